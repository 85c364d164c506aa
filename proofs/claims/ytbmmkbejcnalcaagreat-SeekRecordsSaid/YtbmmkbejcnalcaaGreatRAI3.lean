/- Part 3 of what the walk of a law stands on: ImT8, ImT9, GoLP, ImT10, ImT11, ImT12, ImT13, ImT14, LinkP, LinkQ, ImT15, ImT16, ImT17, LwP, JfP, RefV, RefV2, RatP, LinkV, LastP, RecP, AtT, RawP, J15, SkP, SkQ, LdP, SkT, EqI, VLe. No statement is proved here. -/
import Derived.Test.YtbmmkbejcnalcaaGreatRAI2
import Derived.Test.YtbmmkbejcnalcaaGreatRows
set_option linter.unusedVariables false
set_option linter.unusedSimpArgs false
namespace Go.Wk
open Go Go.RowKit
structure gH where
  cC:Nat
  ent:eA
  who:List Nat
structure adu (b:Ly) (l:List Ob) (g:gH):Prop where
  ob:(⟨g.cC,3,64+16*g.ent.ay.length⟩:Ob)∈l
  seg:seg b g.cC (64+16*g.ent.ay.length)=ew g.ent
theorem adu.mX {b c:Ly} {l r:List Ob} {g:gH} {S:Nat→Prop} (h:adu b l g) (hO:gB b 272 l b.length) (he:Eff S b c) (hs:∀a,S a→sH l a) (hr:∀o∈l,o∈r):adu c r g:=by
  have B:=(hO.mem h.ob).le
  have C:=fW (64+16*g.ent.ay.length)
  refine⟨hr _ h.ob,(he.seg _ _ (by simp only at B;omega) fun a A=>?_).trans h.seg⟩
  have:=(hs a A _ h.ob).2.2.2 rfl;simp only at this;omega
structure aiO (m:Mk):Prop where
  main:∀(i:Nat) (k:bT),m.aj[i]? = some k→∀a∈k.b9,a∉m.main
  one:∀(i j:Nat) (k k':bT) (a:Nat),m.aj[i]? = some k→m.aj[j]? = some k'→a∈k.b9→a∈k'.b9→i=j
structure mW (m:Mk) (l:List Ob) (es:List gH) (mp:List Nat) (f:Nat→List Nat):Prop where
  i7:Stat m l
  main:Chain m.b l 176 m.main mp
  dat:∀(i:Nat) (k:bT),m.aj[i]? = some k→uU m.b l k (f i)
  own:aiO m
  ent:∀g∈es,adu m.b l g
  kin:(l.filter fun o=>decide (o.kind=3)).map Ob.cC=es.map gH.cC
theorem vh {l t:List Ob} (h:∀o∈t,o.kind≠3):((l ++ t).filter fun o=>decide (o.kind=3))=l.filter fun o=>decide (o.kind=3):=by
  have e:(t.filter fun o=>decide (o.kind=3))=[]:=List.filter_eq_nil_iff.2 fun o A=>by simpa using h o A
  rw[List.filter_append,e,List.append_nil]
structure mP (ds ds':List bT):Prop where
  len:ds'.length=ds.length
  get:∀(i:Nat) (k':bT),ds'[i]? = some k'→∃k,ds[i]? = some k∧k'.cC=k.cC∧k'.dO=k.dO
theorem mP.refl (ds:List bT):mP ds ds:=⟨q,fun _ k h=>⟨k,h,q,q⟩⟩
theorem mP.set {ds:List bT} {i:Nat} {k k':bT} (h:ds[i]? = some k) (h1:k'.cC=k.cC) (h2:k'.dO=k.dO):mP ds (ds.set i k'):=by
  refine⟨by simp,fun j y A=>?_⟩
  by_cases hj:i=j
  · subst hj
    rw[List.getElem?_set_self (List.getElem?_eq_some_iff.1 h).1]at A
    cases A
    exact⟨k,h,h1,h2⟩
  rw[List.getElem?_set_ne hj]at A
  exact⟨y,A,q,q⟩
theorem sK.congr {b:Ly} {l:List Ob} {n:Nat} {k k':bT} (h:sK b l n k) (h1:k'.cC=k.cC) (h2:k'.dO=k.dO):sK b l n k':=by
  obtain⟨A,B,C⟩:=h
  exact⟨by rw[h1,h2];exact A,by rw[h1];exact B,by rw[h1,h2];exact C⟩
theorem Stat.keep {m m':Mk} {l l':List Ob} {S:Nat→Prop} (h:Stat m l) (hO':gB m'.b 272 l' m'.b.length) (hl:∃t,l'=l ++ t∧∀o∈t,o.kind≠1) (he:Eff S m.b m'.b) (hM:∀a,S a→sH l a) (hc:m'.c=m.c) (hf:m'.ak=m.ak) (hn:m'.dI 2=m.dI 2∧m'.dI 4=m.dI 4) (hd:mP m.aj m'.aj):Stat m' l':=by
  obtain⟨t,rfl,R⟩:=hl
  have I:∀o∈l,o∈l ++ t:=fun o B=>List.mem_append_left _ B
  have O:∀t,jM m' t=jM m t:=fun t=>by unfold jM;rw[hc]
  refine⟨hO',by rw[hc];exact I _ h.adh,by rw[hc];exact I _ h.adi,hn.1.trans h.n2,by rw[hc];exact hn.2.trans h.n4,by rw[hc];exact h.slots,fun k hk=>?_,fun k hk=>?_,fun i j k F E P Q=>?_,fun o B C=>?_⟩
  · obtain⟨i,E⟩:=List.mem_iff_getElem?.1 hk
    obtain⟨J,K,C,D⟩:=hd.get i k E
    rw[O,D]
    exact((h.data J (List.mem_of_getElem? K)).mX h.gE he hM I).congr C D
  · rw[hf]at hk;rw[O]
    exact(h.fld k hk).mX h.gE he hM I
  · obtain⟨J,K,C,D⟩:=hd.get i k E
    obtain⟨T,H,L,N⟩:=hd.get j F P
    exact h.one i j J T K H (by rw[← C,← L,← D,← N];exact Q)
  rcases List.mem_append.1 B with B|B
  · obtain⟨k,hk,D⟩:=h.all o B C
    obtain⟨i,E⟩:=List.mem_iff_getElem?.1 hk
    have M:=(List.getElem?_eq_some_iff.1 E).1
    obtain⟨F,G⟩:∃F,m'.aj[i]? = some F:=⟨_,List.getElem?_eq_getElem (by rw[hd.len];exact M)⟩
    obtain⟨J,H,L,N⟩:=hd.get i F G
    rw[E]at H;cases H
    exact⟨F,List.mem_of_getElem? G,L.trans D⟩
  exact absurd C (R o B)
theorem mW.soft {m m':Mk} {l l':List Ob} {es:List gH} {mp:List Nat} {f:Nat→List Nat} {i:Nat} {t:Ly} (h:mW m l es mp f) (d:zX m m' l l' i t) (hf:∀i,m.aj.length≤i→f i=[]):mW m' l' es mp f:=by
  have H:=d.step.mem
  have hO':=d.step.gE
  have J:=d.step.mX
  have O:∀a,pu l' a→sH l a:=fun a C=>(C.ab8 hO').mono H
  have D:=d.step.same.2.1
  have M:∀(j:Nat) (k:bT),m.aj[j]? = some k→uU m'.b l' k (f j):=fun j k B=>(h.dat j k B).soft (h.i7.data k (List.mem_of_getElem? B)) h.i7.gE hO' J H
  have A:∀(j:Nat) (k:bT),m'.aj[j]? = some k→m.aj[j]? = some k∨(m.aj.length≤j∧k.cr=0∧k.b9=[]∧yG m'.b k.cC):=fun j k B=>by
    rcases d.new with e|⟨s,p,e,I,_⟩
    · rw[e]at B;exact .inl B
    · rw[e]at B
      rcases Nat.lt_or_ge j m.aj.length with F|F
      · rw[List.getElem?_append_left F]at B;exact .inl B
      · have L:=(List.getElem?_eq_some_iff.1 B).1
        simp at L
        rw[List.getElem?_append_right F,show j-m.aj.length=0 by omega]at B
        have:k={dO:=t,cC:=p,dS:=s,cr:=0,b9:=[]}:=by simpa using B.symm
        subst this
        exact .inr ⟨F,q,q,I⟩
  refine⟨d.i7,?_,fun j k B=>?_,⟨fun j k B a C=>?_,fun i j k N a K B C E=>?_⟩,fun g Q=>(h.ent g Q).mX h.i7.gE J O H,?_⟩
  · rw[D];exact Y2 h.main h.i7.gE hO' J H
  · rcases A j k B with B|⟨F,P,C,I⟩
    · exact M j k B
    rw[hf j F];exact uU.new I P C
  · rw[D]
    rcases A j k B with B|⟨_,_,G,_⟩
    · exact h.own.main j k B a C
    rw[G]at C;simp at C
  · rcases A i k K with K|⟨_,_,G,_⟩
    · rcases A j N B with B|⟨_,_,G,_⟩
      · exact h.own.one i j k N a K B C E
      rw[G]at E;simp at E
    rw[G]at C;simp at C
  obtain⟨u,e,S⟩:=d.step.sub
  rw[e,vh fun o R=>by have:=(S o R).1;omega]
  exact h.kin
theorem mW.entry {m:Mk} {l:List Ob} {es:List gH} {mp:List Nat} {f:Nat→List Nat} (h:mW m l es mp f) {E:eA} {who:List Nat} (hb:E.bZ.length=16) (hn:E.ay.length≤1000) :
    mW (m.dD (ew E)).2 (l ++ [⟨m.b.length,3,64+16*E.ay.length⟩]) (es ++ [⟨m.b.length,E,who⟩]) mp f:=by
  have T:=nY E hb
  have B:(m.dD (ew E)).2.b=m.b ++ ew E:=rfl
  have S:=eV m (ew E)
  have C:∀i,i≠6→i≠7→(m.dD (ew E)).2.dI i=m.dI i:=fun i U V=>by
    simp only[Mk.dD]
    rw[fA Jy,fA Jy];rfl
  generalize (m.dD (ew E)).2=m' at *
  obtain⟨Q,H,R,L⟩:=S
  have O:sG (64+16*E.ay.length)=64+16*E.ay.length:=by unfold sG;omega
  have F:(ew E).length=64+16*E.ay.length:=by omega
  have G:Eff (fun _=>False) m.b m'.b:=by rw[B];exact Eff.app _ _ _
  have P:∃r,ew E=PS 3 (64+16*E.ay.length) ++ r:=by
    unfold ew
    rw[wQ Jy]
    rw[show 16+(nums [E.seq,E.cH,E.mono] ++ E.bZ ++ nums [E.xor] ++ lI E.ay).length=64+16*E.ay.length by simp[eN,uf,hb];omega]
    exact⟨_,List.append_assoc _ _ _⟩
  obtain⟨r,N⟩:=P
  have hO':gB m'.b 272 (l ++ [⟨m.b.length,3,64+16*E.ay.length⟩]) m'.b.length:=by
    have:=(h.i7.gE.mX G (Nat.le_refl _) (fun _ _ _ A=>A.elim)).app (o:=⟨m.b.length,3,64+16*E.ay.length⟩) q Oq Oq Zw Zw ?_
    · simp only[O]at this;rw[B,List.length_append,F];rw[B]at this;exact this
    · have K:=iM (x:=m.b) (y:=ew E) (p:=m.b.length) (n:=16) (Nat.le_refl _)
      rw[Nat.sub_self,abo N (kC _ _)]at K
      rw[B];exact K
  have J:∀o∈l,o∈l ++ [(⟨m.b.length,3,64+16*E.ay.length⟩:Ob)]:=fun o M=>List.mem_append_left _ M
  refine⟨h.i7.keep hO' ⟨_,q,by simp⟩ G (fun _ A=>A.elim) Q R ⟨C 2 Kq Kq,C 4 Kq Kq⟩ (by rw[H];exact mP.refl _),?_,fun i k I=>?_,⟨by rw[H,L];exact h.own.main,by rw[H];exact h.own.one⟩,fun g D=>?_,?_⟩
  · rw[L];exact h.main.mX h.i7.gE (wj l) (Nat.le_refl _) G J (fun _ A=>A.elim) (fun _ _ _ _ A=>A.elim)
  · rw[H]at I
    exact(h.dat i k I).mX (h.i7.data k (List.mem_of_getElem? I)) h.i7.gE G J (fun _ A=>A.elim) (fun _ _ _ _ A=>A.elim)
  · rcases List.mem_append.1 D with D|D
    · exact(h.ent g D).mX h.i7.gE G (fun _ A=>A.elim) J
    simp at D;subst D
    refine⟨by simp,?_⟩
    simp only
    rw[B,← F]
    exact seg_new _ _
  rw[List.filter_append,List.map_append,h.kin];simp
theorem CF {b:Ly} {l:List Ob} {e src a:Nat} {av:List Nat} (hO:gB b 272 l e) (h:zZ src av a) (hob:∀k c:Nat,av[k]? = some c→(⟨c,6,24+8*e6 (k:Int)⟩:Ob)∈l) {o:Ob} (ho:o∈l) (hne:∀c∈av,c≠o.cC):a=src∨a+8≤o.cC∨o.cC+sG o.size≤a:=by
  rcases h with h|⟨k,c,B,C,D⟩
  · exact .inl h
  right
  rcases hO.sep ho (hob k c B)with A|A|A
  · exact absurd (congrArg Ob.cC A).symm (hne c (List.mem_of_getElem? B))
  · simp only at A;omega
  rw[iY]at A;simp only at A;omega
theorem CG {b:Ly} {l:List Ob} {e src a:Nat} {av:List Nat} (hO:gB b 272 l e) (h:zZ src av a) (hob:∀k c:Nat,av[k]? = some c→(⟨c,6,24+8*e6 (k:Int)⟩:Ob)∈l) (hs:sH l src):sH l a:=by
  rcases h with h|⟨k,c,A,B,C⟩
  · rw[h];exact hs
  exact zG hO (hob k c A) Zw (by rw[iY];simp only;omega) Oq Oq Oq
end Go.Wk
namespace Go.Wk
open Go Go.RowKit
theorem wm {l:List Nat} {a:Nat} (h:a∈l):∃i:Nat,l[i]? = some a:=List.mem_iff_getElem?.1 h
theorem agI {m:Mk} {l l':List Ob} {n:Nat} (h:l'=l∨l'=l ++ [(⟨m.b.length,6,24+8*n⟩:Ob)]):∃t,l'=l ++ t∧∀o∈t,o.kind=6∧m.b.length≤o.cC:=by
  rcases h with h|h
  · exact⟨[],by simp[h],by simp⟩
  exact⟨_,h,by intro o A;simp at A;subst A;exact⟨q,Nat.le_refl _⟩⟩
theorem mW.link {m m':Mk} {l l':List Ob} {es:List gH} {mp:List Nat} {f:Nat→List Nat} {x:Nat} {av:List Nat} {m1:Mk} (h:mW m l es mp f) (L:Linked m m1 l l' 176 m.main av mp x)
    (hb:m'.b=m1.b) (hc:m'.c=m1.c) (hd:m'.aj=m1.aj) (hf:m'.ak=m1.ak) (hm':m'.main=av) (hn:m'.dI 2=m1.dI 2∧m'.dI 4=m1.dI 4):mW m' l' es (mp ++ [x]) f:=by
  obtain⟨X,Y,Z,n,p,T⟩:=L.same
  obtain⟨t,M,S⟩:=agI L.sub
  have hO':=L.gE
  have H:∀o∈l,o∈l':=fun o D=>by rw[M];exact List.mem_append_left _ D
  have N:=L.mX
  have I:∀a,zZ 176 av a→sH l a:=fun a C=>(CG hO' C L.chain.ob (GJ hO' Kq)).mono H
  have E:∀c∈av,c∈m.main∨c=m.b.length:=fun c hc=>by
    rcases L.arr with e|e
    · rw[e]at hc;exact .inl hc
    · rw[e,List.mem_append,List.mem_singleton]at hc;exact hc
  have F:∀c∈av,∀o∈l',o.kind≠6→c≠o.cC:=fun c hc o D hk e=>by
    obtain⟨i,B⟩:=wm hc
    rcases hO'.sep D (L.chain.ob i c B)with G|G|G
    · subst G;exact hk q
    · have:=fW o.size;have:=(hO'.mem D).size.1;simp only at G;omega
    · rw[iY]at G;simp only at G;omega
  have K:m'.aj=m.aj:=hd.trans Y
  refine⟨h.i7.keep (by rw[hb];exact hO') ⟨t,M,fun o D=>by have:=(S o D).1;omega⟩ (by rw[hb];exact N) I (hc.trans X) (hf.trans Z) ⟨hn.1.trans (T 2 Kq Kq Kq),hn.2.trans (T 4 Kq Kq Kq)⟩ (by rw[K];exact mP.refl _),by rw[hb,hm'];exact L.chain,fun i k B=>?_,⟨fun i k B a C hc=>?_,by rw[K];exact h.own.one⟩,fun g U=>by rw[hb];exact(h.ent g U).mX h.i7.gE N I H,by rw[M,vh fun o D=>by have:=(S o D).1;omega];exact h.kin⟩
  · rw[K]at B
    have J:=h.i7.data k (List.mem_of_getElem? B)
    have d:=fW (64+k.dO.length)
    have V:272≤k.cC:=(h.i7.gE.mem J.ob).ge
    rw[hb]
    refine(h.dat i k B).mX J h.i7.gE N H (fun a C=>?_) (fun j y R a C=>?_)
    · rcases CF hO' C L.chain.ob (H _ J.ob) (fun c hc=>F c hc _ (H _ J.ob) Oq)with A|A|A
      · omega
      · simp only at A;omega
      simp only at A;omega
    have Q:=(h.dat i k B).chain.ob j y R
    have O:=(h.dat i k B).chain.le h.i7.gE R
    have P:∀c∈av,c≠y:=fun c hc e=>by
      subst e
      rcases E c hc with A|A
      · exact h.own.main i k B c (List.mem_of_getElem? R) A
      · omega
    rcases CF hO' C L.chain.ob (H _ Q) P with A|A|A
    · omega
    · simp only at A;omega
    rw[iY]at A;simp only at A;omega
  rw[K]at B;rw[hm']at hc
  rcases E a hc with A|A
  · exact h.own.main i k B a C A
  obtain⟨j,W⟩:=wm C
  have O:=(h.dat i k B).chain.le h.i7.gE W
  omega
theorem vk {k:bT} {av:List Nat} {a:Nat} (h:adw k av a):(k.cC+40≤a∧a+8≤k.cC+64)∨zZ (k.cC+48) av a:=by
  rcases h with h|h|h
  · left;omega
  · left;omega
  exact .inr h
theorem mW.hang {m m':Mk} {l l':List Ob} {es:List gH} {mp:List Nat} {f:Nat→List Nat} {i e:Nat} {k k':bT} (h:mW m l es mp f) (hi:m.aj[i]? = some k) (H:adx m m' l l' i e k k' (f i)):mW m' l' es mp (fun j=>if j=i then f i ++ [e]else f j):=by
  obtain⟨s1,s3,s4,s5,s6⟩:=H.same
  obtain⟨t,u,ht⟩:=H.sub
  have J:=H.gE
  have M:∀o∈l,o∈l':=fun o N=>by rw[u];exact List.mem_append_left _ N
  have p:=H.mX
  have T:=h.i7.data k (List.mem_of_getElem? hi)
  have hu:=fW (64+k.dO.length)
  have Ah:272≤k.cC:=(h.i7.gE.mem T.ob).ge
  have v:mP m.aj m'.aj:=by rw[H.dat];exact mP.set hi H.cC.1 H.cC.2.1
  have ob':=H.more.chain.ob
  have K:∀c∈k'.b9,c∈k.b9∨c=m.b.length:=fun c G=>by
    rcases H.arr with e|e
    · rw[e]at G;exact .inl G
    · rw[e,List.mem_append,List.mem_singleton]at G;exact G
  have Q:∀c∈k'.b9,∀o∈l',o.kind≠6→c≠o.cC:=fun c G o N hk e=>by
    obtain⟨i,hi⟩:=wm G
    rcases J.sep N (ob' i c hi)with C|C|C
    · subst C;exact hk rfl
    · have:=fW o.size;have:=(J.mem N).size.1;simp only at C;omega
    · rw[iY]at C;simp only at C;omega
  -- what is written stands E from another object's inside
  have E:∀o∈l',o.cC≠k.cC→(∀c∈k'.b9,c≠o.cC)→∀a,adw k k'.b9 a→a+8≤o.cC∨o.cC+sG o.size≤a:=fun o N x G a F=>by
    have Ak:o.cC+sG o.size≤k.cC∨k.cC+sG (64+k.dO.length)≤o.cC:=by
      rcases J.sep N (M _ T.ob)with C|C|C
      · exact absurd (congrArg Ob.cC C) x
      · exact .inl C
      · exact .inr C
    rcases vk F with B|B
    · omega
    · rcases CF J B (by rw[← H.cC.1]at *;exact ob') N G with d|d
      · omega
      · exact d
  have U:∀a,adw k k'.b9 a→sH l a:=fun a F=>by
    have hw:∀q,k.cC+40≤q→q+8≤k.cC+64→sH l' q:=fun q B d=>zG J (M _ T.ob) Zw Zw Oq Zw Oq
    rcases vk F with B|B
    · exact(hw a B.1 B.2).mono M
    · exact(CG J B ob' (hw _ Jy Jy)).mono M
  have A:∀(j:Nat) (y:bT),m'.aj[j]? = some y→(j=i∧y=k')∨(j≠i∧m.aj[j]? = some y):=fun j y D=>by
    rw[H.dat]at D
    by_cases I:i=j
    · subst I
      rw[List.getElem?_set_self (List.getElem?_eq_some_iff.1 hi).1]at D
      exact .inl ⟨rfl,by simpa using D.symm⟩
    · rw[List.getElem?_set_ne I]at D
      exact .inr ⟨fun e=>I e.symm,D⟩
  have R:=h.i7.keep J ⟨t,u,fun o N=>by have:=(ht o N).1;omega⟩ p U s1 s3 ⟨s6 2 Kq Kq Kq,s6 4 Kq Kq Kq⟩ v
  refine⟨R,?_,fun j y D=>?_,⟨fun j y D a F G=>?_,fun j S y Z a D L F P=>?_⟩,fun g hg=>(h.ent g hg).mX h.i7.gE p U M,by rw[u,vh fun o N=>by have:=(ht o N).1;omega];exact h.kin⟩
  · rw[s4]
    refine h.main.mX h.i7.gE (wj l) (Nat.le_refl _) p M (fun a F=>?_) (fun j y hy a F=>?_)
    · rcases vk F with B|B|⟨j,c,B,d,h3⟩
      · omega
      · omega
      have:=H.more.chain.le J B;omega
    have O:=h.main.ob j y hy
    have w:=h.main.le h.i7.gE hy
    have:=E _ (M _ O) (fun e=>by
      have:=h.i7.gE.sep O T.ob
      rcases this with C|C|C
      · cases C
      · rw[iY]at C;simp only at C e;omega
      · simp only at C e;omega) (fun c G e=>by
      simp only at e;subst e
      rcases K c G with B|B
      · exact h.own.main i k hi c B (List.mem_of_getElem? hy)
      · omega) a F
    rw[iY]at this
    simp only at this;omega
  · rcases A j y D with⟨rfl,rfl⟩|⟨I,D⟩
    · rw[if_pos rfl];exact H.more
    rw[if_neg I]
    have r:=h.i7.data y (List.mem_of_getElem? D)
    have Al:=fW (64+y.dO.length)
    have Aa:y.cC≠k.cC:=fun e=>I (h.i7.one j i y k D hi (.inl e))
    refine(h.dat j y D).mX r h.i7.gE p M (fun a F=>?_) (fun n z X a F=>?_)
    · have:=E _ (M _ r.ob) Aa (fun c G=>Q c G _ (M _ r.ob) Oq) a F
      simp only at this;omega
    have O:=(h.dat j y D).chain.ob n z X
    have w:=(h.dat j y D).chain.le h.i7.gE X
    have:=E _ (M _ O) (fun e=>by
      have:=h.i7.gE.sep O T.ob
      rcases this with C|C|C
      · cases C
      · rw[iY]at C;simp only at C e;omega
      · simp only at C e;omega) (fun c G e=>by
      simp only at e;subst e
      rcases K c G with B|B
      · exact I (h.own.one j i y k c D hi (List.mem_of_getElem? X) B)
      · omega) a F
    rw[iY]at this
    simp only at this;omega
  · rw[s4]at G
    rcases A j y D with⟨rfl,rfl⟩|⟨I,D⟩
    · rcases K a F with B|B
      · exact h.own.main j k hi a B G
      obtain⟨n,hn⟩:=wm G
      have:=h.main.le h.i7.gE hn;omega
    exact h.own.main j y D a F G
  have Y:∀(n:Nat) (z:bT),m.aj[n]? = some z→m.b.length∉z.b9:=fun n z X W=>by
    obtain⟨q,hq⟩:=wm W
    have:=(h.dat n z X).chain.le h.i7.gE hq;omega
  rcases A j y D with⟨rfl,rfl⟩|⟨I,D⟩
  · rcases A S Z L with⟨rfl,rfl⟩|⟨V,L⟩
    · rfl
    rcases K a F with B|B
    · exact h.own.one j S k Z a hi L B P
    subst B;exact absurd P (Y S Z L)
  rcases A S Z L with⟨rfl,rfl⟩|⟨V,L⟩
  · rcases K a P with B|B
    · exact h.own.one j S y k a D hi F B
    subst B;exact absurd F (Y j y D)
  exact h.own.one j S y Z a D L F P
end Go.Wk
namespace Go.Wk
open Go
abbrev plt (p q:Pr):Prop:=Op.bytesLess (whole p.pb) (whole q.pb)=true
theorem zN (p:Pr):¬plt p p:=by unfold plt;rw[aa8];simp
theorem GY {p q r:Pr} (h:plt p q) (k:plt q r):plt p r:=LY h k
theorem aeu {p q:Pr} (hp:right p.pb=true) (hq:right q.pb=true) (h:¬plt p q) (k:¬plt q p):p=q :=
  yo.1 (aam hp hq (aa9 (by simpa [plt]using h) (by simpa [plt]using k)))
abbrev Asc (l:List Pr):Prop:=l.Pairwise plt
theorem TS:∀{l m:List Pr},Asc l→Asc m→(∀p,p∈l↔p∈m)→l=m
  | [],[],_,_,_=>rfl
  | [],b :: m,_,_,h=>by have:=(h b).2 Oq;simp at this
  | a :: l,[],_,_,h=>by have:=(h a).1 Oq;simp at this
  | a :: l,b :: m,hl,hm,h=>by
    obtain⟨hl1,hl2⟩:=List.pairwise_cons.1 hl
    obtain⟨hm1,hm2⟩:=List.pairwise_cons.1 hm
    have e:a=b:=by
      rcases List.mem_cons.1 ((h a).1 Oq)with e|A
      · exact e
      · rcases List.mem_cons.1 ((h b).2 Oq)with e|C
        · exact e.symm
        · exact absurd (GY (hl1 b C) (hm1 a A)) (zN a)
    subst e
    congr 1
    refine TS hl2 hm2 fun p=>⟨fun B=>?_,fun B=>?_⟩
    · rcases List.mem_cons.1 ((h p).1 (by simp[B]))with rfl|A
      · exact absurd (hl1 p B) (zN p)
      · exact A
    · rcases List.mem_cons.1 ((h p).2 (by simp[B]))with rfl|A
      · exact absurd (hm1 p B) (zN p)
      · exact A
def zq (p:Pr):List Pr→List Pr
  | []=>[p]
  | q :: r=>if Op.bytesLess (aR q) (aR p)=true then q :: zq p r else if q.pb=p.pb then q :: r else p :: q :: r
theorem HD (t:Ly) (o:List Pr) (k:Nat):lR t o (k+1)=lR t o k+1:=by
  induction o generalizing k with
  | nil=>rfl
  | cons q r ih=>unfold lR;split <;> simp[ih]
theorem aeA (t:Ly) (o:List Pr):lR t o 0≤o.length:=by
  induction o with
  | nil=>simp[lR]
  | cons q r ih=>unfold lR;split <;> simp[HD,ih]
theorem HZ:∀(n j:Nat) (o:List Pr),(jA n j o).length=o.length
  | 0,_,_=>rfl
  | n+1,j,o=>by unfold jA;rw[HZ n];simp
theorem HY:∀(n j:Nat) (o:List Pr),n≤j→j<o.length→∀i,i<o.length→(jA n j o)[i]? = if j-n<i∧i≤j then o[i-1]? else o[i]?
  | 0,j,o,_,_,i,_=>by simp[jA];intro h1 h2;omega
  | n+1,j,o,hn,hj,i,hi=>by
    unfold jA
    have hd:o.getD (j-1) {name:=[],value:=[]}=o[j-1]:=by simp[List.getD,show j-1<o.length by omega]
    rw[HY n (j-1) _ Jy Zz i (by simpa using hi),hd]
    by_cases h1:j-1-n<i∧i≤j-1
    · rw[if_pos h1,if_pos Jy,List.getElem?_set_ne Jy]
    · rw[if_neg h1]
      by_cases h2:i=j
      · subst h2
        rw[if_pos Jy,List.getElem?_set_self hj,List.getElem?_eq_getElem (show i-1<o.length by omega)]
      · rw[if_neg Jy,List.getElem?_set_ne Jy]
theorem ZS (o:List Pr) (k:Nat) (p d:Pr) (hk:k≤o.length):(jA (o.length-k) o.length (o ++ [d])).set k p=o.take k ++ p :: o.drop k:=by
  apply List.ext_getElem?
  intro i
  have A:(jA (o.length-k) o.length (o ++ [d])).length=o.length+1:=by rw[HZ];simp
  by_cases hi:i<o.length+1
  · by_cases h1:i=k
    · subst h1
      rw[List.getElem?_set_self Jy,List.getElem?_append_right Zz]
      simp[Nat.min_eq_left hk]
    rw[List.getElem?_set_ne (Ne.symm h1),HY _ _ _ Jy Oq i Zz]
    by_cases h2:o.length-(o.length-k)<i∧i≤o.length
    · rw[if_pos h2,List.getElem?_append_left Jy,List.getElem?_append_right Zz]
      simp only[List.length_take,Nat.min_eq_left hk]
      obtain⟨m,rfl⟩:∃m,i=k+1+m:=⟨i-(k+1),by omega⟩
      rw[show k+1+m-k=m+1 by omega,List.getElem?_cons_succ,List.getElem?_drop]
      congr 1;omega
    rw[if_neg h2,List.getElem?_append_left Jy,List.getElem?_append_left Zz,List.getElem?_take,if_pos Jy]
  rw[List.getElem?_eq_none (by simp[A];omega),List.getElem?_eq_none Zz]
theorem agb (p:Pr) (o:List Pr):sI p o=zq p o:=by
  have A:∀o:List Pr,(lR (aR p) o 0<o.length∧(o.getD (lR (aR p) o 0) {name:=[],value:=[]}).pb=p.pb→zq p o=o) ∧
      (¬(lR (aR p) o 0<o.length∧(o.getD (lR (aR p) o 0) {name:=[],value:=[]}).pb=p.pb)→zq p o=o.take (lR (aR p) o 0) ++ p :: o.drop (lR (aR p) o 0)):=by
    intro o
    induction o with
    | nil=>simp[lR,zq]
    | cons q r ih =>
      unfold lR zq
      by_cases h1:Op.bytesLess (aR q) (aR p)=true
      · rw[if_pos h1,if_pos h1,HD]
        simp only[List.length_cons,Nat.add_lt_add_iff_right,List.getD_cons_succ,List.take_succ_cons,List.drop_succ_cons,List.cons_append,List.cons.injEq,true_and]
        exact ih
      · rw[if_neg h1,if_neg h1]
        simp only[List.length_cons,Nat.zero_lt_succ,true_and,List.getD_cons_zero,List.take_zero,List.drop_zero,List.nil_append]
        exact⟨fun h=>if_pos h,fun h=>if_neg h⟩
  unfold sI
  simp only
  split
  · rename_i h;exact((A o).1 h).symm
  rename_i h;rw[ZS _ _ _ _ (aeA _ _)];exact((A o).2 h).symm
theorem JU {p q:Pr} {o:List Pr}:q∈zq p o↔q=p∨q∈o:=by
  induction o with
  | nil=>simp[zq]
  | cons x r ih =>
    unfold zq
    split
    · simp[ih];constructor
      · rintro(h|h|h) <;> simp[h]
      · rintro(h|h|h) <;> simp[h]
    · split
      · rename_i h;rw[yo]at h;subst h;simp
      · simp
theorem ad4 {p:Pr} {o:List Pr} (hp:right p.pb=true) (ho:∀q∈o,right q.pb=true) (h:Asc o):Asc (zq p o):=by
  induction o with
  | nil=>simp[zq]
  | cons x r ih =>
    obtain⟨C,D⟩:=List.pairwise_cons.1 h
    unfold zq
    split
    · rename_i hx
      refine List.pairwise_cons.2 ⟨fun q A=>?_,ih (fun q A=>ho q (by simp[A])) D⟩
      rcases JU.1 A with rfl|A
      · exact hx
      · exact C q A
    · rename_i hx
      split
      · exact h
      · rename_i hne
        have B:plt p x:=by
          cases hb:Op.bytesLess (whole p.pb) (whole x.pb)with
          | true=>exact hb
          | false=>exact absurd (yo.2 (aeu (ho x Oq) hp hx (by simp[plt,hb]))) hne
        refine List.pairwise_cons.2 ⟨fun q A=>?_,h⟩
        rcases List.mem_cons.1 A with rfl|A
        · exact B
        · exact GY B (C q A)
theorem UH:∀(l o x:List Pr),PO l o=(x,0)→(∀q∈o,right q.pb=true)→Asc o→Asc x∧(∀q∈x,right q.pb=true)∧(∀q,q∈x↔q∈o∨q∈l)∧x.length≤16
  | [],o,x,h,hr,ha=>by
    unfold PO at h
    split at h
    · simp at h
    · rename_i hl
      obtain⟨rfl,_⟩:=Prod.mk.inj h
      exact⟨ha,hr,by simp,by omega⟩
  | p :: r,o,x,h,hr,ha=>by
    unfold PO at h
    split at h
    · rename_i h1;exact absurd (Prod.mk.inj h).2 h1
    · rename_i h1
      have hp:right p.pb=true:=yP.1 (Classical.not_not.1 h1)
      rw[agb]at h
      obtain⟨g1,g2,g3,g4⟩:=UH r _ x h (fun q hq=>by
        rcases JU.1 hq with rfl|hq
        · exact hp
        · exact hr q hq) (ad4 hp hr ha)
      refine⟨g1,g2,fun q=>?_,g4⟩
      rw[g3,JU,List.mem_cons]
      constructor
      · rintro((h|h)|h)
        · exact .inr (.inl h)
        · exact .inl h
        · exact .inr (.inr h)
      · rintro(h|h|h)
        · exact .inl (.inr h)
        · exact .inl (.inl h)
        · exact .inr h
theorem xS {l x:List Pr} (h:kW l=(x,0)):Asc x∧(∀q∈x,right q.pb=true)∧(∀q,q∈x↔q∈l)∧x.length≤16∧x≠[]:=by
  unfold kW at h
  split at h
  · simp at h
  rename_i h0
  obtain⟨B,C,A,D⟩:=UH l [] x h Oq List.Pairwise.nil
  refine⟨B,C,by simpa using A,D,?_⟩
  rintro rfl
  cases l with
  | nil=>simp at h0
  | cons y r=>exact absurd ((A y).2 Oq) Oq
end Go.Wk
namespace Go.Wk
open Go Go.RowKit
def jC (ds:List bT) (i:Nat):List UInt8:=(ds.getD i known0).dO
def pH (ds ds':List bT):Prop:=∀(i:Nat) (k:bT),ds[i]? = some k→∃k',ds'[i]? = some k'∧k'.cC=k.cC∧k'.dO=k.dO
theorem pH.refl (ds:List bT):pH ds ds:=fun _ k h=>⟨k,h,q,q⟩
theorem pH.trans {a b c:List bT} (h:pH a b) (k:pH b c):pH a c:=fun i x hx=>by
  obtain⟨y,h1,h2,h3⟩:=h i x hx
  obtain⟨z,h4,h5,h6⟩:=k i y h1
  exact⟨z,h4,h5.trans h2,h6.trans h3⟩
theorem mP.ext {a b:List bT} (h:mP a b):pH a b:=fun i k hk=>by
  have hl:=(List.getElem?_eq_some_iff.1 hk).1
  obtain⟨k',hk'⟩:∃k',b[i]? = some k':=⟨_,List.getElem?_eq_getElem (by rw[h.len];exact hl)⟩
  obtain⟨k0,h1,h2,h3⟩:=h.get i k' hk'
  rw[hk]at h1;cases h1
  exact⟨k',hk',h2,h3⟩
theorem pH.at {a b:List bT} (h:pH a b) {i:Nat} (hi:i<a.length):i<b.length∧gP b i=gP a i∧jC b i=jC a i:=by
  obtain⟨D,A,B,C⟩:=h i _ (List.getElem?_eq_getElem hi)
  refine⟨(List.getElem?_eq_some_iff.1 A).1,?_,?_⟩
  · unfold gP;simp only[List.getD_eq_getElem?_getD,A,List.getElem?_eq_getElem hi,Option.getD_some];exact B
  unfold jC;simp only[List.getD_eq_getElem?_getD,A,List.getElem?_eq_getElem hi,Option.getD_some];exact C
theorem zX.ext {m m':Mk} {l l':List Ob} {i:Nat} {t:Ly} (d:zX m m' l l' i t):pH m.aj m'.aj:=by
  rcases d.new with e|⟨s,p,e,_⟩
  · rw[e];exact pH.refl _
  rw[e];exact fun j k A=>⟨k,by rw[List.getElem?_append_left (List.getElem?_eq_some_iff.1 A).1];exact A,q,q⟩
theorem rY {ds:List bT} {i:Nat} {k:bT} (h:ds[i]? = some k):jC ds i=k.dO∧gP ds i=k.cC:=by
  unfold jC gP
  simp only[List.getD_eq_getElem?_getD,h,Option.getD_some,and_self]
theorem AL (ds:List bT) (p:Nat) (od:List Nat):∀n,n≤od.length→(∀j,lX ds p od n≤j→j<n→p<gP ds (od.getD j 0))∧(0<lX ds p od n→gP ds (od.getD (lX ds p od n-1) 0)≤p)
  | 0,_=>⟨fun j h1 h2=>by omega,fun h=>by simp[lX]at h⟩
  | n+1,hn=>by
    rw[lX]
    split
    · rename_i hp
      obtain⟨g1,g2⟩:=AL ds p od n Jy
      refine⟨fun j h1 h2=>?_,g2⟩
      by_cases hj:j=n
      · subst hj;exact hp
      · exact g1 j h1 Jy
    · rename_i hp
      exact⟨fun j h1 h2=>by omega,fun _=>by simp only[Nat.add_sub_cancel];omega⟩
theorem DU {α:Type} {R:α→α→Prop} {l:List α} {n:Nat} {x:α} (h:l.Pairwise R) (h1:∀y∈l.take n,R y x) (h2:∀y∈l.drop n,R x y):(l.take n ++ [x] ++ l.drop n).Pairwise R:=by
  rw[List.append_assoc,List.singleton_append]
  refine List.pairwise_append.2 ⟨h.take,List.pairwise_cons.2 ⟨h2,h.drop⟩,fun a C b A=>?_⟩
  rcases List.mem_cons.1 A with rfl|A
  · exact h1 a C
  have B:=h
  rw[← List.take_append_drop n l]at B
  exact(List.pairwise_append.1 B).2.2 a C b A
theorem KJ {ds:List bT} {k:Nat} {od:List Nat} (h:od.Pairwise fun a b=>gP ds a<gP ds b) (hk:∀i∈od,gP ds i≠gP ds k):(nu ds k od).Pairwise fun a b=>gP ds a<gP ds b:=by
  obtain⟨E,F⟩:=AL ds (gP ds k) od od.length (Nat.le_refl _)
  have I:=AK ds (gP ds k) od od.length
  unfold nu
  simp only
  generalize lX ds (gP ds k) od od.length=n at *
  refine DU h (fun y D=>?_) (fun y D=>?_)
  · obtain⟨i,B⟩:=List.mem_iff_getElem?.1 D
    rw[List.getElem?_take]at B
    split at B
    · rename_i hin
      have G:=hk y (List.mem_of_getElem? B)
      have C:=(List.getElem?_eq_some_iff.1 B).1
      have J:=F Jy
      have A:od[n-1]? = some (od.getD (n-1) 0):=by simp[List.getD,List.getElem?_eq_getElem (show n-1<od.length by omega)]
      have:gP ds y≤gP ds (od.getD (n-1) 0):=by
        by_cases he:i=n-1
        · subst he;rw[B]at A;have:=Option.some.inj A;rw[← this];exact Nat.le_refl _
        · have H:=List.pairwise_iff_getElem.1 h i (n-1) C Jy Jy
          rw[List.getElem?_eq_getElem C]at B
          rw[List.getElem?_eq_getElem (show n-1<od.length by omega)]at A
          rw[Option.some.inj B,Option.some.inj A]at H
          omega
      omega
    cases B
  obtain⟨i,B⟩:=List.mem_iff_getElem?.1 D
  rw[List.getElem?_drop]at B
  have C:=(List.getElem?_eq_some_iff.1 B).1
  have:=E (n+i) Jy C
  rw[List.getD_eq_getElem?_getD,B]at this
  exact this
theorem RN (ds:List bT) (k:Nat) (od:List Nat):(nu ds k od).Perm (k :: od):=by
  unfold nu
  simp only
  generalize lX ds (gP ds k) od od.length=n
  rw[List.append_assoc,List.singleton_append]
  have:=List.perm_middle (a:=k) (l₁:=od.take n) (l₂:=od.drop n)
  rw[List.take_append_drop]at this
  exact this
structure adz (m:Mk) (dl:List Pr) (ps:List (List UInt8)) (od:List Nat):Prop where
  eq:ps=dl.map aR
  lt:∀i∈od,i<m.aj.length
  perm:(od.map (jC m.aj)).Perm ps
  EZ:od.Pairwise fun a b=>gP m.aj a<gP m.aj b
theorem NX {p q:Pr} (hp:right p.pb=true) (hq:right q.pb=true) (h:aR p=aR q):p=q:=by
  have A:=(oF ((mS _).2 hp)).2
  have B:=(oF ((mS _).2 hq)).2
  have C:whole p.pb=whole q.pb:=h
  rw[C,B]at A
  exact(yo.1 A).symm
theorem aan {m m':Mk} {l l':List Ob} {dl:List Pr} {ps:List (List UInt8)} {od:List Nat} {i:Nat} {x:Pr} (h:adz m dl ps od) (hs:Stat m l) (d:zX m m' l l' i (aR x)) (hn:aR x∉dl.map aR) :
    adz m' (dl ++ [x]) (ps ++ [(m'.aj.getD i known0).dO]) (nu m'.aj i od):=by
  have C:=d.ext
  obtain⟨k,hk,E⟩:=d.got
  obtain⟨F,L⟩:=rY hk
  have J:=(List.getElem?_eq_some_iff.1 hk).1
  have G:(m'.aj.getD i known0).dO=aR x:=F.trans E
  have A:od.map (jC m'.aj)=od.map (jC m.aj):=List.map_congr_left fun j B=>(C.at (h.lt j B)).2.2
  have D:i∉od:=fun K=>by
    have H:jC m'.aj i∈od.map (jC m'.aj):=List.mem_map.2 ⟨i,K,q⟩
    rw[A]at H
    have:=h.perm.subset H
    rw[h.eq,F,E]at this
    exact hn this
  refine⟨by rw[G,h.eq];simp,fun j B=>?_,?_,?_⟩
  · rcases GX B with rfl|B
    · exact J
    exact(C.at (h.lt j B)).1
  · refine((RN m'.aj i od).map _).trans ?_
    rw[List.map_cons,A,F,E,G]
    exact(List.Perm.cons _ h.perm).trans (List.perm_append_comm (l₁:=[aR x]))
  refine KJ ?_ fun j B e=>?_
  · refine List.Pairwise.imp_of_mem (fun {a b} ha hb hab=>?_) h.EZ
    rw[(C.at (h.lt a ha)).2.1,(C.at (h.lt b hb)).2.1];exact hab
  obtain⟨y,I⟩:∃y,m'.aj[j]? = some y:=⟨_,List.getElem?_eq_getElem (C.at (h.lt j B)).1⟩
  rw[(rY I).2,L]at e
  have:=d.i7.one j i y k I hk (.inl e)
  subst this;exact D B
structure adt (m m':Mk) (l l':List Ob) (es:List gH) (mp:List Nat) (f:Nat→List Nat):Prop where
  img:mW m' l' es mp f
  ext:pH m.aj m'.aj
  same:m'.c=m.c∧m'.main=m.main∧∀i,i≠6→i≠7→i<15→m'.dI i=m.dI i
  len:m.aj.length≤m'.aj.length
theorem FG:∀(fs dl:List Pr) (m:Mk) (l:List Ob) (ps:List (List UInt8)) (od:List Nat) (es:List gH) (mp:List Nat) (f:Nat→List Nat),mW m l es mp f→(∀i,m.aj.length≤i→f i=[])→adz m dl ps od→(∀q∈fs,BD q)→((dl ++ fs).map aR).Nodup →
    ∃l',adt m (iG fs m ps od).2.2 l l' es mp f∧adz (iG fs m ps od).2.2 (dl ++ fs) (iG fs m ps od).1 (iG fs m ps od).2.1
  | [],dl,m,l,ps,od,es,mp,f,h,hf,hw,_,_=>⟨l,⟨h,pH.refl _,⟨rfl,rfl,fun _ _ _ _=>rfl⟩,Nat.le_refl _⟩,by rw[List.append_nil];exact hw⟩
  | x :: r,dl,m,l,ps,od,es,mp,f,h,hf,hw,hb,hnd=>by
    obtain⟨l1,d⟩:=adD h.i7 x (hb x Oq)
    have hx:aR x∉dl.map aR:=fun hm=>by
      rw[List.map_append,List.map_cons]at hnd
      exact(List.nodup_append.1 hnd).2.2 _ hm _ Oq rfl
    have g:=h.soft d hf
    have w:=aan hw h.i7 d hx
    have hle:m.aj.length≤(m.data x).2.aj.length:=by
      rcases d.new with e|⟨s,p,e,_⟩ <;> rw[e] <;> simp
    obtain⟨l',A,E⟩:=FG r (dl ++ [x]) (m.data x).2 l1 _ _ es mp f g (fun i G=>hf i Jy) w (fun q F=>hb q (by simp[F])) (by rw[List.append_assoc];exact hnd)
    rw[List.append_assoc]at E
    refine⟨l',⟨A.img,d.ext.trans A.ext,⟨A.same.1.trans d.step.same.1,A.same.2.1.trans d.step.same.2.1,fun i B C D=>(A.same.2.2 i B C D).trans (d.step.same.2.2 i B C D)⟩,lj hle A.len⟩,E⟩
end Go.Wk
namespace Go.Wk
open Go Go.RowKit
theorem aao:∀{a b:List (List UInt8)},a.Perm b→∀v,nH v a=nH v b:=by
  intro a b h
  induction h with
  | nil=>exact fun _=>rfl
  | cons x _ ih=>exact fun v=>ih _
  | swap x y l=>intro v;simp only[nH];congr 1;rw[Nat.xor_assoc,Nat.xor_assoc,Nat.xor_comm (qS y)]
  | trans _ _ ih1 ih2=>exact fun v=>(ih1 v).trans (ih2 v)
theorem WK:∀(l:List (List UInt8)) (v:Nat),v<18446744073709551616→nH v l<18446744073709551616
  | [],_,h=>h
  | x :: r,v,h=>WK r _ (EL h (CJ x))
structure adv (m m':Mk) (l':List Ob) (es:List gH) (mp:List Nat) (f:Nat→List Nat) (e n:Nat) (od:List Nat):Prop where
  img:mW m' l' es mp (fun j=>if j∈od then f j ++ [e]else f j)
  ds:mP m.aj m'.aj
  same:m'.c=m.c∧m'.ak=m.ak∧m'.main=m.main∧m'.depth=m.depth∧∀i,i≠6→i≠7→i≠18→m'.dI i=m.dI i
  top:m'.b.length≤m.b.length+2100*n
  ge:m.b.length≤m'.b.length
theorem mP.trans {a b c:List bT} (h:mP a b) (k:mP b c):mP a c:=⟨k.len.trans h.len,fun i x hx=>by
  obtain⟨y,h1,h2,h3⟩:=k.get i x hx
  obtain⟨z,h4,h5,h6⟩:=h.get i y h1
  exact⟨z,h4,h2.trans h5,h3.trans h6⟩⟩
theorem ML {es:List gH} {mp:List Nat} {e:Nat} (he:e<18446744073709551616):∀(od:List Nat) (m:Mk) (l:List Ob) (f:Nat→List Nat),mW m l es mp f→(∀i∈od,i<m.aj.length)→od.Nodup→(∀i∈od,(f i).length<900000)→m.b.length+2100*od.length<900000 →
    ∃l',adv m (lH e od m) l' es mp f e od.length od
  | [],m,l,f,h,_,_,_,_=>⟨l,⟨by simp only[List.not_mem_nil,if_false];exact h,mP.refl _,⟨q,q,q,q,fun _ _ _ _=>rfl⟩,Nat.le_refl _,Nat.le_refl _⟩⟩
  | i :: r,m,l,f,h,hi,hn,hl,hb=>by
    obtain⟨k,hk⟩:∃k,m.aj[i]? = some k:=⟨_,List.getElem?_eq_getElem (hi i Oq)⟩
    simp only[List.length_cons]at hb
    obtain⟨l1,k1,H⟩:=abm (e:=e) h.i7.gE hk (h.i7.data k (List.mem_of_getElem? hk)) (h.dat i k hk) Jy he (by have:=hl i Oq;omega)
    have g:=h.hang hk H
    have hd1:mP m.aj (lG e i m).aj:=by rw[H.dat];exact mP.set hk H.cC.1 H.cC.2.1
    have T:=H.top
    obtain⟨J,K,L,M,N⟩:=H.same
    rw[pO]
    rw[List.nodup_cons]at hn
    have I:∀j∈r,(if j=i then f i ++ [e]else f j)=f j:=fun j A=>if_neg (by rintro rfl;exact hn.1 A)
    obtain⟨l',B⟩:=ML he r (lG e i m) l1 _ g (fun j A=>by rw[hd1.len];exact hi j (by simp[A])) hn.2 (fun j A=>by simp only[I j A];exact hl j (by simp[A])) Jy
    obtain⟨O,P,Q,R,S⟩:=B.same
    have F:=B.top
    refine⟨l',⟨?_,hd1.trans B.ds,⟨O.trans J,P.trans K,Q.trans L,R.trans M,fun j D E C=>(S j D E C).trans (N j D E C)⟩,by simp only[List.length_cons];omega,lj H.mX.len B.ge⟩⟩
    have G:(fun j=>if j∈i :: r then f j ++ [e]else f j)=fun j=>if j∈r then(if j=i then f i ++ [e]else f j) ++ [e]else if j=i then f i ++ [e]else f j:=by
      funext j
      by_cases A:j=i
      · subst A;simp[hn.1]
      · simp[A]
    rw[G]
    exact B.img
def places (es:List gH) (i:Nat):List Nat:=(es.filter fun g=>decide (i∈g.who)).map gH.cC
theorem RO (es:List gH) (g:gH) (i:Nat):places (es ++ [g]) i=if i∈g.who then places es i ++ [g.cC]else places es i:=by
  unfold places
  rw[List.filter_append,List.map_append]
  by_cases h:i∈g.who
  · rw[if_pos h];simp[h]
  rw[if_neg h];simp[h]
theorem RP (es:List gH) (i:Nat):(places es i).length≤es.length:=by unfold places;rw[List.length_map];exact List.length_filter_le _ _
structure vB (m:Mk) (g:gH):Prop where
  lt:∀i∈g.who,i<m.aj.length
  ay:g.ent.ay=g.who.map fun i=>{cC:=gP m.aj i,dH:=jM m (jC m.aj i)}
  EZ:g.who.Pairwise fun a b=>gP m.aj a<gP m.aj b
  xor:g.ent.xor=nH 0 (g.who.map (jC m.aj))
  ok:eA.ok g.ent∧g.ent.seq≠0
  len:1≤g.who.length∧g.who.length≤16
structure LJ (m:Mk) (g:gH) (r:Rec):Prop where
  seq:g.ent.seq=r.seq
  cH:g.ent.cH=r.cH
  mono:g.ent.mono=r.mono
  bZ:g.ent.bZ=r.bZ
  ak:(g.who.map (jC m.aj)).Perm (r.ak.map aR)
  EZ:Asc r.ak
  right:∀q∈r.ak,right q.pb=true
theorem vB.ext {m m':Mk} {g:gH} (h:vB m g) (hd:pH m.aj m'.aj) (hc:m'.c=m.c):vB m' g:=by
  have B:∀t,jM m' t=jM m t:=fun t=>by unfold jM;rw[hc]
  refine⟨fun i A=>(hd.at (h.lt i A)).1,?_,?_,?_,h.ok,h.len⟩
  · rw[h.ay]
    exact List.map_congr_left fun i A=>by rw[(hd.at (h.lt i A)).2.1,(hd.at (h.lt i A)).2.2,B]
  · exact List.Pairwise.imp_of_mem (fun {a b} ha hb hab=>by rw[(hd.at (h.lt a ha)).2.1,(hd.at (h.lt b hb)).2.1];exact hab) h.EZ
  rw[h.xor]
  congr 1
  exact(List.map_congr_left fun i A=>(hd.at (h.lt i A)).2.2).symm
theorem LJ.ext {m m':Mk} {g:gH} {r:Rec} (h:LJ m g r) (w:vB m g) (hd:pH m.aj m'.aj):LJ m' g r:=by
  refine⟨h.seq,h.cH,h.mono,h.bZ,?_,h.EZ,h.right⟩
  have:g.who.map (jC m'.aj)=g.who.map (jC m.aj):=List.map_congr_left fun i A=>(hd.at (w.lt i A)).2.2
  rw[this];exact h.ak
structure Img (m:Mk) (l:List Ob) (es:List gH):Prop where
  c:mW m l es (es.map gH.cC) (places es)
  n8:m.dI 8=es.length
  n9:m.dI 9<18446744073709551616
  n11:m.dI 11=m.main.getD 0 0
  who:∀g∈es,vB m g
  txt:∀k∈m.aj,∃q:Pr,right q.pb=true∧k.dO=aR q
theorem RQ {es:List gH} {m:Mk} (h:∀g∈es,vB m g) (i:Nat) (hi:m.aj.length≤i):places es i=[]:=by
  unfold places
  rw[List.map_eq_nil_iff,List.filter_eq_nil_iff]
  intro g A
  simp only[decide_eq_true_eq]
  intro B
  have:=(h g A).lt i B
  omega
theorem mW.to {m m':Mk} {l:List Ob} {es:List gH} {mp:List Nat} {f:Nat→List Nat} (h:mW m l es mp f) (hb:m'.b=m.b) (hc:m'.c=m.c) (hd:m'.aj=m.aj) (hf:m'.ak=m.ak) (hm:m'.main=m.main) (hn:m'.dI 2=m.dI 2∧m'.dI 4=m.dI 4):mW m' l es mp f:=by
  have B:∀t,jM m' t=jM m t:=fun t=>by unfold jM;rw[hc]
  obtain⟨⟨C,D,E,F,G,H,I,J,K,A⟩,L,M,⟨N,O⟩,P,Q⟩:=h
  exact⟨⟨by rw[hb];exact C,by rw[hc];exact D,by rw[hc];exact E,hn.1.trans F,by rw[hc];exact hn.2.trans G,by rw[hc];exact H,fun k hk=>by rw[hb,B];exact I k (hd ▸ hk),fun k hk=>by rw[hb,B];exact J k (hf ▸ hk),by rw[hd];exact K,by rw[hd];exact A⟩,by rw[hb,hm];exact L,by rw[hb,hd];exact M,⟨by rw[hd,hm];exact N,by rw[hd];exact O⟩,by rw[hb];exact P,Q⟩
end Go.Wk
namespace Go.Wk
open Go Go.RowKit
theorem MD (z:Mk) (n seq cH mono e:Nat) (bZ:Ly) (i:Nat) (h:i≠8∧i≠9∧i≠10∧i≠12∧i≠13∧i≠14):(pM z n seq cH mono e bZ).dI i=z.dI i:=by
  unfold pM
  simp only
  have A:(if n=0 then(z.dZ 10 seq).dZ 12 cH else z).dI i=z.dI i:=by
    split
    · rw[fA Jy,fA Jy]
    · rfl
  generalize (if n=0 then(z.dZ 10 seq).dZ 12 cH else z)=y at *
  rw[← A]
  show((((y.dZ 8 ((y.dI 8+1)%18446744073709551616)).dZ 9 seq).dZ 13 cH).dZ 14 mono).dI i=y.dI i
  rw[fA Jy,fA Jy,fA Jy,fA Jy]
theorem WU {ds:List bT} {od:List Nat} (h:od.Pairwise fun a b=>gP ds a<gP ds b):od.Nodup :=
  List.Pairwise.imp (fun {a b} hab e=>by subst e;exact Nat.lt_irrefl _ hab) h
theorem LV {fs:List Pr} (h:Asc fs) (hr:∀q∈fs,right q.pb=true):(fs.map aR).Nodup:=by
  unfold List.Nodup
  rw[List.pairwise_map]
  exact List.Pairwise.imp_of_mem (fun {a b} ha hb hab e=>by
    have:=NX (hr a ha) (hr b hb) e
    subst this;exact zN _ hab) h
theorem AR:∀(fs:List Pr) (m:Mk) (ps:List (List UInt8)) (od:List Nat),∀k∈(iG fs m ps od).2.2.aj,k∈m.aj∨∃q∈fs,k.dO=aR q
  | [],m,_,_,k,hk=>.inl hk
  | x :: r,m,ps,od,k,hk=>by
    rcases AR r (m.data x).2 _ _ k hk with h|⟨q,h1,h2⟩
    · rcases FE k h with h|h
      · exact .inl h
      · exact .inr ⟨x,by simp,h⟩
    · exact .inr ⟨q,by simp[h1],h2⟩
structure agS (m m':Mk) (l':List Ob) (es:List gH) (g:gH) (r:Rec):Prop where
  img:Img m' l' (es ++ [g])
  rcd:LJ m' g r
  ext:pH m.aj m'.aj
  c:m'.c=m.c
  seq:r.seq=m.dI 9+1∧m'.dI 9=r.seq
  ge:m.b.length≤g.cC
  main:∃t,m'.main=m.main ++ t
  len:m.b.length≤m'.b.length
  dI:∀i,i≤5→m'.dI i=m.dI i
theorem WS {m m':Mk} {l:List Ob} {es:List gH} {raw:List Pr} {cH mono s:Nat} {bZ:Ly} (h:Img m l es) (ok:vD m) (h20:m.h.n.length=20) (hb:bZ.length=16) (hr:cH<18446744073709551616∧mono<18446744073709551616) (ha:m.append raw cH mono bZ=(s,0,m')) :
    ∃l' g fs,kW raw=(fs,0)∧agS m m' l' es g {seq:=s,cH:=cH,mono:=mono,bZ:=bZ,ak:=fs}:=by
  rcases hl:kW raw with⟨fs,c⟩
  by_cases G:c≠0
  · have e:m.append raw cH mono bZ=(0,c,m):=by unfold Mk.append;simp only[hl];rw[if_pos G]
    rw[e]at ha
    exact absurd (congrArg (fun x=>x.2.1) ha) G
  have Ah:=Classical.not_not.1 G
  subst Ah
  by_cases v:m.dI 9=18446744073709551615
  · have e:m.append raw cH mono bZ=(0,1,m):=by unfold Mk.append;simp only[hl];rw[if_neg G,if_pos v]
    rw[e]at ha
    have:=congrArg (fun x=>x.2.1) ha
    simp at this
  obtain⟨J,A,A6,Ap,Aq⟩:=xS hl
  obtain⟨bd,_⟩:=wi hl
  have D:=xw fs m [] [] 0 (sR ok) bd
  obtain⟨l1,Q,W⟩:=FG fs [] m l [] [] es (es.map gH.cC) (places es) h.c (fun i I=>RQ h.who i I) ⟨rfl,by simp,by simp,List.Pairwise.nil⟩ bd (by rw[List.nil_append];exact LV J A)
  have nl:=xY fs m [] []
  have tx:=AR fs m [] []
  rcases hd:iG fs m [] []with⟨ps,F,x⟩
  rw[hd,Nat.zero_add]at D
  rw[hd]at Q W nl tx
  rw[List.nil_append]at W
  simp only at D Q W nl tx
  have s1:=ok.small
  have s4:=ok.nb
  have d2:=D.app.le
  have d5:=D.len.1
  have Ac:=D.app.ge
  obtain⟨c1,c2,c3⟩:=Q.same
  have n9:x.dI 9=m.dI 9:=c3 9 Kq Kq Kq
  have n8:x.dI 8=m.dI 8:=c3 8 Kq Kq Kq
  have O:=h.n8
  have Bw:=h.n9
  have Bv:es.length≤40000:=by
    have:m.n8=es.length:=O
    omega
  have Ak:=WU W.EZ
  have B:(x.dI 9+1)%18446744073709551616=m.dI 9+1:=by rw[n9];exact Nat.mod_eq_of_lt Jy
  generalize hE:({seq:=(x.dI 9+1)%18446744073709551616,cH:=cH,mono:=mono,bZ:=bZ,xor:=nH 0 ps,ay:=jL x F}:eA)=E
  have eE:E.seq=m.dI 9+1∧E.cH=cH∧E.mono=mono∧E.bZ=bZ∧E.xor=nH 0 ps∧E.ay=jL x F:=by subst hE;exact⟨B,rfl,rfl,rfl,rfl,rfl⟩
  obtain⟨q1,q2,q3,q4,q5,q6⟩:=eE
  have ei:E.ay.length=F.length:=by rw[q6];simp[jL]
  have eb:E.bZ.length=16:=by rw[q4];exact hb
  have wx:vB x ⟨x.b.length,E,F⟩:=by
    refine⟨W.lt,q6,W.EZ,?_,⟨⟨?_,?_,?_,eb,?_⟩,?_⟩,?_⟩
    · simp only;rw[q5];exact aao W.perm.symm 0
    · simp only;rw[q1];omega
    · simp only;rw[q2];exact hr.1
    · simp only;rw[q3];exact hr.2
    · simp only;rw[q5];exact WK _ _ Kq
    · simp only;rw[q1];omega
    · simp only;rw[d5];exact⟨List.length_pos_iff.2 Aq,Ap⟩
  have rx:LJ x ⟨x.b.length,E,F⟩ {seq:=m.dI 9+1,cH:=cH,mono:=mono,bZ:=bZ,ak:=fs}:=by
    refine⟨q1,q2,q3,q4,?_,J,A⟩
    simp only;rw[← W.eq];exact W.perm
  have S:=Q.img.entry (E:=E) (who:=F) eb Jy
  have f:=(ji x (ew E))
  have p:=eV x (ew E)
  have o:∀i,i≠6→i≠7→(x.dD (ew E)).2.dI i=x.dI i:=fun i h6 h7=>by
    simp only[Mk.dD]
    rw[fA Jy,fA Jy];rfl
  have Z:=qU x (ew E)
  have el:=nY E eb
  rcases ho:x.dD (ew E)with⟨e,C⟩
  rw[ho]at S f p o Z
  simp only at S f p o Z
  have Ai:e=x.b.length:=f.1
  subst Ai
  have Ar:C.dI 8=(es.map gH.cC).length:=by rw[o 8 Kq Kq,n8,O,List.length_map]
  have Bx:x.b.length<100000:=by omega
  obtain⟨l3,L⟩:=UM (x:=x.b.length) S.i7.gE S.main (wj _) (by have:=f.2.1;omega) Jy
  rw[← Ar]at L
  have d:=JW C C.main (C.dI 8) 176 x.b.length
  rcases hk:C.link C.main (C.dI 8) 176 x.b.length with⟨a,t,K⟩
  rw[hk]at L d
  simp only at L d
  have w:=lD (cH:=cH) (mono:=mono) (bZ:=bZ) hl G v hd (by rw[hE];exact ho) hk rfl
  obtain⟨Y,U⟩:∃Y,Y=(let m4:=({K with main:=a}:Mk).dZ 11 (a.getD 0 0);({m4 with h:={m4.h with cT:=kr a%4294967296,cZ:=t%4294967296}}:Mk)):=⟨_,rfl⟩
  have r:∀i,i≠11→Y.dI i=K.dI i:=fun i I=>by subst U;exact cw Jy
  have y:Y.dI 11=a.getD 0 0:=by subst U;exact pz (by show 11<K.h.n.length;omega)
  have Ys:Y.b=K.b∧Y.c=K.c∧Y.aj=K.aj∧Y.ak=K.ak∧Y.main=a∧Y.h.n.length=K.h.n.length:=by subst U;exact⟨rfl,rfl,rfl,rfl,rfl,by simp[Mk.dZ]⟩
  rw[← U]at w
  clear U
  obtain⟨y1,y2,y3,y4,y5,y6⟩:=Ys
  have I3:=S.link L y1 y2 y3 y4 y5 ⟨r 2 Kq,r 4 Kq⟩
  obtain⟨t1,t2,t3,t4,t5,t6⟩:=L.same
  have A7:=L.top
  have M:Y.aj=x.aj:=by rw[y3,t2,p.2.1]
  have Aj:x.b.length<18446744073709551616:=by omega
  have Ba:=f.2.1
  obtain⟨l4,H⟩:=ML (e:=x.b.length) Aj F Y l3 _ I3 (fun i I=>by rw[M];exact W.lt i I) Ak (fun i _=>by have:=RP es i;omega) (by rw[y1];omega)
  have B5:=CS x.b.length F Y
  generalize lH x.b.length F Y=z at *
  replace w:m.append raw cH mono bZ=if z.c.cJ<z.b.length then(0,15,m)else((x.dI 9+1)%18446744073709551616,0,pM z (C.dI 8) ((x.dI 9+1)%18446744073709551616) cH mono x.b.length bZ):=w
  rw[w]at ha
  split at ha
  · have:=congrArg (fun x=>x.2.1) ha;simp at this
  obtain⟨k1,kz2,kz3,kz4,kz5,R2,R4,kl,kz8⟩:=xD z (C.dI 8) ((x.dI 9+1)%18446744073709551616) cH mono x.b.length bZ
  have k5':=fun i (I:i≤5)=>MD z (C.dI 8) ((x.dI 9+1)%18446744073709551616) cH mono x.b.length bZ i Jy
  have Al:=MD z (C.dI 8) ((x.dI 9+1)%18446744073709551616) cH mono x.b.length bZ 11 Kq
  obtain⟨V,Af⟩:=Prod.mk.inj ha
  have Ag:=(Prod.mk.inj Af).2
  rw[B]at V
  generalize pM z (C.dI 8) ((x.dI 9+1)%18446744073709551616) cH mono x.b.length bZ=R at *
  subst Ag
  subst V
  obtain⟨z1,z2,z3,z4,z5⟩:=H.same
  have zl:z.h.n.length=20:=by omega
  have R8:=(kz8 zl).1
  have R9:=(kz8 zl).2
  have z8:z.dI 8=es.length:=by rw[z5 8 Kq Kq Kq,r 8 Kq,t6 8 Kq Kq Kq,o 8 Kq Kq,n8,O]
  have Ad:pH x.aj z.aj:=by have:=H.ds.ext;rw[M]at this;exact this
  have N:pH x.aj R.aj:=by rw[kz3];exact Ad
  have cR:R.c=x.c:=by rw[kz2,z1,y2,t1,p.1]
  have T:pH m.aj R.aj:=Q.ext.trans N
  refine⟨l4,⟨x.b.length,E,F⟩,fs,rfl,⟨⟨?_,?_,?_,?_,?_,?_⟩,rx.ext wx N,T,by rw[cR,c1],⟨rfl,by rw[R9,B]⟩,Ac,?_,?_,fun i I=>?_⟩⟩
  · have:=H.img.to (m':=R) k1 kz2 kz3 kz4 kz5 ⟨R2,R4⟩
    rw[List.map_append]
    have ef:places (es ++ [⟨x.b.length,E,F⟩])=fun j=>if j∈F then places es j ++ [x.b.length]else places es j:=funext fun j=>RO es ⟨x.b.length,E,F⟩ j
    rw[ef]
    exact this
  · show R.n8=_
    rw[R8,show z.n8=es.length from z8,List.length_append,Nat.mod_eq_of_lt Jy]
    rfl
  · rw[R9,B];omega
  · rw[Al,kz5,z5 11 Kq Kq Kq,y,z3,y5]
  · intro g P
    rcases List.mem_append.1 P with P|P
    · exact(h.who g P).ext T (by rw[cR,c1])
    simp at P;subst P
    exact wx.ext N cR
  · intro k hk
    rw[kz3]at hk
    obtain⟨i,I⟩:=List.mem_iff_getElem?.1 hk
    obtain⟨k0,h0,_,ht⟩:=H.ds.get i k I
    rw[M]at h0
    rcases tx k0 (List.mem_of_getElem? h0)with u|⟨q,u,G⟩
    · obtain⟨q,G,v⟩:=h.txt k0 u
      exact⟨q,G,ht.trans v⟩
    exact⟨q,A q u,ht.trans G⟩
  · rw[kz5,z3,y5]
    have X:C.main=m.main:=by rw[p.2.2.2,c2]
    rcases L.arr with e|e
    · exact⟨[],by rw[e,X,List.append_nil]⟩
    exact⟨_,by rw[e,X]⟩
  · rw[k1]
    have u:=L.mX.len
    have G:=H.ge
    rw[y1]at G
    omega
  rw[k5' i I,z5 i Jy Jy Jy,r i Jy,t6 i Jy Jy Jy,o i Jy Jy,c3 i Jy Jy Jy]
end Go.Wk
namespace Go.Wk
open Go Go.RowKit
def hk (m:Mk):Nat × Nat × Nat × List UInt8:=(m.h.eU,m.h.bX,m.h.state,m.h.dc)
theorem aif {m M:Mk} (h:M.h=m.h):hk M=hk m:=by unfold hk;rw[h]
theorem UJ (m:Mk) (l:List bT) (t p s:Nat):hk (m.hang l t p s).2=hk m:=by unfold hk;rw[(zD m l t p s).1]
theorem abq (m:Mk) (x:Ly):hk (m.field x).2=hk m:=by
  unfold Mk.field
  split
  · rfl
  simp only
  have B:hk (m.dD (ig {dH:=ec m.c.dU m.c.dc x,cP:=0,dat:=0,aR:=x})).2=hk m:=rfl
  generalize m.dD (ig {dH:=ec m.c.dU m.c.dc x,cP:=0,dat:=0,aR:=x})=r at *
  obtain⟨p,A⟩:=r
  simp only at B ⊢
  have C:=UJ A A.ak (A.dI 4) p (ec m.c.dU m.c.dc x%A.c.aS)
  generalize A.hang A.ak (A.dI 4) p (ec m.c.dU m.c.dc x%A.c.aS)=r at *
  obtain⟨n,D⟩:=r
  exact C.trans B
theorem adT (m:Mk) (x:Pr):hk (m.data x).2=hk m:=by
  unfold Mk.data
  split
  · rfl
  simp only
  have C:hk (m.dD (jb {dH:=ec m.c.dU m.c.dc (aR x),cP:=0,dR:=0,entry:=0,array:=0,cr:=0,aR:=aR x})).2=hk m:=rfl
  generalize m.dD (jb {dH:=ec m.c.dU m.c.dc (aR x),cP:=0,dR:=0,entry:=0,array:=0,cr:=0,aR:=aR x})=r at *
  obtain⟨p,A⟩:=r
  simp only at C ⊢
  have D:=UJ A A.aj (A.dI 2) p (ec m.c.dU m.c.dc (aR x)%A.c.aT)
  generalize A.hang A.aj (A.dI 2) p (ec m.c.dU m.c.dc (aR x)%A.c.aT)=r at *
  obtain⟨n,B⟩:=r
  simp only at D ⊢
  generalize hx5:({(B.dZ 19 (max (B.dI 19) n)).dZ 15 (((B.dZ 19 (max (B.dI 19) n)).dI 15+1)%18446744073709551616)with aj:=((B.dZ 19 (max (B.dI 19) n)).dZ 15 (((B.dZ 19 (max (B.dI 19) n)).dI 15+1)%18446744073709551616)).aj ++ [({dO:=aR x,cC:=p,dS:=ec m.c.dU m.c.dc (aR x)%A.c.aT,cr:=0,b9:=[]}:bT)]}:Mk)=m5
  have E:hk m5=hk B:=by subst hx5;rfl
  have F:=abq m5 x.name
  generalize m5.field x.name=r at *
  obtain⟨k,G⟩:=r
  exact F.trans (E.trans (D.trans C))
theorem FV:∀(l:List Pr) (m:Mk) (ps:List (List UInt8)) (od:List Nat),hk (iG l m ps od).2.2=hk m
  | [],_,_,_=>rfl
  | x :: r,m,ps,od=>(FV r _ _ _).trans (adT m x)
theorem UK (m:Mk) (a:List Nat) (n src gX:Nat):hk (m.link a n src gX).2.2=hk m:=by
  unfold Mk.link
  generalize fu a 0 0 0=r
  obtain⟨A,C⟩:=r
  simp only
  split
  · have B:hk (m.dD (fP {next:=0,ay:=List.replicate (e6 (a.length:Int)) 0})).2=hk m:=rfl
    generalize m.dD (fP {next:=0,ay:=List.replicate (e6 (a.length:Int)) 0})=r at *
    obtain⟨p,D⟩:=r
    simp only at B ⊢
    split
    · exact B
    exact B
  rfl
theorem MN (e:Nat):∀(od:List Nat) (m:Mk),hk (lH e od m)=hk m
  | [],_=>rfl
  | i :: r,m=>by
    rw[pO,MN e r]
    unfold lG
    simp only
    split
    · exact aif q
    · have g:=UK m (m.aj.getD i known0).b9 ((m.aj.getD i known0).cr-1) ((m.aj.getD i known0).cC+48) e
      generalize m.link (m.aj.getD i known0).b9 ((m.aj.getD i known0).cr-1) ((m.aj.getD i known0).cC+48) e=r at *
      obtain⟨a,t,m1⟩:=r
      exact(aif q).trans g
theorem adU (z:Mk) (n seq cH mono e:Nat) (bZ:Ly):hk (pM z n seq cH mono e bZ)=hk z:=by
  unfold pM
  simp only
  generalize hy:(if n=0 then(z.dZ 10 seq).dZ 12 cH else z)=y
  have:hk y=hk z:=by subst hy;split <;> rfl
  exact this
theorem FU (m:Mk) (raw:List Pr) (cH mono:Nat) (bZ:Ly):hk (m.append raw cH mono bZ).2.2=hk m∧((m.append raw cH mono bZ).2.1≠0→(m.append raw cH mono bZ).2.2=m):=by
  rcases hl:kW raw with⟨l,c⟩
  by_cases h2:c≠0
  · have e:m.append raw cH mono bZ=(0,c,m):=by unfold Mk.append;simp only[hl];rw[if_pos h2]
    rw[e];exact⟨q,fun _=>rfl⟩
  by_cases h3:m.dI 9=18446744073709551615
  · have e:m.append raw cH mono bZ=(0,1,m):=by unfold Mk.append;simp only[hl];rw[if_neg h2,if_pos h3]
    rw[e];exact⟨q,fun _=>rfl⟩
  have E:=FV l m [] []
  rcases hd:iG l m [] []with⟨I,D,x⟩
  rw[hd]at E
  have F:hk (x.dD (ew {seq:=(x.dI 9+1)%18446744073709551616,cH:=cH,mono:=mono,bZ:=bZ,xor:=nH 0 I,ay:=jL x D})).2=hk x:=rfl
  rcases ho:x.dD (ew {seq:=(x.dI 9+1)%18446744073709551616,cH:=cH,mono:=mono,bZ:=bZ,xor:=nH 0 I,ay:=jL x D})with⟨e,A⟩
  rw[ho]at F
  have G:=UK A A.main (A.dI 8) 176 e
  rcases hk3:A.link A.main (A.dI 8) 176 e with⟨a,t,C⟩
  rw[hk3]at G
  simp only at E F G
  have B:m.append raw cH mono bZ=_:=lD (cH:=cH) (mono:=mono) (bZ:=bZ) hl h2 h3 hd ho hk3 q
  have H:=MN e D (let m4:=({C with main:=a}:Mk).dZ 11 (a.getD 0 0);{m4 with h:={m4.h with cT:=kr a%4294967296,cZ:=t%4294967296}})
  have J:hk (let m4:=({C with main:=a}:Mk).dZ 11 (a.getD 0 0);({m4 with h:={m4.h with cT:=kr a%4294967296,cZ:=t%4294967296}}:Mk))=hk C:=rfl
  rw[J]at H
  generalize lH e D (let m4:=({C with main:=a}:Mk).dZ 11 (a.getD 0 0);{m4 with h:={m4.h with cT:=kr a%4294967296,cZ:=t%4294967296}})=z at B H
  replace B:m.append raw cH mono bZ=if z.c.cJ<z.b.length then(0,15,m)else((x.dI 9+1)%18446744073709551616,0,pM z (A.dI 8) ((x.dI 9+1)%18446744073709551616) cH mono e bZ):=B
  rw[B]
  split
  · exact⟨q,fun _=>rfl⟩
  refine⟨?_,fun h=>absurd q h⟩
  show hk (pM _ _ _ _ _ _ _)=_
  rw[adU,H,G,F,E]
theorem SZ (n:Nat):pX (List.replicate n {first:=0,tail:=0})=nums (List.replicate (2*n) 0):=by
  induction n with
  | zero=>rfl
  | succ n ih =>
    rw[List.replicate_succ,pX,ih,show 2*(n+1)=(2*n+1)+1 by omega,List.replicate_succ,List.replicate_succ]
    simp[nums]
theorem aiD {k:Nat} (hk:k=4∨k=5) (n:Nat):(∃r,eS k (List.replicate n {first:=0,tail:=0})=PS k (16+16*n) ++ r)∧(eS k (List.replicate n {first:=0,tail:=0})).length=16+16*n ∧
    ∀i,i<2*n→fI (eS k (List.replicate n {first:=0,tail:=0})) (16+8*i)=0:=by
  have e:eS k (List.replicate n {first:=0,tail:=0})=ru k (nums (List.replicate (2*n) 0) ++ []):=by
    unfold eS;rw[if_neg Jy,SZ,List.append_nil]
  obtain⟨A,B,C,_⟩:=ago (k:=k) Jy (List.replicate (2*n) 0) [] (fun v E=>by rw[(List.mem_replicate.1 E).2];decide)
  rw[← e]at A B C
  simp only[List.length_replicate,List.length_nil,Nat.add_zero]at A B
  rw[show 16+8*(2*n)=16+16*n by omega]at A B
  exact⟨A,by rw[B];unfold sG;omega,fun i D=>C i 0 (by rw[List.getElem?_replicate,if_pos D])⟩
def CW (c:nT):List Ob:=[⟨272,4,16+16*c.aT⟩,⟨288+16*c.aT,5,16+16*c.aS⟩]
structure afe (m:Mk):Prop where
  hk:hk m=(2,if m.c.dU then 4 else 0,1,m.c.dc)
  n0:m.dI 0=272
  n3:m.dI 3=16*m.c.aT
  n5:m.dI 5=16*m.c.aS
theorem abG {c:nT} {t:Nat} (h:c.aT≤10∧c.aS≤10) (h1:1≤c.aT∧1≤c.aS) (ht:t<1000000):Img (j5 c t) (CW c) []∧afe (j5 c t)∧(j5 c t).dI 9=t:=by
  obtain⟨⟨Q,H⟩,I,_⟩:=aiD (k:=4) (.inl q) c.aT
  obtain⟨⟨R,J⟩,K,_⟩:=aiD (k:=5) (.inr q) c.aS
  have E:(j5 c t).b=List.replicate 272 0 ++ eS 4 (List.replicate c.aT {first:=0,tail:=0}) ++ eS 5 (List.replicate c.aS {first:=0,tail:=0}):=rfl
  have A:(j5 c t).h.n=(((((((((List.replicate 20 0).set 0 272).set 2 288).set 3 (16*c.aT)).set 4 ((List.replicate 272 (0:UInt8) ++ eS 4 (List.replicate c.aT {first:=0,tail:=0})).length+16)).set 5 (16*c.aS)).set 6 ((List.replicate 272 (0:UInt8) ++ eS 4 (List.replicate c.aT {first:=0,tail:=0})).length)).set 7 2).set 9 t):=rfl
  have D:(List.replicate 272 (0:UInt8) ++ eS 4 (List.replicate c.aT {first:=0,tail:=0})).length=288+16*c.aT:=by rw[List.length_append,List.length_replicate,I];omega
  have M:(j5 c t).b.length=304+16*c.aT+16*c.aS:=by rw[E,List.length_append,D,K];omega
  rw[D]at A
  have dI:∀i,(j5 c t).dI i=(j5 c t).h.n.getD i 0:=fun _=>rfl
  generalize hT4:eS 4 (List.replicate c.aT {first:=0,tail:=0})=T4 at *
  generalize hT5:eS 5 (List.replicate c.aS {first:=0,tail:=0})=T5 at *
  have O:seg (j5 c t).b 272 16=PS 4 (16+16*c.aT):=by
    rw[E,List.append_assoc,iM (by rw[List.length_replicate];exact Nat.le_refl _),List.length_replicate,Nat.sub_self,H,List.append_assoc]
    exact mE _ _ (kC _ _).symm
  have P:seg (j5 c t).b (288+16*c.aT) 16=PS 5 (16+16*c.aS):=by
    rw[E,iM Jy,D,Nat.sub_self,J]
    exact mE _ _ (kC _ _).symm
  have u4:sG (16+16*c.aT)=16+16*c.aT:=by unfold sG;omega
  have u5:sG (16+16*c.aS)=16+16*c.aS:=by unfold sG;omega
  have L:gB (j5 c t).b 272 (CW c) (j5 c t).b.length:=by
    refine⟨q,by simp,by simp,by simp only;omega,by simp only;omega,O,?_⟩
    simp only[u4]
    rw[show 272+(16+16*c.aT)=288+16*c.aT by omega]
    refine⟨q,by simp,by simp,by simp only;omega,by simp only;omega,P,?_⟩
    simp only[u5,gB]
    rw[M];omega
  have B:(j5 c t).aj=[]:=rfl
  have N:(j5 c t).ak=[]:=rfl
  have G:(j5 c t).main=[]:=rfl
  have F:(j5 c t).c=c:=rfl
  have C:fI (j5 c t).b 176=0:=by
    rw[E,JD (by rw[D];omega),JD (by rw[List.length_replicate];omega)]
    show BZ (((List.replicate 272 0).drop 176).take 8)=0
    rw[List.drop_replicate,List.take_replicate]
    rfl
  refine⟨⟨⟨⟨L,by rw[F];simp[CW],by rw[F];simp[CW],by rw[dI,A];rfl,by rw[dI,A];simp only[F];show _+16=_;omega,by rw[F];exact h1,by rw[B];simp,by rw[N];simp,by rw[B];simp,by simp[CW]⟩,?_,by rw[B];simp,⟨by rw[B];simp,by rw[B];simp⟩,by simp,by simp[CW]⟩,by rw[dI,A];rfl,by rw[dI,A];show t<_;omega,by rw[dI,A,G];rfl,by simp,by rw[B];simp⟩,⟨q,by rw[dI,A];rfl,by rw[dI,A];rfl,by rw[dI,A];rfl⟩,by rw[dI,A];rfl⟩
  rw[G]
  exact⟨C,by simp,by simp,by simp,by simp,Nat.le_refl _,Nat.le_refl _⟩
end Go.Wk
namespace Go.Wk
open Go Go.RowKit
structure xh (m:Mk) (l:List Ob) (es:List gH) (rs:List Rec):Prop where
  img:Img m l es
  ok:vD m
  h20:m.h.n.length=20
  hd:afe m
  len:es.length=rs.length
  rcd:∀(i:Nat) (g:gH) (r:Rec),es[i]? = some g→rs[i]? = some r→LJ m g r
  rise:rs.Pairwise fun a b=>a.seq<b.seq
  top:∀r∈rs,1≤r.seq∧r.seq≤m.dI 9
structure AA (m m':Mk) (es es':List gH) (rs rs':List Rec):Prop where
  es:∃t,es'=es ++ t
  rs:∃t,rs'=rs ++ t
  main:∃t,m'.main=m.main ++ t
  ext:pH m.aj m'.aj
  c:m'.c=m.c
  len:m.b.length≤m'.b.length
  dI:∀i,i≤5→m'.dI i=m.dI i
theorem AA.refl (m:Mk) (es:List gH) (rs:List Rec):AA m m es es rs rs:=⟨⟨[],by simp⟩,⟨[],by simp⟩,⟨[],by simp⟩,pH.refl _,q,Nat.le_refl _,fun _ _=>rfl⟩
theorem AA.trans {a b c:Mk} {es es' es'':List gH} {rs rs' rs'':List Rec} (h:AA a b es es' rs rs') (k:AA b c es' es'' rs' rs''):AA a c es es'' rs rs'':=by
  obtain⟨H,B⟩:=h.es;obtain⟨K,E⟩:=k.es
  obtain⟨I,C⟩:=h.rs;obtain⟨L,F⟩:=k.rs
  obtain⟨J,D⟩:=h.main;obtain⟨u3,G⟩:=k.main
  exact⟨⟨H ++ K,by rw[E,B,List.append_assoc]⟩,⟨I ++ L,by rw[F,C,List.append_assoc]⟩,⟨J ++ u3,by rw[G,D,List.append_assoc]⟩,h.ext.trans k.ext,k.c.trans h.c,lj h.len k.len,fun i A=>(k.dI i A).trans (h.dI i A)⟩
theorem QZ {x fs:List Pr} (h:kW x=(fs,0)) (ha:Asc x):fs=x:=by
  obtain⟨A,_,B,_⟩:=xS h
  exact TS A ha B
theorem UI:∀(l o x:List Pr) (c:Nat),PO l o=(x,c)→c≠0→x=[]
  | [],o,x,c,h,hc=>by
    unfold PO at h
    split at h
    · exact(Prod.mk.inj h).1.symm
    · exact absurd (Prod.mk.inj h).2.symm hc
  | p :: r,o,x,c,h,hc=>by
    unfold PO at h
    split at h
    · exact(Prod.mk.inj h).1.symm
    · exact UI r _ x c h hc
theorem Yd (l:List Pr):Asc (kW l).1:=by
  rcases h:kW l with⟨x,c⟩
  by_cases hc:c=0
  · subst hc;exact(xS h).1
  unfold kW at h
  split at h
  · rw[← (Prod.mk.inj h).1];exact List.Pairwise.nil
  rw[UI _ _ _ _ h hc];exact List.Pairwise.nil
theorem AG {α:Type} {l:List α} {p a:α} {k:Nat} (h:(l ++ [p])[k]? = some a):(k<l.length∧l[k]? = some a)∨(k=l.length∧a=p):=by
  rcases Nat.lt_or_ge k l.length with hk|hk
  · rw[List.getElem?_append_left hk]at h;exact .inl ⟨hk,h⟩
  have B:=(List.getElem?_eq_some_iff.1 h).1
  simp at B
  rw[List.getElem?_append_right hk,show k-l.length=0 by omega]at h
  exact .inr ⟨by omega,by simpa using h.symm⟩
theorem aeU {m m':Mk} {l:List Ob} {es:List gH} {rs:List Rec} {r:Rec} {s:Nat} (h:xh m l es rs) (hr:r.seq=(m.dI 9+1)%18446744073709551616) (hb:r.bZ.length=16) (hn:r.cH<18446744073709551616∧r.mono<18446744073709551616) (hf:Asc r.ak) (ha:m.append r.ak r.cH r.mono r.bZ=(s,0,m')) :
    ∃l' es',xh m' l' es' (rs ++ [r])∧AA m m' es es' rs (rs ++ [r]):=by
  have C:=GL m r.ak r.cH r.mono r.bZ
  have ok':=xj (raw:=r.ak) (cH:=r.cH) (mono:=r.mono) h.ok hb (C.trans h.h20)
  have D:=(FU m r.ak r.cH r.mono r.bZ).1
  rw[ha]at C ok' D
  obtain⟨l',g,S,O,A⟩:=WS h.img h.ok h.h20 hb hn ha
  have H:=QZ O hf
  subst H
  have T:=h.img.n9
  have P:s=m.dI 9+1:=A.seq.1
  have n9':m'.dI 9=s:=A.seq.2
  have R:=A.img.n9
  have F:r.seq=s:=by rw[hr,P];exact Nat.mod_eq_of_lt Jy
  have I:({seq:=s,cH:=r.cH,mono:=r.mono,bZ:=r.bZ,ak:=r.ak}:Rec)=r:=by cases r;simp only at F;subst F;rfl
  have A':=A.rcd
  rw[I]at A'
  refine⟨l',es ++ [g],⟨A.img,ok',C.trans h.h20,⟨?_,?_,?_,?_⟩,by simp[h.len],fun i J Q N E=>?_,?_,fun y B=>?_⟩,⟨⟨_,q⟩,⟨_,q⟩,A.main,A.ext,A.c,A.len,A.dI⟩⟩
  · rw[D,h.hd.hk,A.c]
  · rw[A.dI 0 Kq];exact h.hd.n0
  · rw[A.dI 3 Kq,A.c];exact h.hd.n3
  · rw[A.dI 5 Kq,A.c];exact h.hd.n5
  · rcases AG N with⟨M,K⟩|⟨M,rfl⟩
    · rcases AG E with⟨_,G⟩|⟨G,_⟩
      · exact(h.rcd i J Q K G).ext (h.img.who J (List.mem_of_getElem? K)) A.ext
      have:=h.len;omega
    rcases AG E with⟨G,_⟩|⟨_,rfl⟩
    · have:=h.len;omega
    exact A'
  · refine List.pairwise_append.2 ⟨h.rise,by simp,fun y B z L=>?_⟩
    simp at L;subst L
    have:=(h.top y B).2;omega
  rw[n9']
  rcases List.mem_append.1 B with B|B
  · have:=h.top y B;omega
  simp at B;subst B;omega
theorem S6 (s:Sq) (n:Nat):(s.record n).1.seq=n∧(s.record n).1.bZ.length=16∧((s.record n).1.cH<18446744073709551616∧(s.record n).1.mono<18446744073709551616)∧Asc (s.record n).1.ak:=by
  refine⟨?_,za s n,?_⟩
  · rcases h1:s.pairs 4 with⟨F,A⟩
    rcases h2:A.dI 40 with⟨a,B⟩
    rcases h3:B.dI 9 with⟨b,C⟩
    rcases h4:C.dI 3 with⟨c,G⟩
    simp only[Sq.record,h1,h2,h3,h4]
  rcases h1:s.pairs 4 with⟨F,A⟩
  rcases h2:A.dI 40 with⟨a,B⟩
  rcases h3:B.dI 9 with⟨b,C⟩
  rcases h4:C.dI 3 with⟨c,G⟩
  have D:=A.kG 40
  have E:=B.kG 9
  rw[h2]at D;rw[h3]at E
  simp only[Sq.record,h1,h2,h3,h4]
  simp only at D E
  exact⟨by omega,Yd F⟩
theorem GD:∀(n:Nat) (s:Sq) (m:Mk) (l:List Ob) (es:List gH) (rs:List Rec),xh m l es rs →
    ∃l' es',xh (kF n s m rs).1 l' es' (kF n s m rs).2.1∧AA m (kF n s m rs).1 es es' rs (kF n s m rs).2.1∧(kF n s m rs).2.1.length≤rs.length+n
  | 0,s,m,l,es,rs,h=>⟨l,es,h,AA.refl _ _ _,Nat.le_refl _⟩
  | n+1,s,m,l,es,rs,h=>by
    unfold kF
    split
    · have hr:=S6 s ((m.dI 9+1)%18446744073709551616)
      rcases hrec:s.record ((m.dI 9+1)%18446744073709551616)with⟨r,s1⟩
      rw[hrec]at hr
      have hk:=(FU m r.ak r.cH r.mono r.bZ).2
      rcases ha:m.append r.ak r.cH r.mono r.bZ with⟨e,c,m1⟩
      rw[ha]at hk
      simp only[ha]
      split
      · rename_i hc
        have:=hk hc
        simp only at this
        subst this
        exact⟨l,es,h,AA.refl _ _ _,Nat.le_add_right _ _⟩
      · rename_i hc
        have hc0:c=0:=Classical.not_not.1 hc
        subst hc0
        obtain⟨l1,es1,g1,g2⟩:=aeU h hr.1 hr.2.1 hr.2.2.1 hr.2.2.2 ha
        obtain⟨l',es',k1,kz2,kz3⟩:=GD n s1 m1 l1 es1 _ g1
        exact⟨l',es',k1,g2.trans kz2,by rw[List.length_append]at kz3;simp only[List.length_singleton]at kz3;omega⟩
    · exact⟨l,es,h,AA.refl _ _ _,Nat.le_add_right _ _⟩
theorem ab7 {s s':Sq} {cJ:Nat} {m:Mk} {rs:List Rec} (h:s.qT cJ=(m,rs,s')):∃l es,xh m l es rs∧rs.length≤cJ:=by
  have A:=xu s
  rcases h1:s.config with⟨c,E⟩
  rcases h2:E.dI 6 with⟨t,H⟩
  rw[h1]at A
  have B:=E.kG 6
  rw[h2]at B
  simp only at B A
  simp only[Sq.qT,h1,h2]at h
  obtain⟨F,G,I⟩:=abG (c:=c) (t:=t) A.1 A.2.1 Jy
  obtain⟨l,es,C,_,D⟩:=GD cJ H (j5 c t) (CW c) [] [] ⟨F,CR A.1 A.2.1 A.2.2,q,G,q,by simp,List.Pairwise.nil,by simp⟩
  rw[h]at C D
  exact⟨l,es,C,by simpa using D⟩
end Go.Wk
namespace Go.Wk
open Go Go.RowKit
def vI (P:Program) (s:TypeId) (f:Nat):Option Nat :=
  match P.underlying s with
  | some (.struct fs)=>match fs[f]? with
    | some x=>cond (iI P x.type) (some x.offset) none
    | none=>none
  | _=>none
section
variable {P:Program} {n:Nat} {A:Fr n} {D:List Deferred} {l:List (Nat × Value)} {w:World} {d:Option Tmp} {ty:TypeId} {ps:String} {af:Array Edge} {g:Option (Nat × Bool)}
theorem OH {x:Operand} {s:TypeId} {f off:Nat} {cs:List Value} {u:Value} (hf:vI P s f=some off) (hx:ev n l x=some (.agg cs.toArray)) (hc:cs[off]? = some u) :
    dn P ⟨d,.field s x f,ty,ps,af,g⟩ (bA A D l).eval w u:=by
  unfold vI at hf
  split at hf
  · rename_i fs hu
    split at hf
    · rename_i y hy
      cases h1:iI P y.type with
      | false=>rw[h1]at hf;cases hf
      | true =>
        rw[h1]at hf
        simp only[cond_true,Option.some.injEq]at hf
        subst hf
        simp[dn,execOp,cL hx,Instr.field,run_underlying hu,hy,part,mD h1,asAgg,hc]
    cases hf
  cases hf
end
structure mg where
  out:List Nat
  cur:Nat
  ahead:Nat
def mg.cells (x:mg) (v0:Value):List Value :=
  [v0] ++ ([(.int .u64 x.cur)] ++ ([(.int .u64 x.ahead)]))
def mg.ok (x:mg):Prop:=x.cur<18446744073709551616∧x.ahead<18446744073709551616
theorem mg.one {x:mg} {v0:Value} (h0:v0.oneCell'=true):(x.cells v0).all (fun u=>u.oneCell')=true:=(di (qD h0) (di q q))
theorem RF:(iC (nV [] 0)).2=0∧((iC (nV [] 0)).1.map fun y=>y.h.n.getD 8 0)=some 0:=by decide +kernel
theorem NW {x:Option fe} {c:Nat} (h:iC (nV [] 0)=(x,c)):c=0∧∃y,x=some y∧y.h.n.getD 8 0=0:=by
  have A:=RF
  rw[h]at A
  obtain⟨C,B⟩:=A
  cases x with
  | none=>simp at B
  | some y=>exact⟨C,y,q,by simpa using B⟩
theorem adX:(nV [] 0).length≤1000:=by decide +kernel
section
variable {P:Program} {n:Nat} {A:Fr n} {D:List Deferred} {l:List (Nat × Value)} {w:World} {d:Option Tmp} {ty:TypeId} {ps:String} {af:Array Edge} {g:Option (Nat × Bool)}
end
end Go.Wk
namespace Go.Wk
open Go Go.RowKit
def qR (out:List Nat):Nat:=out.getLast?.getD 0
def mR (out:List Nat) (x:Nat):Nat:=if out≠[]∧x≤qR out then 13 else 0
def jh (b:Ly) (cJ:Nat):List Nat→List Nat→List Nat × Nat
  | [],out=>(out,0)
  | x :: r,out=>if cJ≤out.length then(out,0)else if x=0∨b.length≤x then(out,2)else if mR out x≠0 then(out,13)else jh b cJ r (out ++ [x])
def mj (s:Nat) (b:Ly) (cJ p ahead:Nat) (out:List Nat):List Nat × Nat :=
  if cJ≤out.length then(out,0)
  else if p=0∨b.length≤p then(out,14)
  else if p≤ahead then(out,12)
  else if(iO s b p).2≠0 then(out,(iO s b p).2)
  else if(jh b cJ (iO s b p).1.ay out).2≠0 then jh b cJ (iO s b p).1.ay out
  else mj s b cJ (iO s b p).1.next p (jh b cJ (iO s b p).1.ay out).1
termination_by b.length-ahead
decreasing_by omega
def jV (b:Ly) (x:Nat):Bool:=decide (x=0∨b.length≤x)
def oK (s:Nat) (b:Ly) (l:mg):List Nat × Nat × mg :=
  if l.cur≤l.ahead then([],12,l)else((iO s b l.cur).1.ay,(iO s b l.cur).2,{l with cur:=(iO s b l.cur).1.next,ahead:=l.cur})
def itF (l:mg) (x:Nat):Nat × mg:=if mR l.out x≠0 then(13,l)else(0,{l with out:=l.out ++ [x]})
theorem UL {out:List Nat} {x y:Nat} (h:out[out.length-1]? = some y) (hx:x≤y):mR out x≠0:=by
  unfold mR qR
  have A:out≠[]:=by rintro rfl;simp at h
  rw[List.getLast?_eq_getElem?,h,if_pos ⟨A,hx⟩]
  decide
theorem abv {out:List Nat} {x y:Nat} (h:out[out.length-1]? = some y) (hx:¬x≤y):mR out x=0:=by
  unfold mR qR
  rw[List.getLast?_eq_getElem?,h,if_neg (fun h=>hx h.2)]
theorem abw {out:List Nat} {x:Nat} (h:¬0<out.length):mR out x=0:=by
  unfold mR
  rw[if_neg (fun A=>A.1 (List.eq_nil_of_length_eq_zero Jy))]
def sM (b:Ly) (out:List Nat):Prop:=out.length≤qR out∧qR out<b.length+1
theorem EB (b:Ly):sM b []:=⟨Nat.le_refl _,Nat.succ_pos _⟩
theorem EA {b:Ly} {out:List Nat} (h:sM b out):out.length≤b.length:=by have:=h.1;have:=h.2;omega
theorem kY {b:Ly} {x:Nat} (h:jV b x=false):x≠0∧x<b.length:=by
  unfold jV at h
  have:=dF h
  omega
theorem MZ (out:List Nat) (x:Nat):qR (out ++ [x])=x:=by simp[qR]
theorem HN {b:Ly} {l l':mg} {x c:Nat} (h:sM b l.out) (hi:itF l x=(c,l')) (hc:¬c≠0) (hn:jV b x=false):sM b l'.out∧l'.out=l.out ++ [x]∧l'.cur=l.cur∧l'.ahead=l.ahead∧mR l.out x=0:=by
  have D:=kY hn
  unfold itF at hi
  split at hi
  · exact absurd (congrArg Prod.fst hi) Jy
  rename_i h2
  have e:=congrArg Prod.snd hi
  simp only at e
  subst e
  refine⟨⟨?_,?_⟩,q,q,q,by omega⟩
  · simp only[MZ,List.length_append,List.length_singleton]
    have A:mR l.out x=0:=by omega
    unfold mR at A
    have C:=h.1
    by_cases hn:l.out=[]
    · rw[hn];simp;omega
    have:¬x≤qR l.out:=fun B=>by rw[if_pos ⟨hn,B⟩]at A;cases A
    omega
  simp only[MZ];omega
theorem PY {s c:Nat} {b:Ly} {l l':mg} {ay:List Nat} (ha:oK s b l=(ay,c,l')) (hc:¬c≠0):l.ahead<l.cur∧l'.out=l.out∧l'.ahead=l.cur∧l'.cur=(iO s b l.cur).1.next∧ay=(iO s b l.cur).1.ay∧(iO s b l.cur).2=0:=by
  unfold oK at ha
  split at ha
  · exact absurd (congrArg (fun x=>x.2.1) ha) Zz
  rename_i h
  simp only[Prod.mk.injEq]at ha
  obtain⟨rfl,A,rfl⟩:=ha
  exact⟨by omega,q,q,q,q,by omega⟩
theorem vE {s c:Nat} {b:Ly} {l l':mg} {ay:List Nat} (ha:oK s b l=(ay,c,l')):l'.out=l.out:=by
  unfold oK at ha
  split at ha <;> (simp only[Prod.mk.injEq]at ha;obtain⟨_,_,rfl⟩:=ha;rfl)
theorem AY {s cJ p a:Nat} {b:Ly} {out:List Nat} (h:¬out.length<cJ):mj s b cJ p a out=(out,0):=by rw[mj,if_pos Jy]
theorem UA {s cJ p a:Nat} {b:Ly} {out:List Nat} (h:out.length<cJ) (hn:jV b p=true):mj s b cJ p a out=(out,14):=by
  rw[mj,if_neg Jy,if_pos (by simpa [jV]using hn)]
theorem aaM {s cJ c:Nat} {b:Ly} {l l':mg} {ay:List Nat} (h:l.out.length<cJ) (hn:jV b l.cur=false) (ha:oK s b l=(ay,c,l')) (hc:c≠0):mj s b cJ l.cur l.ahead l.out=(l'.out,c):=by
  have A:=kY hn
  rw[vE ha]
  rw[mj,if_neg Jy,if_neg Jy]
  unfold oK at ha
  split at ha
  · rename_i h1;rw[if_pos h1];simp only[Prod.mk.injEq]at ha;rw[ha.2.1]
  rename_i h1;rw[if_neg h1];simp only[Prod.mk.injEq]at ha;rw[← ha.2.1]at hc ⊢;rw[if_pos hc]
theorem UB {s cJ c:Nat} {b:Ly} {l l':mg} {ay:List Nat} (h:l.out.length<cJ) (hn:jV b l.cur=false) (ha:oK s b l=(ay,c,l')) (hc:¬c≠0) :
    mj s b cJ l.cur l.ahead l.out=if(jh b cJ ay l.out).2≠0 then jh b cJ ay l.out else mj s b cJ l'.cur l'.ahead (jh b cJ ay l.out).1:=by
  have G:=kY hn
  obtain⟨D,E,A,B,C,F⟩:=PY ha hc
  rw[mj,if_neg Jy,if_neg Jy,if_neg Jy,if_neg Jy,A,B,C]
theorem aaR {s cJ c i:Nat} {b:Ly} {l l':mg} {ay out2:List Nat} {r r1:List Nat × Nat} (h0:mj s b cJ l.cur l.ahead l.out=r) (h:l.out.length<cJ) (hn:jV b l.cur=false) (ha:oK s b l=(ay,c,l')) (hc:¬c≠0)
    (h1o:jh b cJ (ay.drop 0) l'.out=r1) (h1:jh b cJ (ay.drop i) out2=r1) (he:jh b cJ (ay.drop i) out2=(out2,0)):mj s b cJ l'.cur l'.ahead out2=r:=by
  have A:jh b cJ ay l.out=(out2,0):=by rw[← vE ha];exact h1o.trans (h1.symm.trans he)
  rw[UB h hn ha hc,A,if_neg Oq]at h0
  exact h0
theorem MB {s cJ c i k:Nat} {b:Ly} {l l':mg} {ay out2 out3:List Nat} {r r1:List Nat × Nat} (h0:mj s b cJ l.cur l.ahead l.out=r) (h:l.out.length<cJ) (hn:jV b l.cur=false) (ha:oK s b l=(ay,c,l')) (hc:¬c≠0)
    (h1o:jh b cJ (ay.drop 0) l'.out=r1) (h1:jh b cJ (ay.drop i) out2=r1) (he:jh b cJ (ay.drop i) out2=(out3,k)) (hk:k≠0):r=(out3,k):=by
  have A:jh b cJ ay l.out=(out3,k):=by rw[← vE ha];exact h1o.trans (h1.symm.trans he)
  rw[UB h hn ha hc,A,if_pos hk]at h0
  exact h0.symm
theorem MA {cJ i:Nat} {b:Ly} {ay out:List Nat} (h:¬i<ay.length):jh b cJ (ay.drop i) out=(out,0):=by rw[List.drop_eq_nil_of_le Jy];rfl
theorem FL {cJ:Nat} {b:Ly} {ay out:List Nat} (h:cJ≤out.length):jh b cJ ay out=(out,0):=by
  cases ay with
  | nil=>rfl
  | cons x r=>unfold jh;rw[if_pos h]
theorem drop_cons {ay:List Nat} {i x:Nat} (h:ay[i]? = some x):ay.drop i=x :: ay.drop (i+1):=by
  obtain⟨A,B⟩:=List.getElem?_eq_some_iff.1 h
  rw[← B];exact(List.drop_eq_getElem_cons A)
theorem aaL {cJ i x:Nat} {b:Ly} {ay out:List Nat} (h:ay[i]? = some x) (hm:¬cJ≤out.length) (hn:jV b x=true):jh b cJ (ay.drop i) out=(out,2):=by
  rw[drop_cons h,jh,if_neg hm,if_pos (by simpa [jV]using hn)]
theorem adF {cJ i x c:Nat} {b:Ly} {ay:List Nat} {l l':mg} (h:ay[i]? = some x) (hm:¬cJ≤l.out.length) (hn:jV b x=false) (hi:itF l x=(c,l')) (hc:c≠0):jh b cJ (ay.drop i) l.out=(l'.out,c):=by
  have A:=kY hn
  rw[drop_cons h,jh,if_neg hm,if_neg Jy]
  unfold itF at hi
  split at hi
  · rename_i h2;rw[if_pos h2];simp only[Prod.mk.injEq]at hi;rw[← hi.1,← hi.2]
  exact absurd (congrArg Prod.fst hi).symm hc
theorem XD {cJ i x c:Nat} {b:Ly} {ay:List Nat} {l l':mg} (h:ay[i]? = some x) (hm:¬cJ≤l.out.length) (hn:jV b x=false) (hi:itF l x=(c,l')) (hc:¬c≠0):jh b cJ (ay.drop i) l.out=jh b cJ (ay.drop (i+1)) l'.out:=by
  have A:=kY hn
  rw[drop_cons h,jh,if_neg hm,if_neg Jy]
  unfold itF at hi
  split at hi
  · exact absurd (congrArg Prod.fst hi) Jy
  rename_i h2;rw[if_neg h2];simp only[Prod.mk.injEq]at hi;rw[← hi.2]
def jU (s:Nat) (b:Ly) (cJ p:Nat):List Nat × Nat:=mj s b cJ p 0 []
end Go.Wk
namespace Go.Wk
open Go Go.RowKit
def HT (ay:List Nat) (c r:Nat):List Nat:=(List.range r).map fun j=>ay.getD (c+j) 0
theorem SA (ay:List Nat) (c r:Nat):HT ay c (r+1)=ay.getD c 0 :: HT ay (c+1) r:=by
  unfold HT
  rw[List.range_succ_eq_map,List.map_cons,List.map_map]
  congr 1
  exact List.map_congr_left fun j _=>by simp only[Function.comp];congr 1;omega
theorem afJ {b:Ly} {l:List Ob} {src:Nat} {av ay:List Nat} (h:Chain b l src av ay) (hO:gB b 272 l b.length) {k a:Nat} (ha:av[k]? = some a):iO 272 b a=({next:=av.getD (k+1) 0,ay:=HT ay (pA k) (e6 (k:Int))},0):=by
  have D:=hO.mem (h.ob k a ha)
  have C:=h.le hO ha
  have E:=tF (k:=(k:Int)) Jy
  have A:=BG D Kq Zw
  simp only at A
  unfold iO
  rw[if_neg Jy]
  unfold gZ
  rw[A]
  simp only
  rw[if_neg Oq,if_neg Oq,if_neg Jy,show(24+8*e6 (k:Int)-24)/8=e6 (k:Int)by omega,h.next k a ha]
  congr 2
  unfold gm HT
  exact List.map_congr_left fun j B=>h.gX k a j ha (List.mem_range.1 B)
structure vC (b:Ly) (ay:List Nat):Prop where
  ok:∀x∈ay,x≠0∧x<b.length
  EZ:ay.Pairwise (· < ·)
theorem vC.get {b:Ly} {ay:List Nat} (h:vC b ay) {i:Nat} (hi:i<ay.length):ay.getD i 0≠0∧ay.getD i 0<b.length:=by
  have:ay.getD i 0∈ay:=by rw[List.getD_eq_getElem?_getD,List.getElem?_eq_getElem hi];exact List.getElem_mem hi
  exact h.ok _ this
theorem vC.lt {b:Ly} {ay:List Nat} (h:vC b ay) {i j:Nat} (hij:i<j) (hj:j<ay.length):ay.getD i 0<ay.getD j 0:=by
  rw[List.getD_eq_getElem?_getD,List.getD_eq_getElem?_getD,List.getElem?_eq_getElem Jy,List.getElem?_eq_getElem hj]
  exact List.pairwise_iff_getElem.1 h.EZ i j Jy hj hij
theorem aae {ay:List Nat} {c:Nat} (h0:0<c) (hc:c≤ay.length):qR (ay.take c)=ay.getD (c-1) 0:=by
  unfold qR
  rw[List.getLast?_eq_getElem?,List.length_take,List.getElem?_take,Nat.min_eq_left hc,if_pos Jy,List.getD_eq_getElem?_getD]
theorem adZ {b:Ly} {ay:List Nat} (h:vC b ay) {c:Nat} (hc:c<ay.length):mR (ay.take c) (ay.getD c 0)=0:=by
  unfold mR
  by_cases h0:c=0
  · subst h0;simp
  rw[aae Jy Jy,if_neg]
  have:=h.lt (i:=c-1) (j:=c) Jy hc
  omega
theorem TI {ay:List Nat} {c:Nat} (hc:c<ay.length):ay.take c ++ [ay.getD c 0]=ay.take (c+1):=by
  rw[List.take_add_one,List.getD_eq_getElem?_getD,List.getElem?_eq_getElem hc];rfl
theorem MG {ay:List Nat} {c:Nat} (hc:ay.length≤c):ay.getD c 0=0:=by rw[List.getD_eq_getElem?_getD,List.getElem?_eq_none hc];rfl
theorem FM {b:Ly} {ay:List Nat} {cJ:Nat} (h:vC b ay):∀(r c:Nat),c≤ay.length→c≤cJ →
    jh b cJ (HT ay c r) (ay.take c)=if cJ≤ay.length∨c+r≤ay.length then(ay.take (min cJ (c+r)),0)else(ay,2)
  | 0,c,hc,hm=>by
    show(ay.take c,0)=_
    rw[if_pos (.inr Jy),Nat.add_zero,Nat.min_eq_right hm]
  | r+1,c,hc,hm=>by
    have hl:(ay.take c).length=c:=by rw[List.length_take];omega
    rw[SA,jh,hl]
    by_cases h1:cJ≤c
    · rw[if_pos h1,if_pos (.inl Jy),Nat.min_eq_left Jy,show cJ=c by omega]
    · rw[if_neg h1]
      by_cases h2:c<ay.length
      · have A:=h.get h2
        rw[if_neg Jy,adZ h h2,if_neg Oq,TI h2,FM h r (c+1) Jy Jy,show c+1+r=c+(r+1)by omega]
      · rw[MG Jy,if_pos (.inl q),if_neg Jy,List.take_of_length_le Jy]
theorem AX {b:Ly} {l:List Ob} {src:Nat} {av ay:List Nat} {cJ:Nat} (h:Chain b l src av ay) (hO:gB b 272 l b.length) (hi:vC b ay):∀(d k ahead:Nat),k+d=av.length→(k=0→ahead=0)→(∀j,k=j+1→av[j]? = some ahead)→min cJ (pA k)≤ay.length →
    ∃c,mj 272 b cJ (av.getD k 0) ahead (ay.take (min cJ (pA k)))=(ay.take (min cJ ay.length),c)∧(c=0∧cJ≤ay.length∨(c=2∨c=14)∧ay.length<cJ)
  | d,k,ahead,hd,h0,h1,hk=>by
    have hl:(ay.take (min cJ (pA k))).length=min cJ (pA k):=by rw[List.length_take];omega
    have F:=h.hi
    rw[mj,hl]
    by_cases hm:cJ≤pA k
    · rw[Nat.min_eq_left hm]at hk ⊢
      rw[if_pos (Nat.le_refl _),Nat.min_eq_left Jy]
      exact⟨0,q,.inl ⟨q,hk⟩⟩
    · rw[Nat.min_eq_right Jy]at hk ⊢
      rw[if_neg Jy]
      match d with
      | 0 =>
        have C:k=av.length:=by omega
        subst C
        have:ay.length=pA av.length:=by omega
        rw[MG (Nat.le_refl _),if_pos (.inl q),← this,Nat.min_eq_right Jy]
        exact⟨14,q,.inr ⟨.inr q,by omega⟩⟩
      | d+1 =>
        obtain⟨a,A⟩:∃a,av[k]? = some a:=⟨_,List.getElem?_eq_getElem Jy⟩
        have G:=h.le hO A
        have D:=afJ h hO A
        have E:ahead<a:=by
          by_cases hk0:k=0
          · have:=h0 hk0;omega
          · have:=h1 (k-1) Jy
            exact h.EZ (k-1) ahead a this (by rw[show k-1+1=k by omega];exact A)
        rw[getD_some A,if_neg Jy,if_neg Jy,D]
        simp only
        rw[if_neg Oq,FM hi _ _ hk Jy]
        have B:pA k+e6 (k:Int)=pA (k+1):=rfl
        by_cases hb:cJ≤ay.length∨pA k+e6 (k:Int)≤ay.length
        · rw[if_pos hb]
          simp only
          rw[if_neg Oq,B]
          exact AX h hO hi d (k+1) a Jy Jy (fun j H=>by rw[show j=k by omega];exact A) (by rw[← B];omega)
        · rw[if_neg hb]
          simp only
          rw[if_pos Oq,Nat.min_eq_right Jy,List.take_length]
          exact⟨2,q,.inr ⟨.inl q,by omega⟩⟩
theorem QA {b:Ly} {l:List Ob} {src cJ:Nat} {av ay:List Nat} (h:Chain b l src av ay) (hO:gB b 272 l b.length) (hi:vC b ay) :
    ∃c,jU 272 b cJ (av.getD 0 0)=(ay.take (min cJ ay.length),c)∧(c=0∧cJ≤ay.length∨(c=2∨c=14)∧ay.length<cJ):=by
  have:=AX (cJ:=cJ) h hO hi av.length 0 0 Jy (fun _=>rfl) (fun j A=>by omega) (by simp[pA])
  simp only[pA,Nat.min_zero,List.take_zero]at this
  exact this
end Go.Wk
namespace Go.Wk
open Go Go.RowKit
theorem adl {m:Mk} (h:∀k∈m.aj,∃q:Pr,right q.pb=true∧k.dO=aR q) {k:bT} (hk:k∈m.aj):1≤k.dO.length:=by
  obtain⟨q,_,A⟩:=h k hk
  have:=lM q
  rw[A];omega
def TU (m:Mk) (k:bT) (ps:List Nat):gy:={dH:=jM m k.dO,cP:=fI m.b (k.cC+24),dR:=fI m.b (k.cC+32),entry:=ps.getD 0 0,array:=k.b9.getD 0 0,cr:=ps.length,aR:=k.dO}
theorem afP {m:Mk} {l:List Ob} {es:List gH} {mp:List Nat} {f:Nat→List Nat} {i:Nat} {k:bT} (h:mW m l es mp f) (hk:m.aj[i]? = some k) (ht:1≤k.dO.length):kM 272 m.b k.cC=(TU m k (f i),0):=by
  have G:=h.i7.gE
  have C:=h.i7.data k (List.mem_of_getElem? hk)
  have A:=h.dat i k hk
  have B:=G.mem C.ob
  have H:=fW (64+k.dO.length)
  have E:=B.ge
  have F:=B.le
  simp only at E F
  unfold kM
  rw[if_neg Jy]
  have D:=agp (k:=1) (n:=6) B Kq Zw q Zw
  simp only at D
  rw[(vv D).2 Oq |>.2]
  rw[show k.cC+16+8*6=k.cC+64 by omega,show 64+k.dO.length-(16+8*6)=k.dO.length by omega,C.dO]
  congr 1
  have e:gm m.b (k.cC+16) 6=[fI m.b (k.cC+16),fI m.b (k.cC+24),fI m.b (k.cC+32),fI m.b (k.cC+40),fI m.b (k.cC+48),fI m.b (k.cC+56)]:=rfl
  rw[e,C.dH,A.ent,A.chain.word,A.word]
  rfl
theorem agv {m:Mk} {l:List Ob} {es:List gH} {mp:List Nat} {f:Nat→List Nat} {i:Nat} {k:bT} (h:mW m l es mp f) (hk:m.aj[i]? = some k) (ht:1≤k.dO.length):iJ m.c.dU m.c.dc 272 m.b k.cC=(TU m k (f i),0) :=
  VO (afP h hk ht) (n:=jM m k.dO) q q
theorem MR:∀{l:List jO} {i:Nat} {x:jO},l[i]? = some x→x.cC<18446744073709551616→x.dH<18446744073709551616→fI (lI l) (16*i)=x.cC∧fI (lI l) (16*i+8)=x.dH
  | [],_,_,h,_,_=>by simp at h
  | y :: l,0,x,h,h1,h2=>by
    simp at h;subst h
    exact⟨mA (l:=[y.cC,y.dH]) (i:=0) q h1,mA (l:=[y.cC,y.dH]) (i:=1) q h2⟩
  | y :: l,i+1,x,h,h1,h2=>by
    have hl:(nums [y.cC,y.dH]).length=16:=rfl
    obtain⟨g1,g2⟩:=MR (l:=l) (i:=i) (by simpa using h) h1 h2
    rw[lI,iE Jy,iE Jy,hl,show 16*(i+1)-16=16*i by omega,show 16*(i+1)+8-16=16*i+8 by omega]
    exact⟨g1,g2⟩
theorem agd {m:Mk} {l:List Ob} {g:gH} (hs:Stat m l) (w:vB m g) (hb:m.b.length<1000000) {x:jO} (hx:x∈g.ent.ay):x.cC<18446744073709551616∧x.dH<18446744073709551616:=by
  rw[w.ay]at hx
  obtain⟨i,A,rfl⟩:=List.mem_map.1 hx
  have B:=w.lt i A
  have hk:m.aj[i]? = some m.aj[i]:=List.getElem?_eq_getElem B
  have:=(hs.gE.mem (hs.data _ (List.mem_of_getElem? hk)).ob).le
  have:=fW (64+(m.aj[i]).dO.length)
  simp only at this ⊢
  rw[(rY hk).2]
  exact⟨by simp only at *;omega,BP _ _⟩
theorem afV {m:Mk} {l:List Ob} {es:List gH} {mp:List Nat} {f:Nat→List Nat} {g:gH} (h:mW m l es mp f) (w:vB m g) (hg:g∈es) (hb:m.b.length<1000000):iH 272 m.b g.cC=(g.ent,0):=by
  have Z:=h.i7.gE
  have O:=h.ent g hg
  have I:=Z.mem O.ob
  have hu:=fW (64+16*g.ent.ay.length)
  have V:=I.ge
  have W:=I.le
  have hn:g.ent.ay.length=g.who.length:=by rw[w.ay,List.length_map]
  have h3:=w.len
  obtain⟨⟨d,e,n,E,o⟩,p⟩:=w.ok
  simp only at V W
  unfold iH
  rw[if_neg Jy]
  have G:=adA (k:=3) (ahead:=48) (gX:=16) I Kq Zw q Zw Zw
  simp only at G
  unfold ic
  rw[G]
  simp only
  rw[if_neg Oq]
  -- the body
  have Y:seg m.b (g.cC+16) (64+16*g.ent.ay.length-16)=nums [g.ent.seq,g.ent.cH,g.ent.mono] ++ g.ent.bZ ++ nums [g.ent.xor] ++ lI g.ent.ay:=by
    rw[OZ O.seg Jy]
    unfold ew
    have H:(nums [g.ent.seq,g.ent.cH,g.ent.mono] ++ g.ent.bZ ++ nums [g.ent.xor] ++ lI g.ent.ay).length=48+16*g.ent.ay.length:=by simp[eN,uf,E];omega
    rw[wQ Jy,List.append_assoc (PS _ _),iM (by rw[kC];omega),kC,Nat.sub_self]
    exact mE _ _ (by rw[H];omega)
  rw[Y]
  generalize hX:nums [g.ent.seq,g.ent.cH,g.ent.mono] ++ g.ent.bZ ++ nums [g.ent.xor] ++ lI g.ent.ay=X
  have B:(nums [g.ent.seq,g.ent.cH,g.ent.mono]).length=24:=rfl
  have Q:(nums [g.ent.xor]).length=8:=rfl
  have z:X.length=48+16*g.ent.ay.length:=by rw[← hX];simp[eN,uf,E];omega
  have A:X=nums [g.ent.seq,g.ent.cH,g.ent.mono] ++ (g.ent.bZ ++ (nums [g.ent.xor] ++ lI g.ent.ay)):=by rw[← hX];simp only[List.append_assoc]
  have R:fI X 0=g.ent.seq:=by rw[A];exact mA (l:=[g.ent.seq,g.ent.cH,g.ent.mono]) (i:=0) q d
  have u:fI X 8=g.ent.cH:=by rw[A];exact mA (l:=[g.ent.seq,g.ent.cH,g.ent.mono]) (i:=1) q e
  have J:fI X 16=g.ent.mono:=by rw[A];exact mA (l:=[g.ent.seq,g.ent.cH,g.ent.mono]) (i:=2) q n
  have K:(X.drop 24).take 16=g.ent.bZ:=by
    have:seg X 24 16=g.ent.bZ:=by
      rw[A,iM Jy,B,Nat.sub_self]
      exact mE _ _ E.symm
    exact this
  have L:fI X 40=g.ent.xor:=by
    rw[A,iE Jy,B,iE Jy,E]
    exact mA (l:=[g.ent.xor]) (i:=0) q o
  have v:jx X 48 ((X.length-48)/16)=g.ent.ay:=by
    rw[z,show(48+16*g.ent.ay.length-48)/16=g.ent.ay.length by omega]
    apply List.ext_getElem?
    intro i
    unfold jx
    rw[List.getElem?_map]
    by_cases hi:i<g.ent.ay.length
    · rw[List.getElem?_range hi,List.getElem?_eq_getElem hi]
      have F:=agd h.i7 w hb (List.getElem_mem hi)
      obtain⟨S,T⟩:=MR (List.getElem?_eq_getElem hi) F.1 F.2
      have r:fI X (48+16*i)=(g.ent.ay[i]).cC:=by
        rw[A,iE Jy,B,iE Jy,E,iE Jy,Q,show 48+16*i-24-16-8=16*i by omega];exact S
      have t:fI X (48+16*i+8)=(g.ent.ay[i]).dH:=by
        rw[A,iE Jy,B,iE Jy,E,iE Jy,Q,show 48+16*i+8-24-16-8=16*i+8 by omega];exact T
      simp only[Option.map_some,Option.some.injEq]
      rw[r,t]
    · rw[List.getElem?_eq_none (by simpa using hi),List.getElem?_eq_none Jy];rfl
  have U:vH X=g.ent:=by
    unfold vH
    rw[R,u,J,K,L,v]
  unfold vg
  rw[U,R,if_neg p,if_neg]
  intro P
  have:pq g.ent.ay=true:=by
    rw[pD]
    intro j x y C D
    rw[w.ay]at C D
    rw[List.getElem?_map]at C D
    cases hwx:g.who[j]? with
    | none=>rw[hwx]at C;cases C
    | some a =>
      cases hwy:g.who[j+1]? with
      | none=>rw[hwy]at D;cases D
      | some c =>
        rw[hwx]at C;rw[hwy]at D
        simp only[Option.map_some,Option.some.injEq]at C D
        subst C;subst D
        simp only
        have M:=(List.getElem?_eq_some_iff.1 hwx)
        have N:=(List.getElem?_eq_some_iff.1 hwy)
        have:=List.pairwise_iff_getElem.1 w.EZ j (j+1) M.1 N.1 Jy
        rw[M.2,N.2]at this
        exact this
  rw[this]at P;cases P
theorem P5 {q:Pr} (h:right q.pb=true):lT (aR q)=(q,0):=by
  obtain⟨A,B⟩:=oF ((mS _).2 h)
  have h1':gR (aR q)=0:=A
  have h2':nP (aR q)=q.pb:=B
  unfold lT
  rw[h1',h2']
  rfl
theorem OP {m:Mk} {l:List Ob} {es:List gH} {mp:List Nat} {f:Nat→List Nat} (h:mW m l es mp f) (ht:∀k∈m.aj,∃q:Pr,right q.pb=true∧k.dO=aR q):∀(ws:List Nat) (fs:List Pr) (all:List (List UInt8)),(∀i∈ws,i<m.aj.length) →
    ∃qs:List Pr,jd m.c.dU m.c.dc 272 m.b (ws.map fun i=>{cC:=gP m.aj i,dH:=jM m (jC m.aj i)}) fs all=((fs ++ qs,all ++ ws.map (jC m.aj)),0)∧qs.map aR=ws.map (jC m.aj)∧∀q∈qs,right q.pb=true
  | [],fs,all,_=>⟨[],by simp[jd],rfl,by simp⟩
  | i :: r,fs,all,hw=>by
    have hl:=hw i Oq
    have hk:m.aj[i]? = some m.aj[i]:=List.getElem?_eq_getElem hl
    obtain⟨q,hq1,hq2⟩:=ht _ (List.mem_of_getElem? hk)
    have hp:=agv h hk (adl ht (List.mem_of_getElem? hk))
    obtain⟨t1,t2⟩:=rY hk
    obtain⟨qs,g1,g2,g3⟩:=OP h ht r (fs ++ [q]) (all ++ [jC m.aj i]) (fun j hj=>hw j (by simp[hj]))
    refine⟨q :: qs,?_,by rw[List.map_cons,List.map_cons,g2,t1,hq2],fun y hy=>?_⟩
    · rw[List.map_cons,jd]
      simp only[t2,hp]
      have e1:(TU m m.aj[i] (f i)).aR=aR q:=hq2
      have e2:(TU m m.aj[i] (f i)).dH=jM m (jC m.aj i):=by rw[t1];rfl
      rw[if_neg Oq,if_neg (by rw[e2];simp),e1,P5 hq1]
      simp only
      rw[if_neg Oq,← hq2,← t1,g1]
      simp
    · rcases List.mem_cons.1 hy with rfl|hy
      · exact hq1
      · exact g3 y hy
theorem ag9 {m:Mk} {l:List Ob} {es:List gH} {mp:List Nat} {f:Nat→List Nat} {g:gH} {r:Rec} (h:mW m l es mp f) (ht:∀k∈m.aj,∃q:Pr,right q.pb=true∧k.dO=aR q) (w:vB m g) (hg:g∈es) (hb:m.b.length<1000000) (hr:LJ m g r) :
    ∃fs,mC m.c.dU m.c.dc 272 m.b g.cC=({seq:=r.seq,cH:=r.cH,mono:=r.mono,bZ:=r.bZ,ak:=fs},0)∧fs.Perm r.ak:=by
  obtain⟨E,C,F,G⟩:=OP h ht g.who [] [] w.lt
  rw[List.nil_append,List.nil_append]at C
  have L:g.ent.ay.length=g.who.length:=by rw[w.ay,List.length_map]
  have K:=w.len
  refine⟨E,?_,?_⟩
  · exact S5 (all:=g.who.map (jC m.aj)) (n:=nH 0 (g.who.map (jC m.aj))) (afV h w hg hb) Jy ⟨hr.seq.symm,hr.cH.symm,hr.mono.symm,hr.bZ.symm⟩ (by rw[w.ay];exact C) rfl w.xor
  have D:=hr.ak
  rw[← F]at D
  -- payloads are told apart
  have B:∀(a b:List Pr),(∀q∈a,right q.pb=true)→(∀q∈b,right q.pb=true)→(a.map aR).Perm (b.map aR)→a.Perm b:=by
    intro a b H hb A
    have e:∀(c:List Pr),(∀q∈c,right q.pb=true)→c=(c.map aR).map fun t=>(lT t).1:=fun c I=>by
      rw[List.map_map]
      have:c.map ((fun t=>(lT t).1) ∘ aR)=c.map id:=List.map_congr_left fun q J=>by simp[Function.comp,P5 (I q J)]
      rw[this,List.map_id]
    rw[e a H,e b hb]
    exact A.map _
  exact B E r.ak G hr.right D
end Go.Wk
namespace Go.Wk
open Go Go.RowKit
structure uW (m:Mk) (B:Ly) (H:cA) (l:List Ob) (es:List gH):Prop where
  len:B.length=m.b.length
  read:jJ B=(H,0)
  opn:iC B=(some {b:=B,h:=H},0)
  n:∀i,i<20→i≠1→H.n.getD i 0=m.dI i
  key:H.bX=if m.c.dU then 4 else 0
  dc:H.dc=m.c.dc
  img:mW {m with b:=B} l es (es.map gH.cC) (places es)
theorem mW.bytes {m:Mk} {l:List Ob} {es:List gH} {f:Nat→List Nat} {mp:List Nat} {B:Ly} (h:mW m l es mp f) (hl:B.length=m.b.length) (hB:Eff (fun a=>a+8≤272) m.b B) (hw:fI B 176=m.main.getD 0 0):mW {m with b:=B} l es mp f:=by
  have C:=h.i7.gE
  have H:∀a,a+8≤272→sH l a:=fun a A=>GJ C A
  have hO':gB B 272 l B.length:=by
    rw[hl];exact C.mX hB (Nat.le_refl _) fun o L a A=>by have:=(C.mem L).ge;omega
  have D:∀o∈l,o∈l:=fun _ h=>h
  refine⟨h.i7.keep hO' ⟨[],by simp,by simp⟩ hB H q q ⟨q,q⟩ (mP.refl _),?_,fun i k E=>?_,⟨h.own.main,h.own.one⟩,fun g I=>(h.ent g I).mX C hB H D,h.kin⟩
  · refine⟨hw,h.main.ob,fun k a A=>?_,fun k a j A K=>?_,h.main.EZ,h.main.lo,h.main.hi⟩
    · have:=h.main.le C A
      rw[hB.fI Jy fun x F=>by omega];exact h.main.next k a A
    have:=h.main.le C A
    rw[hB.fI Jy fun x F=>by omega];exact h.main.gX k a j A K
  have G:=h.i7.data k (List.mem_of_getElem? E)
  have J:272≤k.cC:=(C.mem G.ob).ge
  exact(h.dat i k E).mX G C hB D (fun a A=>by omega) fun j x F a A=>by
    have:=(h.dat i k E).chain.le C F;omega
structure aas (B:Ly) (h:cg):Prop where
  sign:B.take 8=uS
  bX:at4 B 12=h.bX
  state:(B.getD 16 0).toNat=h.state
  dc:(B.drop 24).take 16=h.dc
  n:∀i,i<20→fI B (88+8*i)=h.n.getD i 0
theorem LW {x y:Ly} {p:Nat} (h:x.length≤p):at4 (x ++ y) p=at4 y (p-x.length):=by
  show BZ (seg (x ++ y) p 4)=BZ (seg y (p-x.length) 4)
  rw[iM h]
theorem ad5 {v:Nat} (r:Ly) (h:v<4294967296):at4 (low v 4 ++ r) 0=v:=by
  show BZ (seg (low v 4 ++ r) 0 4)=v
  rw[mE _ _ (by rw[iq]),JS]
  exact Nat.mod_eq_of_lt h
theorem sP {x y:Ly} {p k:Nat} (hk:x.length=k) (h:k≤p):fI (x ++ y) p=fI y (p-k):=by rw[iE Jy,hk]
theorem QJ (h:cg) (depth:Nat) (r:Ly) (ok:cg.ok h) (hs:h.state<256):aas (vQ h depth ++ r) h:=by
  obtain⟨L,F,M,C,G,H,I,⟨N,J⟩,_⟩:=ok
  have e:vQ h depth ++ r=[76,80,75,83,72,72,82,72] ++ (low h.eU 4 ++ (low h.bX 4 ++ ([UInt8.ofNat h.state,0,0,0,0,0,0,0] ++ (h.dc ++ (h.dW ++ (h.bZ ++ (h.seq ++ (nums h.n ++ (nums [depth] ++ (low h.cT 4 ++ (low h.cZ 4 ++ (nums [h.dw] ++ r)))))))))))):=by
    unfold vQ;simp only[List.append_assoc]
  rw[e]
  refine⟨q,?_,?_,?_,fun i K=>?_⟩
  · rw[LW Oq,LW (by simp[iq])]
    simp only[iq,List.length_cons,List.length_nil]
    exact ad5 _ F
  · have A:∀y:List UInt8,([76,80,75,83,72,72,82,72] ++ (low h.eU 4 ++ (low h.bX 4 ++ y))).getD 16 0=y.getD 0 0:=fun y=>by
      have D:(low h.eU 4).length=4:=iq _ _
      have E:(low h.bX 4).length=4:=iq _ _
      simp only[List.getD_eq_getElem?_getD]
      rw[List.getElem?_append_right Oq,List.getElem?_append_right Zz,List.getElem?_append_right Zz,D,E]
      rfl
    rw[A]
    show(UInt8.ofNat h.state).toNat=_
    rw[UInt8.toNat_ofNat',Nat.mod_eq_of_lt Jy]
  · show seg _ 24 16=_
    rw[iM Oq,iM (by simp[iq]),iM (by simp[iq]),iM (by simp[iq])]
    simp only[iq,List.length_cons,List.length_nil]
    exact mE _ _ C.symm
  rw[sP (k:=8) q Jy,sP (k:=4) (iq _ _) Jy,sP (k:=4) (iq _ _) Jy,sP (k:=8) q Jy,sP (k:=16) C Jy,sP (k:=16) G Jy,sP (k:=16) H Jy,sP (k:=16) I Jy,show 88+8*i-8-4-4-8-16-16-16-16=8*i by omega]
  have hi':i<h.n.length:=by omega
  have B:h.n[i]? = some (h.n.getD i 0):=by simp[List.getD,List.getElem?_eq_getElem hi']
  exact mA B (J _ (List.mem_of_getElem? B))
theorem VL {b:Ly} {i:Nat} (h:i<21):(gF b).n.getD i 0=fI b (88+8*i):=by
  show(((List.range 21).map fun q=>if q<21 then fI b (88+8*q)else 0)).getD i 0=_
  rw[List.getD_eq_getElem?_getD,List.getElem?_map,List.getElem?_range h]
  simp[h]
theorem MO {m:Mk} {l:List Ob} {es:List gH} {rs:List Rec} {st:Nat} (h:xh m l es rs) (hok:cg.ok m.h) (hst:st≤2):aas (ni m st) {m.h with state:=st,n:=m.h.n.set 1 (m.b.length-272)}∧(ni m st).length=m.b.length∧Eff (fun a=>a+8≤272) m.b (ni m st):=by
  have G:=h.img.c.i7.gE
  have J:=h.ok.small
  have D:=G.le
  have ok':cg.ok {m.h with state:=st,n:=m.h.n.set 1 (m.b.length-272)}:=⟨hok.1,hok.2.1,(by show st<_;omega),hok.2.2.2.1,hok.2.2.2.2.1,hok.2.2.2.2.2.1,hok.2.2.2.2.2.2.1,ou hok.2.2.2.2.2.2.2.1 Jy,hok.2.2.2.2.2.2.2.2⟩
  have F:=xO {m.h with state:=st,n:=m.h.n.set 1 (m.b.length-272)} m.depth ok'
  have E:=QJ {m.h with state:=st,n:=m.h.n.set 1 (m.b.length-272)} m.depth (m.b.drop 272) ok' (by show st<_;omega)
  have C:ni m st=vQ {m.h with state:=st,n:=m.h.n.set 1 (m.b.length-272)} m.depth ++ m.b.drop 272:=rfl
  rw[← C]at E
  have A:(ni m st).length=m.b.length:=by rw[C,List.length_append,F,List.length_drop];omega
  have B:Eff (fun a=>a+8≤272) m.b (ni m st):=by
    refine⟨by rw[A];exact Nat.le_refl _,fun q n K I=>?_⟩
    by_cases hn:n=0
    · subst hn;simp[seg]
    · have H:272≤q:=by
        by_cases h1:272≤q
        · exact h1
        · exfalso
          have:=I (min q 264) Jy
          omega
      rw[C,iM Jy,F]
      unfold seg
      rw[List.drop_drop,show 272+(q-272)=q by omega]
  exact⟨E,A,B⟩
theorem YV {m:Mk} {l:List Ob} {es:List gH} {rs:List Rec} {st:Nat} {B:Ly} (h:xh m l es rs) (hst:st≤2) (hb:aas B {m.h with state:=st,n:=m.h.n.set 1 (m.b.length-272)}) (hlen:B.length=m.b.length) (hEff:Eff (fun a=>a+8≤272) m.b B):uW m B (gF B) l es:=by
  have L:=h.img.c.i7.gE
  have S:=h.ok.small
  have O:=L.le
  have A:∀i,i<20→i≠1→(gF (B)).n.getD i 0=m.dI i:=fun i R Q=>by
    rw[VL Jy,hb.n i R]
    show(m.h.n.set 1 _).getD i 0=_
    rw[cw Jy];rfl
  have J:(gF (B)).n.getD 1 0=m.b.length-272:=by
    rw[VL Jy,hb.n 1 Jy]
    show(m.h.n.set 1 _).getD 1 0=_
    exact pz (by have:=h.h20;omega)
  have H:=h.hd.hk
  unfold hk at H
  simp only[Prod.mk.injEq]at H
  obtain⟨_,T,_,U⟩:=H
  have F:(gF (B)).bX=if m.c.dU then 4 else 0:=hb.bX.trans T
  have G:(gF (B)).dc=m.c.dc:=hb.dc.trans U
  have D:(gF (B)).state=st:=hb.state
  have Y:=(L.mem h.img.c.i7.adh).le
  have Z:=(L.mem h.img.c.i7.adi).le
  have u4:=fW (16+16*m.c.aT)
  have u5:=fW (16+16*m.c.aS)
  simp only at Y Z
  have sl:=h.img.c.i7.slots
  have N:(gF (B)).n.getD 0 0=272:=(A 0 Kq Kq).trans h.hd.n0
  have V:(gF (B)).n.getD 2 0=288:=(A 2 Kq Kq).trans h.img.c.i7.n2
  have n3:(gF (B)).n.getD 3 0=16*m.c.aT:=(A 3 Kq Kq).trans h.hd.n3
  have W:(gF (B)).n.getD 4 0=304+16*m.c.aT:=(A 4 Kq Kq).trans h.img.c.i7.n4
  have X:(gF (B)).n.getD 5 0=16*m.c.aS:=(A 5 Kq Kq).trans h.hd.n5
  have E:u7 (gF (B))=(m.b.length,true):=by
    unfold u7
    rw[N,J,Nat.mod_eq_of_lt Jy,if_neg Jy,show 272+(m.b.length-272)=m.b.length by omega]
  have M:oJ (gF (B)) (B).length=0:=by
    unfold oJ
    rw[E,F,D,N,J,V,n3,W,X,hlen]
    have I:¬andNot (if m.c.dU=true then 4 else 0) 4≠0:=by cases m.c.dU <;> decide
    rw[if_neg I,if_neg Jy,if_neg Jy,if_neg Oq]
    have P:∀(p s e:Nat),p%8=0→s≠0→s%16=0→288≤p→p+s≤e→kU (gF (B)) p s e=0:=fun p s e Q d f g k=>by
      unfold kU
      rw[N,if_neg Jy,if_neg Jy,if_neg Jy]
    simp only
    rw[P 288 _ _ Jy Jy Jy Jy Jy,if_neg Oq]
    exact P _ _ _ Jy Jy Jy Jy Jy
  have C:jJ (B)=(gF (B),0):=by
    unfold jJ
    have K:rq (B) uS=true:=by
      unfold rq
      rw[if_pos (by show 8≤_;omega)]
      exact decide_eq_true hb.sign
    rw[if_neg Jy,if_neg (by rw[K];simp),M,if_neg Oq]
  refine⟨hlen,C,?_,A,F,G,h.img.c.bytes hlen hEff ?_⟩
  · unfold iC
    rw[C]
    simp only
    rw[if_neg Oq,E]
    simp only
    rw[← hlen,List.take_length]
  have:=hb.n 11 Kq
  rw[show 88+8*11=176 by rfl]at this
  rw[this]
  exact(cw (l:=m.h.n) (i:=1) (j:=11) (v:=m.b.length-272) Kq).trans h.img.n11
theorem opened {m:Mk} {l:List Ob} {es:List gH} {rs:List Rec} {st:Nat} (h:xh m l es rs) (hok:cg.ok m.h) (hst:st≤2):uW m (ni m st) (gF (ni m st)) l es:=by
  obtain⟨A,B,C⟩:=MO h hok hst
  exact YV h hst A B C
end Go.Wk
namespace Go.Wk
open Go Go.RowKit
theorem adI {s p:Nat} {b:Ly}:jU s b 0 p=([],0):=by unfold jU;rw[AY Oq]
def lS (a b:Rec):Bool:=decide (a.seq=b.seq) && (decide (a.cH=b.cH) && (decide (a.mono=b.mono) && (decide (a.bZ=b.bZ) && (allIn b.ak a.ak && allIn a.ak b.ak))))
theorem LM {a b:List Pr} (h:∀q,q∈a→q∈b):allIn b a=true:=by
  induction a with
  | nil=>rfl
  | cons p r ih =>
    rw[allIn,if_pos (abn.2 (h p Oq))]
    exact ih fun q A=>h q (by simp[A])
theorem SQ {a b:Rec} (h1:a.seq=b.seq) (h2:a.cH=b.cH) (h3:a.mono=b.mono) (h4:a.bZ=b.bZ) (h5:∀q,q∈a.ak↔q∈b.ak):lS a b=true:=by
  unfold lS
  rw[LM fun q A=>(h5 q).1 A,LM fun q A=>(h5 q).2 A]
  simp[h1,h2,h3,h4]
theorem ab1 {H:cA} {k:Bool} (h:H.bX=if k then 4 else 0):decide (H.bX &&& 4≠0)=k:=by rw[h];cases k<;>decide
section
variable {m:Mk} {B:Ly} {H:cA} {l:List Ob} {es:List gH} {rs:List Rec}
theorem VQ:∀{l:List Ob} {p e:Nat},gB B p l e→(l.map Ob.cC).Pairwise (· < ·)
  | [],_,_,_=>List.Pairwise.nil
  | o :: r,p,e,h=>by
    obtain⟨h1,h2,h3,h4,h5,h6,h7⟩:=h
    have hu:=fW o.size
    rw[List.map_cons]
    refine List.pairwise_cons.2 ⟨fun x hx=>?_,VQ h7⟩
    obtain⟨y,hy,rfl⟩:=List.mem_map.1 hx
    have:=(h7.mem hy).ge
    omega
theorem aaU {mp:List Nat} {f:Nat→List Nat} (h:mW m l es mp f):vC m.b (es.map gH.cC):=by
  have A:=h.i7.gE
  refine⟨fun x F=>?_,?_⟩
  · obtain⟨g,E,rfl⟩:=List.mem_map.1 F
    have B:=A.mem (h.ent g E).ob
    have C:=B.ge
    have D:=B.le
    have:=fW (64+16*g.ent.ay.length)
    simp only at C D
    omega
  rw[← h.kin]
  exact((VQ A).sublist (List.filter_sublist.map _))
theorem aaT (im:xh m l es rs) (op:uW m B H l es):jU (H.n.getD 0 0) B (H.n.getD 8 0) (H.n.getD 11 0)=(es.map gH.cC,0):=by
  have E:H.n.getD 0 0=272:=(op.n 0 Kq Kq).trans im.hd.n0
  have F:H.n.getD 8 0=es.length:=(op.n 8 Kq Kq).trans im.img.n8
  have A:H.n.getD 11 0=m.main.getD 0 0:=(op.n 11 Kq Kq).trans im.img.n11
  rw[E,F,A]
  obtain⟨c,D,C⟩:=QA (cJ:=es.length) op.img.main op.img.i7.gE (aaU op.img)
  rw[List.length_map,Nat.min_self,List.take_of_length_le (by rw[List.length_map];exact Nat.le_refl _)]at D
  rw[D]
  rcases C with⟨rfl,_⟩|⟨_,C⟩
  · rfl
  rw[List.length_map]at C;omega
theorem vB.bytes {m':Mk} {g:gH} (h:vB m g) (hd:m'.aj=m.aj) (hc:m'.c=m.c):vB m' g:=h.ext (by rw[hd];exact pH.refl _) hc
theorem VX (im:xh m l es rs) (op:uW m B H l es) {i:Nat} {x:Nat} {r:Rec} (hx:(es.map gH.cC)[i]? = some x) (hr:rs[i]? = some r) :
    ∃y,mC (decide (H.bX &&& 4≠0)) H.dc (H.n.getD 0 0) B x=(y,0)∧lS y r=true∧y.seq=r.seq∧y.cH=r.cH∧y.mono=r.mono∧y.bZ=r.bZ∧y.ak.Perm r.ak:=by
  have D:H.n.getD 0 0=272:=(op.n 0 Kq Kq).trans im.hd.n0
  rw[List.getElem?_map]at hx
  cases hg:es[i]? with
  | none=>rw[hg]at hx;cases hx
  | some g =>
    rw[hg]at hx
    simp only[Option.map_some,Option.some.injEq]at hx
    subst hx
    have A:=List.mem_of_getElem? hg
    have w:vB {m with b:=B} g:=(im.img.who g A).bytes rfl rfl
    have F:LJ {m with b:=B} g r:=(im.rcd i g r hg hr).ext (m':={m with b:=B}) (im.img.who g A) (pH.refl _)
    obtain⟨G,E,C⟩:=ag9 op.img im.img.txt w A (by have:=im.ok.small;have:=op.len;show B.length<_;omega) F
    rw[ab1 op.key,op.dc,D]
    exact⟨_,E,SQ rfl rfl rfl rfl fun q=>C.mem_iff,rfl,rfl,rfl,rfl,C⟩
def n3 (l:List Ob):Nat:=(l.filter fun o=>decide (o.kind=3)).length
end
end Go.Wk
namespace Go.Wk
open Go Go.RowKit
def qF (v:fe) (p:Nat):Rec × Nat:=mC (decide (v.h.bX &&& 4≠0)) v.h.dc (v.h.n.getD 0 0) v.b p
def lY (v:fe):List Nat→Nat→Nat→List Nat→List Nat
  | [],_,_,o=>o
  | p :: r,i,last,o=>if(qF v p).2=0∧last<(qF v p).1.seq then lY v r (i+1) (qF v p).1.seq (o ++ [i])else lY v r (i+1) last o
def oq (v:fe) (at_:List Nat) (i:Nat):Rec × Nat:=if i<at_.length then qF v (at_.getD i 0)else(r5,2)
section
variable {v:fe} {at_ g o:List Nat} {i p last c:Nat} {r:Rec}
theorem xK (h:¬i<at_.length):lY v (at_.drop i) i last o=o:=by rw[ir Jy];rfl
theorem xL (h:at_[i]? = some p) (hr:qF v p=(r,c)) (hc:c=0) (hl:last<r.seq):lY v (at_.drop i) i last o=lY v (at_.drop (i+1)) (i+1) r.seq (o ++ [i]):=by
  subst hc;rw[fw h,lY,hr,if_pos ⟨q,hl⟩]
theorem BJ (h:at_[i]? = some p) (hr:qF v p=(r,c)) (hc:¬(c=0∧last<r.seq)):lY v (at_.drop i) i last o=lY v (at_.drop (i+1)) (i+1) last o:=by
  rw[fw h,lY,hr,if_neg hc]
theorem JP (h:at_[i]? = some p):oq v at_ i=qF v p:=by
  have A:=(List.getElem?_eq_some_iff.1 h).1
  unfold oq;rw[if_pos A,List.getD_eq_getElem?_getD,h];rfl
def atF (at_:List Nat) (i:Nat):Nat × Nat:=if i<at_.length then(at_.getD i 0,0)else(0,2)
theorem agW (h:at_[i]? = some p):atF at_ i=(p,0):=by
  have A:=(List.getElem?_eq_some_iff.1 h).1
  unfold atF;rw[if_pos A,List.getD_eq_getElem?_getD,h];rfl
theorem afL (h:¬i<at_.length):atF at_ i=(0,2):=by unfold atF;rw[if_neg h]
theorem ab0 {x:Rec × Nat} (h:atF at_ i=(p,c)) (hc:c=0) (hr:qF v p=x):oq v at_ i=x:=by
  unfold atF at h
  unfold oq
  split at h
  · rename_i hi;cases h;rw[if_pos hi];exact hr
  cases h;cases hc
theorem XW (h:atF at_ i=(p,c)) (hc:c≠0):oq v at_ i=(r5,c):=by
  unfold atF at h
  unfold oq
  split at h
  · cases h;exact absurd q hc
  rename_i hi;cases h;rw[if_neg hi]
structure PU (v:fe) (at_:List Nat) (g:List Nat) (last:Nat):Prop where
  ok:∀i∈g,i<at_.length∧(oq v at_ i).2=0∧0<(oq v at_ i).1.seq∧(oq v at_ i).1.seq≤last
  EZ:g.Pairwise fun a b=>(oq v at_ a).1.seq<(oq v at_ b).1.seq
theorem S7:PU v at_ [] 0:=⟨by simp,List.Pairwise.nil⟩
theorem sU:∀(n i last:Nat) (o:List Nat),i+n=at_.length→PU v at_ o last→o.length≤i→∃last',PU v at_ (lY v (at_.drop i) i last o) last'∧(lY v (at_.drop i) i last o).length≤at_.length
  | 0,i,last,o,h,hr,hl=>⟨last,by rw[xK Jy];exact⟨hr,by omega⟩⟩
  | n+1,i,last,o,h,hr,hl=>by
    obtain⟨p,hp⟩:∃p,at_[i]? = some p:=⟨_,List.getElem?_eq_getElem Jy⟩
    rcases hv:qF v p with⟨r,c⟩
    by_cases hc:c=0∧last<r.seq
    · rw[xL hp hv hc.1 hc.2]
      have hj:oq v at_ i=(r,c):=(JP hp).trans hv
      refine sU n (i+1) r.seq (o ++ [i]) Jy ⟨fun j hm=>?_,?_⟩ Zz
      · rcases List.mem_append.1 hm with hm|hm
        · obtain⟨h1,h2,h3,h4⟩:=hr.ok j hm
          exact⟨h1,h2,h3,by omega⟩
        · simp at hm;subst hm;rw[hj];exact⟨by omega,hc.1,by simp only;omega,Nat.le_refl _⟩
      · refine List.pairwise_append.2 ⟨hr.EZ,by simp,fun a ha b hb=>?_⟩
        simp at hb;subst hb
        have:=(hr.ok a ha).2.2.2
        rw[hj];simp only;omega
    · rw[BJ hp hv hc]
      exact sU n (i+1) last o Jy hr Jy
theorem HF {k:Bool} {f:Ly} {s:Nat} {b:Ly}:∀(l:List jO) (fs:List Pr) (all:List (List UInt8)) {x:List Pr × List (List UInt8)},jd k f s b l fs all=(x,0)→x.1.length=fs.length+l.length
  | [],fs,all,x,h=>by
    have:=congrArg (fun y=>y.1.1.length) h
    simp[jd]at this ⊢;omega
  | y :: l,fs,all,x,h=>by
    unfold jd at h
    split at h
    · rename_i h1;exact absurd (congrArg Prod.snd h) h1
    · split at h
      · have:=congrArg Prod.snd h;simp at this
      · split at h
        · rename_i h1;exact absurd (congrArg Prod.snd h) h1
        · have:=HF l _ _ h;simp at this ⊢;omega
theorem XC {s p:Nat} {b:Ly} {e:eA} (h:iH s b p=(e,0)):1≤e.ay.length:=by
  unfold iH at h
  split at h
  · have:=congrArg Prod.snd h;simp at this
  unfold ic at h
  split at h
  · rename_i h1;exact absurd (congrArg Prod.snd h) h1
  rename_i h1
  have A:kL b p 3 48 16=((kL b p 3 48 16).1,0):=by rw[← Classical.not_not.1 h1]
  generalize (kL b p 3 48 16).1=x at *
  have C:64≤x.length:=by
    unfold kL at A
    split at A
    · rename_i h2;exact absurd (congrArg Prod.snd A) h2
    · split at A
      · have:=congrArg Prod.snd A;simp at this
      · split at A
        · have:=congrArg Prod.snd A;simp at this
        · rename_i h2 h3 h4
          have B:=lF (f:=(dz b p).1) (c:=(dz b p).2) q (fun h=>h2 h)
          have:=congrArg (fun y=>y.1.length) A
          simp only[List.length_drop,List.length_take]at this
          omega
  unfold vg at h
  split at h
  · have:=congrArg Prod.snd h;simp at this
  split at h
  · have:=congrArg Prod.snd h;simp at this
  have:=congrArg (fun y=>y.1.ay.length) h
  simp only[vH,jx,List.length_map,List.length_range]at this
  omega
theorem aeD {k:Bool} {f:Ly} {s:Nat} {b:Ly} {p:Nat} {r:Rec} (h:mC k f s b p=(r,0)):1≤r.ak.length∧r.ak.length≤16:=by
  unfold mC at h
  split at h
  · rename_i h1;exact absurd (congrArg Prod.snd h) h1
  rename_i h1
  have B:iH s b p=((iH s b p).1,0):=by rw[← Classical.not_not.1 h1]
  have C:=XC B
  split at h
  · have:=congrArg Prod.snd h;simp at this
  rename_i h2
  split at h
  · rename_i h3;exact absurd (congrArg Prod.snd h) h3
  rename_i h3
  have A:=HF (iH s b p).1.ay [] [] (x:=(jd k f s b (iH s b p).1.ay [] []).1) (by rw[← Classical.not_not.1 h3])
  split at h
  · have:=congrArg (fun y=>y.1.ak.length) h
    simp only at this A
    rw[A]at this
    simp at this
    omega
  have:=congrArg Prod.snd h;simp at this
end
section
variable {m:Mk} {B:Ly} {H:cA} {l:List Ob} {es:List gH} {rs:List Rec}
theorem MJ (im:xh m l es rs) (op:uW m B H l es):∀(n i last:Nat),i+n=es.length→(∀r,rs[i]? = some r→last<r.seq)→lY {b:=B,h:=H} ((es.map gH.cC).drop i) i last (List.range i)=List.range es.length
  | 0,i,last,h,_=>by rw[xK (by rw[List.length_map];omega),show i=es.length by omega]
  | n+1,i,last,h,hl=>by
    have ln:=im.len
    obtain⟨p,hp⟩:∃p,(es.map gH.cC)[i]? = some p:=⟨_,List.getElem?_eq_getElem (by rw[List.length_map];omega)⟩
    obtain⟨r,hr⟩:∃r,rs[i]? = some r:=⟨_,List.getElem?_eq_getElem Jy⟩
    obtain⟨y,y1,_,y3,_⟩:=VX im op hp hr
    have hv:qF {b:=B,h:=H} p=(y,0):=y1
    rw[xL hp hv q (by rw[y3];exact hl r hr),← List.range_succ]
    refine MJ im op n (i+1) y.seq Jy fun r' hr'=>?_
    have h1:=(List.getElem?_eq_some_iff.1 hr)
    have h2:=(List.getElem?_eq_some_iff.1 hr')
    have:=List.pairwise_iff_getElem.1 im.rise i (i+1) h1.1 h2.1 Jy
    rw[h1.2,h2.2]at this
    rw[y3];exact this
theorem XL (im:xh m l es rs) (op:uW m B H l es):lY {b:=B,h:=H} (es.map gH.cC) 0 0 []=List.range es.length :=
  MJ im op es.length 0 0 Jy fun r hr=>(im.top r (List.mem_of_getElem? hr)).1
end
theorem abk (v:fe) (at_:List Nat):(lY v at_ 0 0 []).length≤at_.length:=by
  obtain⟨last,_,A⟩:=sU at_.length 0 0 [] Jy (S7 (v:=v) (at_:=at_)) (Nat.le_refl _)
  rwa [List.drop_zero]at A
theorem acQ {b:Ly} {out:List Nat} {x:Nat} (h:sM b out) (h0:¬(x=0∨b.length≤x)) (hi:mR out x=0):sM b (out ++ [x]):=by
  have A:qR (out ++ [x])=x:=by unfold qR;simp
  unfold sM
  rw[A,List.length_append,List.length_singleton]
  have B:=h.1
  unfold mR at hi
  by_cases he:out=[]
  · subst he;simp;omega
  by_cases hx:x≤qR out
  · rw[if_pos ⟨he,hx⟩]at hi;cases hi
  omega
theorem xB {b:Ly} {cJ:Nat}:∀(ay out:List Nat),sM b out→sM b (jh b cJ ay out).1
  | [],out,h=>h
  | x :: r,out,h=>by
    unfold jh
    split
    · exact h
    · split
      · exact h
      · rename_i h0
        split
        · exact h
        · rename_i hi
          exact xB r _ (acQ h h0 (Classical.not_not.1 hi))
theorem FN {s cJ:Nat} {b:Ly}:∀(k p a:Nat) (out:List Nat),b.length-a≤k→sM b out→sM b (mj s b cJ p a out).1
  | k,p,a,out,hk,h=>by
    rw[mj]
    split
    · exact h
    · split
      · exact h
      · split
        · exact h
        · split
          · exact h
          · split
            · exact xB _ _ h
            · match k with
              | 0=>omega
              | k+1=>exact FN k _ p _ Jy (xB _ _ h)
theorem adJ {s cJ p c:Nat} {b:Ly} {a:List Nat} (h:jU s b cJ p=(a,c)):a.length≤b.length:=by
  have:=EA (FN (s:=s) (cJ:=cJ) b.length p 0 [] Jy (EB b))
  have e:mj s b cJ p 0 []=(a,c):=h
  rw[e]at this;exact this
theorem KH:∃y,iC (nV [] 0)=(some y,0)∧y.h.n.getD 8 0=0:=by
  rcases h:iC (nV [] 0)with⟨x,c⟩
  obtain⟨rfl,y,rfl,A⟩:=NW h
  exact⟨y,q,A⟩
end Go.Wk
namespace Go.Wk
open Go Go.RowKit
theorem adW {x:Ly} {i:Nat} {c:UInt8} (h:x.length=16):(gC x).set i (b8 c)=gC (x.set i c):=by
  rw[kD h,kD (by simpa using h),List.map_set]
theorem take_set {x y:Ly} {k:Nat} {c:UInt8} (hx:x.length=16) (hk:k<16) (h:x.take k=y.take k) (hc:y[k]? = some c):(x.set k c).take (k+1)=y.take (k+1):=by
  rw[List.take_add_one,List.take_add_one,hc,← h]
  congr 1
  · apply List.ext_getElem?
    intro j
    simp only[List.getElem?_take]
    split
    · rw[List.getElem?_set_ne Jy]
    rfl
  simp[hx,hk]
def ze (h:cA):cg:={eU:=h.eU,bX:=h.bX,state:=h.state,dc:=h.dc,dW:=h.dW,bZ:=h.bZ,seq:=h.seq,n:=h.n.take 20,cT:=h.cT,cZ:=h.cZ,dw:=h.dw}
def sE (v:fe):gK:={h:=ze v.h,depth:=v.h.n.getD 20 0,b:=v.b}
theorem oc {h:cA} {i:Nat} (hi:i<20):(ze h).n.getD i 0=h.n.getD i 0:=by
  simp only[ze,List.getD_eq_getElem?_getD,List.getElem?_take,if_pos hi]
def rn (b:Ly) (j:Nat):List Nat:=(List.range 20).map fun q=>if q<j then fI b (88+8*q)else 0
theorem Wb (b:Ly):rn b 0=List.replicate 20 0:=by
  unfold rn
  simp only[Nat.not_lt_zero,if_false]
  rfl
theorem aeF {b:Ly} {j:Nat} (hj:j<20):(rn b j).set j (fI b (88+8*j))=rn b (j+1):=by
  apply List.ext_getElem
  · simp[rn]
  intro q A B
  simp[rn]at A
  by_cases h:q=j
  · subst h;simp[rn]
  rw[List.getElem_set_ne (Ne.symm h)]
  simp only[rn,List.getElem_map,List.getElem_range]
  by_cases h3:q<j
  · rw[if_pos h3,if_pos Jy]
  rw[if_neg h3,if_neg Jy]
theorem aeE (b:Ly):rn b 20=(gF b).n.take 20:=by
  apply List.ext_getElem?
  intro i
  simp only[rn,gF,jK,List.getElem?_map,List.getElem?_take]
  by_cases h:i<20
  · rw[if_pos h,List.getElem?_range h,List.getElem?_range (show i<21 by omega)]
    simp[h,show i<21 by omega]
  rw[if_neg h,List.getElem?_eq_none (by simpa using h)];rfl
def rawH (b:Ly) (j:Nat):cg :=
  {eU:=at4 b 8,bX:=at4 b 12,state:=mh b 16,dc:=(b.drop 24).take 16,dW:=(b.drop 40).take 16,bZ:=(b.drop 56).take 16,seq:=(b.drop 72).take 16,n:=rn b j,cT:=0,cZ:=0,dw:=0}
def acK (b:Ly):cg:={rawH b 20 with cT:=at4 b 256,cZ:=at4 b 260,dw:=fI b 264}
theorem VU (b:Ly):acK b=ze (gF b):=by
  unfold acK rawH ze
  rw[aeE]
  rfl
theorem ZE (b:Ly):(gF b).n.getD 20 0=fI b 248:=by
  simp[gF,jK,List.getD]
theorem JC {b:Ly} {p v:Nat} {s:Bool} {i:Int} (h:p5 b i 4=(v,s)) (hi:i=(p:Int)) (hb:p+4≤b.length):at4 b p=v∧v<4294967296:=by
  subst hi
  have A:=vN (k:=4) (.inl q) hb
  rw[show((4:Nat):Int)=4 from rfl]at A
  rw[A]at h
  have e:at4 b p=v:=congrArg Prod.fst h
  exact⟨e,e ▸ xk b p⟩
theorem KU {h:cg} {j v:Nat} (ok:cg.ok h) (hv:v<18446744073709551616):cg.ok {h with n:=h.n.set j v} :=
  ⟨ok.1,ok.2.1,ok.2.2.1,ok.2.2.2.1,ok.2.2.2.2.1,ok.2.2.2.2.2.1,ok.2.2.2.2.2.2.1,ou ok.2.2.2.2.2.2.2.1 hv,ok.2.2.2.2.2.2.2.2⟩
theorem ZD {b:Ly} {j x:Nat} (hj:j<20) (hx:fI b (88+8*j)=x):{rawH b j with n:=(rawH b j).n.set j x}=rawH b (j+1):=by
  subst hx
  unfold rawH
  simp only[aeF hj]
def tE (b:Ly):cg:={rawH b 0 with eU:=0,bX:=0}
theorem wU {b:Ly} {k:Nat} (h:mh b 16=k):tE b={eU:=0,bX:=0,state:=k,dc:=(b.drop 24).take 16,dW:=(b.drop 40).take 16,bZ:=(b.drop 56).take 16,seq:=(b.drop 72).take 16,n:=List.replicate 20 0,cT:=0,cZ:=0,dw:=0}:=by
  subst h;unfold tE rawH;rw[Wb]
theorem rX {b:Ly} {o:Nat} (h:o+16≤b.length):((b.drop o).take 16).length=16:=by simp;omega
theorem nZ {b:Ly} (h:272≤b.length):cg.ok (tE b):=by
  have:=FC b 16
  refine⟨show(0:Nat)<_ by decide,show(0:Nat)<_ by decide,?_,rX Jy,rX Jy,rX Jy,rX Jy,?_,show(0:Nat)<_ by decide,show(0:Nat)<_ by decide,show(0:Nat)<_ by decide⟩
  · show mh b 16<_;omega
  show(rn b 0).length=20∧∀y∈rn b 0,y<18446744073709551616
  rw[Wb];exact iQ 20
theorem ag8 {b:Ly} {s1 s2:cg} {x y:Nat} (e1:s1={tE b with eU:=x}) (e2:s2={s1 with bX:=y}) (hx:at4 b 8=x) (hy:at4 b 12=y):s2=rawH b 0:=by
  subst hx;subst hy;subst e1;subst e2;rfl
theorem aeB {b:Ly} {h s1 s2 s3:cg} {i x y z:Nat} (h0:h=rawH b i) (hi:i=20) (e1:s1={h with cT:=x}) (e2:s2={s1 with cZ:=y}) (e3:s3={s2 with dw:=z}) (hx:at4 b 256=x) (hy:at4 b 260=y) (hz:fI b 264=z):acK b=s3:=by
  subst hx;subst hy;subst hz;subst hi;subst e3;subst e2;subst e1;subst h0;rfl
def sC (h:cg):Nat × Bool:=if 18446744073709551615-h.n.getD 0 0<h.n.getD 1 0 then(0,false)else(h.n.getD 0 0+h.n.getD 1 0,true)
theorem VT {h:cA} (h0:h.n.getD 0 0<18446744073709551616) (h1:h.n.getD 1 0<18446744073709551616):sC (ze h)=u7 h:=by
  unfold sC u7
  rw[oc Jy,oc Jy]
  by_cases hc:18446744073709551615-h.n.getD 0 0<h.n.getD 1 0
  · rw[if_pos hc,if_pos Jy]
  rw[if_neg hc,if_neg Jy,Nat.mod_eq_of_lt Jy]
def po (p size o e:Nat):Nat:=if p%8≠0 then 3 else if size=0∨size%16≠0 then 5 else if p<o∨p-o<16∨e<p∨e-p<size then 2 else 0
theorem ae5 (h:cA) (p size e:Nat):po p size (h.n.getD 0 0) e=kU h p size e:=rfl
def Zt (h:cg) (len:Nat):Nat :=
  if andNot h.bX 4≠0 then 7
  else if 2<h.state then 8
  else if h.n.getD 0 0<272∨h.n.getD 0 0%8≠0∨h.n.getD 1 0%8≠0 then 5
  else if(sC h).2=false∨len<(sC h).1 then 2
  else if po (h.n.getD 2 0) (h.n.getD 3 0) (h.n.getD 0 0) (sC h).1≠0 then po (h.n.getD 2 0) (h.n.getD 3 0) (h.n.getD 0 0) (sC h).1
  else po (h.n.getD 4 0) (h.n.getD 5 0) (h.n.getD 0 0) (sC h).1
theorem agx {h:cA} (ok:cA.ok h) (len:Nat):Zt (ze h) len=oJ h len:=by
  have b:=eP ok.2.2.2.2.2.2.2.1
  unfold Zt oJ
  rw[VT (b 0) (b 1)]
  simp only[oc (h:=h) (show 0<20 by omega),oc (h:=h) (show 1<20 by omega),oc (h:=h) (show 2<20 by omega),oc (h:=h) (show 3<20 by omega),oc (h:=h) (show 4<20 by omega),oc (h:=h) (show 5<20 by omega),ae5]
  rfl
theorem rM {h:cg} {len r:Nat} {s:Bool} (he:sC h=(r,s)):Zt h len=(if andNot h.bX 4≠0 then 7 else if 2<h.state then 8 else if h.n.getD 0 0<272∨h.n.getD 0 0%8≠0∨h.n.getD 1 0%8≠0 then 5
    else if s=false∨len<r then 2 else if po (h.n.getD 2 0) (h.n.getD 3 0) (h.n.getD 0 0) r≠0 then po (h.n.getD 2 0) (h.n.getD 3 0) (h.n.getD 0 0) r else po (h.n.getD 4 0) (h.n.getD 5 0) (h.n.getD 0 0) r):=by
  unfold Zt;rw[he]
def oP (b:Ly):cg × Nat × Nat:=(ze (jJ b).1,(jJ b).1.n.getD 20 0,(jJ b).2)
def nO:cg:={eU:=0,bX:=0,state:=0,dc:=nU,dW:=nU,bZ:=nU,seq:=nU,n:=List.replicate 20 0,cT:=0,cZ:=0,dw:=0}
theorem OE {b:Ly} (h:b.length<272):oP b=(nO,0,22):=by unfold oP;rw[yX h];rfl
theorem VR {b:Ly} (h:¬b.length<272):rq b uS=decide (b.take 8=uS):=by
  unfold rq
  rw[if_pos (by show 8≤_;omega)];rfl
theorem RU {b:Ly} (h:¬b.length<272) (h2:b.take 8≠[76,80,75,83,72,72,82,72]):oP b=(nO,0,6):=by
  unfold oP
  rw[DZ h (by have e:=VR h;rw[show uS=[76,80,75,83,72,72,82,72]from rfl]at e;rw[e];exact decide_eq_false h2)];rfl
theorem OD {b:Ly} {x:cg} {d e:Nat} (h:¬b.length<272) (h2:b.take 8=[76,80,75,83,72,72,82,72]) (hr:(acK b,fI b 248)=(x,d)) (he:Zt x b.length=e):oP b=if e≠0 then(nO,0,e)else(x,d,0):=by
  have A:rq b [76,80,75,83,72,72,82,72]=true:=by have e:=VR h;rw[show uS=[76,80,75,83,72,72,82,72]from rfl]at e;rw[e];exact decide_eq_true h2
  simp only[Prod.mk.injEq]at hr
  have B:oJ (gF b) b.length=e:=by rw[← agx (wL Jy),← VU,hr.1];exact he
  by_cases hc:e≠0
  · rw[if_pos hc]
    unfold oP
    rw[mB h A Oq q B hc];rfl
  rw[if_neg hc]
  unfold oP
  rw[OJ h A Oq q Jy,← hr.1,← hr.2,VU,ZE]
end Go.Wk
namespace Go.Wk
open Go Go.RowKit
def mq (b:Ly):Option gK × Nat:=((iC b).1.map sE,(iC b).2)
theorem ac5 {b:Ly} {x:cg} {d e:Nat} (h:oP b=(x,d,e)) (he:e≠0):mq b=(none,e):=by
  simp only[oP,Prod.mk.injEq]at h
  unfold mq iC
  rw[if_pos (by rw[h.2.2];exact he),h.2.2]
  rfl
theorem ac6 {b:Ly} {x:cg} {d e r:Nat} {s:Bool} (h:oP b=(x,d,e)) (he:¬e≠0) (h2:sC x=(r,s)):r≤b.length∧mq b=(some {h:=x,depth:=d,b:=b.take r},0):=by
  simp only[oP,Prod.mk.injEq]at h
  have A:jJ b=((jJ b).1,0):=by rw[← Classical.not_not.1 he,← h.2.2]
  obtain⟨C,D,_⟩:=yA A
  have E:cA.ok (jJ b).1:=by rw[← D];exact wL C
  have b':=eP E.2.2.2.2.2.2.2.1
  have B:u7 (jJ b).1=(r,s):=by rw[← VT (b' 0) (b' 1),h.1];exact h2
  refine⟨(OL A B).1,?_⟩
  unfold mq iC
  rw[if_neg (by rw[A];simp),B]
  simp only[Option.map_some,sE,h.1,h.2.1]
def j9 (b:Ly) (p kind:Nat):List UInt8 × Nat :=
  if(dz b p).2≠0 then([],(dz b p).2)
  else if(dz b p).1.kind≠kind then([],4)
  else((b.take (p+(dz b p).1.size)).drop (p+16),0)
theorem pW {b x:Ly} {p kind c:Nat} (h:j9 b p kind=(x,c)) (hc:¬c≠0):(dz b p).2=0∧(dz b p).1.kind=kind∧x=(b.take (p+(dz b p).1.size)).drop (p+16)∧x.length=(dz b p).1.size-16∧p+(dz b p).1.size≤b.length∧16≤(dz b p).1.size:=by
  unfold j9 at h
  split at h
  · rename_i h1;have:=congrArg Prod.snd h;simp at this;omega
  rename_i h1
  have A:16≤(dz b p).1.size∧p+(dz b p).1.size≤b.length∧(dz b p).1.kind<256∧(dz b p).1.flags=0:=lF (f:=(dz b p).1) (c:=(dz b p).2) q h1
  split at h
  · have:=congrArg Prod.snd h;simp at this;omega
  rename_i h2
  have e:=congrArg Prod.fst h
  simp only at e
  subst e
  refine⟨by omega,by omega,q,?_,A.2.1,A.1⟩
  simp only[List.length_drop,List.length_take]
  omega
theorem aez {b x:Ly} {p c:Nat} (h:j9 b p 1=(x,c)) (hc:c≠0):iL b p=(uZ,c):=by
  unfold j9 at h
  unfold iL
  split at h
  · rename_i h1;rw[if_pos h1,show(dz b p).2=c from congrArg Prod.snd h]
  rename_i h1;rw[if_neg h1]
  split at h
  · rename_i h2;rw[if_pos h2,show 4=c from congrArg Prod.snd h]
  exact absurd (congrArg Prod.snd h).symm hc
theorem agy {b x:Ly} {p c:Nat} (h:j9 b p 1=(x,c)) (hc:¬c≠0) (hx:x.length≤48):iL b p=(uZ,5):=by
  obtain⟨A,B,C,D,E,F⟩:=pW h hc
  unfold iL
  rw[if_neg Jy,if_neg Jy,if_pos Jy]
theorem ae0 {b x:Ly} {p c:Nat} (h:j9 b p 1=(x,c)) (hc:¬c≠0) (hx:¬x.length≤48):iL b p=({dH:=fI x 0,cP:=fI x 8,dR:=fI x 16,entry:=fI x 24,array:=fI x 32,cr:=fI x 40,aR:=x.drop 48},0):=by
  obtain⟨C,D,A,E,B,F⟩:=pW h hc
  have e:∀i,i+8≤48→fI x i=fI b (p+16+i):=fun i G=>by rw[A,JE Jy B]
  unfold iL
  rw[if_neg Jy,if_neg Jy,if_neg Jy,e 0 Jy,e 8 Jy,e 16 Jy,e 24 Jy,e 32 Jy,e 40 Jy]
  refine Prod.ext ?_ q
  simp only[gy.mk.injEq,true_and]
  rw[A]
  apply List.ext_getElem?
  intro j
  simp only[List.getElem?_take,List.getElem?_drop]
  by_cases hj:j<(dz b p).1.size-64
  · rw[if_pos hj,if_pos Jy];congr 1;omega
  rw[if_neg hj,if_neg Jy]
theorem aex {b x:Ly} {p c:Nat} (h:j9 b p 6=(x,c)) (hc:c≠0):gZ b p=(uz,c):=by
  unfold j9 at h
  unfold gZ
  split at h
  · rename_i h1;rw[if_pos h1,show(dz b p).2=c from congrArg Prod.snd h]
  rename_i h1;rw[if_neg h1]
  split at h
  · rename_i h2;rw[if_pos h2,show 4=c from congrArg Prod.snd h]
  exact absurd (congrArg Prod.snd h).symm hc
theorem ac3 {b x:Ly} {p c:Nat} (h:j9 b p 6=(x,c)) (hc:¬c≠0) (hx:x.length<16∨x.length%8≠0):gZ b p=(uz,5):=by
  obtain⟨A,B,C,D,E,F⟩:=pW h hc
  unfold gZ
  rw[if_neg Jy,if_neg Jy,if_pos Jy]
theorem aey {b x:Ly} {p c k:Nat} {o:fo} (h:j9 b p 6=(x,c)) (hc:¬c≠0) (hx:¬x.length<16∧¬x.length%8≠0) (hn:o.next=fI x 0) (hi:o.ay=gm x 8 ((k-8)/8)) (hk:k=x.length):gZ b p=(o,0):=by
  obtain⟨D,E,A,C,B,F⟩:=pW h hc
  subst hk
  unfold gZ
  rw[if_neg Jy,if_neg Jy,if_neg Jy]
  refine Prod.ext ?_ q
  obtain⟨H,G⟩:=o
  simp only at hn hi
  simp only[fo.mk.injEq]
  refine⟨?_,?_⟩
  · rw[hn,A,JE Jy B]
  rw[hi,C,show((dz b p).1.size-16-8)/8=((dz b p).1.size-24)/8 by omega,A,wu Jy B]
theorem Z4 {x:Ly} {l:List Nat} {k v:Nat} (hl:l=gm x 8 ((k-8)/8)) (hk:k%8=0) (h8:8≤k) (hv:fI x k=v):l ++ [v]=gm x 8 ((k+8-8)/8):=by
  rw[show(k+8-8)/8=(k-8)/8+1 by omega,ot,hl,show 8+8*((k-8)/8)=k by omega,hv]
end Go.Wk
namespace Go.Wk
open Go Go.RowKit
section
variable {b x:Ly} {p c:Nat}
theorem yu (h:j9 b p 3=(x,c)):kL b p 3 48 16=if c≠0 then([],c)else if x.length<64∨x.length%16≠0 then([],5)else(x,0):=by
  by_cases hc:c≠0
  · rw[if_pos hc]
    unfold j9 at h
    unfold kL
    split at h
    · rename_i A;rw[if_pos A];cases h;rfl
    rename_i A
    rw[if_neg A]
    split at h
    · rename_i B;rw[if_pos B];cases h;rfl
    cases h;exact absurd q hc
  rw[if_neg hc]
  obtain⟨A,B,C,D,E,F⟩:=pW h hc
  unfold kL
  rw[if_neg Jy,if_neg Jy]
  by_cases hx:x.length<64∨x.length%16≠0
  · rw[if_pos hx,if_pos Jy]
  rw[if_neg hx,if_neg Jy,← C]
theorem ae3 (h:j9 b p 3=(x,c)) (hc:c≠0):ic b p=(xA,c):=Qu (by rw[yu h,if_pos hc]) hc
theorem ac4 (h:j9 b p 3=(x,c)) (hc:¬c≠0) (hx:x.length<64∨x.length%16≠0):ic b p=(xA,5):=Qu (x:=[]) (by rw[yu h,if_neg hc,if_pos hx]) Kq
theorem RS (h:j9 b p 3=(x,c)) (hc:¬c≠0) (hx:¬x.length<64∧¬x.length%16≠0):ic b p=vg x:=zB (c:=0) (by rw[yu h,if_neg hc,if_neg Jy]) Oq
theorem ae2 (h:j9 b p 3=(x,c)) (hc:¬c≠0) (hx:¬x.length<64∧¬x.length%16≠0) (h0:fI x 0=0):ic b p=(xA,13):=by rw[RS h hc hx,vg,if_pos h0]
theorem FX (x:Ly) (o:Nat) {n j:Nat}:(jx x o n)[j]? = if j<n then some {cC:=fI x (o+16*j),dH:=fI x (o+16*j+8)} else none:=by
  unfold jx
  rw[List.getElem?_map]
  by_cases h:j<n
  · rw[if_pos h,List.getElem?_range h];rfl
  rw[if_neg h,List.getElem?_eq_none (by simpa using h)];rfl
theorem ae1 {its:List jO} {n k:Nat} {u v:jO} (h:j9 b p 3=(x,c)) (hc:¬c≠0) (hx:¬x.length<64∧¬x.length%16≠0) (h0:¬fI x 0=0) (hi:its=jx x 48 ((k+16-48)/16)) (hk:k<x.length) (h8:k%16=0∧48≤k) (hu:its[n]? = some u) (hv:its[n-1]? = some v) (hn:0<n) (hle:u.cC≤v.cC):ic b p=(xA,11):=by
  rw[RS h hc hx,vg,if_neg h0,if_pos]
  cases B:pq (vH x).ay with
  | false=>rfl
  | true =>
    have hr':=(pD _).1 B (n-1) v u
    have e:∀j y,its[j]? = some y→(vH x).ay[j]? = some y:=fun j y A=>by
      rw[hi,FX]at A
      split at A
      · rename_i hl
        show(jx x 48 ((x.length-48)/16))[j]? = _
        rw[FX,if_pos Jy];exact A
      · cases A
    have:=hr' (e _ _ hv) (by rw[show n-1+1=n by omega];exact e _ _ hu)
    omega
theorem ae4 {o:eA} {k:Nat} (h:j9 b p 3=(x,c)) (hc:¬c≠0) (hx:¬x.length<64∧¬x.length%16≠0) (h0:¬fI x 0=0) (e1:o.seq=fI x 0) (e2:o.cH=fI x 8) (e3:o.mono=fI x 16) (e4:o.bZ=(x.drop 24).take 16) (e5:o.xor=fI x 40) (hi:o.ay=jx x 48 ((k-48)/16)) (hk:k=x.length) (hr:pq o.ay=true):ic b p=(o,0):=by
  have A:vH x=o:=by
    obtain⟨B,C,D,E,F,G⟩:=o
    simp only at e1 e2 e3 e4 e5 hi
    subst e1;subst e2;subst e3;subst e4;subst e5;subst hi;subst hk
    rfl
  rw[RS h hc hx,vg,if_neg h0,A,if_neg (by rw[hr];simp)]
theorem ZM {l:List jO} {y:jO} (h:pq l=true) (hl:∀n u,n+1=l.length→l[n]? = some u→u.cC<y.cC):pq (l ++ [y])=true:=by
  rw[pD]at h ⊢
  intro j u v B A
  rw[List.getElem?_append]at B A
  by_cases h2:j+1<l.length
  · rw[if_pos Jy]at B
    rw[if_pos h2]at A
    exact h j u v B A
  rw[if_neg h2]at A
  have C:j+1-l.length=0:=by
    have:=(List.getElem?_eq_some_iff.1 A).1
    simp at this;omega
  rw[C]at A
  simp at A
  subst A
  rw[if_pos Jy]at B
  exact hl j u Jy B
theorem tu {l:List jO} {k u v:Nat} (hl:l=jx x 48 ((k-48)/16)) (hk:k%16=0∧48≤k) (hu:fI x k=u) (hv:fI x (k+8)=v):l ++ [{cC:=u,dH:=v}]=jx x 48 ((k+16-48)/16):=by
  rw[show(k+16-48)/16=(k-48)/16+1 by omega,vT,hl,show 48+16*((k-48)/16)=k by omega,hu,hv]
theorem VY {l m:List jO} {y:jO} (hs:m=l ++ [y]) (h:pq l=true) (hc:l.length=0∨∃a c:jO,m[l.length]? = some a∧m[l.length-1]? = some c∧0<l.length∧¬a.cC≤c.cC):pq m=true:=by
  subst hs
  refine ZM h fun n u F C=>?_
  rcases hc with hc|⟨a,c,A,B,D,E⟩
  · omega
  rw[List.getElem?_append_right (Nat.le_refl _),Nat.sub_self]at A
  simp at A
  subst A
  rw[List.getElem?_append_left Jy,show l.length-1=n by omega,C]at B
  cases B
  omega
theorem WW {e:Ly} {i:Nat} {y:UInt8} (he:e.length=16) (hi:i<16) (ht:e.take i=(x.drop 24).take i) (hy:x[24+i]? = some y):(e.set i y).take (i+1)=(x.drop 24).take (i+1):=by
  rw[List.take_add_one,List.take_add_one,List.getElem?_set_self Jy,List.getElem?_drop,hy,List.take_set_of_le (Nat.le_refl _),ht]
theorem aaP {e:eA} {v:Value} {i:Nat} {y:UInt8} (he:e.bZ.length=16) (hi:i<16):(eA.cells e v).set (3+i) (b8 y)=eA.cells {e with bZ:=e.bZ.set i y} v:=by
  have A:gC (e.bZ.set i y)=(gC e.bZ).set i (b8 y):=by rw[kD he,kD (by simpa using he),List.map_set]
  unfold eA.cells
  have B:(gC e.bZ).length=16:=rfl
  rw[A,List.set_append_right _ _ (by simp<;>omega),List.set_append_right _ _ (by simp<;>omega),List.set_append_right _ _ (by simp<;>omega),List.set_append_left _ _ (by simp only[List.length_singleton,B];omega)]
  simp only[List.length_singleton,show 3+i-1-1-1=i by omega]
end
section
variable {k:Bool} {f b:Ly} {s p c n:Nat} {d:gy}
def qu (k:Bool) (f:Ly) (s:Nat) (b:Ly) (p:Nat):List UInt8 × Nat × Nat:=((iJ k f s b p).1.aR,(iJ k f s b p).1.dH,(iJ k f s b p).2)
theorem aeH (h:kM s b p=(d,c)) (hc:c≠0):qu k f s b p=([],0,c):=by
  unfold qu iJ;rw[h];simp only;rw[if_pos hc];rfl
theorem agA (h:kM s b p=(d,c)) (hc:¬c≠0) (hh:ec k f d.aR=n) (e:¬d.dH=n):qu k f s b p=([],0,9):=by
  have A:c=0:=Classical.not_not.1 hc
  subst A;subst hh
  unfold qu iJ;rw[h];simp only;rw[if_neg Oq,if_neg e];rfl
theorem acS (h:kM s b p=(d,c)) (hc:¬c≠0) (hh:ec k f d.aR=n) (e:d.dH=n):qu k f s b p=(d.aR,d.dH,0):=by
  have A:c=0:=Classical.not_not.1 hc
  subst A;subst hh
  unfold qu iJ;rw[h];simp only;rw[if_neg Oq,if_pos e]
theorem KV {q:Ly} {h:Nat} (e:qu k f s b p=(q,h,c)):(iJ k f s b p).1.aR=q∧(iJ k f s b p).1.dH=h∧(iJ k f s b p).2=c:=by
  unfold qu at e
  simp only[Prod.mk.injEq]at e
  exact e
end
section
variable {k:Bool} {f b:Ly} {s p i c n m:Nat} {l:List jO} {x:jO} {fs:List Pr} {all:List (List UInt8)} {q:Ly} {w:Pr}
theorem cz {α:Type} {x:α × Nat} {a:α} {c:Nat} (h:x=(a,c)) (hc:¬c≠0):x=(a,0):=by rw[h,Classical.not_not.1 hc]
theorem SG (e:qu k f s b p=(q,n,c)) (hc:¬c≠0):∃d:gy,iJ k f s b p=(d,0)∧d.aR=q∧d.dH=n:=by
  obtain⟨A,B,C⟩:=KV e
  exact⟨(iJ k f s b p).1,Prod.ext rfl (C.trans (Classical.not_not.1 hc)),A,B⟩
theorem ai8 (h:l[i]? = some x) (e:qu k f s b x.cC=(q,n,c)) (hc:¬c≠0) (hn:n≠x.dH):jd k f s b (l.drop i) fs all=(([],[]),9):=by
  obtain⟨d,A,C,B⟩:=SG e hc
  exact VW h A (by rw[B];exact hn)
theorem ZL (h:l[i]? = some x) (e:qu k f s b x.cC=(q,n,c)) (hc:¬c≠0) (hn:¬n≠x.dH) (hs:lT q=(w,m)) (hm:m≠0):jd k f s b (l.drop i) fs all=(([],[]),m):=by
  obtain⟨d,A,B,C⟩:=SG e hc
  subst B
  exact yZ h A (by rw[C];exact Classical.not_not.1 hn) hs hm
theorem acP (h:l[i]? = some x) (e:qu k f s b x.cC=(q,n,c)) (hc:¬c≠0) (hn:¬n≠x.dH) (hs:lT q=(w,m)) (hm:¬m≠0):jd k f s b (l.drop i) fs all=jd k f s b (l.drop (i+1)) (fs ++ [w]) (all ++ [q]):=by
  obtain⟨d,A,B,C⟩:=SG e hc
  subst B
  exact E1 h A (by rw[C];exact Classical.not_not.1 hn) (cz hs hm)
theorem OT (e:qu k f s b p=(q,n,c)):q.length≤b.length:=by
  rw[← (KV e).1];exact VN (d:=(iJ k f s b p).1) (c:=(iJ k f s b p).2) rfl
end
end Go.Wk
namespace Go.Wk
open Go Go.RowKit
theorem adG {s cJ p a:Nat} {b:Ly} {out:List Nat} (h:out.length<cJ) (hn:jV b p=false) (ha:p≤a):mj s b cJ p a out=(out,12):=by
  have A:=kY hn
  rw[mj,if_neg Jy,if_neg Jy,if_pos ha]
theorem afS {s cJ p a c:Nat} {b:Ly} {out:List Nat} {x:fo} (h:out.length<cJ) (hn:jV b p=false) (ha:¬p≤a) (hx:iO s b p=(x,c)) (hc:c≠0):mj s b cJ p a out=(out,c):=by
  have A:=kY hn
  rw[mj,if_neg Jy,if_neg Jy,if_neg ha,hx,if_pos hc]
theorem aaN {s cJ p a c:Nat} {b:Ly} {out:List Nat} {x:fo} (h:out.length<cJ) (hn:jV b p=false) (ha:¬p≤a) (hx:iO s b p=(x,c)) (hc:¬c≠0) :
    mj s b cJ p a out=if(jh b cJ x.ay out).2≠0 then jh b cJ x.ay out else mj s b cJ x.next p (jh b cJ x.ay out).1:=by
  have A:=kY hn
  rw[mj,if_neg Jy,if_neg Jy,if_neg ha,hx,if_neg hc]
theorem afo {s cJ p a c i:Nat} {b:Ly} {out out2:List Nat} {x:fo} {r r1:List Nat × Nat} (h0:mj s b cJ p a out=r) (h:out.length<cJ) (hn:jV b p=false) (ha:¬p≤a) (hx:iO s b p=(x,c)) (hc:¬c≠0)
    (h1o:jh b cJ (x.ay.drop 0) out=r1) (h1:jh b cJ (x.ay.drop i) out2=r1) (he:jh b cJ (x.ay.drop i) out2=(out2,0)):mj s b cJ x.next p out2=r:=by
  have A:jh b cJ x.ay out=(out2,0):=h1o.trans (h1.symm.trans he)
  rw[aaN h hn ha hx hc,A,if_neg Oq]at h0
  exact h0
theorem UC {s cJ p a c i k:Nat} {b:Ly} {out out2 out3:List Nat} {x:fo} {r r1:List Nat × Nat} (h0:mj s b cJ p a out=r) (h:out.length<cJ) (hn:jV b p=false) (ha:¬p≤a) (hx:iO s b p=(x,c)) (hc:¬c≠0)
    (h1o:jh b cJ (x.ay.drop 0) out=r1) (h1:jh b cJ (x.ay.drop i) out2=r1) (he:jh b cJ (x.ay.drop i) out2=(out3,k)) (hk:k≠0):r=(out3,k):=by
  have A:jh b cJ x.ay out=(out3,k):=h1o.trans (h1.symm.trans he)
  rw[aaN h hn ha hx hc,A,if_pos hk]at h0
  exact h0.symm
theorem aaK {cJ i x:Nat} {b:Ly} {ay out:List Nat} (h:ay[i]? = some x) (hm:¬cJ≤out.length) (hn:jV b x=false) (hi:mR out x≠0):jh b cJ (ay.drop i) out=(out,13):=by
  have A:=kY hn
  rw[drop_cons h,jh,if_neg hm,if_neg Jy,if_pos hi]
theorem TY {cJ i x:Nat} {b:Ly} {ay out:List Nat} (h:ay[i]? = some x) (hm:¬cJ≤out.length) (hn:jV b x=false) (hi:mR out x=0):jh b cJ (ay.drop i) out=jh b cJ (ay.drop (i+1)) (out ++ [x]):=by
  have A:=kY hn
  rw[drop_cons h,jh,if_neg hm,if_neg Jy,if_neg Jy]
theorem VZ {b:Ly} {out:List Nat} {x:Nat} (h:sM b out) (hn:jV b x=false) (hi:mR out x=0):sM b (out ++ [x]):=by
  have:=HN (l:={out:=out,cur:=0,ahead:=0}) (l':={out:=out ++ [x],cur:=0,ahead:=0}) (x:=x) (c:=0) h (by unfold itF;rw[if_neg (by simpa using hi)]) Oq hn
  exact this.1
end Go.Wk
namespace Go.Wk
open Go Go.RowKit
section
variable {P:Program} {n:Nat} {A:Fr n} {D:List Deferred} {l:List (Nat × Value)} {w:World} {d:Option Tmp} {ty:TypeId} {ps:String} {af:Array Edge} {g:Option (Nat × Bool)}
end
theorem yg {b:Ly} {x:Option fe} {z:Option gK} {c d:Nat} (h:iC b=(x,c)) (h2:mq b=(z,d)):d=c∧z=x.map sE:=by
  unfold mq at h2
  rw[h]at h2
  simp only[Prod.mk.injEq]at h2
  exact⟨h2.2.symm,h2.1.symm⟩
theorem YT {b:Ly} {x:Option fe} {z:Option gK} {c d:Nat} (h:iC b=(x,c)) (h2:mq b=(z,d)) (hc:c=0):∃y q,x=some y∧z=some q∧q=sE y∧y.b.length≤b.length:=by
  subst hc
  obtain⟨y,A,_,B⟩:=yh h
  obtain⟨_,C⟩:=yg h h2
  exact⟨y,sE y,A,by rw[C,A];rfl,rfl,B⟩
theorem XF {y:fe} {q:gK} {a a2:List Nat} {c c2:Nat} (hq:q=sE y) (h:jU (y.h.n.getD 0 0) y.b (y.h.n.getD 8 0) (y.h.n.getD 11 0)=(a,c)) (h2:jU (q.h.n.getD 0 0) q.b (q.h.n.getD 8 0) (q.h.n.getD 11 0)=(a2,c2)):a2=a∧c2=c:=by
  subst hq
  have e:∀i,i<20→(sE y).h.n.getD i 0=y.h.n.getD i 0:=fun i B=>oc B
  rw[e 0 Jy,e 8 Jy,e 11 Jy]at h2
  have A:=h2.symm.trans h
  simp only[Prod.mk.injEq]at A
  exact A
theorem acs {b:Ly} {x:Option fe} {c:Nat} {y:fe} (h:iC b=(x,c)) (e:x=some y):y.b.length≤b.length:=by
  subst e
  unfold iC at h
  split at h
  · cases congrArg Prod.fst h
  have:=Option.some.inj (congrArg Prod.fst h)
  rw[← this];simp;omega
end Go.Wk
namespace Go.Wk
open Go Go.RowKit
end Go.Wk
namespace Go.Wk
open Go Go.RowKit
end Go.Wk
namespace Go.Wk
open Go Go.RowKit
theorem SL {v:fe} {q:gK} (h:q=sE v):q.b=v.b∧q.h.n.getD 0 0=v.h.n.getD 0 0∧q.h.bX=v.h.bX∧q.h.dc=v.h.dc:=by
  subst h
  exact⟨rfl,oc Jy,rfl,rfl⟩
end Go.Wk
namespace Go.Wk
open Go Go.RowKit
theorem agw {α:Type} {T:Dt α} {ty:TypeId} {w:World} {Q:Nat→Prop} {v:Value} {x:α} (h:Pt T ty w Q v x):v.oneCell'=true:=by obtain⟨b,c,rfl,_⟩:=h;rfl
def zu (q:gK) (p:Nat):Rec × Nat:=mC (decide (q.h.bX &&& 4≠0)) q.h.dc (q.h.n.getD 0 0) q.b p
theorem aeC {v:fe} {q:gK} (h:q=sE v):zu q=qF v:=by
  obtain⟨A,B,C,D⟩:=SL h
  funext p;unfold zu qF;rw[A,B,C,D]
def kN (f:Nat→Rec × Nat):List Nat→Nat→Nat→List Nat→List Nat
  | [],_,_,o=>o
  | p :: r,i,last,o=>if(f p).2=0∧last<(f p).1.seq then kN f r (i+1) (f p).1.seq (o ++ [i])else kN f r (i+1) last o
theorem QG (v:fe):∀l i last o,lY v l i last o=kN (qF v) l i last o
  | [],_,_,_=>rfl
  | p :: r,i,last,o=>by
    unfold lY kN
    split<;>exact QG v r _ _ _
theorem xJ (f:Nat→Rec × Nat):∀l i last o,(kN f l i last o).length≤o.length+l.length
  | [],_,_,_=>by simp[kN]
  | p :: r,i,last,o=>by
    unfold kN
    split
    · have:=xJ f r (i+1) (f p).1.seq (o ++ [i]);simp at this ⊢;omega
    · have:=xJ f r (i+1) last o;simp at this ⊢;omega
def vU (f:Nat→Rec × Nat) (at_:List Nat) (k:Int):Rec × Nat:=if 0≤k∧k.toNat<at_.length then f (at_.getD k.toNat 0)else(r5,2)
section
variable {f:Nat→Rec × Nat} {at_ g:List Nat} {i p last c:Nat} {k:Int} {r:Rec} {o:List Nat}
theorem XJ (h:¬i<at_.length):kN f (at_.drop i) i last o=o:=by rw[ir Jy];rfl
theorem XK (h:at_[i]? = some p) (hr:f p=(r,c)) (hc:c=0) (hl:last<r.seq):kN f (at_.drop i) i last o=kN f (at_.drop (i+1)) (i+1) r.seq (o ++ [i]):=by
  subst hc;rw[fw h,kN,hr,if_pos ⟨q,hl⟩]
theorem MI (h:at_[i]? = some p) (hr:f p=(r,c)) (hc:¬(c=0∧last<r.seq)):kN f (at_.drop i) i last o=kN f (at_.drop (i+1)) (i+1) last o:=by
  rw[fw h,kN,hr,if_neg hc]
theorem BU (h0:0≤k) (h:at_[k.toNat]? = some p):vU f at_ k=f p:=by
  have A:=(List.getElem?_eq_some_iff.1 h).1
  unfold vU;rw[if_pos ⟨h0,A⟩,List.getD_eq_getElem?_getD,h];rfl
theorem GA (h:¬(0≤k∧k.toNat<at_.length)):vU f at_ k=(r5,2):=by unfold vU;rw[if_neg h]
theorem FZ (n:Nat) (v:fe):vU (qF v) at_ ((n:Nat):Int)=oq v at_ n:=by
  unfold vU oq
  simp
def mV (f:Nat→Rec × Nat) (at_:List Nat) (g:List Nat):List Rec:=g.map fun i=>(vU f at_ ((i:Nat):Int)).1
theorem E2 {x:Rec} {j:Nat} (h:g[j]? = some i) (hr:vU f at_ ((i:Nat):Int)=(x,c)):mV f at_ (g.take (j+1))=mV f at_ (g.take j) ++ [x]:=by
  unfold mV
  have A:=(List.getElem?_eq_some_iff.1 h).1
  rw[List.take_add_one,h]
  simp[hr]
theorem HJ {j:Nat} (h:¬j<g.length):mV f at_ (g.take j)=mV f at_ g:=by rw[List.take_of_length_le Jy]
end
theorem SD {b:Ly} {x:Option gK} {c:Nat} (h:mq b=(x,c)) (hc:c≠0):x=none:=by
  rcases ho:iC b with⟨y,d⟩
  obtain⟨A,B⟩:=yg ho h
  subst A B
  unfold iC at ho
  split at ho
  · cases ho;rfl
  cases ho;exact absurd q hc
theorem ZP {b:Ly} {x:Option gK} {c:Nat} (h:mq b=(x,c)) (hc:c=0):∃q y,x=some q∧q=sE y∧iC b=(some y,0)∧y.b.length≤b.length:=by
  rcases ho:iC b with⟨y,d⟩
  obtain⟨A,F⟩:=yg ho h
  obtain⟨y,q,B,C,D,E⟩:=YT ho h Jy
  exact⟨q,y,C,D,by rw[B,← A,hc],E⟩
end Go.Wk
namespace Go.Wk
open Go Go.RowKit
def LG (l:List Rec) (n:Nat):Nat→Nat→Nat→Nat→Nat × Nat
  | 0,low,_,looked=>(low,looked)
  | k+1,low,high,looked =>
    if low<high then
      if n≤(l.getD ((low+high)/2) r5).seq then LG l n k low ((low+high)/2) (looked+1)else LG l n k ((low+high)/2+1) high (looked+1)
    else(low,looked)
section
variable {l:List Rec} {p:Rec→Bool} {n low high looked k i:Nat} {r:Rec}
theorem JG:∀(k low high looked:Nat),high-low≤k→LG l n k low high looked=LG l n (k+1) low high looked
  | 0,low,high,looked,h=>by unfold LG;rw[if_neg Jy]
  | k+1,low,high,looked,h=>by
    rw[LG]
    conv=>rhs;rw[LG]
    split
    · split
      · exact JG k _ _ _ Jy
      · exact JG k _ _ _ Jy
    · rfl
theorem aaA (k m low high looked:Nat) (h:high-low≤k):LG l n (k+m) low high looked=LG l n k low high looked:=by
 induction m with
 | zero=>rfl
 | succ m ih=>rw[← Nat.add_assoc,← JG _ _ _ _ Jy,ih]
def WX (l:List Rec) (n low high looked:Nat):Nat × Nat:=LG l n (high-low) low high looked
theorem afM (h:¬low<high):WX l n low high looked=(low,looked):=by
  unfold WX;rw[show high-low=0 by omega];rfl
theorem agZ (h:low<high) (hr:l[(low+high)/2]? = some r) (hn:n≤r.seq):WX l n low high looked=WX l n low ((low+high)/2) (looked+1):=by
  unfold WX
  obtain⟨k,hk⟩:∃k,high-low=k+1:=⟨high-low-1,by omega⟩
  rw[hk,LG,if_pos h,List.getD_eq_getElem?_getD,hr,Option.getD_some,if_pos hn]
  obtain⟨m,A⟩:∃m,k=((low+high)/2-low)+m:=⟨k-((low+high)/2-low),by omega⟩
  rw[A,aaA _ _ _ _ _ (Nat.le_refl _)]
theorem agY (h:low<high) (hr:l[(low+high)/2]? = some r) (hn:¬n≤r.seq):WX l n low high looked=WX l n ((low+high)/2+1) high (looked+1):=by
  unfold WX
  obtain⟨k,hk⟩:∃k,high-low=k+1:=⟨high-low-1,by omega⟩
  rw[hk,LG,if_pos h,List.getD_eq_getElem?_getD,hr,Option.getD_some,if_neg hn]
  obtain⟨m,A⟩:∃m,k=(high-((low+high)/2+1))+m:=⟨k-(high-((low+high)/2+1)),by omega⟩
  rw[A,aaA _ _ _ _ _ (Nat.le_refl _)]
theorem JH (hs:l.Pairwise fun a b=>a.seq<b.seq):∀(k low high looked:Nat),high-low≤k→low≤high→high≤l.length→(∀q r,q<low→l[q]? = some r→r.seq<n)→(∀q r,high≤q→l[q]? = some r→n≤r.seq) →
    low≤(LG l n k low high looked).1∧(LG l n k low high looked).1≤high∧(∀q r,q<(LG l n k low high looked).1→l[q]? = some r→r.seq<n)∧(∀q r,(LG l n k low high looked).1≤q→l[q]? = some r→n≤r.seq)
  | 0,low,high,looked,h0,h1,h2,h3,h4=>by
    have:low=high:=by omega
    subst this
    exact⟨Nat.le_refl _,Nat.le_refl _,h3,h4⟩
  | k+1,low,high,looked,h0,h1,h2,h3,h4=>by
    rw[LG]
    split
    · rename_i hl
      obtain⟨x,C⟩:∃x,l[(low+high)/2]? = some x:=⟨_,List.getElem?_eq_getElem Jy⟩
      have hx':=List.getElem?_eq_some_iff.1 C
      rw[List.getD_eq_getElem?_getD,C,Option.getD_some]
      split
      · rename_i hn
        obtain⟨F,G,D,E⟩:=JH hs k low ((low+high)/2) (looked+1) Jy Jy Jy h3 (fun q r A B=>by
          rcases Nat.eq_or_lt_of_le A with rfl|A
          · rw[C]at B;cases B;exact hn
          · have hr':=List.getElem?_eq_some_iff.1 B
            have:=List.pairwise_iff_getElem.1 hs ((low+high)/2) q hx'.1 hr'.1 A
            rw[hx'.2,hr'.2]at this;omega)
        exact⟨F,by omega,D,E⟩
      · rename_i hn
        obtain⟨F,G,D,E⟩:=JH hs k ((low+high)/2+1) high (looked+1) Jy Jy Jy (fun q r A B=>by
          rcases Nat.eq_or_lt_of_le (Nat.le_of_lt_succ A)with rfl|A
          · rw[C]at B;cases B;omega
          · have hr':=List.getElem?_eq_some_iff.1 B
            have:=List.pairwise_iff_getElem.1 hs q ((low+high)/2) hr'.1 hx'.1 A
            rw[hx'.2,hr'.2]at this;omega) h4
        exact⟨by omega,G,D,E⟩
    · exact⟨Nat.le_refl _,h1,h3,fun q r A=>h4 q r Jy⟩
end
end Go.Wk
namespace Go.Wk
open Go Go.RowKit
theorem xI (f:Nat→Rec × Nat) (at_:List Nat):∀(l:List Nat) (i last:Nat) (o:List Nat),l=at_.drop i→((mV f at_ o).Pairwise fun a b=>a.seq<b.seq)→(∀r∈mV f at_ o,r.seq≤last)→(mV f at_ (kN f l i last o)).Pairwise fun a b=>a.seq<b.seq
  | [],_,_,_,_,h,_=>h
  | p :: r,i,last,o,hl,h,hm=>by
    have hp:at_[i]? = some p:=by have:=congrArg (fun q=>q[0]?) hl;simpa using this.symm
    have D:r=at_.drop (i+1):=by have:=congrArg List.tail hl;simpa using this
    unfold kN
    split
    · rename_i hc
      have C:mV f at_ (o ++ [i])=mV f at_ o ++ [(f p).1]:=by
        unfold mV;rw[List.map_append];simp[BU (f:=f) (k:=((i:Nat):Int)) Jy hp]
      refine xI f at_ r _ _ _ D ?_ ?_
      · rw[C,List.pairwise_append]
        refine⟨h,List.pairwise_singleton _ _,fun a E b B=>?_⟩
        rw[List.mem_singleton]at B;subst B
        exact Nat.lt_of_le_of_lt (hm a E) hc.2
      · intro x A
        rw[C,List.mem_append,List.mem_singleton]at A
        rcases A with A|rfl
        · exact Nat.le_of_lt (Nat.lt_of_le_of_lt (hm x A) hc.2)
        · exact Nat.le_refl _
    · exact xI f at_ r _ _ _ D h hm
theorem acO (f:Nat→Rec × Nat) (at_:List Nat):(mV f at_ (kN f at_ 0 0 [])).Pairwise fun a b=>a.seq<b.seq :=
  xI f at_ at_ 0 0 [] q List.Pairwise.nil (fun r h=>by cases h)
def soF (b:Ly):List Rec :=
  match (iC b).1 with
  | some y=>mV (qF y) (jU (y.h.n.getD 0 0) y.b (y.h.n.getD 8 0) (y.h.n.getD 11 0)).1 (kN (qF y) (jU (y.h.n.getD 0 0) y.b (y.h.n.getD 8 0) (y.h.n.getD 11 0)).1 0 0 [])
  | none=>[]
theorem WG {b:Ly} {y:fe} (h:iC b=(some y,0)):soF b=mV (qF y) (jU (y.h.n.getD 0 0) y.b (y.h.n.getD 8 0) (y.h.n.getD 11 0)).1 (kN (qF y) (jU (y.h.n.getD 0 0) y.b (y.h.n.getD 8 0) (y.h.n.getD 11 0)).1 0 0 []):=by unfold soF;rw[h]
theorem agF (b:Ly):(soF b).Pairwise fun a b=>a.seq<b.seq:=by
  unfold soF
  split
  · exact acO _ _
  exact List.Pairwise.nil
section
variable {p:Rec→Bool} {l:List Rec} {k:Int} {r:Rec} {n:Nat} {z:Int}
theorem adB:WX [] n 0 ([]:List Rec).length 0=(0,0):=rfl
end
end Go.Wk
namespace Go.Wk
open Go Go.RowKit
section
variable {m:Mk} {B:Ly} {H:cA} {l:List Ob} {es:List gH} {rs:List Rec}
end
end Go.Wk
namespace Go.Wk
open Go Go.RowKit
theorem aeR {m:Mk} {B:Ly} {H:cA} {l:List Ob} {es:List gH} {rs:List Rec} (im:xh m l es rs) (op:uW m B H l es) :
    (soF B).length=rs.length∧∀(i:Nat) (y r:Rec),(soF B)[i]? = some y→rs[i]? = some r→lS y r=true∧y.seq=r.seq∧y.ak.length≤16:=by
  have G:=im.len
  have e:soF B=(List.range es.length).map fun i=>(oq {b:=B,h:=H} (es.map gH.cC) i).1:=by
    rw[WG op.opn]
    show mV _ (jU (H.n.getD 0 0) B (H.n.getD 8 0) (H.n.getD 11 0)).1 (kN _ (jU (H.n.getD 0 0) B (H.n.getD 8 0) (H.n.getD 11 0)).1 0 0 [])=_
    rw[aaT im op]
    show mV _ (es.map gH.cC) (kN _ (es.map gH.cC) 0 0 [])=_
    rw[← QG,XL im op]
    exact List.map_congr_left fun i _=>by rw[FZ]
  refine⟨by rw[e,List.length_map,List.length_range,G],fun i y r A D=>?_⟩
  have J:=(List.getElem?_eq_some_iff.1 D).1
  obtain⟨p,C⟩:∃p,(es.map gH.cC)[i]? = some p:=⟨_,List.getElem?_eq_getElem (by rw[List.length_map];omega)⟩
  obtain⟨z,E,I,z3,_⟩:=VX im op C D
  have F:oq {b:=B,h:=H} (es.map gH.cC) i=(z,0):=(JP C).trans E
  rw[e,List.getElem?_map,List.getElem?_range Jy]at A
  simp only[Option.map_some,Option.some.injEq,F]at A
  subst A
  exact⟨I,z3,(aeD E).2⟩
theorem agB {l:List Rec} (hs:l.Pairwise fun a b=>a.seq<b.seq) {i n a b:Nat} {y:Rec} (hy:l[i]? = some y) (hn:y.seq=n) (h:WX l n 0 l.length 0=(a,b)):a=i:=by
  obtain⟨_,H,E,F⟩:=JH hs (l.length-0) 0 l.length 0 (Nat.le_refl _) (Nat.zero_le _) (Nat.le_refl _) (n:=n) (fun q r K _=>by omega) (fun q r K L=>by have:=(List.getElem?_eq_some_iff.1 L).1;omega)
  have e:(LG l n (l.length-0) 0 l.length 0).1=a:=congrArg Prod.fst h
  rw[e]at H E F
  obtain⟨J,D⟩:=List.getElem?_eq_some_iff.1 hy
  rcases Nat.lt_trichotomy a i with A|A|A
  · obtain⟨x,G⟩:∃x,l[a]? = some x:=⟨_,List.getElem?_eq_getElem Jy⟩
    obtain⟨B,C⟩:=List.getElem?_eq_some_iff.1 G
    have M:=F a x (Nat.le_refl _) G
    have I:=List.pairwise_iff_getElem.1 hs a i B J A
    rw[C,D]at I;omega
  · exact A
  have:=E i y A hy;omega
def recAt (l:List Rec) (k:Int):Rec × Bool:=if 0≤k∧k.toNat<l.length then(l.getD k.toNat r5,true)else(r5,false)
section
variable {l:List Rec} {k:Int} {r:Rec}
theorem OM (h0:0≤k) (h:l[k.toNat]? = some r):recAt l k=(r,true):=by
  have A:=(List.getElem?_eq_some_iff.1 h).1
  unfold recAt;rw[if_pos ⟨h0,A⟩,List.getD_eq_getElem?_getD,h];rfl
theorem HE (h:¬(0≤k∧k.toNat<l.length)):recAt l k=(r5,false):=by unfold recAt;rw[if_neg h]
theorem ZI {i:Nat} (h:l[i]? = some r):recAt l ((i:Nat):Int)=(r,true):=OM Jy (by simpa using h)
theorem OO {r:Rec} {t:Bool} (h:recAt l k=(r,t)):t=decide (0≤k∧k.toNat<l.length):=by
  unfold recAt at h
  split at h
  · rename_i hc;exact(congrArg Prod.snd h).symm.trans (decide_eq_true hc).symm
  rename_i hc;exact(congrArg Prod.snd h).symm.trans (decide_eq_false hc).symm
end
end Go.Wk
namespace Go.Wk
open Go Go.RowKit
def IY (P:Program) (t e:TypeId):Bool :=
  match P.underlying t with
  | some (.array n e')=>Nat.beq n 16 && decide (e'=e) && iI P e && !P.eqGuardType P.depth t
  | _=>false
section
variable {P:Program}
theorem AZ {e:TypeId} (he:iI P e=true) (hu:P.underlying e=some (.int .u8)) (d:Nat) (a b:Ly) (hl:b.length=a.length) (w:World):∀(k i:Nat),i+k=a.length →
    (Op.eqItems (d+1) e 1 (a.map b8).toArray (b.map b8).toArray (List.range' i k)).run P w = .ok (decide (a.drop i=b.drop i)) w
  | 0,i,h=>by
    rw[List.drop_eq_nil_of_le Jy,List.drop_eq_nil_of_le Jy]
    simp[Op.eqItems]
  | k+1,i,h=>by
    have e1:=mD he
    obtain⟨x,hx⟩:∃x,a[i]? = some x:=⟨_,List.getElem?_eq_getElem Jy⟩
    obtain⟨y,hy⟩:∃y,b[i]? = some y:=⟨_,List.getElem?_eq_getElem Jy⟩
    have pa:∀w,(part e (a.map b8).toArray (i*1)).run P w = .ok (b8 x) w:=fun w=>by simp[part,e1,hx]
    have pb:∀w,(part e (b.map b8).toArray (i*1)).run P w = .ok (b8 y) w:=fun w=>by simp[part,e1,hy]
    have pe:∀w,(Op.equalIn (d+1) e (b8 x) (b8 y)).run P w = .ok (decide (x=y)) w:=fun w=>by
      unfold b8
      rw[run_equalIn_int w d e _ _ _ _ hu]
      congr 1
      by_cases h:x=y
      · subst h;simp
      · have:((x.toNat:Int) == (y.toNat:Int))=false:=by
          rw[beq_eq_false_iff_ne]
          exact fun B=>h (UInt8.toNat.inj Jy)
        rw[this];simp[h]
    rw[List.range'_succ,fw hx,fw hy]
    simp only[Op.eqItems,Sem.run_bind,pa,pb,pe,Result.andThen_ok]
    by_cases h:x=y
    · subst h
      have A:=AZ he hu d a b hl w k (i+1) Jy
      rw[if_neg Oq,A];simp
    · simp[h]
theorem aiQ {t e:TypeId} (ht:IY P t e=true) (hu:P.underlying e=some (.int .u8)) {a b:Ly} (ha:a.length=16) (hb:b.length=16) (w:World):(Op.equalIn 10000 t (.agg (gC a).toArray) (.agg (gC b).toArray)).run P w = .ok (decide (a=b)) w∧P.eqGuardType P.depth t=false:=by
  unfold IY at ht
  split at ht
  · rename_i n e' hu'
    simp only[Bool.and_eq_true,Bool.not_eq_true']at ht
    obtain⟨⟨⟨C,D⟩,A⟩,E⟩:=ht
    have h1':n=16:=Nat.eq_of_beq_eq_true C
    have h2':e'=e:=dT D
    subst h1';subst h2'
    obtain⟨_,i,_,B,G,_⟩:=vl A
    have F:P.cellsOf e'=1:=by simp[Program.cellsOf,B,G]
    refine⟨?_,E⟩
    have:=AZ A hu 9998 a b Jy w 16 0 Jy
    rw[run_equalIn_array w 9999 _ _ hu' B,F,kD ha,kD hb,List.range_eq_range',this]
    rfl
  cases ht
variable {n:Nat} {A:Fr n} {D:List Deferred} {l:List (Nat × Value)} {w:World} {d:Option Tmp} {ty:TypeId} {ps:String} {af:Array Edge} {g:Option (Nat × Bool)}
theorem ae7 {x y:Operand} {t e u:TypeId} {a b:Ly} (ht:IY P t e=true) (hu:P.underlying e=some (.int .u8)) (hx:ev n l x=some (.agg (gC a).toArray)) (hy:ev n l y=some (.agg (gC b).toArray)) (ha:a.length=16) (hb:b.length=16) :
    dn P ⟨d,.binOp .eql t x y u,ty,ps,af,g⟩ (bA A D l).eval w (.bool (decide (a=b))):=by
  obtain⟨B,C⟩:=aiQ ht hu ha hb w
  have E:=run_eqGuard_agg (P:=P) w .eql t x y (gC a).toArray (gC b).toArray C
  have F:(binOp .eql t (.agg (gC a).toArray) (.agg (gC b).toArray)).run P w = .ok (.bool (decide (a=b))) w:=by rw[run_eql_struct,B];rfl
  simp[dn,execOp,cL hx,cL hy,E,F]
end
end Go.Wk
namespace Go.Proofs.YtbmmkbejcnalcaaGreat
open Go Go.Wk Go.RowKit
set_option linter.unusedVariables false
set_option linter.unusedSimpArgs false
attribute [local irreducible] wpList wpQuiet wpStill gD Code.wp Calls bodyPost
variable {w:World} {Q:Nat→Prop}
noncomputable abbrev Zp:=Tryz.prog
theorem mL:gW Zp 5 1=true:=Ym
theorem qf:iI Zp 5=true:=Ym
theorem fD:Zp.underlying 31=some (.slice 5):=Ym
theorem l7:Zp.underlying 36=some (.int .u64):=Ym
theorem u5:Zp.underlying 5=some (.int .u8):=Ym
theorem QY (uQ:Up w Q) (n:Int) (a0:(-9223372036854775808≤n∧n<9223372036854775808)) :
  Calls Zp 99 #[(.int .i64 (n:Int))] w fun en w'=>∃r0:Bool,en = .returned (.bool r0)∧Md [] w w'∧oU n=r0:=by
 have M:=Md.refl [] w;have H:=uQ;refine enter (n:=17) Tryz.func99 q q q fun B=>ns (an q (nm q (st _ (nL (a:=n) (b:=1) q q) (mv q ?_))));refine cO (t:=5) q (fun C=>?_) (fun C=>?_)
 ·(have F:=dT C);refine sk C (sk C (st _ (bE q C q) (mv q (sk q (sk q (st _ (bE q q q) (mv q (sk q (sk q (st _ (bE q q q) (ar q ?_)))))))))));exact dG (v:=(.bool true)) trivial q ⟨q,tV⟩ ⟨true,q,M,(by simp only[oU];exact decide_eq_true Jy)⟩
 (have F:=dF C);refine sg C (bg q) (sg C (nL (a:=n) (b:=2) q q) (st _ (bw q C q) (mv q ?_)));refine cO (t:=9) q (fun D=>?_) (fun D=>?_)
 ·(have G:=dT D);refine sk D (sk D (st _ (bE q D q) (mv q (sk q (sk q (st _ (bE q q q) (ar q ?_)))))));exact dG (v:=(.bool true)) trivial q ⟨q,tV⟩ ⟨true,q,M,(by simp only[oU];exact decide_eq_true Jy)⟩
 (have G:=dF D);refine sg D (bg q) (sg D (nL (a:=n) (b:=4) q q) (st _ (bw q D q) (mv q ?_)));refine cO (t:=13) q (fun A=>?_) (fun A=>?_)
 ·(have E:=dT A);refine sk A (sk A (st _ (bE q A q) (ar q ?_)));exact dG (v:=(.bool true)) trivial q ⟨q,tV⟩ ⟨true,q,M,(by simp only[oU];exact decide_eq_true Jy)⟩
 (have E:=dF A);refine sg A (bg q) (sg A (nL (a:=n) (b:=8) q q) (st _ (bw q A q) (ar q ?_)));exact dG (v:=(.bool ((decide (n=8))))) trivial q ⟨q,tV⟩ ⟨(decide (n=8)),q,M,(by simp only[oU];exact(decide_eq_decide.2 Jy))⟩
theorem nN (uQ:Up w Q) {v0:Value} {l:Ly} (h0:Ls eT w Q v0 l) (a:Int) (a1:(-9223372036854775808≤a∧a<9223372036854775808)) (n:Int) (a2:(-9223372036854775808≤n∧n<9223372036854775808)) :
  Calls Zp 87 #[v0,(.int .i64 (a:Int)),(.int .i64 (n:Int))] w fun en w'=>∃r0:Nat,∃r1:Bool,en = .returned (.tuple #[(.int .u64 r0),(.bool r1)])∧Md [] w w'∧r0<18446744073709551616∧p5 l a n=(r0,r1):=by
 have u:=h0.eM;have M:=Md.refl [] w;have p:=uQ;have Z:∀b,Q b→Q b:=fun _ h=>h;have P:∀b,Q b→b<w.heap.size→Q b:=fun _ h _=>h;refine enter (n:=59) Tryz.func87 q q q fun B=>ns (dh q (an q (aN (aN ?_))));refine Qo (fun b=>[(41,.bool b),(0,v0),(1,(.int .i64 (a:Int))),(2,(.int .i64 (n:Int))),(6,(.int .u64 ((0:Nat):Int))),(7,(.bool false))]) (fun b w'=>w=w'∧(b=true↔¬(oU n=true∧0≤a∧a+n≤l.length))) ?_ ?_
 ·refine mv q (st _ (ZC (a:=n) (b:=1) q q) (mv q ?_));refine cO (t:=12) q (fun H=>?_) (fun H=>?_)
  ·(have T:=dT H);refine sg H (bg q) (sg H (ZC (a:=n) (b:=2) q q) (st _ (bE q H q) (mv q ?_)));refine cO (t:=16) q (fun I=>?_) (fun I=>?_)
   ·(have U:=dT I);refine sg I (bg q) (sg I (ZC (a:=n) (b:=4) q q) (st _ (bE q I q) (mv q ?_)));refine cO (t:=20) q (fun J=>?_) (fun J=>?_)
    ·(have V:=dT J);refine sg J (bg q) (sg J (ZC (a:=n) (b:=8) q q) (st _ (bE q J q) (mv q ?_)));refine cO (t:=24) q (fun K=>?_) (fun K=>?_)
     ·(have W:=dT K);refine sk K (sk K (st _ (bE q K q) (mv q (sk q (sk q (sk q (sk q (st _ (bE q q q) (mv q (sk q (sk q (sk q (sk q ?_)))))))))))));refine sk q (sk q (st _ (bE q q q) (aA ?_)));refine⟨q,jn true ?_ ?_⟩
      ·exact⟨q,q,q,q,q,q,tV⟩
      ·exact⟨q,by rw[fG];simp;omega⟩
     ·(have W:=dF K);refine sg K (bg q) (sg K (pV (a:=a) (b:=0) q q) (st _ (bw q K q) (mv q ?_)));refine cO (t:=28) q (fun C=>?_) (fun C=>?_)
      ·(have E:=dT C);refine sk C (sk C (sk C (sk C (st _ (bE q C q) (mv q (sk q (sk q (sk q (sk q (sk q (sk q (st _ (bE q q q) (aA ?_)))))))))))));refine⟨q,jn true ?_ ?_⟩
       ·exact⟨q,q,q,q,q,q,tV⟩
       ·exact⟨q,by rw[fG];simp;omega⟩
      ·(have E:=dF C);refine sg C (bg q) (sg C (bg q) (sg C (iK q fD h0.dY) (sg C (uE (a:=a) (b:=((l.length:Nat):Int)) q q) (st _ (bw q C q) (mv q ?_)))));refine cO (t:=34) q (fun A=>?_) (fun A=>?_)
       ·(have F:=dT A);refine sk A (sk A (sk A (sk A (sk A (sk A (st _ (bE q A q) (aA ?_)))))));refine⟨q,jn true ?_ ?_⟩
        ·exact⟨q,q,q,q,q,q,tV⟩
        ·exact⟨q,by rw[fG];simp;omega⟩
       ·(have F:=dF A);refine sg A (bg q) (sg A (iK q fD h0.dY) (sg A (bg q) (sg A (kS (a:=((l.length:Nat):Int)) (b:=a) q q Jy) (sg A (bg q) (sg A (pV (a:=((l.length:Nat):Int)-a) (b:=n) q q) (st _ (bw q A q) ?_))))));refine cO (t:=41) q (fun D=>?_) (fun D=>?_)
        ·(have G:=dT D);refine aA ?_;refine⟨q,jn true ?_ ?_⟩
         ·exact⟨zn q D,q,q,q,q,q,tV⟩
         ·exact⟨q,by rw[fG];simp;omega⟩
        ·(have G:=dF D);refine aA ?_;refine⟨q,jn false ?_ ?_⟩
         ·exact⟨zn q D,q,q,q,q,q,tV⟩
         ·exact⟨q,by rw[fG];simp;omega⟩
    ·(have V:=dF J);refine sk J (sk J (st _ (bw q J q) (mv q (sg q (bg q) (sg q (pV (a:=a) (b:=0) q q) (st _ (bw q q q) (mv q ?_)))))));refine cO (t:=28) q (fun C=>?_) (fun C=>?_)
     ·(have E:=dT C);refine sk C (sk C (sk C (sk C (st _ (bE q C q) (mv q (sk q (sk q (sk q (sk q (sk q (sk q (st _ (bE q q q) (aA ?_)))))))))))));refine⟨q,jn true ?_ ?_⟩
      ·exact⟨q,q,q,q,q,q,tV⟩
      ·exact⟨q,by rw[fG];simp;omega⟩
     ·(have E:=dF C);refine sg C (bg q) (sg C (bg q) (sg C (iK q fD h0.dY) (sg C (uE (a:=a) (b:=((l.length:Nat):Int)) q q) (st _ (bw q C q) (mv q ?_)))));refine cO (t:=34) q (fun A=>?_) (fun A=>?_)
      ·(have F:=dT A);refine sk A (sk A (sk A (sk A (sk A (sk A (st _ (bE q A q) (aA ?_)))))));refine⟨q,jn true ?_ ?_⟩
       ·exact⟨q,q,q,q,q,q,tV⟩
       ·exact⟨q,by rw[fG];simp;omega⟩
      ·(have F:=dF A);refine sg A (bg q) (sg A (iK q fD h0.dY) (sg A (bg q) (sg A (kS (a:=((l.length:Nat):Int)) (b:=a) q q Jy) (sg A (bg q) (sg A (pV (a:=((l.length:Nat):Int)-a) (b:=n) q q) (st _ (bw q A q) ?_))))));refine cO (t:=41) q (fun D=>?_) (fun D=>?_)
       ·(have G:=dT D);refine aA ?_;refine⟨q,jn true ?_ ?_⟩
        ·exact⟨zn q D,q,q,q,q,q,tV⟩
        ·exact⟨q,by rw[fG];simp;omega⟩
       ·(have G:=dF D);refine aA ?_;refine⟨q,jn false ?_ ?_⟩
        ·exact⟨zn q D,q,q,q,q,q,tV⟩
        ·exact⟨q,by rw[fG];simp;omega⟩
   ·(have U:=dF I);refine sk I (sk I (st _ (bw q I q) (mv q (sk q (sk q (st _ (bw q q q) (mv q (sg q (bg q) (sg q (pV (a:=a) (b:=0) q q) (st _ (bw q q q) (mv q ?_)))))))))));refine cO (t:=28) q (fun C=>?_) (fun C=>?_)
    ·(have E:=dT C);refine sk C (sk C (sk C (sk C (st _ (bE q C q) (mv q (sk q (sk q (sk q (sk q (sk q (sk q (st _ (bE q q q) (aA ?_)))))))))))));refine⟨q,jn true ?_ ?_⟩
     ·exact⟨q,q,q,q,q,q,tV⟩
     ·exact⟨q,by rw[fG];simp;omega⟩
    ·(have E:=dF C);refine sg C (bg q) (sg C (bg q) (sg C (iK q fD h0.dY) (sg C (uE (a:=a) (b:=((l.length:Nat):Int)) q q) (st _ (bw q C q) (mv q ?_)))));refine cO (t:=34) q (fun A=>?_) (fun A=>?_)
     ·(have F:=dT A);refine sk A (sk A (sk A (sk A (sk A (sk A (st _ (bE q A q) (aA ?_)))))));refine⟨q,jn true ?_ ?_⟩
      ·exact⟨q,q,q,q,q,q,tV⟩
      ·exact⟨q,by rw[fG];simp;omega⟩
     ·(have F:=dF A);refine sg A (bg q) (sg A (iK q fD h0.dY) (sg A (bg q) (sg A (kS (a:=((l.length:Nat):Int)) (b:=a) q q Jy) (sg A (bg q) (sg A (pV (a:=((l.length:Nat):Int)-a) (b:=n) q q) (st _ (bw q A q) ?_))))));refine cO (t:=41) q (fun D=>?_) (fun D=>?_)
      ·(have G:=dT D);refine aA ?_;refine⟨q,jn true ?_ ?_⟩
       ·exact⟨zn q D,q,q,q,q,q,tV⟩
       ·exact⟨q,by rw[fG];simp;omega⟩
      ·(have G:=dF D);refine aA ?_;refine⟨q,jn false ?_ ?_⟩
       ·exact⟨zn q D,q,q,q,q,q,tV⟩
       ·exact⟨q,by rw[fG];simp;omega⟩
  ·(have T:=dF H);refine sk H (sk H (st _ (bw q H q) (mv q (sk q (sk q (st _ (bw q q q) (mv q (sk q (sk q (st _ (bw q q q) (mv q (sg q (bg q) (sg q (pV (a:=a) (b:=0) q q) ?_)))))))))))));refine st _ (bw q q q) (mv q ?_);refine cO (t:=28) q (fun C=>?_) (fun C=>?_)
   ·(have E:=dT C);refine sk C (sk C (sk C (sk C (st _ (bE q C q) (mv q (sk q (sk q (sk q (sk q (sk q (sk q (st _ (bE q q q) (aA ?_)))))))))))));refine⟨q,jn true ?_ ?_⟩
    ·exact⟨q,q,q,q,q,q,tV⟩
    ·exact⟨q,by rw[fG];simp;omega⟩
   ·(have E:=dF C);refine sg C (bg q) (sg C (bg q) (sg C (iK q fD h0.dY) (sg C (uE (a:=a) (b:=((l.length:Nat):Int)) q q) (st _ (bw q C q) (mv q ?_)))));refine cO (t:=34) q (fun A=>?_) (fun A=>?_)
    ·(have F:=dT A);refine sk A (sk A (sk A (sk A (sk A (sk A (st _ (bE q A q) (aA ?_)))))));refine⟨q,jn true ?_ ?_⟩
     ·exact⟨q,q,q,q,q,q,tV⟩
     ·exact⟨q,by rw[fG];simp;omega⟩
    ·(have F:=dF A);refine sg A (bg q) (sg A (iK q fD h0.dY) (sg A (bg q) (sg A (kS (a:=((l.length:Nat):Int)) (b:=a) q q Jy) (sg A (bg q) (sg A (pV (a:=((l.length:Nat):Int)-a) (b:=n) q q) (st _ (bw q A q) ?_))))));refine cO (t:=41) q (fun D=>?_) (fun D=>?_)
     ·(have G:=dT D);refine aA ?_;refine⟨q,jn true ?_ ?_⟩
      ·exact⟨zn q D,q,q,q,q,q,tV⟩
      ·exact⟨q,by rw[fG];simp;omega⟩
     ·(have G:=dF D);refine aA ?_;refine⟨q,jn false ?_ ?_⟩
      ·exact⟨zn q D,q,q,q,q,q,tV⟩
      ·exact⟨q,by rw[fG];simp;omega⟩
 ·rintro c B _ ⟨rfl,L⟩
  refine uY c (fun D=>?_) (fun D=>?_)
  ·replace L:=L.1 D;refine ai (fJ q D (ns (dh q (ar q (bf ?_)))));exact dM (vs:=[(.int .u64 ((0:Nat):Int)),(.bool false)]) trivial q ⟨q,q,tV⟩ q ⟨0,false,q,M,Jy,(zC Jy)⟩
  ·replace L:=mt L.2 (by rw[D];simp);refine ai (iF q D (bh (ai (aN ?_))));replace L:=Classical.not_not.1 L;have y:=yC L.1;refine aQ (an q (aN (nm q (st _ (kS (a:=n) (b:=1) q q Jy) (dh q (nt (bQ ?_)))))))
   refine sx (fun(v:Nat) (i:Int)=>[(8,(.int .u64 v)),(9,(.int .i64 (i:Int))),(0,v0),(1,(.int .i64 (a:Int))),(6,(.int .u64 ((0:Nat):Int))),(7,(.bool false))]) (fun(v:Nat) (i:Int) w'=>∃Q':Nat→Prop,(∀b,Q' b→Q b)∧(∀b,Q b→b<w.heap.size→Q' b)∧Up w' Q'∧Md [] w w'∧Ls eT w' Q' v0 l∧(-1≤i∧i<n)∧v=BZ ((l.drop (a+(i+1)).toNat).take (n-1-i).toNat)∧v<18446744073709551616) (fun(v:Nat) (i:Int)=>(i+1).toNat) (x0:=0) (x1:=(n-1)) ?_ ?_ ?_
   ·exact⟨q,q,q,q,q,q,tV⟩
   ·exact⟨Q,Z,P,uQ,M,h0,Jy,(by simp[show n-1-(n-1)=0 by omega,BZ]),Jy⟩
   ·clear M uQ Z P h0
    rintro v i B z ⟨g,Z,P,uQ,M,h0,e,N,f⟩;refine aN (nm q (st _ (qE (a:=i) (b:=0) q q) (nt ?_)));refine cM q (fun R=>?_) (fun R=>?_)
    ·(have X:=dT R);have j:=ug (l:=(l.drop (a+(i+1)).toNat).take (n-1-i).toNat) (k:=7) Zz;rw[← N]at j;refine bh (ai (aN (bQ (aQ (mv q (st _ (nA (a:=v) (b:=256) 18446744073709551616 q q q Jy) (m2 q q (mv q (st _ (eW (a:=a) (b:=i) q q Jy) (st _ (rz (i:=a+i) 1 q q fD mL h0.dY Jy) ?_))))))))));obtain⟨S,Y⟩:=eI (l:=l) (i:=(a+i).toNat) Jy;obtain⟨x,d,O⟩:=h0.get Y;obtain⟨rfl,_⟩:=d;have r:=UInt8.toNat_lt S;replace O:At _ v0 (((a+i).toNat)*1) [(b8 S)]:=O;refine st _ ((cV (kk:=((a+i).toNat)*1) 0 q q qf O q).to (b:=(b8 S)) q) (st _ (dN (a:=S.toNat) 18446744073709551616 q (by rw[u5];rfl) l7 q (lq (UInt8.toNat_lt _) Kq)) (st _ (fK (a:=(v*256)) (b:=S.toNat) 18446744073709551616 q q q Jy) (dh q (aA ?_))));clear O;refine ck (ai (aQ (mv q (st _ (kS (a:=i) (b:=1) q q Jy) (an q ?_)))));refine qm (x0:=((v*256)+S.toNat)) (x1:=(i-1)) Jy ⟨(er q (by rfl)),(er q Jy),q,q,q,q,tV⟩ ⟨g,Z,P,uQ,M,h0,Jy,(by rw[N];have o:=Nz (k:=(n-1-i).toNat) Y;rw[show(n-1-(i-1)).toNat=(n-1-i).toNat+1 by omega,show(a+(i-1+1)).toNat=(a+i).toNat by omega,o,show(a+i).toNat+1=(a+(i+1)).toNat by omega];omega),Jy⟩
    ·(have X:=dF R);refine dr (bW (bW (ej (ai (nm q (dh q (ar q ?_)))))));exact dM (vs:=[(.int .u64 v),(.bool true)]) trivial q ⟨q,q,tV⟩ q ⟨v,true,q,M,Zx,(by rw[p5,if_pos Jy,N,show i = -1 by omega];simp)⟩
end Go.Proofs.YtbmmkbejcnalcaaGreat
