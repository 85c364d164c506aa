/- Part 3 of what the walk of a law stands on: ImT8, ImT9, GoLP, ImT10, ImT11, ImT12, ImT13, ImT14, ImT15, ImT16, ImT17, LwP, ChQ, GuardR, VLe, VGet, VHead, VHead2, VHead3, VHead4. No statement is proved here. -/
import Derived.Test.YtllaambooilnlaaGreatCYH2
import Derived.Test.YtllaambooilnlaaGreatRows
set_option linter.unusedVariables false
set_option linter.unusedSimpArgs false
namespace Go.Wk
open Go Go.RowKit
structure EntG where
  pos:Nat
  ent:Ent
  who:List Nat
structure EntS (b:Ly) (l:List Ob) (g:EntG):Prop where
  ob:(⟨g.pos,3,64+16*g.ent.items.length⟩:Ob)∈l
  seg:seg b g.pos (64+16*g.ent.items.length)=putEntryF g.ent
theorem EntS.eff {b c:Ly} {l r:List Ob} {g:EntG} {S:Nat→Prop} (h:EntS b l g) (hO:Objs b 272 l b.length) (he:Eff S b c) (hs:∀a,S a→Mild l a) (hr:∀o∈l,o∈r):EntS c r g:=by
  have B:=(hO.mem h.ob).le
  have C:=up8_ge (64+16*g.ent.items.length)
  refine⟨hr _ h.ob,(he.seg _ _ (by simp only at B;omega) fun a A=>?_).trans h.seg⟩
  have:=(hs a A _ h.ob).2.2.2 rfl;simp only at this;omega
structure OwnC (m:Mk):Prop where
  main:∀(i:Nat) (k:Known),m.datas[i]? = some k→∀a∈k.arrays,a∉m.main
  one:∀(i j:Nat) (k k':Known) (a:Nat),m.datas[i]? = some k→m.datas[j]? = some k'→a∈k.arrays→a∈k'.arrays→i=j
structure ImgC (m:Mk) (l:List Ob) (es:List EntG) (mp:List Nat) (f:Nat→List Nat):Prop where
  stat:Stat m l
  main:Chain m.b l 176 m.main mp
  dat:∀(i:Nat) (k:Known),m.datas[i]? = some k→DatD m.b l k (f i)
  own:OwnC m
  ent:∀g∈es,EntS m.b l g
  kin:(l.filter fun o=>decide (o.kind=3)).map Ob.pos=es.map EntG.pos
theorem filter_app {l t:List Ob} (h:∀o∈t,o.kind≠3):((l ++ t).filter fun o=>decide (o.kind=3))=l.filter fun o=>decide (o.kind=3):=by
  have e:(t.filter fun o=>decide (o.kind=3))=[]:=List.filter_eq_nil_iff.2 fun o A=>by simpa using h o A
  rw[List.filter_append,e,List.append_nil]
structure DSame (ds ds':List Known):Prop where
  len:ds'.length=ds.length
  get:∀(i:Nat) (k':Known),ds'[i]? = some k'→∃k,ds[i]? = some k∧k'.pos=k.pos∧k'.text=k.text
theorem DSame.refl (ds:List Known):DSame ds ds:=⟨q,fun _ k h=>⟨k,h,q,q⟩⟩
theorem DSame.set {ds:List Known} {i:Nat} {k k':Known} (h:ds[i]? = some k) (h1:k'.pos=k.pos) (h2:k'.text=k.text):DSame ds (ds.set i k'):=by
  refine⟨by simp,fun j y A=>?_⟩
  by_cases hj:i=j
  · subst hj
    rw[List.getElem?_set_self (List.getElem?_eq_some_iff.1 h).1]at A
    cases A
    exact⟨k,h,h1,h2⟩
  rw[List.getElem?_set_ne hj]at A
  exact⟨y,A,q,q⟩
theorem DatS.congr {b:Ly} {l:List Ob} {n:Nat} {k k':Known} (h:DatS b l n k) (h1:k'.pos=k.pos) (h2:k'.text=k.text):DatS b l n k':=by
  obtain⟨A,B,C⟩:=h
  exact⟨by rw[h1,h2];exact A,by rw[h1];exact B,by rw[h1,h2];exact C⟩
theorem Stat.keep {m m':Mk} {l l':List Ob} {S:Nat→Prop} (h:Stat m l) (hO':Objs m'.b 272 l' m'.b.length) (hl:∃t,l'=l ++ t∧∀o∈t,o.kind≠1) (he:Eff S m.b m'.b) (hM:∀a,S a→Mild l a) (hc:m'.c=m.c) (hf:m'.fields=m.fields) (hn:m'.num 2=m.num 2∧m'.num 4=m.num 4) (hd:DSame m.datas m'.datas):Stat m' l':=by
  obtain⟨t,rfl,R⟩:=hl
  have I:∀o∈l,o∈l ++ t:=fun o B=>List.mem_append_left _ B
  have O:∀t,hashM m' t=hashM m t:=fun t=>by unfold hashM;rw[hc]
  refine⟨hO',by rw[hc];exact I _ h.tab4,by rw[hc];exact I _ h.tab5,hn.1.trans h.n2,by rw[hc];exact hn.2.trans h.n4,by rw[hc];exact h.slots,fun k hk=>?_,fun k hk=>?_,fun i j k F E P Q=>?_,fun o B C=>?_⟩
  · obtain⟨i,E⟩:=List.mem_iff_getElem?.1 hk
    obtain⟨J,K,C,D⟩:=hd.get i k E
    rw[O,D]
    exact((h.data J (List.mem_of_getElem? K)).eff h.objs he hM I).congr C D
  · rw[hf]at hk;rw[O]
    exact(h.fld k hk).eff h.objs he hM I
  · obtain⟨J,K,C,D⟩:=hd.get i k E
    obtain⟨T,H,L,N⟩:=hd.get j F P
    exact h.one i j J T K H (by rw[← C,← L,← D,← N];exact Q)
  rcases List.mem_append.1 B with B|B
  · obtain⟨k,hk,D⟩:=h.all o B C
    obtain⟨i,E⟩:=List.mem_iff_getElem?.1 hk
    have M:=(List.getElem?_eq_some_iff.1 E).1
    obtain⟨F,G⟩:∃F,m'.datas[i]? = some F:=⟨_,List.getElem?_eq_getElem (by rw[hd.len];exact M)⟩
    obtain⟨J,H,L,N⟩:=hd.get i F G
    rw[E]at H;cases H
    exact⟨F,List.mem_of_getElem? G,L.trans D⟩
  exact absurd C (R o B)
theorem ImgC.soft {m m':Mk} {l l':List Ob} {es:List EntG} {mp:List Nat} {f:Nat→List Nat} {i:Nat} {t:Ly} (h:ImgC m l es mp f) (d:DataIm m m' l l' i t) (hf:∀i,m.datas.length≤i→f i=[]):ImgC m' l' es mp f:=by
  have H:=d.step.mem
  have hO':=d.step.objs
  have J:=d.step.eff
  have O:∀a,Soft l' a→Mild l a:=fun a C=>(C.mild hO').mono H
  have D:=d.step.same.2.1
  have M:∀(j:Nat) (k:Known),m.datas[j]? = some k→DatD m'.b l' k (f j):=fun j k B=>(h.dat j k B).soft (h.stat.data k (List.mem_of_getElem? B)) h.stat.objs hO' J H
  have A:∀(j:Nat) (k:Known),m'.datas[j]? = some k→m.datas[j]? = some k∨(m.datas.length≤j∧k.count=0∧k.arrays=[]∧Fresh m'.b k.pos):=fun j k B=>by
    rcases d.new with e|⟨s,p,e,I,_⟩
    · rw[e]at B;exact .inl B
    · rw[e]at B
      rcases Nat.lt_or_ge j m.datas.length with F|F
      · rw[List.getElem?_append_left F]at B;exact .inl B
      · have L:=(List.getElem?_eq_some_iff.1 B).1
        simp at L
        rw[List.getElem?_append_right F,show j-m.datas.length=0 by omega]at B
        have:k={text:=t,pos:=p,slot:=s,count:=0,arrays:=[]}:=by simpa using B.symm
        subst this
        exact .inr ⟨F,q,q,I⟩
  refine⟨d.stat,?_,fun j k B=>?_,⟨fun j k B a C=>?_,fun i j k N a K B C E=>?_⟩,fun g Q=>(h.ent g Q).eff h.stat.objs J O H,?_⟩
  · rw[D];exact main_soft h.main h.stat.objs hO' J H
  · rcases A j k B with B|⟨F,P,C,I⟩
    · exact M j k B
    rw[hf j F];exact DatD.new I P C
  · rw[D]
    rcases A j k B with B|⟨_,_,G,_⟩
    · exact h.own.main j k B a C
    rw[G]at C;simp at C
  · rcases A i k K with K|⟨_,_,G,_⟩
    · rcases A j N B with B|⟨_,_,G,_⟩
      · exact h.own.one i j k N a K B C E
      rw[G]at E;simp at E
    rw[G]at C;simp at C
  obtain⟨u,e,S⟩:=d.step.sub
  rw[e,filter_app fun o R=>by have:=(S o R).1;omega]
  exact h.kin
theorem ImgC.entry {m:Mk} {l:List Ob} {es:List EntG} {mp:List Nat} {f:Nat→List Nat} (h:ImgC m l es mp f) {E:Ent} {who:List Nat} (hb:E.boot.length=16) (hn:E.items.length≤1000) :
    ImgC (m.object (putEntryF E)).2 (l ++ [⟨m.b.length,3,64+16*E.items.length⟩]) (es ++ [⟨m.b.length,E,who⟩]) mp f:=by
  have T:=putEntryF_len E hb
  have B:(m.object (putEntryF E)).2.b=m.b ++ putEntryF E:=rfl
  have S:=object_same m (putEntryF E)
  have C:∀i,i≠6→i≠7→(m.object (putEntryF E)).2.num i=m.num i:=fun i U V=>by
    simp only[Mk.object]
    rw[num_setN (by omega),num_setN (by omega)];rfl
  generalize (m.object (putEntryF E)).2=m' at *
  obtain⟨Q,H,R,L⟩:=S
  have O:up8 (64+16*E.items.length)=64+16*E.items.length:=by unfold up8;omega
  have F:(putEntryF E).length=64+16*E.items.length:=by omega
  have G:Eff (fun _=>False) m.b m'.b:=by rw[B];exact Eff.app _ _ _
  have P:∃r,putEntryF E=hdr 3 (64+16*E.items.length) ++ r:=by
    unfold putEntryF
    rw[putF_hdr (by omega)]
    rw[show 16+(nums [E.seq,E.real,E.mono] ++ E.boot ++ nums [E.xor] ++ itemsF E.items).length=64+16*E.items.length by simp[nums_len,items_len,hb];omega]
    exact⟨_,List.append_assoc _ _ _⟩
  obtain⟨r,N⟩:=P
  have hO':Objs m'.b 272 (l ++ [⟨m.b.length,3,64+16*E.items.length⟩]) m'.b.length:=by
    have:=(h.stat.objs.eff G (Nat.le_refl _) (fun _ _ _ A=>A.elim)).app (o:=⟨m.b.length,3,64+16*E.items.length⟩) q (by simp) (by simp) (by simp only;omega) (by simp only;omega) ?_
    · simp only[O]at this;rw[B,List.length_append,F];rw[B]at this;exact this
    · have K:=seg_skip (x:=m.b) (y:=putEntryF E) (p:=m.b.length) (n:=16) (Nat.le_refl _)
      rw[Nat.sub_self,hdr_of N (hdr_len _ _)]at K
      rw[B];exact K
  have J:∀o∈l,o∈l ++ [(⟨m.b.length,3,64+16*E.items.length⟩:Ob)]:=fun o M=>List.mem_append_left _ M
  refine⟨h.stat.keep hO' ⟨_,q,by simp⟩ G (fun _ A=>A.elim) Q R ⟨C 2 (by decide) (by decide),C 4 (by decide) (by decide)⟩ (by rw[H];exact DSame.refl _),?_,fun i k I=>?_,⟨by rw[H,L];exact h.own.main,by rw[H];exact h.own.one⟩,fun g D=>?_,?_⟩
  · rw[L];exact h.main.eff h.stat.objs (main_src l) (Nat.le_refl _) G J (fun _ A=>A.elim) (fun _ _ _ _ A=>A.elim)
  · rw[H]at I
    exact(h.dat i k I).eff (h.stat.data k (List.mem_of_getElem? I)) h.stat.objs G J (fun _ A=>A.elim) (fun _ _ _ _ A=>A.elim)
  · rcases List.mem_append.1 D with D|D
    · exact(h.ent g D).eff h.stat.objs G (fun _ A=>A.elim) J
    simp at D;subst D
    refine⟨by simp,?_⟩
    simp only
    rw[B,← F]
    exact seg_new _ _
  rw[List.filter_append,List.map_append,h.kin];simp
theorem linkS_at {b:Ly} {l:List Ob} {e src a:Nat} {av:List Nat} (hO:Objs b 272 l e) (h:LinkS src av a) (hob:∀k c:Nat,av[k]? = some c→(⟨c,6,24+8*roomF (k:Int)⟩:Ob)∈l) {o:Ob} (ho:o∈l) (hne:∀c∈av,c≠o.pos):a=src∨a+8≤o.pos∨o.pos+up8 o.size≤a:=by
  rcases h with h|⟨k,c,B,C,D⟩
  · exact .inl h
  right
  rcases hO.sep ho (hob k c B)with A|A|A
  · exact absurd (congrArg Ob.pos A).symm (hne c (List.mem_of_getElem? B))
  · simp only at A;omega
  rw[up8_arr]at A;simp only at A;omega
theorem linkS_mild {b:Ly} {l:List Ob} {e src a:Nat} {av:List Nat} (hO:Objs b 272 l e) (h:LinkS src av a) (hob:∀k c:Nat,av[k]? = some c→(⟨c,6,24+8*roomF (k:Int)⟩:Ob)∈l) (hs:Mild l src):Mild l a:=by
  rcases h with h|⟨k,c,A,B,C⟩
  · rw[h];exact hs
  exact mild_of hO (hob k c A) (by simp only;omega) (by rw[up8_arr];simp only;omega) (by simp) (by simp) (by simp)
end Go.Wk
namespace Go.Wk
open Go Go.RowKit
theorem mem_get {l:List Nat} {a:Nat} (h:a∈l):∃i:Nat,l[i]? = some a:=List.mem_iff_getElem?.1 h
theorem sub_of {m:Mk} {l l':List Ob} {n:Nat} (h:l'=l∨l'=l ++ [(⟨m.b.length,6,24+8*n⟩:Ob)]):∃t,l'=l ++ t∧∀o∈t,o.kind=6∧m.b.length≤o.pos:=by
  rcases h with h|h
  · exact⟨[],by simp[h],by simp⟩
  exact⟨_,h,by intro o A;simp at A;subst A;exact⟨q,Nat.le_refl _⟩⟩
theorem ImgC.link {m m':Mk} {l l':List Ob} {es:List EntG} {mp:List Nat} {f:Nat→List Nat} {x:Nat} {av:List Nat} {m1:Mk} (h:ImgC m l es mp f) (L:Linked m m1 l l' 176 m.main av mp x)
    (hb:m'.b=m1.b) (hc:m'.c=m1.c) (hd:m'.datas=m1.datas) (hf:m'.fields=m1.fields) (hm':m'.main=av) (hn:m'.num 2=m1.num 2∧m'.num 4=m1.num 4):ImgC m' l' es (mp ++ [x]) f:=by
  obtain⟨X,Y,Z,n,p,T⟩:=L.same
  obtain⟨t,M,S⟩:=sub_of L.sub
  have hO':=L.objs
  have H:∀o∈l,o∈l':=fun o D=>by rw[M];exact List.mem_append_left _ D
  have N:=L.eff
  have I:∀a,LinkS 176 av a→Mild l a:=fun a C=>(linkS_mild hO' C L.chain.ob (mild_head hO' (by decide))).mono H
  have E:∀c∈av,c∈m.main∨c=m.b.length:=fun c hc=>by
    rcases L.arr with e|e
    · rw[e]at hc;exact .inl hc
    · rw[e,List.mem_append,List.mem_singleton]at hc;exact hc
  have F:∀c∈av,∀o∈l',o.kind≠6→c≠o.pos:=fun c hc o D hk e=>by
    obtain⟨i,B⟩:=mem_get hc
    rcases hO'.sep D (L.chain.ob i c B)with G|G|G
    · subst G;exact hk q
    · have:=up8_ge o.size;have:=(hO'.mem D).size.1;simp only at G;omega
    · rw[up8_arr]at G;simp only at G;omega
  have K:m'.datas=m.datas:=hd.trans Y
  refine⟨h.stat.keep (by rw[hb];exact hO') ⟨t,M,fun o D=>by have:=(S o D).1;omega⟩ (by rw[hb];exact N) I (hc.trans X) (hf.trans Z) ⟨hn.1.trans (T 2 (by decide) (by decide) (by decide)),hn.2.trans (T 4 (by decide) (by decide) (by decide))⟩ (by rw[K];exact DSame.refl _),by rw[hb,hm'];exact L.chain,fun i k B=>?_,⟨fun i k B a C hc=>?_,by rw[K];exact h.own.one⟩,fun g U=>by rw[hb];exact(h.ent g U).eff h.stat.objs N I H,by rw[M,filter_app fun o D=>by have:=(S o D).1;omega];exact h.kin⟩
  · rw[K]at B
    have J:=h.stat.data k (List.mem_of_getElem? B)
    have d:=up8_ge (64+k.text.length)
    have V:272≤k.pos:=(h.stat.objs.mem J.ob).ge
    rw[hb]
    refine(h.dat i k B).eff J h.stat.objs N H (fun a C=>?_) (fun j y R a C=>?_)
    · rcases linkS_at hO' C L.chain.ob (H _ J.ob) (fun c hc=>F c hc _ (H _ J.ob) (by simp))with A|A|A
      · omega
      · simp only at A;omega
      simp only at A;omega
    have Q:=(h.dat i k B).chain.ob j y R
    have O:=(h.dat i k B).chain.le h.stat.objs R
    have P:∀c∈av,c≠y:=fun c hc e=>by
      subst e
      rcases E c hc with A|A
      · exact h.own.main i k B c (List.mem_of_getElem? R) A
      · omega
    rcases linkS_at hO' C L.chain.ob (H _ Q) P with A|A|A
    · omega
    · simp only at A;omega
    rw[up8_arr]at A;simp only at A;omega
  rw[K]at B;rw[hm']at hc
  rcases E a hc with A|A
  · exact h.own.main i k B a C A
  obtain⟨j,W⟩:=mem_get C
  have O:=(h.dat i k B).chain.le h.stat.objs W
  omega
theorem hard_cases {k:Known} {av:List Nat} {a:Nat} (h:Hard k av a):(k.pos+40≤a∧a+8≤k.pos+64)∨LinkS (k.pos+48) av a:=by
  rcases h with h|h|h
  · left;omega
  · left;omega
  exact .inr h
theorem ImgC.hang {m m':Mk} {l l':List Ob} {es:List EntG} {mp:List Nat} {f:Nat→List Nat} {i e:Nat} {k k':Known} (h:ImgC m l es mp f) (hi:m.datas[i]? = some k) (H:Hung m m' l l' i e k k' (f i)):ImgC m' l' es mp (fun j=>if j=i then f i ++ [e]else f j):=by
  obtain⟨s1,s3,s4,s5,s6⟩:=H.same
  obtain⟨t,u,ht⟩:=H.sub
  have J:=H.objs
  have M:∀o∈l,o∈l':=fun o N=>by rw[u];exact List.mem_append_left _ N
  have p:=H.eff
  have T:=h.stat.data k (List.mem_of_getElem? hi)
  have hu:=up8_ge (64+k.text.length)
  have Ah:272≤k.pos:=(h.stat.objs.mem T.ob).ge
  have v:DSame m.datas m'.datas:=by rw[H.dat];exact DSame.set hi H.pos.1 H.pos.2.1
  have ob':=H.more.chain.ob
  have K:∀c∈k'.arrays,c∈k.arrays∨c=m.b.length:=fun c G=>by
    rcases H.arr with e|e
    · rw[e]at G;exact .inl G
    · rw[e,List.mem_append,List.mem_singleton]at G;exact G
  have Q:∀c∈k'.arrays,∀o∈l',o.kind≠6→c≠o.pos:=fun c G o N hk e=>by
    obtain⟨i,hi⟩:=mem_get G
    rcases J.sep N (ob' i c hi)with C|C|C
    · subst C;exact hk rfl
    · have:=up8_ge o.size;have:=(J.mem N).size.1;simp only at C;omega
    · rw[up8_arr]at C;simp only at C;omega
  -- what is written stands E from another object's inside
  have E:∀o∈l',o.pos≠k.pos→(∀c∈k'.arrays,c≠o.pos)→∀a,Hard k k'.arrays a→a+8≤o.pos∨o.pos+up8 o.size≤a:=fun o N x G a F=>by
    have Ak:o.pos+up8 o.size≤k.pos∨k.pos+up8 (64+k.text.length)≤o.pos:=by
      rcases J.sep N (M _ T.ob)with C|C|C
      · exact absurd (congrArg Ob.pos C) x
      · exact .inl C
      · exact .inr C
    rcases hard_cases F with B|B
    · omega
    · rcases linkS_at J B (by rw[← H.pos.1]at *;exact ob') N G with d|d
      · omega
      · exact d
  have U:∀a,Hard k k'.arrays a→Mild l a:=fun a F=>by
    have hw:∀q,k.pos+40≤q→q+8≤k.pos+64→Mild l' q:=fun q B d=>mild_of J (M _ T.ob) (by simp only;omega) (by simp only;omega) (by simp) (by simp only;omega) (by simp)
    rcases hard_cases F with B|B
    · exact(hw a B.1 B.2).mono M
    · exact(linkS_mild J B ob' (hw _ (by omega) (by omega))).mono M
  have A:∀(j:Nat) (y:Known),m'.datas[j]? = some y→(j=i∧y=k')∨(j≠i∧m.datas[j]? = some y):=fun j y D=>by
    rw[H.dat]at D
    by_cases I:i=j
    · subst I
      rw[List.getElem?_set_self (List.getElem?_eq_some_iff.1 hi).1]at D
      exact .inl ⟨rfl,by simpa using D.symm⟩
    · rw[List.getElem?_set_ne I]at D
      exact .inr ⟨fun e=>I e.symm,D⟩
  have R:=h.stat.keep J ⟨t,u,fun o N=>by have:=(ht o N).1;omega⟩ p U s1 s3 ⟨s6 2 (by decide) (by decide) (by decide),s6 4 (by decide) (by decide) (by decide)⟩ v
  refine⟨R,?_,fun j y D=>?_,⟨fun j y D a F G=>?_,fun j S y Z a D L F P=>?_⟩,fun g hg=>(h.ent g hg).eff h.stat.objs p U M,by rw[u,filter_app fun o N=>by have:=(ht o N).1;omega];exact h.kin⟩
  · rw[s4]
    refine h.main.eff h.stat.objs (main_src l) (Nat.le_refl _) p M (fun a F=>?_) (fun j y hy a F=>?_)
    · rcases hard_cases F with B|B|⟨j,c,B,d,h3⟩
      · omega
      · omega
      have:=H.more.chain.le J B;omega
    have O:=h.main.ob j y hy
    have w:=h.main.le h.stat.objs hy
    have:=E _ (M _ O) (fun e=>by
      have:=h.stat.objs.sep O T.ob
      rcases this with C|C|C
      · cases C
      · rw[up8_arr]at C;simp only at C e;omega
      · simp only at C e;omega) (fun c G e=>by
      simp only at e;subst e
      rcases K c G with B|B
      · exact h.own.main i k hi c B (List.mem_of_getElem? hy)
      · omega) a F
    rw[up8_arr]at this
    simp only at this;omega
  · rcases A j y D with⟨rfl,rfl⟩|⟨I,D⟩
    · rw[if_pos rfl];exact H.more
    rw[if_neg I]
    have r:=h.stat.data y (List.mem_of_getElem? D)
    have Al:=up8_ge (64+y.text.length)
    have Aa:y.pos≠k.pos:=fun e=>I (h.stat.one j i y k D hi (.inl e))
    refine(h.dat j y D).eff r h.stat.objs p M (fun a F=>?_) (fun n z X a F=>?_)
    · have:=E _ (M _ r.ob) Aa (fun c G=>Q c G _ (M _ r.ob) (by simp)) a F
      simp only at this;omega
    have O:=(h.dat j y D).chain.ob n z X
    have w:=(h.dat j y D).chain.le h.stat.objs X
    have:=E _ (M _ O) (fun e=>by
      have:=h.stat.objs.sep O T.ob
      rcases this with C|C|C
      · cases C
      · rw[up8_arr]at C;simp only at C e;omega
      · simp only at C e;omega) (fun c G e=>by
      simp only at e;subst e
      rcases K c G with B|B
      · exact I (h.own.one j i y k c D hi (List.mem_of_getElem? X) B)
      · omega) a F
    rw[up8_arr]at this
    simp only at this;omega
  · rw[s4]at G
    rcases A j y D with⟨rfl,rfl⟩|⟨I,D⟩
    · rcases K a F with B|B
      · exact h.own.main j k hi a B G
      obtain⟨n,hn⟩:=mem_get G
      have:=h.main.le h.stat.objs hn;omega
    exact h.own.main j y D a F G
  have Y:∀(n:Nat) (z:Known),m.datas[n]? = some z→m.b.length∉z.arrays:=fun n z X W=>by
    obtain⟨q,hq⟩:=mem_get W
    have:=(h.dat n z X).chain.le h.stat.objs hq;omega
  rcases A j y D with⟨rfl,rfl⟩|⟨I,D⟩
  · rcases A S Z L with⟨rfl,rfl⟩|⟨V,L⟩
    · rfl
    rcases K a F with B|B
    · exact h.own.one j S k Z a hi L B P
    subst B;exact absurd P (Y S Z L)
  rcases A S Z L with⟨rfl,rfl⟩|⟨V,L⟩
  · rcases K a P with B|B
    · exact h.own.one j S y k a D hi F B
    subst B;exact absurd F (Y j y D)
  exact h.own.one j S y Z a D L F P
end Go.Wk
namespace Go.Wk
open Go
abbrev plt (p q:Pr):Prop:=Op.bytesLess (whole p.pb) (whole q.pb)=true
theorem plt_irr (p:Pr):¬plt p p:=by unfold plt;rw[bl_irr];simp
theorem plt_trans {p q r:Pr} (h:plt p q) (k:plt q r):plt p r:=bl_trans h k
theorem plt_tri {p q:Pr} (hp:right p.pb=true) (hq:right q.pb=true) (h:¬plt p q) (k:¬plt q p):p=q :=
  pb_inj.1 (whole_inj hp hq (bl_tri (by simpa [plt]using h) (by simpa [plt]using k)))
abbrev Asc (l:List Pr):Prop:=l.Pairwise plt
theorem asc_ext:∀{l m:List Pr},Asc l→Asc m→(∀p,p∈l↔p∈m)→l=m
  | [],[],_,_,_=>rfl
  | [],b :: m,_,_,h=>by have:=(h b).2 (by simp);simp at this
  | a :: l,[],_,_,h=>by have:=(h a).1 (by simp);simp at this
  | a :: l,b :: m,hl,hm,h=>by
    obtain⟨hl1,hl2⟩:=List.pairwise_cons.1 hl
    obtain⟨hm1,hm2⟩:=List.pairwise_cons.1 hm
    have e:a=b:=by
      rcases List.mem_cons.1 ((h a).1 (by simp))with e|A
      · exact e
      · rcases List.mem_cons.1 ((h b).2 (by simp))with e|C
        · exact e.symm
        · exact absurd (plt_trans (hl1 b C) (hm1 a A)) (plt_irr a)
    subst e
    congr 1
    refine asc_ext hl2 hm2 fun p=>⟨fun B=>?_,fun B=>?_⟩
    · rcases List.mem_cons.1 ((h p).1 (by simp[B]))with rfl|A
      · exact absurd (hl1 p B) (plt_irr p)
      · exact A
    · rcases List.mem_cons.1 ((h p).2 (by simp[B]))with rfl|A
      · exact absurd (hm1 p B) (plt_irr p)
      · exact A
def ins' (p:Pr):List Pr→List Pr
  | []=>[p]
  | q :: r=>if Op.bytesLess (payload q) (payload p)=true then q :: ins' p r else if q.pb=p.pb then q :: r else p :: q :: r
theorem rank_succ (t:Ly) (o:List Pr) (k:Nat):rankF t o (k+1)=rankF t o k+1:=by
  induction o generalizing k with
  | nil=>rfl
  | cons q r ih=>unfold rankF;split <;> simp[ih]
theorem rank_le (t:Ly) (o:List Pr):rankF t o 0≤o.length:=by
  induction o with
  | nil=>simp[rankF]
  | cons q r ih=>unfold rankF;split <;> simp[rank_succ,ih]
theorem shift_len:∀(n j:Nat) (o:List Pr),(shiftF n j o).length=o.length
  | 0,_,_=>rfl
  | n+1,j,o=>by unfold shiftF;rw[shift_len n];simp
theorem shift_get:∀(n j:Nat) (o:List Pr),n≤j→j<o.length→∀i,i<o.length→(shiftF n j o)[i]? = if j-n<i∧i≤j then o[i-1]? else o[i]?
  | 0,j,o,_,_,i,_=>by simp[shiftF];intro h1 h2;omega
  | n+1,j,o,hn,hj,i,hi=>by
    unfold shiftF
    have hd:o.getD (j-1) {name:=[],value:=[]}=o[j-1]:=by simp[List.getD,show j-1<o.length by omega]
    rw[shift_get n (j-1) _ (by omega) (by simp;omega) i (by simpa using hi),hd]
    by_cases h1:j-1-n<i∧i≤j-1
    · rw[if_pos h1,if_pos (by omega),List.getElem?_set_ne (by omega)]
    · rw[if_neg h1]
      by_cases h2:i=j
      · subst h2
        rw[if_pos (by omega),List.getElem?_set_self hj,List.getElem?_eq_getElem (show i-1<o.length by omega)]
      · rw[if_neg (by omega),List.getElem?_set_ne (by omega)]
theorem shift_set (o:List Pr) (k:Nat) (p d:Pr) (hk:k≤o.length):(shiftF (o.length-k) o.length (o ++ [d])).set k p=o.take k ++ p :: o.drop k:=by
  apply List.ext_getElem?
  intro i
  have A:(shiftF (o.length-k) o.length (o ++ [d])).length=o.length+1:=by rw[shift_len];simp
  by_cases hi:i<o.length+1
  · by_cases h1:i=k
    · subst h1
      rw[List.getElem?_set_self (by omega),List.getElem?_append_right (by simp;omega)]
      simp[Nat.min_eq_left hk]
    rw[List.getElem?_set_ne (Ne.symm h1),shift_get _ _ _ (by omega) (by simp) i (by simp;omega)]
    by_cases h2:o.length-(o.length-k)<i∧i≤o.length
    · rw[if_pos h2,List.getElem?_append_left (by omega),List.getElem?_append_right (by simp;omega)]
      simp only[List.length_take,Nat.min_eq_left hk]
      obtain⟨m,rfl⟩:∃m,i=k+1+m:=⟨i-(k+1),by omega⟩
      rw[show k+1+m-k=m+1 by omega,List.getElem?_cons_succ,List.getElem?_drop]
      congr 1;omega
    rw[if_neg h2,List.getElem?_append_left (by omega),List.getElem?_append_left (by simp;omega),List.getElem?_take,if_pos (by omega)]
  rw[List.getElem?_eq_none (by simp[A];omega),List.getElem?_eq_none (by simp;omega)]
theorem ins_eq (p:Pr) (o:List Pr):insF p o=ins' p o:=by
  have A:∀o:List Pr,(rankF (payload p) o 0<o.length∧(o.getD (rankF (payload p) o 0) {name:=[],value:=[]}).pb=p.pb→ins' p o=o) ∧
      (¬(rankF (payload p) o 0<o.length∧(o.getD (rankF (payload p) o 0) {name:=[],value:=[]}).pb=p.pb)→ins' p o=o.take (rankF (payload p) o 0) ++ p :: o.drop (rankF (payload p) o 0)):=by
    intro o
    induction o with
    | nil=>simp[rankF,ins']
    | cons q r ih =>
      unfold rankF ins'
      by_cases h1:Op.bytesLess (payload q) (payload p)=true
      · rw[if_pos h1,if_pos h1,rank_succ]
        simp only[List.length_cons,Nat.add_lt_add_iff_right,List.getD_cons_succ,List.take_succ_cons,List.drop_succ_cons,List.cons_append,List.cons.injEq,true_and]
        exact ih
      · rw[if_neg h1,if_neg h1]
        simp only[List.length_cons,Nat.zero_lt_succ,true_and,List.getD_cons_zero,List.take_zero,List.drop_zero,List.nil_append]
        exact⟨fun h=>if_pos h,fun h=>if_neg h⟩
  unfold insF
  simp only
  split
  · rename_i h;exact((A o).1 h).symm
  rename_i h;rw[shift_set _ _ _ _ (rank_le _ _)];exact((A o).2 h).symm
theorem mem_ins {p q:Pr} {o:List Pr}:q∈ins' p o↔q=p∨q∈o:=by
  induction o with
  | nil=>simp[ins']
  | cons x r ih =>
    unfold ins'
    split
    · simp[ih];constructor
      · rintro(h|h|h) <;> simp[h]
      · rintro(h|h|h) <;> simp[h]
    · split
      · rename_i h;rw[pb_inj]at h;subst h;simp
      · simp
theorem asc_ins {p:Pr} {o:List Pr} (hp:right p.pb=true) (ho:∀q∈o,right q.pb=true) (h:Asc o):Asc (ins' p o):=by
  induction o with
  | nil=>simp[ins']
  | cons x r ih =>
    obtain⟨C,D⟩:=List.pairwise_cons.1 h
    unfold ins'
    split
    · rename_i hx
      refine List.pairwise_cons.2 ⟨fun q A=>?_,ih (fun q A=>ho q (by simp[A])) D⟩
      rcases mem_ins.1 A with rfl|A
      · exact hx
      · exact C q A
    · rename_i hx
      split
      · exact h
      · rename_i hne
        have B:plt p x:=by
          cases hb:Op.bytesLess (whole p.pb) (whole x.pb)with
          | true=>exact hb
          | false=>exact absurd (pb_inj.2 (plt_tri (ho x (by simp)) hp hx (by simp[plt,hb]))) hne
        refine List.pairwise_cons.2 ⟨fun q A=>?_,h⟩
        rcases List.mem_cons.1 A with rfl|A
        · exact B
        · exact plt_trans B (C q A)
theorem goL_all:∀(l o x:List Pr),goL l o=(x,0)→(∀q∈o,right q.pb=true)→Asc o→Asc x∧(∀q∈x,right q.pb=true)∧(∀q,q∈x↔q∈o∨q∈l)∧x.length≤16
  | [],o,x,h,hr,ha=>by
    unfold goL at h
    split at h
    · simp at h
    · rename_i hl
      obtain⟨rfl,_⟩:=Prod.mk.inj h
      exact⟨ha,hr,by simp,by omega⟩
  | p :: r,o,x,h,hr,ha=>by
    unfold goL at h
    split at h
    · rename_i h1;exact absurd (Prod.mk.inj h).2 h1
    · rename_i h1
      have hp:right p.pb=true:=joinF_right.1 (Classical.not_not.1 h1)
      rw[ins_eq]at h
      obtain⟨g1,g2,g3,g4⟩:=goL_all r _ x h (fun q hq=>by
        rcases mem_ins.1 hq with rfl|hq
        · exact hp
        · exact hr q hq) (asc_ins hp hr ha)
      refine⟨g1,g2,fun q=>?_,g4⟩
      rw[g3,mem_ins,List.mem_cons]
      constructor
      · rintro((h|h)|h)
        · exact .inr (.inl h)
        · exact .inl h
        · exact .inr (.inr h)
      · rintro(h|h|h)
        · exact .inl (.inr h)
        · exact .inl (.inl h)
        · exact .inr h
theorem listF_all {l x:List Pr} (h:listF l=(x,0)):Asc x∧(∀q∈x,right q.pb=true)∧(∀q,q∈x↔q∈l)∧x.length≤16∧x≠[]:=by
  unfold listF at h
  split at h
  · simp at h
  rename_i h0
  obtain⟨B,C,A,D⟩:=goL_all l [] x h (by simp) List.Pairwise.nil
  refine⟨B,C,by simpa using A,D,?_⟩
  rintro rfl
  cases l with
  | nil=>simp at h0
  | cons y r=>exact absurd ((A y).2 (by simp)) (by simp)
end Go.Wk
namespace Go.Wk
open Go Go.RowKit
def textAt (ds:List Known) (i:Nat):List UInt8:=(ds.getD i known0).text
def DExt (ds ds':List Known):Prop:=∀(i:Nat) (k:Known),ds[i]? = some k→∃k',ds'[i]? = some k'∧k'.pos=k.pos∧k'.text=k.text
theorem DExt.refl (ds:List Known):DExt ds ds:=fun _ k h=>⟨k,h,q,q⟩
theorem DExt.trans {a b c:List Known} (h:DExt a b) (k:DExt b c):DExt a c:=fun i x hx=>by
  obtain⟨y,h1,h2,h3⟩:=h i x hx
  obtain⟨z,h4,h5,h6⟩:=k i y h1
  exact⟨z,h4,h5.trans h2,h6.trans h3⟩
theorem DSame.ext {a b:List Known} (h:DSame a b):DExt a b:=fun i k hk=>by
  have hl:=(List.getElem?_eq_some_iff.1 hk).1
  obtain⟨k',hk'⟩:∃k',b[i]? = some k':=⟨_,List.getElem?_eq_getElem (by rw[h.len];exact hl)⟩
  obtain⟨k0,h1,h2,h3⟩:=h.get i k' hk'
  rw[hk]at h1;cases h1
  exact⟨k',hk',h2,h3⟩
theorem DExt.at {a b:List Known} (h:DExt a b) {i:Nat} (hi:i<a.length):i<b.length∧posAt b i=posAt a i∧textAt b i=textAt a i:=by
  obtain⟨D,A,B,C⟩:=h i _ (List.getElem?_eq_getElem hi)
  refine⟨(List.getElem?_eq_some_iff.1 A).1,?_,?_⟩
  · unfold posAt;simp only[List.getD_eq_getElem?_getD,A,List.getElem?_eq_getElem hi,Option.getD_some];exact B
  unfold textAt;simp only[List.getD_eq_getElem?_getD,A,List.getElem?_eq_getElem hi,Option.getD_some];exact C
theorem DataIm.ext {m m':Mk} {l l':List Ob} {i:Nat} {t:Ly} (d:DataIm m m' l l' i t):DExt m.datas m'.datas:=by
  rcases d.new with e|⟨s,p,e,_⟩
  · rw[e];exact DExt.refl _
  rw[e];exact fun j k A=>⟨k,by rw[List.getElem?_append_left (List.getElem?_eq_some_iff.1 A).1];exact A,q,q⟩
theorem textAt_get {ds:List Known} {i:Nat} {k:Known} (h:ds[i]? = some k):textAt ds i=k.text∧posAt ds i=k.pos:=by
  unfold textAt posAt
  simp only[List.getD_eq_getElem?_getD,h,Option.getD_some,and_self]
theorem backF_spec (ds:List Known) (p:Nat) (od:List Nat):∀n,n≤od.length→(∀j,backF ds p od n≤j→j<n→p<posAt ds (od.getD j 0))∧(0<backF ds p od n→posAt ds (od.getD (backF ds p od n-1) 0)≤p)
  | 0,_=>⟨fun j h1 h2=>by omega,fun h=>by simp[backF]at h⟩
  | n+1,hn=>by
    rw[backF]
    split
    · rename_i hp
      obtain⟨g1,g2⟩:=backF_spec ds p od n (by omega)
      refine⟨fun j h1 h2=>?_,g2⟩
      by_cases hj:j=n
      · subst hj;exact hp
      · exact g1 j h1 (by omega)
    · rename_i hp
      exact⟨fun j h1 h2=>by omega,fun _=>by simp only[Nat.add_sub_cancel];omega⟩
theorem pairwise_split {α:Type} {R:α→α→Prop} {l:List α} {n:Nat} {x:α} (h:l.Pairwise R) (h1:∀y∈l.take n,R y x) (h2:∀y∈l.drop n,R x y):(l.take n ++ [x] ++ l.drop n).Pairwise R:=by
  rw[List.append_assoc,List.singleton_append]
  refine List.pairwise_append.2 ⟨h.take,List.pairwise_cons.2 ⟨h2,h.drop⟩,fun a C b A=>?_⟩
  rcases List.mem_cons.1 A with rfl|A
  · exact h1 a C
  have B:=h
  rw[← List.take_append_drop n l]at B
  exact(List.pairwise_append.1 B).2.2 a C b A
theorem place_sorted {ds:List Known} {k:Nat} {od:List Nat} (h:od.Pairwise fun a b=>posAt ds a<posAt ds b) (hk:∀i∈od,posAt ds i≠posAt ds k):(placeF ds k od).Pairwise fun a b=>posAt ds a<posAt ds b:=by
  obtain⟨E,F⟩:=backF_spec ds (posAt ds k) od od.length (Nat.le_refl _)
  have I:=backF_le ds (posAt ds k) od od.length
  unfold placeF
  simp only
  generalize backF ds (posAt ds k) od od.length=n at *
  refine pairwise_split h (fun y D=>?_) (fun y D=>?_)
  · obtain⟨i,B⟩:=List.mem_iff_getElem?.1 D
    rw[List.getElem?_take]at B
    split at B
    · rename_i hin
      have G:=hk y (List.mem_of_getElem? B)
      have C:=(List.getElem?_eq_some_iff.1 B).1
      have J:=F (by omega)
      have A:od[n-1]? = some (od.getD (n-1) 0):=by simp[List.getD,List.getElem?_eq_getElem (show n-1<od.length by omega)]
      have:posAt ds y≤posAt ds (od.getD (n-1) 0):=by
        by_cases he:i=n-1
        · subst he;rw[B]at A;have:=Option.some.inj A;rw[← this];exact Nat.le_refl _
        · have H:=List.pairwise_iff_getElem.1 h i (n-1) C (by omega) (by omega)
          rw[List.getElem?_eq_getElem C]at B
          rw[List.getElem?_eq_getElem (show n-1<od.length by omega)]at A
          rw[Option.some.inj B,Option.some.inj A]at H
          omega
      omega
    cases B
  obtain⟨i,B⟩:=List.mem_iff_getElem?.1 D
  rw[List.getElem?_drop]at B
  have C:=(List.getElem?_eq_some_iff.1 B).1
  have:=E (n+i) (by omega) C
  rw[List.getD_eq_getElem?_getD,B]at this
  exact this
theorem place_perm (ds:List Known) (k:Nat) (od:List Nat):(placeF ds k od).Perm (k :: od):=by
  unfold placeF
  simp only
  generalize backF ds (posAt ds k) od od.length=n
  rw[List.append_assoc,List.singleton_append]
  have:=List.perm_middle (a:=k) (l₁:=od.take n) (l₂:=od.drop n)
  rw[List.take_append_drop]at this
  exact this
structure Whos (m:Mk) (dl:List Pr) (ps:List (List UInt8)) (od:List Nat):Prop where
  eq:ps=dl.map payload
  lt:∀i∈od,i<m.datas.length
  perm:(od.map (textAt m.datas)).Perm ps
  asc:od.Pairwise fun a b=>posAt m.datas a<posAt m.datas b
theorem payload_inj {p q:Pr} (hp:right p.pb=true) (hq:right q.pb=true) (h:payload p=payload q):p=q:=by
  have A:=(split_whole ((joinC_right _).2 hp)).2
  have B:=(split_whole ((joinC_right _).2 hq)).2
  have C:whole p.pb=whole q.pb:=h
  rw[C,B]at A
  exact(pb_inj.1 A).symm
theorem whos_step {m m':Mk} {l l':List Ob} {dl:List Pr} {ps:List (List UInt8)} {od:List Nat} {i:Nat} {x:Pr} (h:Whos m dl ps od) (hs:Stat m l) (d:DataIm m m' l l' i (payload x)) (hn:payload x∉dl.map payload) :
    Whos m' (dl ++ [x]) (ps ++ [(m'.datas.getD i known0).text]) (placeF m'.datas i od):=by
  have C:=d.ext
  obtain⟨k,hk,E⟩:=d.got
  obtain⟨F,L⟩:=textAt_get hk
  have J:=(List.getElem?_eq_some_iff.1 hk).1
  have G:(m'.datas.getD i known0).text=payload x:=F.trans E
  have A:od.map (textAt m'.datas)=od.map (textAt m.datas):=List.map_congr_left fun j B=>(C.at (h.lt j B)).2.2
  have D:i∉od:=fun K=>by
    have H:textAt m'.datas i∈od.map (textAt m'.datas):=List.mem_map.2 ⟨i,K,q⟩
    rw[A]at H
    have:=h.perm.subset H
    rw[h.eq,F,E]at this
    exact hn this
  refine⟨by rw[G,h.eq];simp,fun j B=>?_,?_,?_⟩
  · rcases place_mem B with rfl|B
    · exact J
    exact(C.at (h.lt j B)).1
  · refine((place_perm m'.datas i od).map _).trans ?_
    rw[List.map_cons,A,F,E,G]
    exact(List.Perm.cons _ h.perm).trans (List.perm_append_comm (l₁:=[payload x]))
  refine place_sorted ?_ fun j B e=>?_
  · refine List.Pairwise.imp_of_mem (fun {a b} ha hb hab=>?_) h.asc
    rw[(C.at (h.lt a ha)).2.1,(C.at (h.lt b hb)).2.1];exact hab
  obtain⟨y,I⟩:∃y,m'.datas[j]? = some y:=⟨_,List.getElem?_eq_getElem (C.at (h.lt j B)).1⟩
  rw[(textAt_get I).2,L]at e
  have:=d.stat.one j i y k I hk (.inl e)
  subst this;exact D B
structure DatasIm (m m':Mk) (l l':List Ob) (es:List EntG) (mp:List Nat) (f:Nat→List Nat):Prop where
  img:ImgC m' l' es mp f
  ext:DExt m.datas m'.datas
  same:m'.c=m.c∧m'.main=m.main∧∀i,i≠6→i≠7→i<15→m'.num i=m.num i
  len:m.datas.length≤m'.datas.length
theorem datasL_im:∀(fs dl:List Pr) (m:Mk) (l:List Ob) (ps:List (List UInt8)) (od:List Nat) (es:List EntG) (mp:List Nat) (f:Nat→List Nat),ImgC m l es mp f→(∀i,m.datas.length≤i→f i=[])→Whos m dl ps od→(∀q∈fs,BD q)→((dl ++ fs).map payload).Nodup →
    ∃l',DatasIm m (datasL fs m ps od).2.2 l l' es mp f∧Whos (datasL fs m ps od).2.2 (dl ++ fs) (datasL fs m ps od).1 (datasL fs m ps od).2.1
  | [],dl,m,l,ps,od,es,mp,f,h,hf,hw,_,_=>⟨l,⟨h,DExt.refl _,⟨rfl,rfl,fun _ _ _ _=>rfl⟩,Nat.le_refl _⟩,by rw[List.append_nil];exact hw⟩
  | x :: r,dl,m,l,ps,od,es,mp,f,h,hf,hw,hb,hnd=>by
    obtain⟨l1,d⟩:=data_im h.stat x (hb x (by simp))
    have hx:payload x∉dl.map payload:=fun hm=>by
      rw[List.map_append,List.map_cons]at hnd
      exact(List.nodup_append.1 hnd).2.2 _ hm _ (by simp) rfl
    have g:=h.soft d hf
    have w:=whos_step hw h.stat d hx
    have hle:m.datas.length≤(m.data x).2.datas.length:=by
      rcases d.new with e|⟨s,p,e,_⟩ <;> rw[e] <;> simp
    obtain⟨l',A,E⟩:=datasL_im r (dl ++ [x]) (m.data x).2 l1 _ _ es mp f g (fun i G=>hf i (by omega)) w (fun q F=>hb q (by simp[F])) (by rw[List.append_assoc];exact hnd)
    rw[List.append_assoc]at E
    refine⟨l',⟨A.img,d.ext.trans A.ext,⟨A.same.1.trans d.step.same.1,A.same.2.1.trans d.step.same.2.1,fun i B C D=>(A.same.2.2 i B C D).trans (d.step.same.2.2 i B C D)⟩,ly hle A.len⟩,E⟩
end Go.Wk
namespace Go.Wk
open Go Go.RowKit
theorem xorF_perm:∀{a b:List (List UInt8)},a.Perm b→∀v,xorF v a=xorF v b:=by
  intro a b h
  induction h with
  | nil=>exact fun _=>rfl
  | cons x _ ih=>exact fun v=>ih _
  | swap x y l=>intro v;simp only[xorF];congr 1;rw[Nat.xor_assoc,Nat.xor_assoc,Nat.xor_comm (lookN y)]
  | trans _ _ ih1 ih2=>exact fun v=>(ih1 v).trans (ih2 v)
theorem xorF_lt:∀(l:List (List UInt8)) (v:Nat),v<18446744073709551616→xorF v l<18446744073709551616
  | [],_,h=>h
  | x :: r,v,h=>xorF_lt r _ (xor64_lt h (lookN_lt x))
structure HangsIm (m m':Mk) (l':List Ob) (es:List EntG) (mp:List Nat) (f:Nat→List Nat) (e n:Nat) (od:List Nat):Prop where
  img:ImgC m' l' es mp (fun j=>if j∈od then f j ++ [e]else f j)
  ds:DSame m.datas m'.datas
  same:m'.c=m.c∧m'.fields=m.fields∧m'.main=m.main∧m'.depth=m.depth∧∀i,i≠6→i≠7→i≠18→m'.num i=m.num i
  top:m'.b.length≤m.b.length+2100*n
  ge:m.b.length≤m'.b.length
theorem DSame.trans {a b c:List Known} (h:DSame a b) (k:DSame b c):DSame a c:=⟨k.len.trans h.len,fun i x hx=>by
  obtain⟨y,h1,h2,h3⟩:=k.get i x hx
  obtain⟨z,h4,h5,h6⟩:=h.get i y h1
  exact⟨z,h4,h2.trans h5,h3.trans h6⟩⟩
theorem hangE_im {es:List EntG} {mp:List Nat} {e:Nat} (he:e<18446744073709551616):∀(od:List Nat) (m:Mk) (l:List Ob) (f:Nat→List Nat),ImgC m l es mp f→(∀i∈od,i<m.datas.length)→od.Nodup→(∀i∈od,(f i).length<900000)→m.b.length+2100*od.length<900000 →
    ∃l',HangsIm m (hangE e od m) l' es mp f e od.length od
  | [],m,l,f,h,_,_,_,_=>⟨l,⟨by simp only[List.not_mem_nil,if_false];exact h,DSame.refl _,⟨q,q,q,q,fun _ _ _ _=>rfl⟩,Nat.le_refl _,Nat.le_refl _⟩⟩
  | i :: r,m,l,f,h,hi,hn,hl,hb=>by
    obtain⟨k,hk⟩:∃k,m.datas[i]? = some k:=⟨_,List.getElem?_eq_getElem (hi i (by simp))⟩
    simp only[List.length_cons]at hb
    obtain⟨l1,k1,H⟩:=hang_one (e:=e) h.stat.objs hk (h.stat.data k (List.mem_of_getElem? hk)) (h.dat i k hk) (by omega) he (by have:=hl i (by simp);omega)
    have g:=h.hang hk H
    have hd1:DSame m.datas (hang1 e i m).datas:=by rw[H.dat];exact DSame.set hk H.pos.1 H.pos.2.1
    have T:=H.top
    obtain⟨J,K,L,M,N⟩:=H.same
    rw[hangE_cons]
    rw[List.nodup_cons]at hn
    have I:∀j∈r,(if j=i then f i ++ [e]else f j)=f j:=fun j A=>if_neg (by rintro rfl;exact hn.1 A)
    obtain⟨l',B⟩:=hangE_im he r (hang1 e i m) l1 _ g (fun j A=>by rw[hd1.len];exact hi j (by simp[A])) hn.2 (fun j A=>by simp only[I j A];exact hl j (by simp[A])) (by omega)
    obtain⟨O,P,Q,R,S⟩:=B.same
    have F:=B.top
    refine⟨l',⟨?_,hd1.trans B.ds,⟨O.trans J,P.trans K,Q.trans L,R.trans M,fun j D E C=>(S j D E C).trans (N j D E C)⟩,by simp only[List.length_cons];omega,ly H.eff.len B.ge⟩⟩
    have G:(fun j=>if j∈i :: r then f j ++ [e]else f j)=fun j=>if j∈r then(if j=i then f i ++ [e]else f j) ++ [e]else if j=i then f i ++ [e]else f j:=by
      funext j
      by_cases A:j=i
      · subst A;simp[hn.1]
      · simp[A]
    rw[G]
    exact B.img
def places (es:List EntG) (i:Nat):List Nat:=(es.filter fun g=>decide (i∈g.who)).map EntG.pos
theorem places_app (es:List EntG) (g:EntG) (i:Nat):places (es ++ [g]) i=if i∈g.who then places es i ++ [g.pos]else places es i:=by
  unfold places
  rw[List.filter_append,List.map_append]
  by_cases h:i∈g.who
  · rw[if_pos h];simp[h]
  rw[if_neg h];simp[h]
theorem places_len (es:List EntG) (i:Nat):(places es i).length≤es.length:=by unfold places;rw[List.length_map];exact List.length_filter_le _ _
structure EntW (m:Mk) (g:EntG):Prop where
  lt:∀i∈g.who,i<m.datas.length
  items:g.ent.items=g.who.map fun i=>{pos:=posAt m.datas i,hash:=hashM m (textAt m.datas i)}
  asc:g.who.Pairwise fun a b=>posAt m.datas a<posAt m.datas b
  xor:g.ent.xor=xorF 0 (g.who.map (textAt m.datas))
  ok:Ent.ok g.ent∧g.ent.seq≠0
  len:1≤g.who.length∧g.who.length≤16
structure RecG (m:Mk) (g:EntG) (r:Rec):Prop where
  seq:g.ent.seq=r.seq
  real:g.ent.real=r.real
  mono:g.ent.mono=r.mono
  boot:g.ent.boot=r.boot
  fields:(g.who.map (textAt m.datas)).Perm (r.fields.map payload)
  asc:Asc r.fields
  right:∀q∈r.fields,right q.pb=true
theorem EntW.ext {m m':Mk} {g:EntG} (h:EntW m g) (hd:DExt m.datas m'.datas) (hc:m'.c=m.c):EntW m' g:=by
  have B:∀t,hashM m' t=hashM m t:=fun t=>by unfold hashM;rw[hc]
  refine⟨fun i A=>(hd.at (h.lt i A)).1,?_,?_,?_,h.ok,h.len⟩
  · rw[h.items]
    exact List.map_congr_left fun i A=>by rw[(hd.at (h.lt i A)).2.1,(hd.at (h.lt i A)).2.2,B]
  · exact List.Pairwise.imp_of_mem (fun {a b} ha hb hab=>by rw[(hd.at (h.lt a ha)).2.1,(hd.at (h.lt b hb)).2.1];exact hab) h.asc
  rw[h.xor]
  congr 1
  exact(List.map_congr_left fun i A=>(hd.at (h.lt i A)).2.2).symm
theorem RecG.ext {m m':Mk} {g:EntG} {r:Rec} (h:RecG m g r) (w:EntW m g) (hd:DExt m.datas m'.datas):RecG m' g r:=by
  refine⟨h.seq,h.real,h.mono,h.boot,?_,h.asc,h.right⟩
  have:g.who.map (textAt m'.datas)=g.who.map (textAt m.datas):=List.map_congr_left fun i A=>(hd.at (w.lt i A)).2.2
  rw[this];exact h.fields
structure Img (m:Mk) (l:List Ob) (es:List EntG):Prop where
  c:ImgC m l es (es.map EntG.pos) (places es)
  n8:m.num 8=es.length
  n9:m.num 9<18446744073709551616
  n11:m.num 11=m.main.getD 0 0
  who:∀g∈es,EntW m g
  txt:∀k∈m.datas,∃q:Pr,right q.pb=true∧k.text=payload q
theorem places_nil {es:List EntG} {m:Mk} (h:∀g∈es,EntW m g) (i:Nat) (hi:m.datas.length≤i):places es i=[]:=by
  unfold places
  rw[List.map_eq_nil_iff,List.filter_eq_nil_iff]
  intro g A
  simp only[decide_eq_true_eq]
  intro B
  have:=(h g A).lt i B
  omega
theorem ImgC.to {m m':Mk} {l:List Ob} {es:List EntG} {mp:List Nat} {f:Nat→List Nat} (h:ImgC m l es mp f) (hb:m'.b=m.b) (hc:m'.c=m.c) (hd:m'.datas=m.datas) (hf:m'.fields=m.fields) (hm:m'.main=m.main) (hn:m'.num 2=m.num 2∧m'.num 4=m.num 4):ImgC m' l es mp f:=by
  have B:∀t,hashM m' t=hashM m t:=fun t=>by unfold hashM;rw[hc]
  obtain⟨⟨C,D,E,F,G,H,I,J,K,A⟩,L,M,⟨N,O⟩,P,Q⟩:=h
  exact⟨⟨by rw[hb];exact C,by rw[hc];exact D,by rw[hc];exact E,hn.1.trans F,by rw[hc];exact hn.2.trans G,by rw[hc];exact H,fun k hk=>by rw[hb,B];exact I k (hd ▸ hk),fun k hk=>by rw[hb,B];exact J k (hf ▸ hk),by rw[hd];exact K,by rw[hd];exact A⟩,by rw[hb,hm];exact L,by rw[hb,hd];exact M,⟨by rw[hd,hm];exact N,by rw[hd];exact O⟩,by rw[hb];exact P,Q⟩
end Go.Wk
namespace Go.Wk
open Go Go.RowKit
theorem finM_num (z:Mk) (n seq real mono e:Nat) (boot:Ly) (i:Nat) (h:i≠8∧i≠9∧i≠10∧i≠12∧i≠13∧i≠14):(finM z n seq real mono e boot).num i=z.num i:=by
  unfold finM
  simp only
  have A:(if n=0 then(z.setN 10 seq).setN 12 real else z).num i=z.num i:=by
    split
    · rw[num_setN (by omega),num_setN (by omega)]
    · rfl
  generalize (if n=0 then(z.setN 10 seq).setN 12 real else z)=y at *
  rw[← A]
  show((((y.setN 8 ((y.num 8+1)%18446744073709551616)).setN 9 seq).setN 13 real).setN 14 mono).num i=y.num i
  rw[num_setN (by omega),num_setN (by omega),num_setN (by omega),num_setN (by omega)]
theorem asc_nodup {ds:List Known} {od:List Nat} (h:od.Pairwise fun a b=>posAt ds a<posAt ds b):od.Nodup :=
  List.Pairwise.imp (fun {a b} hab e=>by subst e;exact Nat.lt_irrefl _ hab) h
theorem asc_payload {fs:List Pr} (h:Asc fs) (hr:∀q∈fs,right q.pb=true):(fs.map payload).Nodup:=by
  unfold List.Nodup
  rw[List.pairwise_map]
  exact List.Pairwise.imp_of_mem (fun {a b} ha hb hab e=>by
    have:=payload_inj (hr a ha) (hr b hb) e
    subst this;exact plt_irr _ hab) h
theorem datasL_txt:∀(fs:List Pr) (m:Mk) (ps:List (List UInt8)) (od:List Nat),∀k∈(datasL fs m ps od).2.2.datas,k∈m.datas∨∃q∈fs,k.text=payload q
  | [],m,_,_,k,hk=>.inl hk
  | x :: r,m,ps,od,k,hk=>by
    rcases datasL_txt r (m.data x).2 _ _ k hk with h|⟨q,h1,h2⟩
    · rcases data_text k h with h|h
      · exact .inl h
      · exact .inr ⟨x,by simp,h⟩
    · exact .inr ⟨q,by simp[h1],h2⟩
structure AppIm (m m':Mk) (l':List Ob) (es:List EntG) (g:EntG) (r:Rec):Prop where
  img:Img m' l' (es ++ [g])
  rcd:RecG m' g r
  ext:DExt m.datas m'.datas
  c:m'.c=m.c
  seq:r.seq=m.num 9+1∧m'.num 9=r.seq
  ge:m.b.length≤g.pos
  main:∃t,m'.main=m.main ++ t
  len:m.b.length≤m'.b.length
  num:∀i,i≤5→m'.num i=m.num i
theorem append_im {m m':Mk} {l:List Ob} {es:List EntG} {raw:List Pr} {real mono s:Nat} {boot:Ly} (h:Img m l es) (ok:MkOk m) (h20:m.h.n.length=20) (hb:boot.length=16) (hr:real<18446744073709551616∧mono<18446744073709551616) (ha:m.append raw real mono boot=(s,0,m')) :
    ∃l' g fs,listF raw=(fs,0)∧AppIm m m' l' es g {seq:=s,real:=real,mono:=mono,boot:=boot,fields:=fs}:=by
  rcases hl:listF raw with⟨fs,c⟩
  by_cases G:c≠0
  · have e:m.append raw real mono boot=(0,c,m):=by unfold Mk.append;simp only[hl];rw[if_pos G]
    rw[e]at ha
    exact absurd (congrArg (fun x=>x.2.1) ha) G
  have Ah:=Classical.not_not.1 G
  subst Ah
  by_cases v:m.num 9=18446744073709551615
  · have e:m.append raw real mono boot=(0,1,m):=by unfold Mk.append;simp only[hl];rw[if_neg G,if_pos v]
    rw[e]at ha
    have:=congrArg (fun x=>x.2.1) ha
    simp at this
  obtain⟨J,A,A6,Ap,Aq⟩:=listF_all hl
  obtain⟨bd,_⟩:=listF_bd hl
  have D:=datasL_ok fs m [] [] 0 (datas_start ok) bd
  obtain⟨l1,Q,W⟩:=datasL_im fs [] m l [] [] es (es.map EntG.pos) (places es) h.c (fun i I=>places_nil h.who i I) ⟨rfl,by simp,by simp,List.Pairwise.nil⟩ bd (by rw[List.nil_append];exact asc_payload J A)
  have nl:=nl_datasL fs m [] []
  have tx:=datasL_txt fs m [] []
  rcases hd:datasL fs m [] []with⟨ps,F,x⟩
  rw[hd,Nat.zero_add]at D
  rw[hd]at Q W nl tx
  rw[List.nil_append]at W
  simp only at D Q W nl tx
  have s1:=ok.small
  have s4:=ok.nb
  have d2:=D.app.le
  have d5:=D.len.1
  have Ac:=D.app.ge
  obtain⟨c1,c2,c3⟩:=Q.same
  have n9:x.num 9=m.num 9:=c3 9 (by decide) (by decide) (by decide)
  have n8:x.num 8=m.num 8:=c3 8 (by decide) (by decide) (by decide)
  have O:=h.n8
  have Bw:=h.n9
  have Bv:es.length≤40000:=by
    have:m.n8=es.length:=O
    omega
  have Ak:=asc_nodup W.asc
  have B:(x.num 9+1)%18446744073709551616=m.num 9+1:=by rw[n9];exact Nat.mod_eq_of_lt (by omega)
  generalize hE:({seq:=(x.num 9+1)%18446744073709551616,real:=real,mono:=mono,boot:=boot,xor:=xorF 0 ps,items:=itemsL x F}:Ent)=E
  have eE:E.seq=m.num 9+1∧E.real=real∧E.mono=mono∧E.boot=boot∧E.xor=xorF 0 ps∧E.items=itemsL x F:=by subst hE;exact⟨B,rfl,rfl,rfl,rfl,rfl⟩
  obtain⟨q1,q2,q3,q4,q5,q6⟩:=eE
  have ei:E.items.length=F.length:=by rw[q6];simp[itemsL]
  have eb:E.boot.length=16:=by rw[q4];exact hb
  have wx:EntW x ⟨x.b.length,E,F⟩:=by
    refine⟨W.lt,q6,W.asc,?_,⟨⟨?_,?_,?_,eb,?_⟩,?_⟩,?_⟩
    · simp only;rw[q5];exact xorF_perm W.perm.symm 0
    · simp only;rw[q1];omega
    · simp only;rw[q2];exact hr.1
    · simp only;rw[q3];exact hr.2
    · simp only;rw[q5];exact xorF_lt _ _ (by decide)
    · simp only;rw[q1];omega
    · simp only;rw[d5];exact⟨List.length_pos_iff.2 Aq,Ap⟩
  have rx:RecG x ⟨x.b.length,E,F⟩ {seq:=m.num 9+1,real:=real,mono:=mono,boot:=boot,fields:=fs}:=by
    refine⟨q1,q2,q3,q4,?_,J,A⟩
    simp only;rw[← W.eq];exact W.perm
  have S:=Q.img.entry (E:=E) (who:=F) eb (by omega)
  have f:=(object_spec x (putEntryF E))
  have p:=object_same x (putEntryF E)
  have o:∀i,i≠6→i≠7→(x.object (putEntryF E)).2.num i=x.num i:=fun i h6 h7=>by
    simp only[Mk.object]
    rw[num_setN (by omega),num_setN (by omega)];rfl
  have Z:=nl_object x (putEntryF E)
  have el:=putEntryF_len E eb
  rcases ho:x.object (putEntryF E)with⟨e,C⟩
  rw[ho]at S f p o Z
  simp only at S f p o Z
  have Ai:e=x.b.length:=f.1
  subst Ai
  have Ar:C.num 8=(es.map EntG.pos).length:=by rw[o 8 (by decide) (by decide),n8,O,List.length_map]
  have Bx:x.b.length<100000:=by omega
  obtain⟨l3,L⟩:=link_im (x:=x.b.length) S.stat.objs S.main (main_src _) (by have:=f.2.1;omega) (by omega)
  rw[← Ar]at L
  have d:=nl_link C C.main (C.num 8) 176 x.b.length
  rcases hk:C.link C.main (C.num 8) 176 x.b.length with⟨a,t,K⟩
  rw[hk]at L d
  simp only at L d
  have w:=append_done (real:=real) (mono:=mono) (boot:=boot) hl G v hd (by rw[hE];exact ho) hk rfl
  obtain⟨Y,U⟩:∃Y,Y=(let m4:=({K with main:=a}:Mk).setN 11 (a.getD 0 0);({m4 with h:={m4.h with tailArray:=lastN a%4294967296,tailItems:=t%4294967296}}:Mk)):=⟨_,rfl⟩
  have r:∀i,i≠11→Y.num i=K.num i:=fun i I=>by subst U;exact getD_set_ne' (by omega)
  have y:Y.num 11=a.getD 0 0:=by subst U;exact getD_set_eq' (by show 11<K.h.n.length;omega)
  have Ys:Y.b=K.b∧Y.c=K.c∧Y.datas=K.datas∧Y.fields=K.fields∧Y.main=a∧Y.h.n.length=K.h.n.length:=by subst U;exact⟨rfl,rfl,rfl,rfl,rfl,by simp[Mk.setN]⟩
  rw[← U]at w
  clear U
  obtain⟨y1,y2,y3,y4,y5,y6⟩:=Ys
  have I3:=S.link L y1 y2 y3 y4 y5 ⟨r 2 (by decide),r 4 (by decide)⟩
  obtain⟨t1,t2,t3,t4,t5,t6⟩:=L.same
  have A7:=L.top
  have M:Y.datas=x.datas:=by rw[y3,t2,p.2.1]
  have Aj:x.b.length<18446744073709551616:=by omega
  have Ba:=f.2.1
  obtain⟨l4,H⟩:=hangE_im (e:=x.b.length) Aj F Y l3 _ I3 (fun i I=>by rw[M];exact W.lt i I) Ak (fun i _=>by have:=places_len es i;omega) (by rw[y1];omega)
  have B5:=nl_hangE x.b.length F Y
  generalize hangE x.b.length F Y=z at *
  replace w:m.append raw real mono boot=if z.c.most<z.b.length then(0,15,m)else((x.num 9+1)%18446744073709551616,0,finM z (C.num 8) ((x.num 9+1)%18446744073709551616) real mono x.b.length boot):=w
  rw[w]at ha
  split at ha
  · have:=congrArg (fun x=>x.2.1) ha;simp at this
  obtain⟨k1,kz2,kz3,kz4,kz5,R2,R4,kl,kz8⟩:=finM_spec z (C.num 8) ((x.num 9+1)%18446744073709551616) real mono x.b.length boot
  have k5':=fun i (I:i≤5)=>finM_num z (C.num 8) ((x.num 9+1)%18446744073709551616) real mono x.b.length boot i (by omega)
  have Al:=finM_num z (C.num 8) ((x.num 9+1)%18446744073709551616) real mono x.b.length boot 11 (by decide)
  obtain⟨V,Af⟩:=Prod.mk.inj ha
  have Ag:=(Prod.mk.inj Af).2
  rw[B]at V
  generalize finM z (C.num 8) ((x.num 9+1)%18446744073709551616) real mono x.b.length boot=R at *
  subst Ag
  subst V
  obtain⟨z1,z2,z3,z4,z5⟩:=H.same
  have zl:z.h.n.length=20:=by omega
  have R8:=(kz8 zl).1
  have R9:=(kz8 zl).2
  have z8:z.num 8=es.length:=by rw[z5 8 (by decide) (by decide) (by decide),r 8 (by decide),t6 8 (by decide) (by decide) (by decide),o 8 (by decide) (by decide),n8,O]
  have Ad:DExt x.datas z.datas:=by have:=H.ds.ext;rw[M]at this;exact this
  have N:DExt x.datas R.datas:=by rw[kz3];exact Ad
  have cR:R.c=x.c:=by rw[kz2,z1,y2,t1,p.1]
  have T:DExt m.datas R.datas:=Q.ext.trans N
  refine⟨l4,⟨x.b.length,E,F⟩,fs,rfl,⟨⟨?_,?_,?_,?_,?_,?_⟩,rx.ext wx N,T,by rw[cR,c1],⟨rfl,by rw[R9,B]⟩,Ac,?_,?_,fun i I=>?_⟩⟩
  · have:=H.img.to (m':=R) k1 kz2 kz3 kz4 kz5 ⟨R2,R4⟩
    rw[List.map_append]
    have ef:places (es ++ [⟨x.b.length,E,F⟩])=fun j=>if j∈F then places es j ++ [x.b.length]else places es j:=funext fun j=>places_app es ⟨x.b.length,E,F⟩ j
    rw[ef]
    exact this
  · show R.n8=_
    rw[R8,show z.n8=es.length from z8,List.length_append,Nat.mod_eq_of_lt (by omega)]
    rfl
  · rw[R9,B];omega
  · rw[Al,kz5,z5 11 (by decide) (by decide) (by decide),y,z3,y5]
  · intro g P
    rcases List.mem_append.1 P with P|P
    · exact(h.who g P).ext T (by rw[cR,c1])
    simp at P;subst P
    exact wx.ext N cR
  · intro k hk
    rw[kz3]at hk
    obtain⟨i,I⟩:=List.mem_iff_getElem?.1 hk
    obtain⟨k0,h0,_,ht⟩:=H.ds.get i k I
    rw[M]at h0
    rcases tx k0 (List.mem_of_getElem? h0)with u|⟨q,u,G⟩
    · obtain⟨q,G,v⟩:=h.txt k0 u
      exact⟨q,G,ht.trans v⟩
    exact⟨q,A q u,ht.trans G⟩
  · rw[kz5,z3,y5]
    have X:C.main=m.main:=by rw[p.2.2.2,c2]
    rcases L.arr with e|e
    · exact⟨[],by rw[e,X,List.append_nil]⟩
    exact⟨_,by rw[e,X]⟩
  · rw[k1]
    have u:=L.eff.len
    have G:=H.ge
    rw[y1]at G
    omega
  rw[k5' i I,z5 i (by omega) (by omega) (by omega),r i (by omega),t6 i (by omega) (by omega) (by omega),o i (by omega) (by omega),c3 i (by omega) (by omega) (by omega)]
end Go.Wk
namespace Go.Wk
open Go Go.RowKit
def hk (m:Mk):Nat × Nat × Nat × List UInt8:=(m.h.compat,m.h.incompat,m.h.state,m.h.file)
theorem hk_h {m M:Mk} (h:M.h=m.h):hk M=hk m:=by unfold hk;rw[h]
theorem hk_hang (m:Mk) (l:List Known) (t p s:Nat):hk (m.hang l t p s).2=hk m:=by unfold hk;rw[(hang_eq m l t p s).1]
theorem hk_field (m:Mk) (x:Ly):hk (m.field x).2=hk m:=by
  unfold Mk.field
  split
  · rfl
  simp only
  have B:hk (m.object (putFieldF {hash:=hashN m.c.keyed m.c.file x,nextHash:=0,dat:=0,payload:=x})).2=hk m:=rfl
  generalize m.object (putFieldF {hash:=hashN m.c.keyed m.c.file x,nextHash:=0,dat:=0,payload:=x})=r at *
  obtain⟨p,A⟩:=r
  simp only at B ⊢
  have C:=hk_hang A A.fields (A.num 4) p (hashN m.c.keyed m.c.file x%A.c.fieldSlots)
  generalize A.hang A.fields (A.num 4) p (hashN m.c.keyed m.c.file x%A.c.fieldSlots)=r at *
  obtain⟨n,D⟩:=r
  exact C.trans B
theorem hk_data (m:Mk) (x:Pr):hk (m.data x).2=hk m:=by
  unfold Mk.data
  split
  · rfl
  simp only
  have C:hk (m.object (putDataF {hash:=hashN m.c.keyed m.c.file (payload x),nextHash:=0,nextField:=0,entry:=0,array:=0,count:=0,payload:=payload x})).2=hk m:=rfl
  generalize m.object (putDataF {hash:=hashN m.c.keyed m.c.file (payload x),nextHash:=0,nextField:=0,entry:=0,array:=0,count:=0,payload:=payload x})=r at *
  obtain⟨p,A⟩:=r
  simp only at C ⊢
  have D:=hk_hang A A.datas (A.num 2) p (hashN m.c.keyed m.c.file (payload x)%A.c.dataSlots)
  generalize A.hang A.datas (A.num 2) p (hashN m.c.keyed m.c.file (payload x)%A.c.dataSlots)=r at *
  obtain⟨n,B⟩:=r
  simp only at D ⊢
  generalize hx5:({(B.setN 19 (max (B.num 19) n)).setN 15 (((B.setN 19 (max (B.num 19) n)).num 15+1)%18446744073709551616)with datas:=((B.setN 19 (max (B.num 19) n)).setN 15 (((B.setN 19 (max (B.num 19) n)).num 15+1)%18446744073709551616)).datas ++ [({text:=payload x,pos:=p,slot:=hashN m.c.keyed m.c.file (payload x)%A.c.dataSlots,count:=0,arrays:=[]}:Known)]}:Mk)=m5
  have E:hk m5=hk B:=by subst hx5;rfl
  have F:=hk_field m5 x.name
  generalize m5.field x.name=r at *
  obtain⟨k,G⟩:=r
  exact F.trans (E.trans (D.trans C))
theorem hk_datasL:∀(l:List Pr) (m:Mk) (ps:List (List UInt8)) (od:List Nat),hk (datasL l m ps od).2.2=hk m
  | [],_,_,_=>rfl
  | x :: r,m,ps,od=>(hk_datasL r _ _ _).trans (hk_data m x)
theorem hk_link (m:Mk) (a:List Nat) (n src item:Nat):hk (m.link a n src item).2.2=hk m:=by
  unfold Mk.link
  generalize roomsL a 0 0 0=r
  obtain⟨A,C⟩:=r
  simp only
  split
  · have B:hk (m.object (putArrayF {next:=0,items:=List.replicate (roomF (a.length:Int)) 0})).2=hk m:=rfl
    generalize m.object (putArrayF {next:=0,items:=List.replicate (roomF (a.length:Int)) 0})=r at *
    obtain⟨p,D⟩:=r
    simp only at B ⊢
    split
    · exact B
    exact B
  rfl
theorem hk_hangE (e:Nat):∀(od:List Nat) (m:Mk),hk (hangE e od m)=hk m
  | [],_=>rfl
  | i :: r,m=>by
    rw[hangE_cons,hk_hangE e r]
    unfold hang1
    simp only
    split
    · exact hk_h q
    · have g:=hk_link m (m.datas.getD i known0).arrays ((m.datas.getD i known0).count-1) ((m.datas.getD i known0).pos+48) e
      generalize m.link (m.datas.getD i known0).arrays ((m.datas.getD i known0).count-1) ((m.datas.getD i known0).pos+48) e=r at *
      obtain⟨a,t,m1⟩:=r
      exact(hk_h q).trans g
theorem hk_finM (z:Mk) (n seq real mono e:Nat) (boot:Ly):hk (finM z n seq real mono e boot)=hk z:=by
  unfold finM
  simp only
  generalize hy:(if n=0 then(z.setN 10 seq).setN 12 real else z)=y
  have:hk y=hk z:=by subst hy;split <;> rfl
  exact this
theorem hk_append (m:Mk) (raw:List Pr) (real mono:Nat) (boot:Ly):hk (m.append raw real mono boot).2.2=hk m∧((m.append raw real mono boot).2.1≠0→(m.append raw real mono boot).2.2=m):=by
  rcases hl:listF raw with⟨l,c⟩
  by_cases h2:c≠0
  · have e:m.append raw real mono boot=(0,c,m):=by unfold Mk.append;simp only[hl];rw[if_pos h2]
    rw[e];exact⟨q,fun _=>rfl⟩
  by_cases h3:m.num 9=18446744073709551615
  · have e:m.append raw real mono boot=(0,1,m):=by unfold Mk.append;simp only[hl];rw[if_neg h2,if_pos h3]
    rw[e];exact⟨q,fun _=>rfl⟩
  have E:=hk_datasL l m [] []
  rcases hd:datasL l m [] []with⟨I,D,x⟩
  rw[hd]at E
  have F:hk (x.object (putEntryF {seq:=(x.num 9+1)%18446744073709551616,real:=real,mono:=mono,boot:=boot,xor:=xorF 0 I,items:=itemsL x D})).2=hk x:=rfl
  rcases ho:x.object (putEntryF {seq:=(x.num 9+1)%18446744073709551616,real:=real,mono:=mono,boot:=boot,xor:=xorF 0 I,items:=itemsL x D})with⟨e,A⟩
  rw[ho]at F
  have G:=hk_link A A.main (A.num 8) 176 e
  rcases hk3:A.link A.main (A.num 8) 176 e with⟨a,t,C⟩
  rw[hk3]at G
  simp only at E F G
  have B:m.append raw real mono boot=_:=append_done (real:=real) (mono:=mono) (boot:=boot) hl h2 h3 hd ho hk3 q
  have H:=hk_hangE e D (let m4:=({C with main:=a}:Mk).setN 11 (a.getD 0 0);{m4 with h:={m4.h with tailArray:=lastN a%4294967296,tailItems:=t%4294967296}})
  have J:hk (let m4:=({C with main:=a}:Mk).setN 11 (a.getD 0 0);({m4 with h:={m4.h with tailArray:=lastN a%4294967296,tailItems:=t%4294967296}}:Mk))=hk C:=rfl
  rw[J]at H
  generalize hangE e D (let m4:=({C with main:=a}:Mk).setN 11 (a.getD 0 0);{m4 with h:={m4.h with tailArray:=lastN a%4294967296,tailItems:=t%4294967296}})=z at B H
  replace B:m.append raw real mono boot=if z.c.most<z.b.length then(0,15,m)else((x.num 9+1)%18446744073709551616,0,finM z (A.num 8) ((x.num 9+1)%18446744073709551616) real mono e boot):=B
  rw[B]
  split
  · exact⟨q,fun _=>rfl⟩
  refine⟨?_,fun h=>absurd q h⟩
  show hk (finM _ _ _ _ _ _ _)=_
  rw[hk_finM,H,G,F,E]
theorem slots_zero (n:Nat):slotsF (List.replicate n {first:=0,tail:=0})=nums (List.replicate (2*n) 0):=by
  induction n with
  | zero=>rfl
  | succ n ih =>
    rw[List.replicate_succ,slotsF,ih,show 2*(n+1)=(2*n+1)+1 by omega,List.replicate_succ,List.replicate_succ]
    simp[nums]
theorem tabB {k:Nat} (hk:k=4∨k=5) (n:Nat):(∃r,putTableF k (List.replicate n {first:=0,tail:=0})=hdr k (16+16*n) ++ r)∧(putTableF k (List.replicate n {first:=0,tail:=0})).length=16+16*n ∧
    ∀i,i<2*n→at8 (putTableF k (List.replicate n {first:=0,tail:=0})) (16+8*i)=0:=by
  have e:putTableF k (List.replicate n {first:=0,tail:=0})=putF k (nums (List.replicate (2*n) 0) ++ []):=by
    unfold putTableF;rw[if_neg (by omega),slots_zero,List.append_nil]
  obtain⟨A,B,C,_⟩:=objB (k:=k) (by omega) (List.replicate (2*n) 0) [] (fun v E=>by rw[(List.mem_replicate.1 E).2];decide)
  rw[← e]at A B C
  simp only[List.length_replicate,List.length_nil,Nat.add_zero]at A B
  rw[show 16+8*(2*n)=16+16*n by omega]at A B
  exact⟨A,by rw[B];unfold up8;omega,fun i D=>C i 0 (by rw[List.getElem?_replicate,if_pos D])⟩
def objs0 (c:Cfg):List Ob:=[⟨272,4,16+16*c.dataSlots⟩,⟨288+16*c.dataSlots,5,16+16*c.fieldSlots⟩]
structure HeadI (m:Mk):Prop where
  hk:hk m=(2,if m.c.keyed then 4 else 0,1,m.c.file)
  n0:m.num 0=272
  n3:m.num 3=16*m.c.dataSlots
  n5:m.num 5=16*m.c.fieldSlots
theorem newMk_im {c:Cfg} {t:Nat} (h:c.dataSlots≤10∧c.fieldSlots≤10) (h1:1≤c.dataSlots∧1≤c.fieldSlots) (ht:t<1000000):Img (newMk c t) (objs0 c) []∧HeadI (newMk c t)∧(newMk c t).num 9=t:=by
  obtain⟨⟨R,H⟩,I,_⟩:=tabB (k:=4) (.inl q) c.dataSlots
  obtain⟨⟨S,J⟩,K,_⟩:=tabB (k:=5) (.inr q) c.fieldSlots
  have E:(newMk c t).b=List.replicate 272 0 ++ putTableF 4 (List.replicate c.dataSlots {first:=0,tail:=0}) ++ putTableF 5 (List.replicate c.fieldSlots {first:=0,tail:=0}):=rfl
  have A:(newMk c t).h.n=(((((((((List.replicate 20 0).set 0 272).set 2 288).set 3 (16*c.dataSlots)).set 4 ((List.replicate 272 (0:UInt8) ++ putTableF 4 (List.replicate c.dataSlots {first:=0,tail:=0})).length+16)).set 5 (16*c.fieldSlots)).set 6 ((List.replicate 272 (0:UInt8) ++ putTableF 4 (List.replicate c.dataSlots {first:=0,tail:=0})).length)).set 7 2).set 9 t):=rfl
  have D:(List.replicate 272 (0:UInt8) ++ putTableF 4 (List.replicate c.dataSlots {first:=0,tail:=0})).length=288+16*c.dataSlots:=by rw[List.length_append,List.length_replicate,I];omega
  have M:(newMk c t).b.length=304+16*c.dataSlots+16*c.fieldSlots:=by rw[E,List.length_append,D,K];omega
  rw[D]at A
  have num:∀i,(newMk c t).num i=(newMk c t).h.n.getD i 0:=fun _=>rfl
  generalize hT4:putTableF 4 (List.replicate c.dataSlots {first:=0,tail:=0})=T4 at *
  generalize hT5:putTableF 5 (List.replicate c.fieldSlots {first:=0,tail:=0})=T5 at *
  have O:seg (newMk c t).b 272 16=hdr 4 (16+16*c.dataSlots):=by
    rw[E,List.append_assoc,seg_skip (by rw[List.length_replicate];exact Nat.le_refl _),List.length_replicate,Nat.sub_self,H,List.append_assoc]
    exact seg_take _ _ (hdr_len _ _).symm
  have P:seg (newMk c t).b (288+16*c.dataSlots) 16=hdr 5 (16+16*c.fieldSlots):=by
    rw[E,seg_skip (by omega),D,Nat.sub_self,J]
    exact seg_take _ _ (hdr_len _ _).symm
  have Q:up8 (16+16*c.dataSlots)=16+16*c.dataSlots:=by unfold up8;omega
  have u5:up8 (16+16*c.fieldSlots)=16+16*c.fieldSlots:=by unfold up8;omega
  have L:Objs (newMk c t).b 272 (objs0 c) (newMk c t).b.length:=by
    refine⟨q,by simp,by simp,by simp only;omega,by simp only;omega,O,?_⟩
    simp only[Q]
    rw[show 272+(16+16*c.dataSlots)=288+16*c.dataSlots by omega]
    refine⟨q,by simp,by simp,by simp only;omega,by simp only;omega,P,?_⟩
    simp only[u5,Objs]
    rw[M];omega
  have B:(newMk c t).datas=[]:=rfl
  have N:(newMk c t).fields=[]:=rfl
  have G:(newMk c t).main=[]:=rfl
  have F:(newMk c t).c=c:=rfl
  have C:at8 (newMk c t).b 176=0:=by
    rw[E,at8_app (by rw[D];omega),at8_app (by rw[List.length_replicate];omega)]
    show leN (((List.replicate 272 0).drop 176).take 8)=0
    rw[List.drop_replicate,List.take_replicate]
    rfl
  refine⟨⟨⟨⟨L,by rw[F];simp[objs0],by rw[F];simp[objs0],by rw[num,A];rfl,by rw[num,A];simp only[F];show _+16=_;omega,by rw[F];exact h1,by rw[B];simp,by rw[N];simp,by rw[B];simp,by simp[objs0]⟩,?_,by rw[B];simp,⟨by rw[B];simp,by rw[B];simp⟩,by simp,by simp[objs0]⟩,by rw[num,A];rfl,by rw[num,A];show t<_;omega,by rw[num,A,G];rfl,by simp,by rw[B];simp⟩,⟨q,by rw[num,A];rfl,by rw[num,A];rfl,by rw[num,A];rfl⟩,by rw[num,A];rfl⟩
  rw[G]
  exact⟨C,by simp,by simp,by simp,by simp,Nat.le_refl _,Nat.le_refl _⟩
end Go.Wk
namespace Go.Wk
open Go Go.RowKit
structure MkIm (m:Mk) (l:List Ob) (es:List EntG) (rs:List Rec):Prop where
  img:Img m l es
  ok:MkOk m
  h20:m.h.n.length=20
  hd:HeadI m
  len:es.length=rs.length
  rcd:∀(i:Nat) (g:EntG) (r:Rec),es[i]? = some g→rs[i]? = some r→RecG m g r
  rise:rs.Pairwise fun a b=>a.seq<b.seq
  top:∀r∈rs,1≤r.seq∧r.seq≤m.num 9
structure MkOn (m m':Mk) (es es':List EntG) (rs rs':List Rec):Prop where
  es:∃t,es'=es ++ t
  rs:∃t,rs'=rs ++ t
  main:∃t,m'.main=m.main ++ t
  ext:DExt m.datas m'.datas
  c:m'.c=m.c
  len:m.b.length≤m'.b.length
  num:∀i,i≤5→m'.num i=m.num i
theorem MkOn.refl (m:Mk) (es:List EntG) (rs:List Rec):MkOn m m es es rs rs:=⟨⟨[],by simp⟩,⟨[],by simp⟩,⟨[],by simp⟩,DExt.refl _,q,Nat.le_refl _,fun _ _=>rfl⟩
theorem MkOn.trans {a b c:Mk} {es es' es'':List EntG} {rs rs' rs'':List Rec} (h:MkOn a b es es' rs rs') (k:MkOn b c es' es'' rs' rs''):MkOn a c es es'' rs rs'':=by
  obtain⟨H,B⟩:=h.es;obtain⟨K,E⟩:=k.es
  obtain⟨I,C⟩:=h.rs;obtain⟨L,F⟩:=k.rs
  obtain⟨J,D⟩:=h.main;obtain⟨u3,G⟩:=k.main
  exact⟨⟨H ++ K,by rw[E,B,List.append_assoc]⟩,⟨I ++ L,by rw[F,C,List.append_assoc]⟩,⟨J ++ u3,by rw[G,D,List.append_assoc]⟩,h.ext.trans k.ext,k.c.trans h.c,ly h.len k.len,fun i A=>(k.num i A).trans (h.num i A)⟩
theorem listF_self {x fs:List Pr} (h:listF x=(fs,0)) (ha:Asc x):fs=x:=by
  obtain⟨A,_,B,_⟩:=listF_all h
  exact asc_ext A ha B
theorem goL_err:∀(l o x:List Pr) (c:Nat),goL l o=(x,c)→c≠0→x=[]
  | [],o,x,c,h,hc=>by
    unfold goL at h
    split at h
    · exact(Prod.mk.inj h).1.symm
    · exact absurd (Prod.mk.inj h).2.symm hc
  | p :: r,o,x,c,h,hc=>by
    unfold goL at h
    split at h
    · exact(Prod.mk.inj h).1.symm
    · exact goL_err r _ x c h hc
theorem listF_asc (l:List Pr):Asc (listF l).1:=by
  rcases h:listF l with⟨x,c⟩
  by_cases hc:c=0
  · subst hc;exact(listF_all h).1
  unfold listF at h
  split at h
  · rw[← (Prod.mk.inj h).1];exact List.Pairwise.nil
  rw[goL_err _ _ _ _ h hc];exact List.Pairwise.nil
theorem app_get' {α:Type} {l:List α} {p a:α} {k:Nat} (h:(l ++ [p])[k]? = some a):(k<l.length∧l[k]? = some a)∨(k=l.length∧a=p):=by
  rcases Nat.lt_or_ge k l.length with hk|hk
  · rw[List.getElem?_append_left hk]at h;exact .inl ⟨hk,h⟩
  have B:=(List.getElem?_eq_some_iff.1 h).1
  simp at B
  rw[List.getElem?_append_right hk,show k-l.length=0 by omega]at h
  exact .inr ⟨by omega,by simpa using h.symm⟩
theorem step_im {m m':Mk} {l:List Ob} {es:List EntG} {rs:List Rec} {r:Rec} {s:Nat} (h:MkIm m l es rs) (hr:r.seq=(m.num 9+1)%18446744073709551616) (hb:r.boot.length=16) (hn:r.real<18446744073709551616∧r.mono<18446744073709551616) (hf:Asc r.fields) (ha:m.append r.fields r.real r.mono r.boot=(s,0,m')) :
    ∃l' es',MkIm m' l' es' (rs ++ [r])∧MkOn m m' es es' rs (rs ++ [r]):=by
  have C:=nl_append m r.fields r.real r.mono r.boot
  have ok':=append_ok (raw:=r.fields) (real:=r.real) (mono:=r.mono) h.ok hb (C.trans h.h20)
  have D:=(hk_append m r.fields r.real r.mono r.boot).1
  rw[ha]at C ok' D
  obtain⟨l',g,S,O,A⟩:=append_im h.img h.ok h.h20 hb hn ha
  have H:=listF_self O hf
  subst H
  have T:=h.img.n9
  have P:s=m.num 9+1:=A.seq.1
  have n9':m'.num 9=s:=A.seq.2
  have R:=A.img.n9
  have F:r.seq=s:=by rw[hr,P];exact Nat.mod_eq_of_lt (by omega)
  have I:({seq:=s,real:=r.real,mono:=r.mono,boot:=r.boot,fields:=r.fields}:Rec)=r:=by cases r;simp only at F;subst F;rfl
  have A':=A.rcd
  rw[I]at A'
  refine⟨l',es ++ [g],⟨A.img,ok',C.trans h.h20,⟨?_,?_,?_,?_⟩,by simp[h.len],fun i J Q N E=>?_,?_,fun y B=>?_⟩,⟨⟨_,q⟩,⟨_,q⟩,A.main,A.ext,A.c,A.len,A.num⟩⟩
  · rw[D,h.hd.hk,A.c]
  · rw[A.num 0 (by decide)];exact h.hd.n0
  · rw[A.num 3 (by decide),A.c];exact h.hd.n3
  · rw[A.num 5 (by decide),A.c];exact h.hd.n5
  · rcases app_get' N with⟨M,K⟩|⟨M,rfl⟩
    · rcases app_get' E with⟨_,G⟩|⟨G,_⟩
      · exact(h.rcd i J Q K G).ext (h.img.who J (List.mem_of_getElem? K)) A.ext
      have:=h.len;omega
    rcases app_get' E with⟨G,_⟩|⟨_,rfl⟩
    · have:=h.len;omega
    exact A'
  · refine List.pairwise_append.2 ⟨h.rise,by simp,fun y B z L=>?_⟩
    simp at L;subst L
    have:=(h.top y B).2;omega
  rw[n9']
  rcases List.mem_append.1 B with B|B
  · have:=h.top y B;omega
  simp at B;subst B;omega
theorem record_all (s:Sq) (n:Nat):(s.record n).1.seq=n∧(s.record n).1.boot.length=16∧((s.record n).1.real<18446744073709551616∧(s.record n).1.mono<18446744073709551616)∧Asc (s.record n).1.fields:=by
  refine⟨?_,record_boot s n,?_⟩
  · rcases h1:s.pairs 4 with⟨F,A⟩
    rcases h2:A.num 40 with⟨a,B⟩
    rcases h3:B.num 9 with⟨b,C⟩
    rcases h4:C.num 3 with⟨c,G⟩
    simp only[Sq.record,h1,h2,h3,h4]
  rcases h1:s.pairs 4 with⟨F,A⟩
  rcases h2:A.num 40 with⟨a,B⟩
  rcases h3:B.num 9 with⟨b,C⟩
  rcases h4:C.num 3 with⟨c,G⟩
  have D:=A.num_le 40
  have E:=B.num_le 9
  rw[h2]at D;rw[h3]at E
  simp only[Sq.record,h1,h2,h3,h4]
  simp only at D E
  exact⟨by omega,listF_asc F⟩
theorem makerL_im:∀(n:Nat) (s:Sq) (m:Mk) (l:List Ob) (es:List EntG) (rs:List Rec),MkIm m l es rs →
    ∃l' es',MkIm (makerL n s m rs).1 l' es' (makerL n s m rs).2.1∧MkOn m (makerL n s m rs).1 es es' rs (makerL n s m rs).2.1∧(makerL n s m rs).2.1.length≤rs.length+n
  | 0,s,m,l,es,rs,h=>⟨l,es,h,MkOn.refl _ _ _,Nat.le_refl _⟩
  | n+1,s,m,l,es,rs,h=>by
    unfold makerL
    split
    · have hr:=record_all s ((m.num 9+1)%18446744073709551616)
      rcases hrec:s.record ((m.num 9+1)%18446744073709551616)with⟨r,s1⟩
      rw[hrec]at hr
      have hk:=(hk_append m r.fields r.real r.mono r.boot).2
      rcases ha:m.append r.fields r.real r.mono r.boot with⟨e,c,m1⟩
      rw[ha]at hk
      simp only[ha]
      split
      · rename_i hc
        have:=hk hc
        simp only at this
        subst this
        exact⟨l,es,h,MkOn.refl _ _ _,Nat.le_add_right _ _⟩
      · rename_i hc
        have hc0:c=0:=Classical.not_not.1 hc
        subst hc0
        obtain⟨l1,es1,g1,g2⟩:=step_im h hr.1 hr.2.1 hr.2.2.1 hr.2.2.2 ha
        obtain⟨l',es',k1,kz2,kz3⟩:=makerL_im n s1 m1 l1 es1 _ g1
        exact⟨l',es',k1,g2.trans kz2,by rw[List.length_append]at kz3;simp only[List.length_singleton]at kz3;omega⟩
    · exact⟨l,es,h,MkOn.refl _ _ _,Nat.le_add_right _ _⟩
theorem maker_im {s s':Sq} {most:Nat} {m:Mk} {rs:List Rec} (h:s.maker most=(m,rs,s')):∃l es,MkIm m l es rs∧rs.length≤most:=by
  have A:=config_ok s
  rcases h1:s.config with⟨c,E⟩
  rcases h2:E.num 6 with⟨t,H⟩
  rw[h1]at A
  have B:=E.num_le 6
  rw[h2]at B
  simp only at B A
  simp only[Sq.maker,h1,h2]at h
  obtain⟨F,G,I⟩:=newMk_im (c:=c) (t:=t) A.1 A.2.1 (by omega)
  obtain⟨l,es,C,_,D⟩:=makerL_im most H (newMk c t) (objs0 c) [] [] ⟨F,newMk_ok A.1 A.2.1 A.2.2,q,G,q,by simp,List.Pairwise.nil,by simp⟩
  rw[h]at C D
  exact⟨l,es,C,by simpa using D⟩
end Go.Wk
namespace Go.Wk
open Go Go.RowKit
end Go.Wk
namespace Go.Wk
open Go Go.RowKit
theorem text_pos {m:Mk} (h:∀k∈m.datas,∃q:Pr,right q.pb=true∧k.text=payload q) {k:Known} (hk:k∈m.datas):1≤k.text.length:=by
  obtain⟨q,_,A⟩:=h k hk
  have:=payload_len q
  rw[A];omega
def datOf (m:Mk) (k:Known) (ps:List Nat):Dat:={hash:=hashM m k.text,nextHash:=at8 m.b (k.pos+24),nextField:=at8 m.b (k.pos+32),entry:=ps.getD 0 0,array:=k.arrays.getD 0 0,count:=ps.length,payload:=k.text}
theorem dat_of {m:Mk} {l:List Ob} {es:List EntG} {mp:List Nat} {f:Nat→List Nat} {i:Nat} {k:Known} (h:ImgC m l es mp f) (hk:m.datas[i]? = some k) (ht:1≤k.text.length):datAt 272 m.b k.pos=(datOf m k (f i),0):=by
  have G:=h.stat.objs
  have C:=h.stat.data k (List.mem_of_getElem? hk)
  have A:=h.dat i k hk
  have B:=G.mem C.ob
  have H:=up8_ge (64+k.text.length)
  have E:=B.ge
  have F:=B.le
  simp only at E F
  unfold datAt
  rw[if_neg (by omega)]
  have D:=obj_ob (k:=1) (n:=6) B (by decide) (by simp only;omega) q (by simp only;omega)
  simp only at D
  rw[(readDat_of D).2 (by simp) |>.2]
  rw[show k.pos+16+8*6=k.pos+64 by omega,show 64+k.text.length-(16+8*6)=k.text.length by omega,C.text]
  congr 1
  have e:numsAt m.b (k.pos+16) 6=[at8 m.b (k.pos+16),at8 m.b (k.pos+24),at8 m.b (k.pos+32),at8 m.b (k.pos+40),at8 m.b (k.pos+48),at8 m.b (k.pos+56)]:=rfl
  rw[e,C.hash,A.ent,A.chain.word,A.word]
  rfl
end Go.Wk
namespace Go.Wk
open Go Go.RowKit
structure Opened (m:Mk) (B:Ly) (H:PHead) (l:List Ob) (es:List EntG):Prop where
  len:B.length=m.b.length
  read:readF B=(H,0)
  opn:openF B=(some {b:=B,h:=H},0)
  n:∀i,i<20→i≠1→H.n.getD i 0=m.num i
  key:H.incompat=if m.c.keyed then 4 else 0
  file:H.file=m.c.file
  img:ImgC {m with b:=B} l es (es.map EntG.pos) (places es)
theorem ImgC.bytes {m:Mk} {l:List Ob} {es:List EntG} {f:Nat→List Nat} {mp:List Nat} {B:Ly} (h:ImgC m l es mp f) (hl:B.length=m.b.length) (hB:Eff (fun a=>a+8≤272) m.b B) (hw:at8 B 176=m.main.getD 0 0):ImgC {m with b:=B} l es mp f:=by
  have C:=h.stat.objs
  have H:∀a,a+8≤272→Mild l a:=fun a A=>mild_head C A
  have hO':Objs B 272 l B.length:=by
    rw[hl];exact C.eff hB (Nat.le_refl _) fun o L a A=>by have:=(C.mem L).ge;omega
  have D:∀o∈l,o∈l:=fun _ h=>h
  refine⟨h.stat.keep hO' ⟨[],by simp,by simp⟩ hB H q q ⟨q,q⟩ (DSame.refl _),?_,fun i k E=>?_,⟨h.own.main,h.own.one⟩,fun g I=>(h.ent g I).eff C hB H D,h.kin⟩
  · refine⟨hw,h.main.ob,fun k a A=>?_,fun k a j A K=>?_,h.main.asc,h.main.lo,h.main.hi⟩
    · have:=h.main.le C A
      rw[hB.at8 (by omega) fun x F=>by omega];exact h.main.next k a A
    have:=h.main.le C A
    rw[hB.at8 (by omega) fun x F=>by omega];exact h.main.item k a j A K
  have G:=h.stat.data k (List.mem_of_getElem? E)
  have J:272≤k.pos:=(C.mem G.ob).ge
  exact(h.dat i k E).eff G C hB D (fun a A=>by omega) fun j x F a A=>by
    have:=(h.dat i k E).chain.le C F;omega
structure HeadB (B:Ly) (h:RHead):Prop where
  sign:B.take 8=signF
  incompat:at4 B 12=h.incompat
  state:(B.getD 16 0).toNat=h.state
  file:(B.drop 24).take 16=h.file
  n:∀i,i<20→at8 B (88+8*i)=h.n.getD i 0
theorem at4_skip {x y:Ly} {p:Nat} (h:x.length≤p):at4 (x ++ y) p=at4 y (p-x.length):=by
  show leN (seg (x ++ y) p 4)=leN (seg y (p-x.length) 4)
  rw[seg_skip h]
theorem at4_low {v:Nat} (r:Ly) (h:v<4294967296):at4 (low v 4 ++ r) 0=v:=by
  show leN (seg (low v 4 ++ r) 0 4)=v
  rw[seg_take _ _ (by rw[low_len]),leN_low]
  exact Nat.mod_eq_of_lt h
theorem at8_sk {x y:Ly} {p k:Nat} (hk:x.length=k) (h:k≤p):at8 (x ++ y) p=at8 y (p-k):=by rw[at8_skip (by omega),hk]
theorem head_bytes (h:RHead) (depth:Nat) (r:Ly) (ok:RHead.ok h) (hs:h.state<256):HeadB (headF h depth ++ r) h:=by
  obtain⟨L,F,M,C,G,H,I,⟨N,J⟩,_⟩:=ok
  have e:headF h depth ++ r=[76,80,75,83,72,72,82,72] ++ (low h.compat 4 ++ (low h.incompat 4 ++ ([UInt8.ofNat h.state,0,0,0,0,0,0,0] ++ (h.file ++ (h.machine ++ (h.boot ++ (h.seq ++ (nums h.n ++ (nums [depth] ++ (low h.tailArray 4 ++ (low h.tailItems 4 ++ (nums [h.tailEntry] ++ r)))))))))))):=by
    unfold headF;simp only[List.append_assoc]
  rw[e]
  refine⟨q,?_,?_,?_,fun i K=>?_⟩
  · rw[at4_skip (by simp),at4_skip (by simp[low_len])]
    simp only[low_len,List.length_cons,List.length_nil]
    exact at4_low _ F
  · have A:∀y:List UInt8,([76,80,75,83,72,72,82,72] ++ (low h.compat 4 ++ (low h.incompat 4 ++ y))).getD 16 0=y.getD 0 0:=fun y=>by
      have D:(low h.compat 4).length=4:=low_len _ _
      have E:(low h.incompat 4).length=4:=low_len _ _
      simp only[List.getD_eq_getElem?_getD]
      rw[List.getElem?_append_right (by simp),List.getElem?_append_right (by simp;omega),List.getElem?_append_right (by simp;omega),D,E]
      rfl
    rw[A]
    show(UInt8.ofNat h.state).toNat=_
    rw[UInt8.toNat_ofNat',Nat.mod_eq_of_lt (by omega)]
  · show seg _ 24 16=_
    rw[seg_skip (by simp),seg_skip (by simp[low_len]),seg_skip (by simp[low_len]),seg_skip (by simp[low_len])]
    simp only[low_len,List.length_cons,List.length_nil]
    exact seg_take _ _ C.symm
  rw[at8_sk (k:=8) q (by omega),at8_sk (k:=4) (low_len _ _) (by omega),at8_sk (k:=4) (low_len _ _) (by omega),at8_sk (k:=8) q (by omega),at8_sk (k:=16) C (by omega),at8_sk (k:=16) G (by omega),at8_sk (k:=16) H (by omega),at8_sk (k:=16) I (by omega),show 88+8*i-8-4-4-8-16-16-16-16=8*i by omega]
  have hi':i<h.n.length:=by omega
  have B:h.n[i]? = some (h.n.getD i 0):=by simp[List.getD,List.getElem?_eq_getElem hi']
  exact at8_nums B (J _ (List.mem_of_getElem? B))
theorem parse_n {b:Ly} {i:Nat} (h:i<21):(parseF b).n.getD i 0=at8 b (88+8*i):=by
  show(((List.range 21).map fun q=>if q<21 then at8 b (88+8*q)else 0)).getD i 0=_
  rw[List.getD_eq_getElem?_getD,List.getElem?_map,List.getElem?_range h]
  simp[h]
theorem image_bytes {m:Mk} {l:List Ob} {es:List EntG} {rs:List Rec} {st:Nat} (h:MkIm m l es rs) (hok:RHead.ok m.h) (hst:st≤2):HeadB (imageM m st) {m.h with state:=st,n:=m.h.n.set 1 (m.b.length-272)}∧(imageM m st).length=m.b.length∧Eff (fun a=>a+8≤272) m.b (imageM m st):=by
  have G:=h.img.c.stat.objs
  have J:=h.ok.small
  have D:=G.le
  have ok':RHead.ok {m.h with state:=st,n:=m.h.n.set 1 (m.b.length-272)}:=⟨hok.1,hok.2.1,(by show st<_;omega),hok.2.2.2.1,hok.2.2.2.2.1,hok.2.2.2.2.2.1,hok.2.2.2.2.2.2.1,nums_set hok.2.2.2.2.2.2.2.1 (by omega),hok.2.2.2.2.2.2.2.2⟩
  have F:=headF_len {m.h with state:=st,n:=m.h.n.set 1 (m.b.length-272)} m.depth ok'
  have E:=head_bytes {m.h with state:=st,n:=m.h.n.set 1 (m.b.length-272)} m.depth (m.b.drop 272) ok' (by show st<_;omega)
  have C:imageM m st=headF {m.h with state:=st,n:=m.h.n.set 1 (m.b.length-272)} m.depth ++ m.b.drop 272:=rfl
  rw[← C]at E
  have A:(imageM m st).length=m.b.length:=by rw[C,List.length_append,F,List.length_drop];omega
  have B:Eff (fun a=>a+8≤272) m.b (imageM m st):=by
    refine⟨by rw[A];exact Nat.le_refl _,fun q n K I=>?_⟩
    by_cases hn:n=0
    · subst hn;simp[seg]
    · have H:272≤q:=by
        by_cases h1:272≤q
        · exact h1
        · exfalso
          have:=I (min q 264) (by omega)
          omega
      rw[C,seg_skip (by omega),F]
      unfold seg
      rw[List.drop_drop,show 272+(q-272)=q by omega]
  exact⟨E,A,B⟩
theorem opened_of {m:Mk} {l:List Ob} {es:List EntG} {rs:List Rec} {st:Nat} {B:Ly} (h:MkIm m l es rs) (hst:st≤2) (hb:HeadB B {m.h with state:=st,n:=m.h.n.set 1 (m.b.length-272)}) (hlen:B.length=m.b.length) (hEff:Eff (fun a=>a+8≤272) m.b B):Opened m B (parseF B) l es:=by
  have L:=h.img.c.stat.objs
  have S:=h.ok.small
  have O:=L.le
  have A:∀i,i<20→i≠1→(parseF (B)).n.getD i 0=m.num i:=fun i R Q=>by
    rw[parse_n (by omega),hb.n i R]
    show(m.h.n.set 1 _).getD i 0=_
    rw[getD_set_ne' (by omega)];rfl
  have J:(parseF (B)).n.getD 1 0=m.b.length-272:=by
    rw[parse_n (by omega),hb.n 1 (by omega)]
    show(m.h.n.set 1 _).getD 1 0=_
    exact getD_set_eq' (by have:=h.h20;omega)
  have H:=h.hd.hk
  unfold hk at H
  simp only[Prod.mk.injEq]at H
  obtain⟨_,T,_,U⟩:=H
  have F:(parseF (B)).incompat=if m.c.keyed then 4 else 0:=hb.incompat.trans T
  have G:(parseF (B)).file=m.c.file:=hb.file.trans U
  have D:(parseF (B)).state=st:=hb.state
  have Y:=(L.mem h.img.c.stat.tab4).le
  have Z:=(L.mem h.img.c.stat.tab5).le
  have o:=up8_ge (16+16*m.c.dataSlots)
  have u5:=up8_ge (16+16*m.c.fieldSlots)
  simp only at Y Z
  have sl:=h.img.c.stat.slots
  have N:(parseF (B)).n.getD 0 0=272:=(A 0 (by decide) (by decide)).trans h.hd.n0
  have V:(parseF (B)).n.getD 2 0=288:=(A 2 (by decide) (by decide)).trans h.img.c.stat.n2
  have n3:(parseF (B)).n.getD 3 0=16*m.c.dataSlots:=(A 3 (by decide) (by decide)).trans h.hd.n3
  have W:(parseF (B)).n.getD 4 0=304+16*m.c.dataSlots:=(A 4 (by decide) (by decide)).trans h.img.c.stat.n4
  have X:(parseF (B)).n.getD 5 0=16*m.c.fieldSlots:=(A 5 (by decide) (by decide)).trans h.hd.n5
  have E:endF (parseF (B))=(m.b.length,true):=by
    unfold endF
    rw[N,J,Nat.mod_eq_of_lt (by omega),if_neg (by omega),show 272+(m.b.length-272)=m.b.length by omega]
  have M:amissF (parseF (B)) (B).length=0:=by
    unfold amissF
    rw[E,F,D,N,J,V,n3,W,X,hlen]
    have I:¬andNot (if m.c.keyed=true then 4 else 0) 4≠0:=by cases m.c.keyed <;> decide
    rw[if_neg I,if_neg (by omega),if_neg (by omega),if_neg (by simp)]
    have P:∀(p s e:Nat),p%8=0→s≠0→s%16=0→288≤p→p+s≤e→tableF (parseF (B)) p s e=0:=fun p s e Q d f g k=>by
      unfold tableF
      rw[N,if_neg (by omega),if_neg (by omega),if_neg (by omega)]
    simp only
    rw[P 288 _ _ (by omega) (by omega) (by omega) (by omega) (by omega),if_neg (by simp)]
    exact P _ _ _ (by omega) (by omega) (by omega) (by omega) (by omega)
  have C:readF (B)=(parseF (B),0):=by
    unfold readF
    have K:prefF (B) signF=true:=by
      unfold prefF
      rw[if_pos (by show 8≤_;omega)]
      exact decide_eq_true hb.sign
    rw[if_neg (by omega),if_neg (by rw[K];simp),M,if_neg (by simp)]
  refine⟨hlen,C,?_,A,F,G,h.img.c.bytes hlen hEff ?_⟩
  · unfold openF
    rw[C]
    simp only
    rw[if_neg (by simp),E]
    simp only
    rw[← hlen,List.take_length]
  have:=hb.n 11 (by decide)
  rw[show 88+8*11=176 by rfl]at this
  rw[this]
  exact(getD_set_ne' (l:=m.h.n) (i:=1) (j:=11) (v:=m.b.length-272) (by decide)).trans h.img.n11
theorem opened {m:Mk} {l:List Ob} {es:List EntG} {rs:List Rec} {st:Nat} (h:MkIm m l es rs) (hok:RHead.ok m.h) (hst:st≤2):Opened m (imageM m st) (parseF (imageM m st)) l es:=by
  obtain⟨A,B,C⟩:=image_bytes h hok hst
  exact opened_of h hst A B C
end Go.Wk
namespace Go.Wk
open Go Go.RowKit
section
variable {m:Mk} {B:Ly} {H:PHead} {l:List Ob} {es:List EntG} {rs:List Rec}
theorem num0 (im:MkIm m l es rs) (op:Opened m B H l es):H.n.getD 0 0=272:=(op.n 0 (by decide) (by decide)).trans im.hd.n0
def n3 (l:List Ob):Nat:=(l.filter fun o=>decide (o.kind=3)).length
end
end Go.Wk
namespace Go.Wk
open Go Go.RowKit
def fst11 (b:Ly):Nat × Nat:=match (openF b).1 with|some y=>findF y.h.n y.b 4 (hashN (decide (y.h.incompat &&& 4≠0)) y.h.file [65,61,49]) [65,61,49]|none=>(1,1)
set_option maxRecDepth 1000000 in
theorem fst11_0:fst11 (imageOf [] 0)=(0,16):=by decide +kernel
theorem fst11_y {b:Ly} {y:PView} {c:Nat} (h:openF b=(some y,c)):fst11 b=findF y.h.n y.b 4 (hashN (decide (y.h.incompat &&& 4≠0)) y.h.file [65,61,49]) [65,61,49]:=by unfold fst11;rw[h]
theorem open_e11:∃y,openF (imageOf [] 0)=(some y,0)∧y.h.n.getD 8 0=0:=by
  rcases h:openF (imageOf [] 0)with⟨x,c⟩
  obtain⟨rfl,y,rfl,A⟩:=open_emptyE h
  exact⟨y,q,A⟩
theorem names_small:∀s∈namesF,s.length≤100:=by decide
end Go.Wk
namespace Go.Wk
open Go Go.RowKit
def pan (v:Value):List PanicEntry:=[{v,recovered:=false}]
def isIfT (P:Program) (t:TypeId):Bool:=match P.underlying t with|some (.interface _)=>true|_=>false
def notIfT (P:Program) (t:TypeId):Bool:=match P.underlying t with|some (.interface _)=>false|some _=>true|none=>false
theorem notIfT_spec {P:Program} {t:TypeId} (h:notIfT P t=true):∃X,P.underlying t=some X∧∀Y,X≠.interface Y:=by
  unfold notIfT at h
  split at h
  · cases h
  · rename_i X h1 h2;exact⟨X,h2,fun Y e=>h1 Y e⟩
  cases h
theorem isIfT_spec {P:Program} {t:TypeId} (h:isIfT P t=true):∃X,P.underlying t=some (.interface X):=by
  unfold isIfT at h
  split at h
  · exact⟨_,by assumption⟩
  cases h
section
variable {P:Program} {ops:Array Oper} {Q:Exit→Act→World→Prop} {rest:List Oper}
variable {n:Nat} {A:Fr n} {D:List Deferred} {l:List (Nat × Value)} {w:World}
variable {d:Tmp} {op:Op} {ty:TypeId} {ps:String} {af:Array Edge} {g:Option (Nat × Bool)}
theorem door {vs:List Value} {m:Nat} (hn:m=n) (hle:Nat.ble vs.length n=true) :
    ∃B:Fr n,over B [] (argsAt 0 vs)={tmps:=vs.toArray ++ Array.replicate (m-vs.toArray.size) undef,defers:=[]}:=by
  have hle':vs.length≤n:=lB hle
  have D:(vs.toArray ++ Array.replicate (m-vs.toArray.size) undef).size=n:=by simp[hn];omega
  refine⟨⟨_,D⟩,over_same ?_⟩
  intro p G
  obtain⟨j,E,F⟩:=mem_argsAt G
  obtain⟨A,C⟩:=List.getElem?_eq_some_iff.1 F
  simp only[E,Nat.zero_add,Array.getD]
  rw[dif_pos (by simp;omega)]
  show(vs.toArray ++ _)[j]'_=_
  rw[Array.getElem_append_left (by simpa using A)]
  simpa using C
theorem enterD {f:FuncId} {fn:Func} {c:Code} {vs:List Value} {R:Ending→World→Prop} (hf:P.funcs[f]? = some fn) (hb:fn.body=some c) (hn:fn.ntmps=n) (hle:Nat.ble vs.length n=true)
    (h:∀B:Fr n,c.wp P (bodyPostD P fn R) (over B [] (argsAt 0 vs)) w):Calls P f vs.toArray w R:=by
  refine calls_of_wp_defers hf hb ?_
  obtain⟨B,A⟩:=door hn hle
  rw[← A];exact h B
theorem enterS {f:FuncId} {fn:Func} {c:Code} {vs:List Value} {u:FrameMode} {R:Ending→FrameMode→World→Prop} (hf:P.funcs[f]? = some fn) (hb:fn.body=some c) (hn:fn.ntmps=n) (hle:Nat.ble vs.length n=true)
    (h:∀(B:Fr n) (c₀:Go.Frame) (cs:List Go.Frame),c₀.mode=u→c.wpS P (bodyPostS P fn c₀ cs R) (over B [] (argsAt 0 vs)) (c₀ :: cs) w):CallsD P f vs.toArray u w R:=by
  refine callsD_of_wpS hf hb fun c₀ cs C=>?_
  obtain⟨B,A⟩:=door hn hle
  rw[← A];exact h B c₀ cs C
theorem r_makeFuncs {f:FuncId} {xs:List Operand} {vs:List Value} {d':Option Tmp} (hx:evs n l xs=some vs) :
    RunV P ⟨d',.makeFunc (.func f) #[] xs.toArray,ty,ps,af,g⟩ (over A D l).eval w (.func (.func f) #[] vs.toArray):=by
  have B:=evs_eval (A:=A) (D:=D) hx
  simp[RunV,execOp,Instr.makeFunc,B]
theorem over_cons (dd:Deferred) (v:Option Tmp) (x:Value):({over A D l with defers:=dd :: (over A D l).defers}.put v x)=match v with|some t=>over A (dd :: D) ((t,x) :: l)|none=>over A (dd :: D) l:=by
  have B:∀l:List (Nat × Value),({over A D l with defers:=dd :: (over A D l).defers}:Act)=over A (dd :: D) l:=by
    intro l
    rw[over_defers]
    induction l with
    | nil=>rfl
    | cons p r ih=>simp only[over,Act.put]at ih ⊢;simp only[← ih]
  rw[B]
  cases v <;> rfl
theorem st_defer {f:FuncId} {c:Operand} {ts:Array TypeId} {cs:List Value} {d':Option Tmp} (hc:ev n l c=some (.func (.func f) #[] cs.toArray))
    (k:wpList P ops Q rest (match d' with|some t=>over A (⟨.fn (.func f) cs.toArray,#[]⟩ :: D) ((t,undef) :: l)|none=>over A (⟨.fn (.func f) cs.toArray,#[]⟩ :: D) l) w) :
    wpList P ops Q (⟨d',.defer {callee:=.value c,args:=#[],argTypes:=ts},ty,ps,af,none⟩ :: rest) (over A D l) w:=by
  refine wl_plain q ?_
  unfold Oper.wp
  have B:(execOp (over A D l).eval ⟨d',.defer {callee:=.value c,args:=#[],argTypes:=ts},ty,ps,af,none⟩).run P w = .ok (.defer ⟨.fn (.func f) cs.toArray,#[]⟩) w:=by
    simp[execOp,resolve,ev_eval hc,Deferred.ofValue]
  rw[B]
  show wpList P ops Q rest ({over A D l with defers:=_ :: (over A D l).defers}.put d' undef) w
  rw[over_cons]
  cases d' <;> exact k
theorem st_callVP {f:FuncId} {c:Operand} {xs:List Operand} {ts:Array TypeId} {vs cs:List Value} {R:Ending→World→Prop} {d':Option Tmp} (hc:ev n l c=some (.func (.func f) #[] cs.toArray)) (hf:isFn P f=true) (ha:evs n l xs=some vs) (hr:Calls P f (vs ++ cs).toArray w R)
    (k:∀e w',R e w'→(∃v,e = .returned v∧wpList P ops Q rest ((over A D l).put d' v) w')∨∃ch,e = .panicked ch∧Q (.panic ch) (over A D l) w') :
    wpList P ops Q (⟨d',.call {callee:=.value c,args:=xs.toArray,argTypes:=ts},ty,ps,af,none⟩ :: rest) (over A D l) w:=by
  refine wl_plain q ?_
  unfold Oper.wp
  have E:=evs_eval (A:=A) (D:=D) ha
  have B:(execOp (over A D l).eval ⟨d',.call {callee:=.value c,args:=xs.toArray,argTypes:=ts},ty,ps,af,none⟩).run P w = .ok (.enter f (vs ++ cs).toArray) w:=by
    simp only[execOp,resolve,ev_eval hc,Deferred.ofValue,List.map_toArray,E]
    simp[invoke,run_callFunc hf]
  rw[B]
  refine hr.mono fun e w' C=>?_
  rcases k e w' C with⟨v,rfl,hk⟩|⟨ch,rfl,hk⟩
  · exact hk
  exact hk
theorem st_callP {f:FuncId} {xs:List Operand} {ts:Array TypeId} {vs:List Value} {R:Ending→World→Prop} (hf:isFn P f=true) (ha:evs n l xs=some vs) (hr:Calls P f vs.toArray w R)
    (k:∀e w',R e w'→(∃v,e = .returned v∧wpList P ops Q rest (over A D ((d,v) :: l)) w')∨∃ch,e = .panicked ch∧Q (.panic ch) (over A D l) w') :
    wpList P ops Q (⟨some d,.call {callee:=.value (.func f),args:=xs.toArray,argTypes:=ts},ty,ps,af,none⟩ :: rest) (over A D l) w:=by
  refine wl_plain q ?_
  unfold Oper.wp
  rw[exec_call hf ha]
  refine hr.mono fun e w' B=>?_
  rcases k e w' B with⟨v,rfl,hk⟩|⟨ch,rfl,hk⟩
  · exact hk
  exact hk
theorem r_mkIface {x:Operand} {t:TypeId} {v:Value} {d':Option Tmp} (hT:notIfT P t=true) (hx:ev n l x=some v) :
    RunV P ⟨d',.makeInterface t x,ty,ps,af,g⟩ (over A D l).eval w (.iface t v):=by
  obtain⟨X,hT,B⟩:=notIfT_spec hT
  cases X <;> simp_all [RunV,execOp,ev_eval hx,Instr.makeInterface,run_underlying hT]
theorem st_panic {x:Operand} {t:TypeId} {v:Value} {d':Option Tmp} (hx:ev n l x=some (.iface t v)) (k:Q (.panic (pan (.iface t v))) (over A D l) w) :
    wpList P ops Q (⟨d',.panic x,ty,ps,af,none⟩ :: rest) (over A D l) w:=by
  refine wl_plain q ?_
  unfold Oper.wp
  have B:(execOp (over A D l).eval ⟨d',.panic x,ty,ps,af,none⟩).run P w = .halt (.panic (.iface t v)) w:=by
    simp[execOp,ev_eval hx,Instr.panic,goPanic]
  rw[B];exact k
theorem pan_post {fn:Func} {R:Ending→World→Prop} {ch:List PanicEntry} (h:R (.panicked ch) w):bodyPost P fn R (.panic ch) (over A [] l) w:=⟨over_defers,h⟩
theorem eqIn_in {t s:TypeId} {v:Value} {X} (w:World) (dd:Nat) (hT:P.underlying t=some (.interface X)):(Op.equalIn (dd+1) t (.iface s v) .nilIface).run P w = .ok false w:=by
  simp only[Op.equalIn,Sem.run_bind,run_underlying hT,Result.andThen_ok,Sem.run_pure]
theorem eqIn_ii {t:TypeId} {X} (w:World) (dd:Nat) (hT:P.underlying t=some (.interface X)):(Op.equalIn (dd+1) t .nilIface .nilIface).run P w = .ok true w:=by
  simp only[Op.equalIn,Sem.run_bind,run_underlying hT,Result.andThen_ok,Sem.run_pure]
theorem r_neqIN {x:Operand} {t u s:TypeId} {v:Value} (hx:ev n l x=some (.iface s v)) (hT:isIfT P t=true) :
    RunV P ⟨some d,.binOp .neq t x (.const .nilIface) u,ty,ps,af,g⟩ (over A D l).eval w (.bool true):=by
  obtain⟨X,hT⟩:=isIfT_spec hT
  have C:(over A D l).eval (.const .nilIface) = .nilIface:=rfl
  have E:(eqGuard .neq t x (.const .nilIface) (.iface s v) .nilIface).run P w = .ok () w:=by unfold eqGuard;simp
  have B:(binOp .neq t (.iface s v) .nilIface).run P w = .ok (.bool true) w:=by
    simp only[binOp,Op.equal,Op.maxDepth,Sem.run_bind,eqIn_in w 9999 hT,Result.andThen_ok,Sem.run_pure,Bool.not_false]
  simp[RunV,execOp,ev_eval hx,C,E,B]
theorem r_neqNN {x:Operand} {t u:TypeId} (hx:ev n l x=some .nilIface) (hT:isIfT P t=true) :
    RunV P ⟨some d,.binOp .neq t x (.const .nilIface) u,ty,ps,af,g⟩ (over A D l).eval w (.bool false):=by
  obtain⟨X,hT⟩:=isIfT_spec hT
  have C:(over A D l).eval (.const .nilIface) = .nilIface:=rfl
  have E:(eqGuard .neq t x (.const .nilIface) .nilIface .nilIface).run P w = .ok () w:=by unfold eqGuard;simp
  have B:(binOp .neq t .nilIface .nilIface).run P w = .ok (.bool false) w:=by
    simp only[binOp,Op.equal,Op.maxDepth,Sem.run_bind,eqIn_ii w 9999 hT,Result.andThen_ok,Sem.run_pure,Bool.not_true]
  simp[RunV,execOp,ev_eval hx,C,E,B]
end
section
variable {P:Program} {ops:Array Oper} {QS:Exit→Act→List Go.Frame→World→Prop} {cs:List Go.Frame} {rest:List Nat}
variable {n:Nat} {A:Fr n} {D:List Deferred} {l:List (Nat × Value)} {w:World}
theorem sr_run {i d:Nat} {o:Oper} (v:Value) (ho:ops[i]? = some o) (hg:o.guard=none) (hd:o.dst=some d) (hr:RunV P o (over A D l).eval w v) (k:wpOpsS P ops QS rest (over A D ((d,v) :: l)) cs w) :
    wpOpsS P ops QS (i :: rest) (over A D l) cs w:=by
  have B:Region.wanted o (yielded ops (over A D l).tmps)=true:=by simp[Region.wanted,hg]
  unfold RunV at hr
  simp only[wpOpsS,ho,B,if_true,hr,Oper.upon,hd]
  exact k
theorem sr_rec {i d:Nat} {o:Oper} {ts:Array TypeId} (ho:ops[i]? = some o) (hg:o.guard=none) (hd:o.dst=some d) (hop:o.op = .call {callee:=.builtin .recover,args:=#[],argTypes:=ts}) {v:Value} {older:List PanicEntry} {c:Go.Frame} {cs':List Go.Frame} (hcs:cs=c :: cs')
    (hm:c.mode = .panicking ({v,recovered:=false} :: older)) (k:wpOpsS P ops QS rest (over A D ((d,v) :: l)) ({c with mode:=.panicking ({v,recovered:=true} :: older)} :: cs') w) :
    wpOpsS P ops QS (i :: rest) (over A D l) cs w:=by
  have E:Region.wanted o (yielded ops (over A D l).tmps)=true:=by simp[Region.wanted,hg]
  have C:(execOp (over A D l).eval o).run P w = .ok .recover w:=by
    simp[execOp,hop,resolve,invoke,builtin]
  subst hcs
  have B:recoverD (c :: cs')=some (v,{c with mode:=.panicking ({v,recovered:=true} :: older)} :: cs'):=by simp[recoverD,hm]
  simp only[wpOpsS,ho,E,if_true,C,B,hd]
  exact k
theorem sr_rec0 {i d:Nat} {o:Oper} {ts:Array TypeId} (ho:ops[i]? = some o) (hg:o.guard=none) (hd:o.dst=some d) (hop:o.op = .call {callee:=.builtin .recover,args:=#[],argTypes:=ts}) {c:Go.Frame} {cs':List Go.Frame} (hcs:cs=c :: cs')
    (hm:c.mode = .returning) (k:wpOpsS P ops QS rest (over A D ((d,.nilIface) :: l)) cs w) :
    wpOpsS P ops QS (i :: rest) (over A D l) cs w:=by
  have E:Region.wanted o (yielded ops (over A D l).tmps)=true:=by simp[Region.wanted,hg]
  have C:(execOp (over A D l).eval o).run P w = .ok .recover w:=by
    simp[execOp,hop,resolve,invoke,builtin]
  subst hcs
  have B:recoverD (c :: cs')=none:=by simp[recoverD,hm]
  simp only[wpOpsS,ho,E,if_true,C,B,hd]
  exact k
theorem sr_nil (k:QS .normal (over A D l) cs w):wpOpsS P ops QS [] (over A D l) cs w:=k
end
section
variable {P:Program} {n:Nat} {A:Fr n} {l:List (Nat × Value)} {w:World}
theorem retS {fn:Func} {c₀:Go.Frame} {cs:List Go.Frame} {R:Ending→FrameMode→World→Prop} {u':FrameMode} {e:Exit} (he:isEnd e) (hr:fn.results = #[]) (hR:R (.returned (.tuple #[])) u' w) :
    bodyPostS P fn c₀ cs R e (over A [] l) ({c₀ with mode:=u'} :: cs) w:=by
  have h:=results_run (P:=P) (w:=w) (A:=A) (D:=[]) (l:=l) (fn:=fn) (rs:=[]) (vs:=[]) hr trivial
  cases e with
  | normal=>exact⟨over_defers,u',q,_,h,hR⟩
  | ret=>exact⟨over_defers,u',q,_,h,hR⟩
  | _=>exact he.elim
theorem retS0 {fn:Func} {c₀:Go.Frame} {cs:List Go.Frame} {R:Ending→FrameMode→World→Prop} {u:FrameMode} {e:Exit} (hc:c₀.mode=u) (he:isEnd e) (hr:fn.results = #[]) (hR:R (.returned (.tuple #[])) u w) :
    bodyPostS P fn c₀ cs R e (over A [] l) (c₀ :: cs) w:=by
  have h:({c₀ with mode:=u}:Go.Frame)=c₀:=by subst hc;rfl
  have:=retS (P:=P) (A:=A) (l:=l) (c₀:=c₀) (cs:=cs) (u':=u) he hr hR
  rwa [h]at this
theorem leave1 {fn:Func} {R:Ending→World→Prop} {t ty:Nat} {d:Deferred} {u:FrameMode} {f:FuncId} {cs:List Value} (hu:u≠.run) (hd:d=⟨.fn (.func f) cs.toArray,#[]⟩) (hf:isFn P f=true) (hr:fn.results = #[.cell t ty]) {p:Addr} (ht:ev n l (.tmp t)=some (.pointer (some p)))
    (h:CallsD P f cs.toArray u w fun e u' w'=>e = .returned (.tuple #[])∧settle u' = .returning∧∃v,(loadVar ty p).run P w' = .ok v w'∧R (.returned v) w') :
    Leaves P fn (over A [d] l).tmps R [d] u w:=by
  subst hd
  refine leaves_cons hu (f:=f) (args:=cs.toArray) (by simp[invoke,run_callFunc hf]) (h.mono ?_)
  rintro e u' w' ⟨rfl,C,v,D,B⟩
  show Leaves P fn _ R [] (settle u') w'
  rw[C]
  exact⟨v,results_run (A:=A) (rs:=[.cell t ty]) (vs:=[v]) hr ⟨⟨p,ht,D⟩,tV⟩,B⟩
end
section
variable {P:Program} {n:Nat} {A:Fr n} {D:List Deferred} {l:List (Nat × Value)} {w:World} {d:Option Tmp} {ty:TypeId} {ps:String} {af:Array Edge} {g:Option (Nat × Bool)}
theorem r_assertT {x:Operand} {t a:TypeId} {v:Value} (hT:notIfT P a=true) (hx:ev n l x=some (.iface a v)) :
    RunV P ⟨d,.typeAssert x t a true,ty,ps,af,g⟩ (over A D l).eval w (.tuple #[v,.bool true]):=by
  obtain⟨X,hT,B⟩:=notIfT_spec hT
  cases X <;> simp_all [RunV,execOp,ev_eval hx,Instr.typeAssert,run_underlying hT]
end
end Go.Wk
namespace Go.Proofs.YtllaambooilnlaaGreat
open Go Go.Wk Go.RowKit
set_option linter.unusedVariables false
set_option linter.unusedSimpArgs false
attribute [local irreducible] wpList wpQuiet wpStill wpMix Code.wp Calls bodyPost
variable {w:World} {Q:Nat→Prop}
noncomputable abbrev Zp:=Tryz.prog
theorem el5:elemIs Zp 5 1=true:=by kernel_rfl
theorem one5:isOne Zp 5=true:=by kernel_rfl
theorem u34:Zp.underlying 34=some (.slice 5):=by kernel_rfl
theorem u42:Zp.underlying 42=some (.int .u64):=by kernel_rfl
theorem u5:Zp.underlying 5=some (.int .u8):=by kernel_rfl
theorem leSize_any (uQ:Up w Q) (n:Int) (a0:(-9223372036854775808≤n∧n<9223372036854775808)) :
  Calls Zp 126 #[(.int .i64 (n:Int))] w fun en w'=>∃r0:Bool,en = .returned (.bool r0)∧Md [] w w'∧sizeOk n=r0:=by
 have M:=Md.refl [] w;have H:=uQ;refine enter (n:=17) Tryz.func126 q q q fun B=>ns (an q (nm q (st _ (r_eq (a:=n) (b:=1) q q) (mv q ?_))));refine part_n (t:=5) q (fun C=>?_) (fun C=>?_)
 ·(have F:=dT C);refine sk C (sk C (st _ (r_pick_t q C q) (mv q (sk q (sk q (st _ (r_pick_t q q q) (mv q (sk q (sk q (st _ (r_pick_t q q q) (ar q ?_)))))))))));exact ret1L (v:=(.bool true)) trivial q ⟨q,tV⟩ ⟨true,q,M,(by simp only[sizeOk];exact decide_eq_true (by omega))⟩
 (have F:=dF C);refine sg C (r_move q) (sg C (r_eq (a:=n) (b:=2) q q) (st _ (r_pick_f q C q) (mv q ?_)));refine part_n (t:=9) q (fun D=>?_) (fun D=>?_)
 ·(have G:=dT D);refine sk D (sk D (st _ (r_pick_t q D q) (mv q (sk q (sk q (st _ (r_pick_t q q q) (ar q ?_)))))));exact ret1L (v:=(.bool true)) trivial q ⟨q,tV⟩ ⟨true,q,M,(by simp only[sizeOk];exact decide_eq_true (by omega))⟩
 (have G:=dF D);refine sg D (r_move q) (sg D (r_eq (a:=n) (b:=4) q q) (st _ (r_pick_f q D q) (mv q ?_)));refine part_n (t:=13) q (fun A=>?_) (fun A=>?_)
 ·(have E:=dT A);refine sk A (sk A (st _ (r_pick_t q A q) (ar q ?_)));exact ret1L (v:=(.bool true)) trivial q ⟨q,tV⟩ ⟨true,q,M,(by simp only[sizeOk];exact decide_eq_true (by omega))⟩
 (have E:=dF A);refine sg A (r_move q) (sg A (r_eq (a:=n) (b:=8) q q) (st _ (r_pick_f q A q) (ar q ?_)));exact ret1L (v:=(.bool ((decide (n=8))))) trivial q ⟨q,tV⟩ ⟨(decide (n=8)),q,M,(by simp only[sizeOk];exact(decide_eq_decide.2 (by omega)))⟩
theorem refGet_any (uQ:Up w Q) {v0:Value} {l:Ly} (h0:Ls tB8 w Q v0 l) (a:Int) (a1:(-9223372036854775808≤a∧a<9223372036854775808)) (n:Int) (a2:(-9223372036854775808≤n∧n<9223372036854775808)) :
  Calls Zp 106 #[v0,(.int .i64 (a:Int)),(.int .i64 (n:Int))] w fun en w'=>∃r0:Nat,∃r1:Bool,en = .returned (.tuple #[(.int .u64 r0),(.bool r1)])∧Md [] w w'∧r0<18446744073709551616∧getF l a n=(r0,r1):=by
 have u:=h0.len63;have M:=Md.refl [] w;have p:=uQ;have Z:∀b,Q b→Q b:=fun _ h=>h;have P:∀b,Q b→b<w.heap.size→Q b:=fun _ h _=>h;refine enter (n:=59) Tryz.func106 q q q fun B=>ns (asg q (an q (c_seq (c_seq ?_))));refine c_join (fun b=>[(41,.bool b),(0,v0),(1,(.int .i64 (a:Int))),(2,(.int .i64 (n:Int))),(6,(.int .u64 ((0:Nat):Int))),(7,(.bool false))]) (fun b w'=>w=w'∧(b=true↔¬(sizeOk n=true∧0≤a∧a+n≤l.length))) ?_ ?_
 ·refine mv q (st _ (r_ne (a:=n) (b:=1) q q) (mv q ?_));refine part_n (t:=12) q (fun H=>?_) (fun H=>?_)
  ·(have T:=dT H);refine sg H (r_move q) (sg H (r_ne (a:=n) (b:=2) q q) (st _ (r_pick_t q H q) (mv q ?_)));refine part_n (t:=16) q (fun I=>?_) (fun I=>?_)
   ·(have U:=dT I);refine sg I (r_move q) (sg I (r_ne (a:=n) (b:=4) q q) (st _ (r_pick_t q I q) (mv q ?_)));refine part_n (t:=20) q (fun J=>?_) (fun J=>?_)
    ·(have V:=dT J);refine sg J (r_move q) (sg J (r_ne (a:=n) (b:=8) q q) (st _ (r_pick_t q J q) (mv q ?_)));refine part_n (t:=24) q (fun K=>?_) (fun K=>?_)
     ·(have W:=dT K);refine sk K (sk K (st _ (r_pick_t q K q) (mv q (sk q (sk q (sk q (sk q (st _ (r_pick_t q q q) (mv q (sk q (sk q (sk q (sk q ?_)))))))))))));refine sk q (sk q (st _ (r_pick_t q q q) (st_nil ?_)));refine⟨q,jn true ?_ ?_⟩
      ·exact⟨q,q,q,q,q,q,tV⟩
      ·exact⟨q,by rw[sizeOk_iff];simp;omega⟩
     ·(have W:=dF K);refine sg K (r_move q) (sg K (r_lt (a:=a) (b:=0) q q) (st _ (r_pick_f q K q) (mv q ?_)));refine part_n (t:=28) q (fun C=>?_) (fun C=>?_)
      ·(have E:=dT C);refine sk C (sk C (sk C (sk C (st _ (r_pick_t q C q) (mv q (sk q (sk q (sk q (sk q (sk q (sk q (st _ (r_pick_t q q q) (st_nil ?_)))))))))))));refine⟨q,jn true ?_ ?_⟩
       ·exact⟨q,q,q,q,q,q,tV⟩
       ·exact⟨q,by rw[sizeOk_iff];simp;omega⟩
      ·(have E:=dF C);refine sg C (r_move q) (sg C (r_move q) (sg C (r_len q u34 h0.shp) (sg C (r_gt (a:=a) (b:=((l.length:Nat):Int)) q q) (st _ (r_pick_f q C q) (mv q ?_)))));refine part_n (t:=34) q (fun A=>?_) (fun A=>?_)
       ·(have F:=dT A);refine sk A (sk A (sk A (sk A (sk A (sk A (st _ (r_pick_t q A q) (st_nil ?_)))))));refine⟨q,jn true ?_ ?_⟩
        ·exact⟨q,q,q,q,q,q,tV⟩
        ·exact⟨q,by rw[sizeOk_iff];simp;omega⟩
       ·(have F:=dF A);refine sg A (r_move q) (sg A (r_len q u34 h0.shp) (sg A (r_move q) (sg A (r_subI (a:=((l.length:Nat):Int)) (b:=a) q q (by omega)) (sg A (r_move q) (sg A (r_lt (a:=((l.length:Nat):Int)-a) (b:=n) q q) (st _ (r_pick_f q A q) ?_))))));refine part_n (t:=41) q (fun D=>?_) (fun D=>?_)
        ·(have G:=dT D);refine st_nil ?_;refine⟨q,jn true ?_ ?_⟩
         ·exact⟨fitB q D,q,q,q,q,q,tV⟩
         ·exact⟨q,by rw[sizeOk_iff];simp;omega⟩
        ·(have G:=dF D);refine st_nil ?_;refine⟨q,jn false ?_ ?_⟩
         ·exact⟨fitB q D,q,q,q,q,q,tV⟩
         ·exact⟨q,by rw[sizeOk_iff];simp;omega⟩
    ·(have V:=dF J);refine sk J (sk J (st _ (r_pick_f q J q) (mv q (sg q (r_move q) (sg q (r_lt (a:=a) (b:=0) q q) (st _ (r_pick_f q q q) (mv q ?_)))))));refine part_n (t:=28) q (fun C=>?_) (fun C=>?_)
     ·(have E:=dT C);refine sk C (sk C (sk C (sk C (st _ (r_pick_t q C q) (mv q (sk q (sk q (sk q (sk q (sk q (sk q (st _ (r_pick_t q q q) (st_nil ?_)))))))))))));refine⟨q,jn true ?_ ?_⟩
      ·exact⟨q,q,q,q,q,q,tV⟩
      ·exact⟨q,by rw[sizeOk_iff];simp;omega⟩
     ·(have E:=dF C);refine sg C (r_move q) (sg C (r_move q) (sg C (r_len q u34 h0.shp) (sg C (r_gt (a:=a) (b:=((l.length:Nat):Int)) q q) (st _ (r_pick_f q C q) (mv q ?_)))));refine part_n (t:=34) q (fun A=>?_) (fun A=>?_)
      ·(have F:=dT A);refine sk A (sk A (sk A (sk A (sk A (sk A (st _ (r_pick_t q A q) (st_nil ?_)))))));refine⟨q,jn true ?_ ?_⟩
       ·exact⟨q,q,q,q,q,q,tV⟩
       ·exact⟨q,by rw[sizeOk_iff];simp;omega⟩
      ·(have F:=dF A);refine sg A (r_move q) (sg A (r_len q u34 h0.shp) (sg A (r_move q) (sg A (r_subI (a:=((l.length:Nat):Int)) (b:=a) q q (by omega)) (sg A (r_move q) (sg A (r_lt (a:=((l.length:Nat):Int)-a) (b:=n) q q) (st _ (r_pick_f q A q) ?_))))));refine part_n (t:=41) q (fun D=>?_) (fun D=>?_)
       ·(have G:=dT D);refine st_nil ?_;refine⟨q,jn true ?_ ?_⟩
        ·exact⟨fitB q D,q,q,q,q,q,tV⟩
        ·exact⟨q,by rw[sizeOk_iff];simp;omega⟩
       ·(have G:=dF D);refine st_nil ?_;refine⟨q,jn false ?_ ?_⟩
        ·exact⟨fitB q D,q,q,q,q,q,tV⟩
        ·exact⟨q,by rw[sizeOk_iff];simp;omega⟩
   ·(have U:=dF I);refine sk I (sk I (st _ (r_pick_f q I q) (mv q (sk q (sk q (st _ (r_pick_f q q q) (mv q (sg q (r_move q) (sg q (r_lt (a:=a) (b:=0) q q) (st _ (r_pick_f q q q) (mv q ?_)))))))))));refine part_n (t:=28) q (fun C=>?_) (fun C=>?_)
    ·(have E:=dT C);refine sk C (sk C (sk C (sk C (st _ (r_pick_t q C q) (mv q (sk q (sk q (sk q (sk q (sk q (sk q (st _ (r_pick_t q q q) (st_nil ?_)))))))))))));refine⟨q,jn true ?_ ?_⟩
     ·exact⟨q,q,q,q,q,q,tV⟩
     ·exact⟨q,by rw[sizeOk_iff];simp;omega⟩
    ·(have E:=dF C);refine sg C (r_move q) (sg C (r_move q) (sg C (r_len q u34 h0.shp) (sg C (r_gt (a:=a) (b:=((l.length:Nat):Int)) q q) (st _ (r_pick_f q C q) (mv q ?_)))));refine part_n (t:=34) q (fun A=>?_) (fun A=>?_)
     ·(have F:=dT A);refine sk A (sk A (sk A (sk A (sk A (sk A (st _ (r_pick_t q A q) (st_nil ?_)))))));refine⟨q,jn true ?_ ?_⟩
      ·exact⟨q,q,q,q,q,q,tV⟩
      ·exact⟨q,by rw[sizeOk_iff];simp;omega⟩
     ·(have F:=dF A);refine sg A (r_move q) (sg A (r_len q u34 h0.shp) (sg A (r_move q) (sg A (r_subI (a:=((l.length:Nat):Int)) (b:=a) q q (by omega)) (sg A (r_move q) (sg A (r_lt (a:=((l.length:Nat):Int)-a) (b:=n) q q) (st _ (r_pick_f q A q) ?_))))));refine part_n (t:=41) q (fun D=>?_) (fun D=>?_)
      ·(have G:=dT D);refine st_nil ?_;refine⟨q,jn true ?_ ?_⟩
       ·exact⟨fitB q D,q,q,q,q,q,tV⟩
       ·exact⟨q,by rw[sizeOk_iff];simp;omega⟩
      ·(have G:=dF D);refine st_nil ?_;refine⟨q,jn false ?_ ?_⟩
       ·exact⟨fitB q D,q,q,q,q,q,tV⟩
       ·exact⟨q,by rw[sizeOk_iff];simp;omega⟩
  ·(have T:=dF H);refine sk H (sk H (st _ (r_pick_f q H q) (mv q (sk q (sk q (st _ (r_pick_f q q q) (mv q (sk q (sk q (st _ (r_pick_f q q q) (mv q (sg q (r_move q) (sg q (r_lt (a:=a) (b:=0) q q) ?_)))))))))))));refine st _ (r_pick_f q q q) (mv q ?_);refine part_n (t:=28) q (fun C=>?_) (fun C=>?_)
   ·(have E:=dT C);refine sk C (sk C (sk C (sk C (st _ (r_pick_t q C q) (mv q (sk q (sk q (sk q (sk q (sk q (sk q (st _ (r_pick_t q q q) (st_nil ?_)))))))))))));refine⟨q,jn true ?_ ?_⟩
    ·exact⟨q,q,q,q,q,q,tV⟩
    ·exact⟨q,by rw[sizeOk_iff];simp;omega⟩
   ·(have E:=dF C);refine sg C (r_move q) (sg C (r_move q) (sg C (r_len q u34 h0.shp) (sg C (r_gt (a:=a) (b:=((l.length:Nat):Int)) q q) (st _ (r_pick_f q C q) (mv q ?_)))));refine part_n (t:=34) q (fun A=>?_) (fun A=>?_)
    ·(have F:=dT A);refine sk A (sk A (sk A (sk A (sk A (sk A (st _ (r_pick_t q A q) (st_nil ?_)))))));refine⟨q,jn true ?_ ?_⟩
     ·exact⟨q,q,q,q,q,q,tV⟩
     ·exact⟨q,by rw[sizeOk_iff];simp;omega⟩
    ·(have F:=dF A);refine sg A (r_move q) (sg A (r_len q u34 h0.shp) (sg A (r_move q) (sg A (r_subI (a:=((l.length:Nat):Int)) (b:=a) q q (by omega)) (sg A (r_move q) (sg A (r_lt (a:=((l.length:Nat):Int)-a) (b:=n) q q) (st _ (r_pick_f q A q) ?_))))));refine part_n (t:=41) q (fun D=>?_) (fun D=>?_)
     ·(have G:=dT D);refine st_nil ?_;refine⟨q,jn true ?_ ?_⟩
      ·exact⟨fitB q D,q,q,q,q,q,tV⟩
      ·exact⟨q,by rw[sizeOk_iff];simp;omega⟩
     ·(have G:=dF D);refine st_nil ?_;refine⟨q,jn false ?_ ?_⟩
      ·exact⟨fitB q D,q,q,q,q,q,tV⟩
      ·exact⟨q,by rw[sizeOk_iff];simp;omega⟩
 ·rintro c B _ ⟨rfl,L⟩
  refine c_boolcase c (fun D=>?_) (fun D=>?_)
  ·replace L:=L.1 D;refine c_then (c_if_t q D (ns (asg q (ar q (r_then ?_)))));exact retL (vs:=[(.int .u64 ((0:Nat):Int)),(.bool false)]) trivial q ⟨q,q,tV⟩ q ⟨0,false,q,M,(by omega),(getF_no (by omega))⟩
  ·replace L:=mt L.2 (by rw[D];simp);refine c_then (c_if_f q D (c_skip (c_then (c_seq ?_))));replace L:=Classical.not_not.1 L;have y:=sizeOk_le L.1;refine c_region (an q (c_seq (nm q (st _ (r_subI (a:=n) (b:=1) q q (by omega)) (asg q (nt (c_block ?_)))))))
   refine loop2 (fun(v:Nat) (i:Int)=>[(8,(.int .u64 v)),(9,(.int .i64 (i:Int))),(0,v0),(1,(.int .i64 (a:Int))),(6,(.int .u64 ((0:Nat):Int))),(7,(.bool false))]) (fun(v:Nat) (i:Int) w'=>∃Q':Nat→Prop,(∀b,Q' b→Q b)∧(∀b,Q b→b<w.heap.size→Q' b)∧Up w' Q'∧Md [] w w'∧Ls tB8 w' Q' v0 l∧(-1≤i∧i<n)∧v=leN ((l.drop (a+(i+1)).toNat).take (n-1-i).toNat)∧v<18446744073709551616) (fun(v:Nat) (i:Int)=>(i+1).toNat) (x0:=0) (x1:=(n-1)) ?_ ?_ ?_
   ·exact⟨q,q,q,q,q,q,tV⟩
   ·exact⟨Q,Z,P,uQ,M,h0,(by omega),(by simp[show n-1-(n-1)=0 by omega,leN]),(by omega)⟩
   ·clear M uQ Z P h0
    rintro v i B z ⟨g,Z,P,uQ,M,h0,e,N,f⟩;refine c_seq (nm q (st _ (r_ge (a:=i) (b:=0) q q) (nt ?_)));refine c_if q (fun R=>?_) (fun R=>?_)
    ·(have X:=dT R);have j:=leN_lt_of (l:=(l.drop (a+(i+1)).toNat).take (n-1-i).toNat) (k:=7) (by simp;omega);rw[← N]at j;refine c_skip (c_then (c_seq (c_block (c_region (mv q (st _ (r_mulN (a:=v) (b:=256) 18446744073709551616 q q q (by omega)) (m2 q q (mv q (st _ (r_addI (a:=a) (b:=i) q q (by omega)) (st _ (r_indexZ (i:=a+i) 1 q q u34 el5 h0.shp (by omega)) ?_))))))))));obtain⟨S,Y⟩:=getE (l:=l) (i:=(a+i).toNat) (by omega);obtain⟨x,d,O⟩:=h0.get Y;obtain⟨rfl,_⟩:=d;have r:=UInt8.toNat_lt S;replace O:At _ v0 (((a+i).toNat)*1) [(b8 S)]:=O;refine st _ ((r_loadE (kk:=((a+i).toNat)*1) 0 q q one5 O q).to (b:=(b8 S)) q) (st _ (r_convN (a:=S.toNat) 18446744073709551616 q (by rw[u5];rfl) u42 q (lj (UInt8.toNat_lt _) (by decide))) (st _ (r_addN (a:=(v*256)) (b:=S.toNat) 18446744073709551616 q q q (by omega)) (asg q (st_nil ?_))));clear O;refine n_block (c_then (c_region (mv q (st _ (r_subI (a:=i) (b:=1) q q (by omega)) (an q ?_)))));refine next2 (x0:=((v*256)+S.toNat)) (x1:=(i-1)) (by omega) ⟨(fitI q (by rfl)),(fitI q (by omega)),q,q,q,q,tV⟩ ⟨g,Z,P,uQ,M,h0,(by omega),(by rw[N];have o:=leN_step (k:=(n-1-i).toNat) Y;rw[show(n-1-(i-1)).toNat=(n-1-i).toNat+1 by omega,show(a+(i-1+1)).toNat=(a+i).toNat by omega,o,show(a+i).toNat+1=(a+(i+1)).toNat by omega];omega),(by omega)⟩
    ·(have X:=dF R);refine c_exit (x_then (x_then (x_hit (c_then (nm q (asg q (ar q ?_)))))));exact retL (vs:=[(.int .u64 v),(.bool true)]) trivial q ⟨q,q,tV⟩ q ⟨v,true,q,M,(by assumption),(by rw[getF,if_pos (by omega),N,show i = -1 by omega];simp)⟩
theorem fn126:isFn Zp 126=true:=by kernel_rfl
theorem leGet_any (uQ:Up w Q) {v0:Value} {l:Ly} (h0:Ls tB8 w Q v0 l) (a:Int) (a1:(-9223372036854775808≤a∧a<9223372036854775808)) (n:Int) (a2:(-9223372036854775808≤n∧n<9223372036854775808)) :
  Calls Zp 112 #[v0,(.int .i64 (a:Int)),(.int .i64 (n:Int))] w fun en w'=>∃r0:Nat,∃r1:Bool,en = .returned (.tuple #[(.int .u64 r0),(.bool r1)])∧Md [] w w'∧r0<18446744073709551616∧getF l a n=(r0,r1):=by
 have p:=h0.len63;have M:=Md.refl [] w;have j:=uQ;have P:∀b,Q b→Q b:=fun _ h=>h;have F:∀b,Q b→b<w.heap.size→Q b:=fun _ h _=>h;refine enter (n:=42) Tryz.func112 q q q fun B=>ns (asg q (an q (c_seq (nm q (st_call fn126 q (leSize_any uQ (n) (by omega)) ?_)))));rintro en u ⟨Z,rfl,R,d⟩;refine rv ?_;obtain⟨h0,uQ,M⟩:=k3 R h0 uQ M;refine st _ (r_not q) (mv q ?_);refine part_n (t:=13) q (fun C=>?_) (fun C=>?_)
 ·(have J:=bnt C);refine sk C (sk C (st _ (r_pick_t q C q) (mv q (sk q (sk q (sk q (sk q (sk q (sk q (st _ (r_pick_t q q q) (nt (c_if_t q q (ns ?_)))))))))))));refine asg q (ar q (r_then ?_));exact retL (vs:=[(.int .u64 ((0:Nat):Int)),(.bool false)]) trivial q ⟨q,q,tV⟩ q ⟨0,false,q,M,(by omega),(getF_no (by rintro⟨U,V,W⟩;simp_all))⟩
 ·(have J:=bnf C);refine sg C (r_move q) (sg C (r_lt (a:=a) (b:=0) q q) (st _ (r_pick_f q C q) (mv q ?_)));refine part_n (t:=17) q (fun A=>?_) (fun A=>?_)
  ·(have K:=dT A);refine sk A (sk A (sk A (sk A (sk A (sk A (st _ (r_pick_t q A q) (nt (c_if_t q q (ns (asg q (ar q ?_)))))))))));refine r_then ?_;exact retL (vs:=[(.int .u64 ((0:Nat):Int)),(.bool false)]) trivial q ⟨q,q,tV⟩ q ⟨0,false,q,M,(by omega),(getF_no (by rintro⟨U,V,W⟩;omega))⟩
  ·(have K:=dF A);have e:=sizeOk_le (n:=n) (by simp_all);refine sg A (r_move q) (sg A (r_move q) (sg A (r_len q u34 h0.shp) (sg A (r_move q) (sg A (r_subI (a:=((l.length:Nat):Int)) (b:=n) q q (by omega)) (sg A (r_gt (a:=a) (b:=((l.length:Nat):Int)-n) q q) (st _ (r_pick_f q A q) (nt ?_)))))));refine c_if q (fun G=>?_) (fun G=>?_)
   ·(have L:=dT G);refine ns (asg q (ar q (r_then ?_)));exact retL (vs:=[(.int .u64 ((0:Nat):Int)),(.bool false)]) trivial q ⟨q,q,tV⟩ q ⟨0,false,q,M,(by omega),(getF_no (by rintro⟨U,V,W⟩;omega))⟩
   ·(have L:=dF G);refine c_skip (c_then (c_seq ?_));have T:sizeOk n=true∧0≤a∧a+n≤l.length:=⟨by simp_all,by omega,by omega⟩;have e:=sizeOk_le T.1;refine c_region (an q (c_seq (nm q (st _ (r_subI (a:=n) (b:=1) q q (by omega)) (asg q (nt (c_block ?_)))))))
    refine loop2 (fun(v:Nat) (i:Int)=>[(8,(.int .u64 v)),(9,(.int .i64 (i:Int))),(0,v0),(1,(.int .i64 (a:Int))),(6,(.int .u64 ((0:Nat):Int))),(7,(.bool false))]) (fun(v:Nat) (i:Int) w'=>∃Q':Nat→Prop,(∀b,Q' b→Q b)∧(∀b,Q b→b<w.heap.size→Q' b)∧Up w' Q'∧Md [] w w'∧Ls tB8 w' Q' v0 l∧(-1≤i∧i<n)∧v=leN ((l.drop (a+(i+1)).toNat).take (n-1-i).toNat)∧v<18446744073709551616) (fun(v:Nat) (i:Int)=>(i+1).toNat) (x0:=0) (x1:=(n-1)) ?_ ?_ ?_
    ·exact⟨q,q,q,q,q,q,tV⟩
    ·exact⟨Q,P,F,uQ,M,h0,(by omega),(by simp[show n-1-(n-1)=0 by omega,leN]),(by omega)⟩
    ·clear M uQ P F h0
     rintro v i B x ⟨c,P,F,uQ,M,h0,X,D,Y⟩;refine c_seq (nm q (st _ (r_ge (a:=i) (b:=0) q q) (nt ?_)));refine c_if q (fun H=>?_) (fun H=>?_)
     ·(have N:=dT H);have f:=leN_lt_of (l:=(l.drop (a+(i+1)).toNat).take (n-1-i).toNat) (k:=7) (by simp;omega);rw[← D]at f;refine c_skip (c_then (c_seq (c_block (c_region (mv q (st _ (r_shlW (a:=v) (b:=8) 18446744073709551616 q q 64 q q q (by omega)) (m2 q q (mv q (st _ (r_addI (a:=a) (b:=i) q q (by omega)) (st _ (r_indexZ (i:=a+i) 1 q q u34 el5 h0.shp (by omega)) ?_))))))))));obtain⟨I,O⟩:=getE (l:=l) (i:=(a+i).toNat) (by omega);obtain⟨r,S,E⟩:=h0.get O;obtain⟨rfl,_⟩:=S;have o:=UInt8.toNat_lt I;replace E:At _ v0 (((a+i).toNat)*1) [(b8 I)]:=E;refine st _ ((r_loadE (kk:=((a+i).toNat)*1) 0 q q one5 E q).to (b:=(b8 I)) q) (st _ (r_convN (a:=I.toNat) 18446744073709551616 q (by rw[u5];rfl) u42 q (lj (UInt8.toNat_lt _) (by decide))) (st _ (r_orN (a:=(v*2 ^ 8%18446744073709551616)) (b:=I.toNat) 18446744073709551616 q q q q (by omega)) (asg q (st_nil ?_))));clear E;refine n_block (c_then (c_region (mv q (st _ (r_subI (a:=i) (b:=1) q q (by omega)) (an q ?_)))));refine next2 (x0:=((v*2 ^ 8%18446744073709551616) ||| I.toNat)) (x1:=(i-1)) (by omega) ⟨(fitI q (by rfl)),(fitI q (by omega)),q,q,q,q,tV⟩ ⟨c,P,F,uQ,M,h0,(by omega),(by rw[shl_or (by omega),D];have g:=leN_step (k:=(n-1-i).toNat) O;rw[show(n-1-(i-1)).toNat=(n-1-i).toNat+1 by omega,show(a+(i-1+1)).toNat=(a+i).toNat by omega,g,show(a+i).toNat+1=(a+(i+1)).toNat by omega]),(by rw[shl_or (by omega)];have:=UInt8.toNat_lt I;omega)⟩
     ·(have N:=dF H);refine c_exit (x_then (x_then (x_hit (c_then (nm q (asg q (ar q ?_)))))));exact retL (vs:=[(.int .u64 v),(.bool true)]) trivial q ⟨q,q,tV⟩ q ⟨v,true,q,M,(by assumption),(by rw[getF,if_pos (by omega),D,show i = -1 by omega];simp)⟩
theorem agg69:isAggN Zp 69 91=true:=by kernel_rfl
theorem el196:elemIs Zp 196 1=true:=by kernel_rfl
theorem el199:elemIs Zp 199 1=true:=by kernel_rfl
theorem elT196:elT Zp 196 1 8=true:=by kernel_rfl
theorem elT199:elT Zp 199 1 8=true:=by kernel_rfl
theorem fn111:isFn Zp 111=true:=by kernel_rfl
theorem fn112:isFn Zp 112=true:=by kernel_rfl
theorem fn113:isFn Zp 113=true:=by kernel_rfl
theorem fn114:isFn Zp 114=true:=by kernel_rfl
theorem mixed:Zp.follows .mixedOrders=true:=by kernel_rfl
theorem off69_0:fieldOff Zp 69 0=some 0:=by kernel_rfl
theorem off69_1:fieldOff Zp 69 1=some 1:=by kernel_rfl
theorem off69_10:fieldOff Zp 69 10=some 70:=by kernel_rfl
theorem off69_11:fieldOff Zp 69 11=some 71:=by kernel_rfl
theorem off69_12:fieldOff Zp 69 12=some 72:=by kernel_rfl
theorem off69_13:fieldOff Zp 69 13=some 73:=by kernel_rfl
theorem off69_14:fieldOff Zp 69 14=some 74:=by kernel_rfl
theorem off69_15:fieldOff Zp 69 15=some 75:=by kernel_rfl
theorem off69_16:fieldOff Zp 69 16=some 76:=by kernel_rfl
theorem off69_17:fieldOff Zp 69 17=some 77:=by kernel_rfl
theorem off69_18:fieldOff Zp 69 18=some 78:=by kernel_rfl
theorem off69_19:fieldOff Zp 69 19=some 79:=by kernel_rfl
theorem off69_2:fieldOff Zp 69 2=some 2:=by kernel_rfl
theorem off69_20:fieldOff Zp 69 20=some 80:=by kernel_rfl
theorem off69_21:fieldOff Zp 69 21=some 81:=by kernel_rfl
theorem off69_22:fieldOff Zp 69 22=some 82:=by kernel_rfl
theorem off69_23:fieldOff Zp 69 23=some 83:=by kernel_rfl
theorem off69_24:fieldOff Zp 69 24=some 84:=by kernel_rfl
theorem off69_25:fieldOff Zp 69 25=some 85:=by kernel_rfl
theorem off69_26:fieldOff Zp 69 26=some 86:=by kernel_rfl
theorem off69_27:fieldOff Zp 69 27=some 87:=by kernel_rfl
theorem off69_28:fieldOff Zp 69 28=some 88:=by kernel_rfl
theorem off69_29:fieldOff Zp 69 29=some 89:=by kernel_rfl
theorem off69_3:fieldOff Zp 69 3=some 3:=by kernel_rfl
theorem off69_30:fieldOff Zp 69 30=some 90:=by kernel_rfl
theorem off69_4:fieldOff Zp 69 4=some 19:=by kernel_rfl
theorem off69_5:fieldOff Zp 69 5=some 35:=by kernel_rfl
theorem off69_6:fieldOff Zp 69 6=some 51:=by kernel_rfl
theorem off69_7:fieldOff Zp 69 7=some 67:=by kernel_rfl
theorem off69_8:fieldOff Zp 69 8=some 68:=by kernel_rfl
theorem off69_9:fieldOff Zp 69 9=some 69:=by kernel_rfl
theorem one196:isOne Zp 196=true:=by kernel_rfl
theorem one199:isOne Zp 199=true:=by kernel_rfl
theorem one34:isOne Zp 34=true:=by kernel_rfl
theorem one42:isOne Zp 42=true:=by kernel_rfl
theorem one67:isOne Zp 67=true:=by kernel_rfl
theorem pl69:bplace Zp 69=some [(0,1),(1,1),(2,1),(3,16),(19,16),(35,16),(51,16),(67,1),(68,1),(69,1),(70,1),(71,1),(72,1),(73,1),(74,1),(75,1),(76,1),(77,1),(78,1),(79,1),(80,1),(81,1),(82,1),(83,1),(84,1),(85,1),(86,1),(87,1),(88,1),(89,1),(90,1)]:=by kernel_rfl
theorem u194:Zp.underlying 194=some (.slice 196):=by kernel_rfl
theorem u197:Zp.underlying 197=some (.slice 199):=by kernel_rfl
theorem u3:Zp.underlying 3=some (.int .i64):=by kernel_rfl
theorem u44:Zp.underlying 44=some (.array 16 5):=by kernel_rfl
theorem u67:Zp.underlying 67=some (.int .u32):=by kernel_rfl
theorem z69:zcells Zp 69=some ([.int .u32 0,.int .u32 0,.int .i64 0] ++ (List.replicate 64 (.int .u8 0) ++ (List.replicate 21 (.int .u64 0) ++ ([.int .u32 0,.int .u32 0,.int .u64 0])))):=by kernel_rfl
theorem hIds_any {w:World} {b:Nat}:Calls Zp 113 #[.pointer (some ⟨b,0,none⟩)] w fun en w'=>∃x,en = .returned (.slice (some ⟨x,0,none⟩) 4 4)∧w.heap.size≤x∧Md [] w w'∧Blk w' x (ptrs b 3 16 4) 196:=by
 refine enter (n:=16) Tryz.func113 q q q fun B=>ns (an q (c_seq (c_mixT (ml 12) [12,13] (fun w'=>Md [] w w') mixed (by kernel_rfl) ?_)));intro I C;refine⟨C,?_⟩;refine mo q (mz (fun w' A=>r_nil q) (mz (fun w' A=>r_field q off69_3) (mo q (mz (fun w' A=>r_nil q) (mz (fun w' A=>r_field q off69_4) (mo q (mz (fun w' A=>r_nil q) (mz (fun w' A=>r_field q off69_5) (mo q (mz (fun w' A=>r_nil q) (mz (fun w' A=>r_field q off69_6) (m_nil (st_buildSlice u194 elT196 (by decide) q q q (by simp[OneAll,Value.oneCell']) (by decide) ?_)))))))))))));intro x G E H D F;refine ar q ?_;exact ret1 trivial q q ⟨x,q,ly C.size E,C.k D,(show Blk G x (ptrs b 3 16 4) 196 from F)⟩
theorem hLong_any {w:World} {b:Nat}:Calls Zp 114 #[.pointer (some ⟨b,0,none⟩)] w fun en w'=>∃x,en = .returned (.slice (some ⟨x,0,none⟩) 21 21)∧w.heap.size≤x∧Md [] w w'∧Blk w' x (ptrs b 67 1 21) 199:=by
 refine enter (n:=67) Tryz.func114 q q q fun B=>ns (an q (c_seq (c_mixT (ml 63) [63,64] (fun w'=>Md [] w w') mixed (by kernel_rfl) ?_)));intro I C;refine⟨C,?_⟩;refine mo q (mz (fun w' A=>r_nil q) (mz (fun w' A=>r_field q off69_7) (mo q (mz (fun w' A=>r_nil q) (mz (fun w' A=>r_field q off69_8) (mo q (mz (fun w' A=>r_nil q) (mz (fun w' A=>r_field q off69_9) (mo q (mz (fun w' A=>r_nil q) (mz (fun w' A=>r_field q off69_10) (mo q (mz (fun w' A=>r_nil q) ?_)))))))))))));refine mz (fun w' A=>r_field q off69_11) (mo q (mz (fun w' A=>r_nil q) (mz (fun w' A=>r_field q off69_12) (mo q (mz (fun w' A=>r_nil q) (mz (fun w' A=>r_field q off69_13) (mo q (mz (fun w' A=>r_nil q) (mz (fun w' A=>r_field q off69_14) (mo q (mz (fun w' A=>r_nil q) (mz (fun w' A=>r_field q off69_15) (mo q ?_)))))))))))));refine mz (fun w' A=>r_nil q) (mz (fun w' A=>r_field q off69_16) ?_)
 refine mo q (mz (fun w' A=>r_nil q) (mz (fun w' A=>r_field q off69_17) (mo q (mz (fun w' A=>r_nil q) (mz (fun w' A=>r_field q off69_18) (mo q (mz (fun w' A=>r_nil q) (mz (fun w' A=>r_field q off69_19) (mo q (mz (fun w' A=>r_nil q) (mz (fun w' A=>r_field q off69_20) (mo q (mz (fun w' A=>r_nil q) ?_)))))))))))));refine mz (fun w' A=>r_field q off69_21) (mo q (mz (fun w' A=>r_nil q) (mz (fun w' A=>r_field q off69_22) (mo q (mz (fun w' A=>r_nil q) (mz (fun w' A=>r_field q off69_23) (mo q (mz (fun w' A=>r_nil q) (mz (fun w' A=>r_field q off69_24) (mo q (mz (fun w' A=>r_nil q) (mz (fun w' A=>r_field q off69_25) (mo q ?_)))))))))))));refine mz (fun w' A=>r_nil q) (mz (fun w' A=>r_field q off69_26) (mo q (mz (fun w' A=>r_nil q) (mz (fun w' A=>r_field q off69_27) (m_nil (st_buildSlice u197 elT199 (by decide) q q q (by simp[OneAll,Value.oneCell']) (by decide) ?_))))));intro x G E H D F;refine ar q ?_;exact ret1 trivial q q ⟨x,q,ly C.size E,C.k D,(show Blk G x (ptrs b 67 1 21) 199 from F)⟩
theorem hFour_any {w:World} {Q:Nat→Prop} {b1:Nat} {v0:Value} {l:Ly} (hB:Blk w b1 [v0] 34) (h0:Ls tB8 w Q v0 l) (a:Nat) (ha:a+4≤l.length) :
  Calls Zp 111 #[.int .i64 (a:Int),.pointer (some ⟨b1,0,none⟩)] w fun en w'=>en = .returned (.int .u32 ((at4 l a:Nat):Int))∧Md [] w w':=by
 have L:=h0.len63;refine enter (n:=14) Tryz.func111 q q q fun B=>ns (an q (ns (st _ (r_loadBlk q one34 hB q) (mv q (st_call fn112 q (leGet_any (Q:=fun _=>True) (fun _ _=>trivial) (h0.sub fun _ _ _=>trivial) (a:Int) (by omega) 4 (by omega)) ?_)))));rintro en H ⟨F,G,rfl,D,E,A⟩;refine rv ?_;have C:getF l a 4=(at4 l a,true):=getF_at (k:=4) (.inl q) ha;rw[C]at A;obtain⟨rfl,rfl⟩:=Prod.mk.inj A;refine mv q (se q q (se q q (asg q (an q (nm q (st _ (r_convN (a:=at4 l a) 4294967296 q (by rw[u42];rfl) u67 q (at4_lt _ _)) (ar q ?_)))))));exact ret1 trivial q q ⟨q,D⟩
set_option maxRecDepth 100000 in
theorem hParse_any (uQ:Up w Q) {v0:Value} {b:Ly} (h00:Ls tB8 w Q v0 b) (p0:272≤b.length) :
  Calls Zp 76 #[v0] w fun en w'=>∃r0:PHead,en = .returned (.agg (PHead.cells r0).toArray)∧Md [] w w'∧PHead.ok r0∧parseF b=r0:=by
 have L:=h00.len63;obtain⟨U,f,F⟩:∃U:Nat→Prop,(∀x,w.heap.size≤x→¬U x)∧Ls tB8 w U v0 b:=⟨fun x=>x<w.heap.size,fun x h k=>by omega,h00.sub fun x _ h=>h⟩;clear h00;have M:=Md.refl [] w;refine enter (n:=73) Tryz.func76 q q q fun B=>ns (st_box q (cells_one F.oneCell) ?_);intro O w1 g1 l1 C A;obtain⟨F,M⟩:=k2 C F M;refine st_alloc z69 ?_;intro S w2 t l2 C E;replace F:=F.o C;obtain⟨Z,hZ,E⟩:∃Z,(PHead.cells (headUp b 0 0 0 0)).length=Z.length∧Blk w2 S Z 69:=⟨_,q,E⟩;have Am:O≠S:=(by have:=A.lt;omega);replace A:=A.o C;replace t:=ly M.size t;replace M:=M.k C;refine nt (ns (st _ (r_loadBlk q one34 A q) (st _ (r_indexN (i:=16) 1 q q u34 el5 F.shp (by omega)) ?_)));obtain⟨x,hx⟩:=getE (l:=b) (i:=16) (by omega);obtain⟨cx,Aa,R⟩:=F.get hx;obtain⟨rfl,_⟩:=Aa;have ex:b.getD 16 0=x:=(by simp[List.getD,hx]);have lx:=UInt8.toNat_lt x;replace R:At _ v0 (16*1) [(b8 x)]:=R;refine st _ ((r_loadE (kk:=16*1) 0 q q one5 R q).to (b:=(b8 x)) q) ?_;clear R;refine st _ (r_convN (a:=x.toNat) 9223372036854775808 q (by rw[u5];rfl) u3 q (by omega)) (st (.agg (PHead.cells (headUp b 0 0 0 0)).toArray) (by rw[show PHead.cells (headUp b 0 0 0 0)=PHead.cells {headUp b 0 0 0 0 with state:=x.toNat} by rw[← ex];rfl];exact r_build (cs:=PHead.cells {headUp b 0 0 0 0 with state:=x.toNat}) (ps:=[(2,2)]) z69 pl69 q q (by simp[OneAll,Value.oneCell']) q q q) (st_alloc z69 ?_));intro I w3 P l3 C D;replace F:=F.o C;have K:O≠I:=(by have:=A.lt;omega);have J:S≠I:=(by have:=E.lt;omega);obtain⟨A,E⟩:=k2 C A E;replace P:=ly M.size P;replace M:=M.k C;refine st_storeAll q q (by exact agg69) (fun u hu=>one_cells PHead.one u hu) D q ?_;intro w4 C D;have N:∀x∈[I],¬U x:=(by intro y r;simp at r;subst r;exact f _ P);have Ao:∀x∈[S],¬U x:=(by intro y r;simp at r;subst r;exact f _ t);replace F:=F.md C N;replace A:=A.md1 C K;replace E:=E.md1 C J;replace M:=M.step1 C P;refine nt (c_seq ?_)
 refine c_region (st _ (r_makeFunc q) (an q (nm q (st_callV (cs:=[.pointer (some ⟨O,0,none⟩)]) q fn111 q (hFour_any A F 8 (by omega)) ?_))));rintro en w5 ⟨rfl,C⟩;refine rv ?_;obtain⟨F,A,E,D,M⟩:=k5 C F A E D M;refine mv q (st_callV (cs:=[.pointer (some ⟨O,0,none⟩)]) q fn111 q (hFour_any A F 12 (by omega)) ?_);rintro en w6 ⟨rfl,C⟩;refine rv ?_;obtain⟨F,A,E,D,M⟩:=k5 C F A E D M;refine sf q off69_0 (st_store q q one67 q D (by(show _<91;decide)) ?_);intro w7 C D;replace F:=F.md C N;replace A:=A.md1 C K;replace E:=E.md1 C J;replace M:=M.step1 C P;refine sf q off69_1 (st_store q q one67 q D (by(show _<91;decide)) ?_);intro w8 C D;replace F:=F.md C N;replace A:=A.md1 C K;replace E:=E.md1 C J;replace M:=M.step1 C P;replace D:Blk w8 I (PHead.cells (headUp b (at4 b 8) (at4 b 12) 0 0)) 69:=D;refine nt (ns (an q (c_seq (ns (st_call fn113 q (hIds_any (b:=I)) ?_)))));rintro en w9 ⟨Y,rfl,gi,C,G⟩;refine rv ?_;have Ac:Y≠I:=(by have:=D.lt;omega);obtain⟨F,A,E,D⟩:=k4 C F A E D;replace gi:=ly M.size gi;replace M:=M.k C;have g:Shp (.slice (some ⟨Y,0,none⟩) 4 4) 4:=⟨_,_,q,Nat.le_refl _,by simp[maxLen],by simp⟩;refine sL q u194 g (mv q (nt (c_block ?_)))
 refine loop2 (fun(k:Nat) (a:Nat)=>[(24,(.int .i64 k)),(5,(.int .i64 a)),(1,.pointer (some ⟨O,0,none⟩)),(2,.pointer (some ⟨S,0,none⟩)),(3,.pointer (some ⟨I,0,none⟩)),(4,.func (.func 111) #[] #[.pointer (some ⟨O,0,none⟩)]),(22,.slice (some ⟨Y,0,none⟩) 4 4),(23,.int .i64 ((4:Nat):Int))])
  (fun(k:Nat) (a:Nat) w'=>Md [] w w'∧Ls tB8 w' U v0 b∧Blk w' O [v0] 34∧Blk w' S Z 69∧Blk w' I (PHead.cells (headUp b (at4 b 8) (at4 b 12) k 0)) 69∧Blk w' Y (ptrs I 3 16 4) 196∧k≤4∧a=24+16*k) (fun(k:Nat) (a:Nat)=>4-k) (x0:=0) (x1:=24) ?_ ?_ ?_
 ·exact⟨q,q,q,q,q,q,q,q,tV⟩
 ·exact⟨M,F,A,E,D,G,by omega,q⟩
 clear M F A E D G
 rintro k a B Aq ⟨M,F,A,E,D,G,hk,p⟩;refine ns (st _ (r_ltN (a:=k) (b:=4) q q) (nt (c_seq ?_)));refine c_if q (fun V=>?_) (fun V=>?_)
 ·have d:=dT V
  refine c_skip (c_then (c_seq (c_block (ns (st _ ((r_indexN (i:=k) 1 q q u194 el196 g (by omega)).to (b:=.pointer (some ⟨Y,k,none⟩)) (by simp[elemp,Addr.add_mk])) (st _ (r_loadBlk (b:=Y) (j:=k) (u:=.pointer (some ⟨I,3+k*16,none⟩)) q one196 G (ptrs_get (by omega))) (an q ?_)))))));have v:=F.shp;refine c_mix [(0,true),(1,true),(2,true),(3,true),(4,true),(5,true),(6,true),(7,false),(8,true),(9,true)] (fun w'=>Blk w' O [v0] 34) mixed (by kernel_rfl) ?_;intro Ar C;obtain⟨F,A,E,D,G,M⟩:=k6 C F A E D G M;refine⟨A,?_⟩;refine mo q (mo q (mz (fun w' X=>r_nil q) (mz (fun w' X=>r_sliceArr u44 el5 q (by decide)) (mz (fun w' X=>r_loadBlk q one34 X q) (mo q (Go.Wk.m (subv v0 a b.length) (fun w' X=>by exact r_slice a b.length u34 el5 q v (by omega) (by omega) ⟨_,q⟩ q) ?_))))));refine m_e ?_ rfl;have hT:=F.by.tail a (by omega);refine st_copy u34 el5 q q D hT (one_b8 _) (by have:(PHead.cells (headUp b (at4 b 8) (at4 b 12) k 0)).length=91:=rfl;simp;omega) ?_;intro As C D;clear hT;rw[← List.map_take,p,ids_step (by omega) p0]at D;replace F:=F.md C N;replace A:=A.md1 C K;replace E:=E.md1 C J;replace G:=G.md1 C Ac;replace M:=M.step1 C P;refine st_nil ⟨q,A,?_⟩;have Ai:min ((b.drop a).map b8).length 16=16:=(by simp;omega);refine mz (fun w' X=>r_addN (a:=a) (b:=min ((b.drop a).map b8).length 16) 9223372036854775808 q q q (by omega)) (mz (fun w' X=>r_assign q) (m_nil (n_block (c_then (c_region (st _ (rA (a:=k) (b:=1) q q (by omega)) (mv q (nt ?_))))))));exact next2 (x0:=k+1) (x1:=a+min ((b.drop a).map b8).length 16) (by omega) ⟨q,q,q,q,q,q,q,q,tV⟩ ⟨M,F,A,E,D,G,by omega,by omega⟩
 have d:=dF V
 obtain rfl:k=4:=by omega
 subst p;clear G;refine c_exit (x_then (x_then (x_hit (c_then (c_seq (ns (st_call fn114 q (hLong_any (b:=I)) ?_)))))));rintro en Au ⟨c,rfl,gj,C,H⟩;refine rv ?_;have Ad:c≠I:=(by have:=D.lt;omega);obtain⟨F,A,E,D,M⟩:=k5 C F A E D M;have o:Shp (.slice (some ⟨c,0,none⟩) 21 21) 21:=⟨_,_,q,Nat.le_refl _,by simp[maxLen],by simp⟩;refine sL q u197 o (mv q (nt (c_block ?_)))
 refine loop2 (fun(j:Nat) (a:Nat)=>[(40,(.int .i64 j)),(5,(.int .i64 a)),(1,.pointer (some ⟨O,0,none⟩)),(2,.pointer (some ⟨S,0,none⟩)),(3,.pointer (some ⟨I,0,none⟩)),(4,.func (.func 111) #[] #[.pointer (some ⟨O,0,none⟩)]),(38,.slice (some ⟨c,0,none⟩) 21 21),(39,.int .i64 ((21:Nat):Int))])
  (fun(j:Nat) (a:Nat) w'=>Md [] w w'∧Ls tB8 w' U v0 b∧Blk w' O [v0] 34∧Blk w' S Z 69∧Blk w' I (PHead.cells (headUp b (at4 b 8) (at4 b 12) 4 j)) 69∧Blk w' c (ptrs I 67 1 21) 199∧j≤21∧a=88+8*j) (fun(j:Nat) (a:Nat)=>21-j) (x0:=0) (x1:=24+16*4) ?_ ?_ ?_
 ·exact⟨q,q,q,q,q,q,q,q,tV⟩
 ·exact⟨M,F,A,E,D,H,by omega,q⟩
 clear M F A E D H
 rintro j a B Aw ⟨M,F,A,E,D,H,hj,p⟩;refine ns (st _ (r_ltN (a:=j) (b:=21) q q) (nt (c_seq ?_)));refine c_if q (fun W=>?_) (fun W=>?_)
 ·have T:=dT W
  refine c_skip (c_then (c_seq (c_block (ns (st _ ((r_indexN (i:=j) 1 q q u197 el199 o (by omega)).to (b:=.pointer (some ⟨c,j,none⟩)) (by simp[elemp,Addr.add_mk])) (st _ (r_loadBlk (b:=c) (j:=j) (u:=.pointer (some ⟨I,67+j*1,none⟩)) q one199 H (ptrs_get (by omega))) (an q (nm q (st _ (r_loadBlk q one34 A q) (mv q (st_call fn112 q (leGet_any (Q:=fun _=>True) (fun _ _=>trivial) (F.sub fun _ _ _=>trivial) (a:Int) (by omega) 8 (by omega)) ?_)))))))))));rintro en Ax ⟨r0,r1,rfl,C,hr,e⟩;refine rv ?_;have z:getF b a 8=(at8 b a,true):=getF_at (k:=8) (.inr q) (by omega);rw[z]at e;obtain⟨rfl,rfl⟩:=Prod.mk.inj e;obtain⟨F,A,E,D,H,M⟩:=k6 C F A E D H M;refine mv q (st (.int .u64 ((at8 b a:Nat):Int)) (r_extract q q) (se q q (sn q (st_store (b:=I) (j:=67+j*1) q q one42 q D (by have:(PHead.cells (headUp b (at4 b 8) (at4 b 12) 4 j)).length=91:=rfl;omega) ?_))));intro Ay C D;rw[Nat.mul_one,p,long_step T]at D;replace F:=F.md C N;replace A:=A.md1 C K;replace E:=E.md1 C J;replace H:=H.md1 C Ad;replace M:=M.step1 C P;refine nt (c_region (mv q (st _ (rA (a:=a) (b:=8) q q (by omega)) (asg q (st_nil (n_block (c_then (c_region (st _ (rA (a:=j) (b:=1) q q (by omega)) (mv q (nt ?_)))))))))));exact next2 (x0:=j+1) (x1:=a+8) (by omega) ⟨q,q,q,q,q,q,q,q,tV⟩ ⟨M,F,A,E,D,H,by omega,by omega⟩
 have T:=dF W
 obtain rfl:j=21:=by omega
 subst p;clear H;refine c_exit (x_then (x_then (x_hit (c_then (ns (m2 q q (st_callV (cs:=[.pointer (some ⟨O,0,none⟩)]) q fn111 q (hFour_any A F 256 (by omega)) ?_)))))));rintro en Az ⟨rfl,C⟩;refine rv ?_;obtain⟨F,A,E,D,M⟩:=k5 C F A E D M;refine m2 q q (st _ (rA (a:=256) (b:=4) q q (by omega)) (st_callV (cs:=[.pointer (some ⟨O,0,none⟩)]) q fn111 q (hFour_any A F 260 (by omega)) ?_));rintro en A0 ⟨rfl,C⟩;refine rv ?_;obtain⟨F,A,E,D,M⟩:=k5 C F A E D M;refine sf q off69_28 (st_store q q one67 q D (by(show _<91;decide)) ?_);intro A1 C D;replace F:=F.md C N;replace A:=A.md1 C K;replace E:=E.md1 C J;replace M:=M.step1 C P;refine sf q off69_29 (st_store q q one67 q D (by(show _<91;decide)) ?_);intro A2 C D;replace F:=F.md C N;replace A:=A.md1 C K;replace E:=E.md1 C J;replace M:=M.step1 C P;refine nt (ns (st _ (r_loadBlk q one34 A q) (mv q (st _ (rA (a:=256) (b:=8) q q (by omega)) (st_call fn112 q (leGet_any (Q:=fun _=>True) (fun _ _=>trivial) (F.sub fun _ _ _=>trivial) ((264:Nat):Int) (by omega) 8 (by omega)) ?_)))));rintro en A3 ⟨r0,r1,rfl,C,hr,e⟩;refine rv ?_;have z:getF b ((264:Nat):Int) 8=(at8 b 264,true):=getF_at (k:=8) (.inr q) (by omega);rw[z]at e;obtain⟨rfl,rfl⟩:=Prod.mk.inj e;obtain⟨E,D,M⟩:=k3 C E D M;refine mv q (st (.int .u64 ((at8 b 264:Nat):Int)) (r_extract q q) (se q q (sf q off69_30 (st_store q q one42 q D (by(show _<91;decide)) ?_))));intro Ae C D;replace E:=E.md1 C J;replace M:=M.step1 C P
 replace D:Blk Ae I (PHead.cells (parseF b)) 69:=D;refine nt (ns (st _ (r_loadAll q (by exact agg69) D) (st_storeAll q q (by exact agg69) (fun u hu=>one_cells PHead.one u hu) E hZ ?_)));intro A4 C E;replace M:=M.step1 C t;refine nt (c_ret ?_);exact retc trivial q q (by exact agg69) E ⟨_,q,M,parse_ok p0,q⟩
theorem fn82:isFn Zp 82=true:=by kernel_rfl
theorem u9:Zp.underlying 9=some (.string):=by kernel_rfl
theorem hEqual_any (uQ:Up w Q) {v0:Value} {a:Ly} (h0:Ls tB8 w Q v0 a) {v1:Value} {b:Ly} (h1:Ls tB8 w Q v1 b) :
  Calls Zp 82 #[v0,v1] w fun en w'=>∃r0:Bool,en = .returned (.bool r0)∧Md [] w w'∧decide (a=b)=r0:=by
 have C:=h0.len63;have D:=h1.len63;have M:=Md.refl [] w;have A:=uQ;refine enter (n:=10) Tryz.func82 q q q fun B=>ns (an q (nm q (st _ (r_convBS (s:=a) u34 u5 u9 q h0.by) (mv q (st _ (r_convBS (s:=b) u34 u5 u9 q h1.by) (st _ (r_eqlS (a:=a) (b:=b) q q) (ar q ?_)))))));exact ret1L (v:=(.bool ((decide (a=b))))) trivial q ⟨q,tV⟩ ⟨(decide (a=b)),q,M,(by simp(disch:=first|omega|assumption|simp) only [SS,reduceIte])⟩
theorem hPref_any (uQ:Up w Q) {v0:Value} {b:Ly} (h0:Ls tB8 w Q v0 b) {v1:Value} {p:Ly} (h1:Ls tB8 w Q v1 p) :
  Calls Zp 75 #[v0,v1] w fun en w'=>∃r0:Bool,en = .returned (.bool r0)∧Md [] w w'∧prefF b p=r0:=by
 have I:=h0.len63;have J:=h1.len63;have M:=Md.refl [] w;have H:=uQ;refine enter (n:=18) Tryz.func75 q q q fun B=>ns (an q (nm q (sL q u34 h0.shp (mv q (sL q u34 h1.shp (st _ (r_geN (a:=b.length) (b:=p.length) q q) (mv q ?_)))))));refine part_n (t:=10) q (fun A=>?_) (fun A=>?_)
 ·(have C:=dT A);refine sg A (r_move q) (sg A (r_move q) (sg A (r_len q u34 h1.shp) (sg A (r_sliceZ 1 0 p.length u34 el5 q h0.shp (by omega) (by omega) q ⟨_,q⟩) ?_)));have F:=h0.head (hi:=p.length) (by omega);refine sg A (r_move q) (st_call_g q q q A fn82 q (hEqual_any uQ F h1) ?_);rintro en K ⟨D,rfl,G,E⟩;refine rv ?_;replace M:=M.k G;refine st _ (r_pick_t q A q) (ar q ?_);exact ret1L (v:=(.bool D)) trivial q ⟨q,tV⟩ ⟨D,q,M,(by rw[prefF]<;>simp(disch:=first|omega|assumption|simp) only [SS,reduceIte,C,E])⟩
 (have C:=dF A);refine sk A (sk A (sk A (sk A (sk A (sk A (st _ (r_pick_f q A q) (ar q ?_)))))));exact ret1L (v:=(.bool false)) trivial q ⟨q,tV⟩ ⟨false,q,M,(by rw[prefF]<;>simp(disch:=first|omega|assumption|simp) only [SS,reduceIte,C])⟩
theorem hEnd_any (uQ:Up w Q) (h:PHead) (a0_0:PHead.ok h) :
  Calls Zp 39 #[.agg (PHead.cells h).toArray] w fun en w'=>∃r0:Nat,∃r1:Bool,en = .returned (.tuple #[(.int .u64 r0),(.bool r1)])∧Md [] w w'∧r0<18446744073709551616∧endF h=(r0,r1):=by
 have M:=Md.refl [] w;have J:=uQ;refine enter (n:=15) Tryz.func39 q q q fun B=>ns (st_box (cs:=(PHead.cells h)) q q ?_);intro G N C I H E;have F:=uQ _ C;replace C:=ly M.size C;replace M:=M.k H;refine asg q (an q (ns (sf q off69_7 (sl (u:=(.int .u64 ((h.n.getD 0 0:Nat):Int))) q one42 E q ?_))));have K:h.n.getD 0 0<18446744073709551616:=(nums_bd a0_0.2.2.2.2.2.2.2.1 0);refine sf q off69_8 (sl (u:=(.int .u64 ((h.n.getD 1 0:Nat):Int))) q one42 E q ?_);have L:h.n.getD 1 0<18446744073709551616:=(nums_bd a0_0.2.2.2.2.2.2.2.1 1);refine st _ (r_addW (a:=(h.n.getD 0 0)) (b:=(h.n.getD 1 0)) 18446744073709551616 q q q q) (an q (c_seq (nm q (sf q off69_7 (sl (u:=(.int .u64 ((h.n.getD 0 0:Nat):Int))) q one42 E q (st _ (r_ltN (a:=(((h.n.getD 0 0)+(h.n.getD 1 0))%18446744073709551616)) (b:=(h.n.getD 0 0)) q q) (nt ?_)))))));refine c_if q (fun D=>?_) (fun D=>?_)
 ·(have A:=dT D);refine ns (asg q (ar q (r_then ?_)));exact retL (vs:=[(.int .u64 ((0:Nat):Int)),(.bool false)]) trivial q ⟨q,q,tV⟩ q ⟨0,false,q,M,(by omega),(by rw[endF]<;>simp(disch:=first|omega|assumption|simp) only [SS,reduceIte,A])⟩
 (have A:=dF D);refine c_skip (c_then (nm q (asg q (ar q ?_))));exact retL (vs:=[(.int .u64 ((((h.n.getD 0 0)+(h.n.getD 1 0))%18446744073709551616:Nat):Int)),(.bool true)]) trivial q ⟨q,q,tV⟩ q ⟨((h.n.getD 0 0)+(h.n.getD 1 0))%18446744073709551616,true,q,M,(by omega),(by rw[endF]<;>simp(disch:=first|omega|assumption|simp) only [SS,reduceIte,A])⟩
theorem hTable_any (uQ:Up w Q) (h:PHead) (a0_0:PHead.ok h) (p:Nat) (a1:p<18446744073709551616) (size:Nat) (a2:size<18446744073709551616) (e:Nat) (a3:e<18446744073709551616) :
  Calls Zp 77 #[.agg (PHead.cells h).toArray,(.int .u64 p),(.int .u64 size),(.int .u64 e)] w fun en w'=>∃r0:Nat,en = .returned (.int .i64 r0)∧Md [] w w'∧r0<9223372036854775808∧tableF h p size e=r0:=by
 have M:=Md.refl [] w;have X:=uQ;refine enter (n:=45) Tryz.func77 q q q fun B=>ns (st_box (cs:=(PHead.cells h)) q q ?_);intro U Z N W V R;have T:=uQ _ N;replace N:=ly M.size N;replace M:=M.k V;refine an q (c_seq (c_block (nm q (st _ (r_remN (a:=p) (b:=8) q q (by omega)) (st _ (r_neN (a:=(p%8)) (b:=0) q q) (asg q (nt ?_)))))));refine c_if q (fun S=>?_) (fun S=>?_)
 ·(have I:=dT S);refine ns (ar q (r_block (r_then ?_)));exact ret1L (v:=(.int .i64 ((3:Nat):Int))) trivial q ⟨q,tV⟩ ⟨3,q,M,(by omega),(by rw[tableF]<;>simp(disch:=first|omega|assumption|simp) only [SS,reduceIte,I])⟩
 (have I:=dF S);refine nm q (st _ (r_eqN (a:=size) (b:=0) q q) (mv q ?_));refine part_n (t:=16) q (fun F=>?_) (fun F=>?_)
 ·(have D:=dT F);refine sk F (sk F (sk F (st _ (r_pick_t q F q) (an q (c_if_t q q (ns (ar q (r_block (r_then ?_)))))))));exact ret1L (v:=(.int .i64 ((5:Nat):Int))) trivial q ⟨q,tV⟩ ⟨5,q,M,(by omega),(by rw[tableF]<;>simp(disch:=first|omega|assumption|simp) only [SS,reduceIte,I,D])⟩
 (have D:=dF F);refine sg F (r_move q) (sg F (r_remN (a:=size) (b:=16) q q (by omega)) (sg F (r_neN (a:=(size%16)) (b:=0) q q) (st _ (r_pick_f q F q) (an q ?_))));refine c_if q (fun O=>?_) (fun O=>?_)
 ·(have E:=dT O);refine ns (ar q (r_block (r_then ?_)));exact ret1L (v:=(.int .i64 ((5:Nat):Int))) trivial q ⟨q,tV⟩ ⟨5,q,M,(by omega),(by rw[tableF]<;>simp(disch:=first|omega|assumption|simp) only [SS,reduceIte,I,D,E])⟩
 (have E:=dF O);refine nm q (sf q off69_7 (sl (u:=(.int .u64 ((h.n.getD 0 0:Nat):Int))) q one42 R q ?_));have Y:h.n.getD 0 0<18446744073709551616:=(nums_bd a0_0.2.2.2.2.2.2.2.1 0);refine st _ (r_ltN (a:=p) (b:=(h.n.getD 0 0)) q q) (mv q ?_);refine part_n (t:=26) q (fun A=>?_) (fun A=>?_)
 ·(have H:=dT A);refine sk A (sk A (sk A (sk A (sk A (st _ (r_pick_t q A q) (mv q (sk q (sk q (sk q (st _ (r_pick_t q q q) (mv q (sk q (sk q ?_)))))))))))));refine sk q (sk q (sk q (st _ (r_pick_t q q q) (an q (c_if_t q q (ns (ar q (r_block (r_then ?_)))))))));exact ret1L (v:=(.int .i64 ((2:Nat):Int))) trivial q ⟨q,tV⟩ ⟨2,q,M,(by omega),(by rw[tableF]<;>simp(disch:=first|omega|assumption|simp) only [SS,reduceIte,I,D,E,H])⟩
 (have H:=dF A);refine sg A (r_move q) (sg A (r_field q off69_7) (sg A ((r_loadBlk q one42 R q).to (b:=(.int .u64 ((h.n.getD 0 0:Nat):Int))) q) (sg A (r_subN (a:=p) (b:=(h.n.getD 0 0)) 18446744073709551616 q q q (by omega)) (sg A (r_ltN (a:=(p-(h.n.getD 0 0))) (b:=16) q q) (st _ (r_pick_f q A q) (mv q ?_))))));refine part_n (t:=33) q (fun G=>?_) (fun G=>?_)
 ·(have J:=dT G);refine sk G (sk G (sk G (st _ (r_pick_t q G q) (mv q (sk q (sk q (sk q (sk q (sk q (st _ (r_pick_t q q q) (an q (c_if_t q q ?_))))))))))));refine ns (ar q (r_block (r_then ?_)));exact ret1L (v:=(.int .i64 ((2:Nat):Int))) trivial q ⟨q,tV⟩ ⟨2,q,M,(by omega),(by rw[tableF]<;>simp(disch:=first|omega|assumption|simp) only [SS,reduceIte,I,D,E,H,J])⟩
 (have J:=dF G);refine sg G (r_move q) (sg G (r_move q) (sg G (r_gtN (a:=p) (b:=e) q q) (st _ (r_pick_f q G q) (mv q ?_))));refine part_n (t:=38) q (fun C=>?_) (fun C=>?_)
 ·(have K:=dT C);refine sk C (sk C (sk C (sk C (sk C (st _ (r_pick_t q C q) (an q (c_if_t q q (ns (ar q (r_block ?_))))))))));refine r_then ?_;exact ret1L (v:=(.int .i64 ((2:Nat):Int))) trivial q ⟨q,tV⟩ ⟨2,q,M,(by omega),(by rw[tableF]<;>simp(disch:=first|omega|assumption|simp) only [SS,reduceIte,I,D,E,H,J,K])⟩
 (have K:=dF C);refine sg C (r_move q) (sg C (r_move q) (sg C (r_move q) (sg C (r_subN (a:=e) (b:=p) 18446744073709551616 q q q (by omega)) (sg C (r_gtN (a:=size) (b:=(e-p)) q q) (st _ (r_pick_f q C q) (an q ?_))))));refine c_if q (fun P=>?_) (fun P=>?_)
 ·(have L:=dT P);refine ns (ar q (r_block (r_then ?_)));exact ret1L (v:=(.int .i64 ((2:Nat):Int))) trivial q ⟨q,tV⟩ ⟨2,q,M,(by omega),(by rw[tableF]<;>simp(disch:=first|omega|assumption|simp) only [SS,reduceIte,I,D,E,H,J,K,L])⟩
 (have L:=dF P);refine c_skip (n_block (c_then (ns (ar q ?_))));exact ret1L (v:=(.int .i64 ((0:Nat):Int))) trivial q ⟨q,tV⟩ ⟨0,q,M,(by omega),(by rw[tableF]<;>simp(disch:=first|omega|assumption|simp) only [SS,reduceIte,I,D,E,H,J,K,L])⟩
theorem elT5:elT Zp 5 1 1=true:=by kernel_rfl
theorem fn39:isFn Zp 39=true:=by kernel_rfl
theorem fn75:isFn Zp 75=true:=by kernel_rfl
theorem fn76:isFn Zp 76=true:=by kernel_rfl
theorem fn77:isFn Zp 77=true:=by kernel_rfl
theorem one3:isOne Zp 3=true:=by kernel_rfl
theorem bClone_any (uQ:Up w Q) {v0:Value} {l:Ly} (h0:Ls tB8 w Q v0 l) (p0:l.length≤140737488355328) :
  Calls Zp 40 #[v0] w fun en w'=>∃u0:Value,∃r0:List UInt8,∃Q':Nat→Prop,en = .returned (u0)∧Md [] w w'∧NewQ w w' Q Q'∧Ow tB8 5 (Fsh [] w) w' Q' u0 r0∧l=r0:=by
 obtain⟨a,A,T,R,V⟩:∃a A,v0 = .slice a l.length A∧l.length≤A∧(a=none→l=[]):=by
  obtain⟨a,A,j,e,M,k,N,_⟩:=h0;exact⟨a,A,e,M,fun h=>List.eq_nil_of_length_eq_zero (by have:=N h;omega)⟩
 refine enter (n:=8) Tryz.func40 q q q fun B=>ns (an q (c_seq (nm q (st (.bool a.isNone) (by exact r_eqlSN (a:=a) (m:=l.length) (c:=A) (by rw[← T];rfl) u34) (nt ?_)))));refine c_if q (fun H=>?_) (fun H=>?_)
 ·have S:l=[]:=V (Option.isNone_iff_eq_none.1 H)
  refine ns (ar q (r_then ?_));exact ret1 trivial q q ⟨_,[],Q,q,Md.refl [] w,⟨fun x h _=>h,fun x h=>h,uQ⟩,Ow.nil _ _ _ _ _,S⟩
 refine c_skip ?_
 refine c_then (ns (st_build0 u34 elT5 ?_));intro b i D W C O;obtain⟨K,J,Z,X,f⟩:=exQ uQ D W C;have P:Ow tB8 5 (Fsh [] w) i K (.slice (some ⟨b,0,none⟩) 0 0) []:=Ow.of_blk (m:=0) O q q (by simp[maxLen]) (.inr D) X;replace h0:=(h0.sub J).o C;refine mv q (st_apZ (sz:=1) q u34 elT5 q q P h0.lz f (Fsh.new C) (by simp;omega) (by simp;omega) ?_);intro p r L Y d g E F o _ U;refine ar q ?_;exact ret1 trivial q q ⟨_,_,L,q,C.step1 F D,⟨fun x G I=>Y x (J x G I) (lj I C.size),fun x G=>Z x (d x G),g⟩,E,by simp⟩
theorem bClone_any_ls (uQ:Up w Q) {v0:Value} {l:Ly} (h0:Ls tB8 w Q v0 l) (p0:l.length≤140737488355328) :
  Calls Zp 40 #[v0] w fun en w'=>∃u0:Value,∃r0:List UInt8,en = .returned (u0)∧Md [] w w'∧Ls tB8 w' Q u0 r0∧l=r0 :=
 (bClone_any uQ h0 p0).mono fun en w' ⟨u0,r0,Q2,he,hm,kq,k0,hF⟩=>⟨u0,r0,he,hm,k0.ls kq.2.1 (Fsh.up uQ),hF⟩
set_option maxRecDepth 100000 in
abbrev zz0:PHead:={compat:=0,incompat:=0,state:=0,file:=idZ,machine:=idZ,boot:=idZ,seq:=idZ,n:=(List.replicate 21 0),tailArray:=0,tailItems:=0,tailEntry:=0}
set_option maxHeartbeats 4000000 in
theorem hRead_any (uQ:Up w Q) {v0:Value} {b:Ly} (h0:Ls tB8 w Q v0 b) :
  Calls Zp 38 #[v0] w fun en w'=>∃r0:PHead,∃r1:Nat,en = .returned (.tuple #[.agg (PHead.cells r0).toArray,(.int .i64 r1)])∧Md [] w w'∧PHead.ok r0∧r1<9223372036854775808∧readF b=(r0,r1):=by
 have L0:=h0.len63;have M:=Md.refl [] w;have Bl:=uQ;refine enter (n:=90) Tryz.func38 q q q fun B=>ns (st_alloc z69 ?_);intro v w1 i Az E A;obtain⟨Q2,r,sT,A1,V⟩:=exQ uQ i Az E;replace i:=ly M.size i;replace h0:=(h0.sub r).o E;replace M:=M.k E;replace uQ:=V;clear V r sT;have H:Fsh [] w v:=.inr i;replace A:Blk _ _ (PHead.cells (zz0)) _:=A;have A9:PHead.ok (zz0):=(by exact⟨(by decide),(by decide),(by decide),q,q,q,q,(nums_zero _),(by decide),(by decide),(by decide)⟩);refine an q (c_seq (c_block (nm q (sL q u34 h0.shp (st _ (r_ltN (a:=b.length) (b:=272) q q) (asg q (nt ?_)))))));refine c_if q (fun h9=>?_) (fun h9=>?_)
 ·(have R:=dT h9);refine ns (st _ (r_buildG (us:=[]) (cs:=(PHead.cells (zz0))) [] z69 pl69 q q trivial trivial q q) (st_storeAgg (us:=(PHead.cells (zz0))) q q (by exact agg69) (by exact fun u S=>one_cells (PHead.one) u S) A (lB q) ?_));have F:=A;clear A;intro w4 E A;replace M:=M.step E (hI H);clear F;replace A:Blk _ _ (PHead.cells (zz0)) _:=A;refine ar q (r_block (r_then ?_));exact retL (vs:=[(.agg (PHead.cells (zz0)).toArray),(.int .i64 ((22:Nat):Int))]) trivial q ⟨⟨_,q,load_agg (cs:=(PHead.cells (zz0))) (by exact agg69) A⟩,q,tV⟩ q ⟨(zz0),22,q,M,(by assumption),(by omega),(readF_short R)⟩
 (have R:=dF h9);refine nm q (st_buildSliceG [[(b8 76)],[(b8 80)],[(b8 75)],[(b8 83)],[(b8 72)],[(b8 72)],[(b8 82)],[(b8 72)]] u34 elT5 (by decide) (by decide) q q ⟨q,q,q,q,q,q,q,q,tV⟩ ⟨q,q,q,q,q,q,q,q,tV⟩ q (by decide) ?_);intro e w5 l As E Z;have Aj:v≠e:=(by have:=A.lt;omega);have k:Fsh [] w e:=Fsh.new M _ l;obtain⟨Q6,r,sT,c,V⟩:=exQ uQ l As E;replace h0:=(h0.sub r).o E;obtain⟨A,M⟩:=k2 E A M;replace uQ:=V;clear V r sT;refine st_mark u34 u5 q (show Blk _ _ (([76,80,75,83,72,72,82,72]:Ly).map b8) _ from Z) (By.of_blk (show Blk _ _ (([76,80,75,83,72,72,82,72]:Ly).map b8) _ from Z) q (by decide)) ?_;intro w7 E hY;have Af:=Z;clear Z;have hS:∀b∈[e],¬Q6 b:=(hI c);replace h0:=h0.md E hS;replace A:=A.md E (by intro d;simp at d;omega);replace uQ:=uQ.md E;replace M:=M.step E (hI k);obtain⟨Q8,fQ,fT,Ag⟩:=lit_freeze (Q:=Q6) hY;replace h0:=h0.sub (fun b d _=>fQ b d);replace uQ:Up w7 Q8:=fun b d=>fQ b (uQ b d);clear Af hS fQ fT hY c;refine st_call fn75 q (hPref_any uQ h0 Ag) ?_;rintro en w9 ⟨Ba,rfl,E,T⟩;refine rv ?_;obtain⟨h0,A,uQ,M⟩:=k4 E h0 A uQ M;refine st _ (r_not q) (an q ?_);refine c_if q (fun y=>?_) (fun y=>?_)
 ·(have o:=bnt y);refine ns (st _ (r_buildG (us:=[]) (cs:=(PHead.cells (zz0))) [] z69 pl69 q q trivial trivial q q) (st_storeAgg (us:=(PHead.cells (zz0))) q q (by exact agg69) (by exact fun u S=>one_cells (PHead.one) u S) A (lB q) ?_));have F:=A;clear A;intro Bm E A;replace M:=M.step E (hI H);clear F;replace A:Blk _ _ (PHead.cells (zz0)) _:=A;refine ar q (r_block (r_then ?_));exact retL (vs:=[(.agg (PHead.cells (zz0)).toArray),(.int .i64 ((6:Nat):Int))]) trivial q ⟨⟨_,q,load_agg (cs:=(PHead.cells (zz0))) (by exact agg69) A⟩,q,tV⟩ q ⟨(zz0),6,q,M,(by assumption),(by omega),(readF_sign R (by rw[T];exact o))⟩
 (have o:=bnf y);refine c_skip (n_block (c_then (nm q (st_call fn76 q (hParse_any uQ h0 (by omega)) ?_))));rintro en Bn ⟨C,rfl,E,D,K⟩;refine rv ?_;obtain⟨h0,A,uQ,M⟩:=k4 E h0 A uQ M;refine st_alloc z69 ?_;intro x Bo j A0 E G;have Av:v≠x:=(by have:=A.lt;omega);obtain⟨Aw,r,sT,Ah,V⟩:=exQ uQ j A0 E;replace j:=ly M.size j;replace h0:=(h0.sub r).o E;obtain⟨A,M⟩:=k2 E A M;replace uQ:=V;clear V r sT;have Ai:Fsh [] w x:=.inr j;replace G:Blk _ _ (PHead.cells (zz0)) _:=G;have A2:PHead.ok (zz0):=(by exact⟨(by decide),(by decide),(by decide),q,q,q,q,(nums_zero _),(by decide),(by decide),(by decide)⟩);refine st_storeAgg (us:=(PHead.cells C)) q q (by exact agg69) (by exact fun u S=>one_cells (PHead.one) u S) G (lB q) ?_
 have Ar:=G;clear G;intro Bp E G;have hS:∀b∈[x],¬Aw b:=(hI Ah);replace h0:=h0.md E hS;replace A:=A.md E (by intro d;simp at d;omega);replace uQ:=uQ.md E;replace M:=M.step E (hI Ai);clear Ar hS;replace G:Blk _ _ (PHead.cells C) _:=G;refine nt (ns (st _ (r_loadPart (PHead.cells C) q (by exact agg69) G q) (st_call fn39 q (hEnd_any uQ C D) ?_)));rintro en Bq ⟨W,A6,rfl,E,A3,L⟩;refine rv ?_;obtain⟨h0,A,G,uQ,M⟩:=k5 E h0 A G uQ M;refine mv q (se q q (se q q (asg q (an q (c_seq (c_block (ns (sf q off69_1 (sl (u:=(.int .u32 C.incompat)) q one67 G q ?_)))))))));have Bd:C.incompat<4294967296:=D.2.1;refine st _ (r_andNotN (a:=C.incompat) (b:=4) 4294967296 q q q q (by omega)) (st _ (r_neN (a:=(andNot C.incompat 4)) (b:=0) q q) (an q ?_));refine c_if q (fun z=>?_) (fun z=>?_)
 ·(have I:=dT z);refine ns (st _ (r_buildG (us:=[]) (cs:=(PHead.cells (zz0))) [] z69 pl69 q q trivial trivial q q) (st_storeAgg (us:=(PHead.cells (zz0))) q q (by exact agg69) (by exact fun u S=>one_cells (PHead.one) u S) A (lB q) ?_));have F:=A;clear A;intro Br E A;replace M:=M.step E (hI H);clear F;replace A:Blk _ _ (PHead.cells (zz0)) _:=A;refine ar q (r_block (r_then ?_));exact retL (vs:=[(.agg (PHead.cells (zz0)).toArray),(.int .i64 ((7:Nat):Int))]) trivial q ⟨⟨_,q,load_agg (cs:=(PHead.cells (zz0))) (by exact agg69) A⟩,q,tV⟩ q ⟨(zz0),7,q,M,(by assumption),(by omega),(readF_no R T (by simp_all) K (by rw[amiss_at L];rw[if_pos I]) (by decide))⟩
 (have I:=dF z);refine ns (sf q off69_2 (sl (u:=(.int .i64 C.state)) q one3 G q ?_));have Be:C.state<9223372036854775808:=D.2.2.1;refine st _ (r_gtN (a:=C.state) (b:=2) q q) (an q ?_);refine c_if q (fun Aa=>?_) (fun Aa=>?_)
 ·(have J:=dT Aa);refine ns (st _ (r_buildG (us:=[]) (cs:=(PHead.cells (zz0))) [] z69 pl69 q q trivial trivial q q) (st_storeAgg (us:=(PHead.cells (zz0))) q q (by exact agg69) (by exact fun u S=>one_cells (PHead.one) u S) A (lB q) ?_));have F:=A;clear A;intro Bs E A;replace M:=M.step E (hI H);clear F;replace A:Blk _ _ (PHead.cells (zz0)) _:=A;refine ar q (r_block (r_then ?_));exact retL (vs:=[(.agg (PHead.cells (zz0)).toArray),(.int .i64 ((8:Nat):Int))]) trivial q ⟨⟨_,q,load_agg (cs:=(PHead.cells (zz0))) (by exact agg69) A⟩,q,tV⟩ q ⟨(zz0),8,q,M,(by assumption),(by omega),(readF_no R T (by simp_all) K (by rw[amiss_at L];rw[if_neg I,if_pos J]) (by decide))⟩
 (have J:=dF Aa);refine ns (sf q off69_7 (sl (u:=(.int .u64 ((C.n.getD 0 0:Nat):Int))) q one42 G q ?_));have Bf:C.n.getD 0 0<18446744073709551616:=(nums_bd D.2.2.2.2.2.2.2.1 0);refine st _ (r_ltN (a:=(C.n.getD 0 0)) (b:=272) q q) (mv q ?_);refine part_n (t:=43) q (fun O=>?_) (fun O=>?_)
 ·(have Al:=dT O);refine sk O (sk O (sk O (sk O (st _ (r_pick_t q O q) (mv q (sk q (sk q (sk q (sk q (st _ (r_pick_t q q q) (an q (c_if_t q q ?_))))))))))));refine ns (st _ (r_buildG (us:=[]) (cs:=(PHead.cells (zz0))) [] z69 pl69 q q trivial trivial q q) (st_storeAgg (us:=(PHead.cells (zz0))) q q (by exact agg69) (by exact fun u S=>one_cells (PHead.one) u S) A (lB q) ?_));have F:=A;clear A;intro Bt E A;replace M:=M.step E (hI H);clear F;replace A:Blk _ _ (PHead.cells (zz0)) _:=A;refine ar q (r_block (r_then ?_));exact retL (vs:=[(.agg (PHead.cells (zz0)).toArray),(.int .i64 ((5:Nat):Int))]) trivial q ⟨⟨_,q,load_agg (cs:=(PHead.cells (zz0))) (by exact agg69) A⟩,q,tV⟩ q ⟨(zz0),5,q,M,(by assumption),(by omega),(readF_no R T (by simp_all) K (by rw[amiss_at L];rw[if_neg I,if_neg J,if_pos (by omega)]) (by decide))⟩
 (have Al:=dF O);refine sg O (r_field q off69_7) (sg O ((r_loadBlk q one42 G q).to (b:=(.int .u64 ((C.n.getD 0 0:Nat):Int))) q) (sg O (r_remN (a:=(C.n.getD 0 0)) (b:=8) q q (by omega)) (sg O (r_neN (a:=((C.n.getD 0 0)%8)) (b:=0) q q) (st _ (r_pick_f q O q) (mv q ?_)))));refine part_n (t:=49) q (fun P=>?_) (fun P=>?_)
 ·(have Am:=dT P);refine sk P (sk P (sk P (sk P (st _ (r_pick_t q P q) (an q (c_if_t q q (ns (st _ (r_buildG (us:=[]) (cs:=(PHead.cells (zz0))) [] z69 pl69 q q trivial trivial q q) (st_storeAgg (us:=(PHead.cells (zz0))) q q (by exact agg69) (by exact fun u S=>one_cells (PHead.one) u S) A (lB q) ?_)))))))));have F:=A;clear A;intro Bu E A;replace M:=M.step E (hI H);clear F;replace A:Blk _ _ (PHead.cells (zz0)) _:=A;refine ar q (r_block (r_then ?_));exact retL (vs:=[(.agg (PHead.cells (zz0)).toArray),(.int .i64 ((5:Nat):Int))]) trivial q ⟨⟨_,q,load_agg (cs:=(PHead.cells (zz0))) (by exact agg69) A⟩,q,tV⟩ q ⟨(zz0),5,q,M,(by assumption),(by omega),(readF_no R T (by simp_all) K (by rw[amiss_at L];rw[if_neg I,if_neg J,if_pos (by omega)]) (by decide))⟩
 (have Am:=dF P);refine sg P (r_field q off69_8) (sg P ((r_loadBlk q one42 G q).to (b:=(.int .u64 ((C.n.getD 1 0:Nat):Int))) q) ?_);have Bg:C.n.getD 1 0<18446744073709551616:=(nums_bd D.2.2.2.2.2.2.2.1 1);refine sg P (r_remN (a:=(C.n.getD 1 0)) (b:=8) q q (by omega)) (sg P (r_neN (a:=((C.n.getD 1 0)%8)) (b:=0) q q) (st _ (r_pick_f q P q) (an q ?_)));refine c_if q (fun Ab=>?_) (fun Ab=>?_)
 ·(have Ak:=dT Ab);refine ns (st _ (r_buildG (us:=[]) (cs:=(PHead.cells (zz0))) [] z69 pl69 q q trivial trivial q q) (st_storeAgg (us:=(PHead.cells (zz0))) q q (by exact agg69) (by exact fun u S=>one_cells (PHead.one) u S) A (lB q) ?_));have F:=A;clear A;intro Bv E A;replace M:=M.step E (hI H);clear F;replace A:Blk _ _ (PHead.cells (zz0)) _:=A;refine ar q (r_block (r_then ?_));exact retL (vs:=[(.agg (PHead.cells (zz0)).toArray),(.int .i64 ((5:Nat):Int))]) trivial q ⟨⟨_,q,load_agg (cs:=(PHead.cells (zz0))) (by exact agg69) A⟩,q,tV⟩ q ⟨(zz0),5,q,M,(by assumption),(by omega),(readF_no R T (by simp_all) K (by rw[amiss_at L];rw[if_neg I,if_neg J,if_pos (by omega)]) (by decide))⟩
 (have Ak:=dF Ab);refine nm q (st _ (r_not q) (mv q ?_));refine part_n (t:=59) q (fun N=>?_) (fun N=>?_)
 ·(have Ap:=bnt N);refine sk N (sk N (sk N (sk N (sk N (st _ (r_pick_t q N q) (an q (c_if_t q q (ns (st _ (r_buildG (us:=[]) (cs:=(PHead.cells (zz0))) [] z69 pl69 q q trivial trivial q q) (st_storeAgg (us:=(PHead.cells (zz0))) q q (by exact agg69) (by exact fun u S=>one_cells (PHead.one) u S) A (lB q) ?_))))))))));have F:=A;clear A;intro Bw E A;replace M:=M.step E (hI H);clear F;replace A:Blk _ _ (PHead.cells (zz0)) _:=A;refine ar q (r_block (r_then ?_));exact retL (vs:=[(.agg (PHead.cells (zz0)).toArray),(.int .i64 ((2:Nat):Int))]) trivial q ⟨⟨_,q,load_agg (cs:=(PHead.cells (zz0))) (by exact agg69) A⟩,q,tV⟩ q ⟨(zz0),2,q,M,(by assumption),(by omega),(readF_no R T (by simp_all) K (by rw[amiss_at L];rw[if_neg I,if_neg J,if_neg (by omega),if_pos (by(left;simp_all))]) (by decide))⟩
 (have Ap:=bnf N);refine sg N (r_move q) (sg N (r_move q) (sg N (r_len q u34 h0.shp) (sg N (r_convN (a:=b.length) 18446744073709551616 q (by rw[u3];rfl) u42 q (by omega)) (sg N (r_gtN (a:=W) (b:=b.length) q q) (st _ (r_pick_f q N q) (an q ?_))))));refine c_if q (fun Ac=>?_) (fun Ac=>?_)
 ·(have Ao:=dT Ac);refine ns (st _ (r_buildG (us:=[]) (cs:=(PHead.cells (zz0))) [] z69 pl69 q q trivial trivial q q) (st_storeAgg (us:=(PHead.cells (zz0))) q q (by exact agg69) (by exact fun u S=>one_cells (PHead.one) u S) A (lB q) ?_));have F:=A;clear A;intro Bx E A;replace M:=M.step E (hI H);clear F;replace A:Blk _ _ (PHead.cells (zz0)) _:=A;refine ar q (r_block (r_then ?_));exact retL (vs:=[(.agg (PHead.cells (zz0)).toArray),(.int .i64 ((2:Nat):Int))]) trivial q ⟨⟨_,q,load_agg (cs:=(PHead.cells (zz0))) (by exact agg69) A⟩,q,tV⟩ q ⟨(zz0),2,q,M,(by assumption),(by omega),(readF_no R T (by simp_all) K (by rw[amiss_at L];rw[if_neg I,if_neg J,if_neg (by omega),if_pos (by(right;omega))]) (by decide))⟩
 (have Ao:=dF Ac);refine c_skip (n_block (c_then (c_seq (ns (st _ (r_loadPart (PHead.cells C) q (by exact agg69) G q) (sf q off69_9 (sl (u:=(.int .u64 ((C.n.getD 2 0:Nat):Int))) q one42 G q ?_)))))));have Bh:C.n.getD 2 0<18446744073709551616:=(nums_bd D.2.2.2.2.2.2.2.1 2);refine sf q off69_10 (sl (u:=(.int .u64 ((C.n.getD 3 0:Nat):Int))) q one42 G q ?_);have Bi:C.n.getD 3 0<18446744073709551616:=(nums_bd D.2.2.2.2.2.2.2.1 3);refine mv q (st_call fn77 q (hTable_any uQ C D (C.n.getD 2 0) (by omega) (C.n.getD 3 0) (by omega) W (by omega)) ?_);rintro en Bz ⟨X,rfl,E,A4,g⟩;refine rv ?_;obtain⟨A,G,uQ,M⟩:=k4 E A G uQ M;refine an q (nm q (st _ (r_neN (a:=X) (b:=0) q q) (nt ?_)));refine c_if q (fun Ad=>?_) (fun Ad=>?_)
 ·(have U:=dT Ad);refine ns (st _ (r_buildG (us:=[]) (cs:=(PHead.cells (zz0))) [] z69 pl69 q q trivial trivial q q) (mv q (st_storeAgg (us:=(PHead.cells (zz0))) q q (by exact agg69) (by exact fun u S=>one_cells (PHead.one) u S) A (lB q) ?_)));have F:=A;clear A;intro B0 E A;replace M:=M.step E (hI H);clear F;replace A:Blk _ _ (PHead.cells (zz0)) _:=A;refine ar q (r_then ?_);exact retL (vs:=[(.agg (PHead.cells (zz0)).toArray),(.int .i64 X)]) trivial q ⟨⟨_,q,load_agg (cs:=(PHead.cells (zz0))) (by exact agg69) A⟩,q,tV⟩ q ⟨(zz0),X,q,M,(by assumption),(by assumption),(readF_no R T (by simp_all) K (by rw[amiss_at L];rw[if_neg I,if_neg J,if_neg (by omega),if_neg (by rintro(h|h)<;>first|omega|simp_all),g,if_pos U]) U)⟩
 (have U:=dF Ad);refine c_skip (c_then (c_seq (ns (st _ (r_loadPart (PHead.cells C) q (by exact agg69) G q) (sf q off69_11 (sl (u:=(.int .u64 ((C.n.getD 4 0:Nat):Int))) q one42 G q ?_))))));have Bj:C.n.getD 4 0<18446744073709551616:=(nums_bd D.2.2.2.2.2.2.2.1 4);refine sf q off69_12 (sl (u:=(.int .u64 ((C.n.getD 5 0:Nat):Int))) q one42 G q ?_);have Bk:C.n.getD 5 0<18446744073709551616:=(nums_bd D.2.2.2.2.2.2.2.1 5);refine mv q (st_call fn77 q (hTable_any uQ C D (C.n.getD 4 0) (by omega) (C.n.getD 5 0) (by omega) W (by omega)) ?_);rintro en B3 ⟨Y,rfl,E,A5,p⟩;refine rv ?_;obtain⟨A,G,M⟩:=k3 E A G M;refine an q (nm q (st _ (r_neN (a:=Y) (b:=0) q q) (nt ?_)));refine c_if q (fun Ae=>?_) (fun Ae=>?_)
 ·(have f:=dT Ae);refine ns (st _ (r_buildG (us:=[]) (cs:=(PHead.cells (zz0))) [] z69 pl69 q q trivial trivial q q) (mv q (st_storeAgg (us:=(PHead.cells (zz0))) q q (by exact agg69) (by exact fun u S=>one_cells (PHead.one) u S) A (lB q) ?_)));have F:=A;clear A;intro B4 E A;replace M:=M.step E (hI H);clear F;replace A:Blk _ _ (PHead.cells (zz0)) _:=A;refine ar q (r_then ?_);exact retL (vs:=[(.agg (PHead.cells (zz0)).toArray),(.int .i64 Y)]) trivial q ⟨⟨_,q,load_agg (cs:=(PHead.cells (zz0))) (by exact agg69) A⟩,q,tV⟩ q ⟨(zz0),Y,q,M,(by assumption),(by assumption),(readF_no R T (by simp_all) K (by rw[amiss_at L];rw[if_neg I,if_neg J,if_neg (by omega),if_neg (by rintro(h|h)<;>first|omega|simp_all),g,if_neg U,p]) f)⟩
 (have f:=dF Ae);refine c_skip (c_then (ns (st _ (r_loadPart (PHead.cells C) q (by exact agg69) G q) (st_storeAgg (us:=(PHead.cells C)) q q (by exact agg69) (by exact fun u S=>one_cells (PHead.one) u S) A (lB q) ?_))));have F:=A;clear A;intro B5 E A;replace M:=M.step E (hI H);clear F;replace A:Blk _ _ (PHead.cells C) _:=A;refine ar q ?_;exact retL (vs:=[(.agg (PHead.cells C).toArray),(.int .i64 ((0:Nat):Int))]) trivial q ⟨⟨_,q,load_agg (cs:=(PHead.cells C)) (by exact agg69) A⟩,q,tV⟩ q ⟨C,0,q,M,D,(by omega),(readF_ok R T (by simp_all) K (by rw[amiss_at L];rw[if_neg I,if_neg J,if_neg (by omega),if_neg (by rintro(h|h)<;>first|omega|simp_all),g,if_neg U,p];simpa using f))⟩
theorem fn38:isFn Zp 38=true:=by kernel_rfl
theorem fn40:isFn Zp 40=true:=by kernel_rfl
theorem pl96:bplace Zp 96=some [(0,1),(1,91)]:=by kernel_rfl
theorem z96:zcells Zp 96=some ([.slice none 0 0,.int .u32 0,.int .u32 0,.int .i64 0] ++ (List.replicate 64 (.int .u8 0) ++ (List.replicate 21 (.int .u64 0) ++ ([.int .u32 0,.int .u32 0,.int .u64 0])))):=by kernel_rfl
set_option maxRecDepth 100000 in
theorem aOpen_any (uQ:Up w Q) {v0:Value} {b:Ly} (h0:Ls tB8 w Q v0 b) (p0:b.length≤140737488355328) :
  Calls Zp 9 #[v0] w fun en w'=>∃u0:Value,∃r0:Option (PView),∃r1:Nat,en = .returned (.tuple #[u0,(.int .i64 r1)])∧Md [] w w'∧Po tPView 96 w' Q u0 r0∧r1<9223372036854775808∧openF b=(r0,r1):=by
 have L0:=h0.len63;have M:=Md.refl [] w;have t:=uQ;have l:∀b,Q b→Q b:=fun _ h=>h;refine enter (n:=28) Tryz.func9 q q q fun B=>ns (asg q (an q (nm q (st_call fn38 q (hRead_any uQ h0) ?_))));rintro en w1 ⟨C,L,rfl,D,P,z,X⟩;refine rv ?_;obtain⟨h0,uQ,M⟩:=k3 D h0 uQ M;refine mv q (se q q (se q q (st_alloc z69 ?_)));intro V w2 O r D A;obtain⟨Q3,j,k,Z,J⟩:=exQ uQ O r D;replace l:=tT l k;replace O:=ly M.size O;replace h0:=(h0.sub j).o D;replace M:=M.k D;replace uQ:=J;clear J j k;have c:Fsh [] w V:=.inr O;replace A:Blk _ _ (PHead.cells (zz0)) _:=A;have y:PHead.ok (zz0):=(by exact⟨(by decide),(by decide),(by decide),q,q,q,q,(nums_zero _),(by decide),(by decide),(by decide)⟩);refine st_storeAgg (us:=(PHead.cells C)) q q (by exact agg69) (by exact fun u hu=>one_cells (PHead.one) u hu) A (lB q) ?_
 have g:=A;clear A;intro w5 D A;have v:∀b∈[V],¬Q3 b:=(hI Z);replace h0:=h0.md D v;replace uQ:=uQ.md D;replace M:=M.step D (hI c);clear g v;replace A:Blk _ _ (PHead.cells C) _:=A;refine an q (c_seq (nm q (st _ (r_neN (a:=L) (b:=0) q q) (nt ?_))));refine c_if q (fun W=>?_) (fun W=>?_)
 ·(have H:=dT W);refine nm q (asg q (ar q (r_then ?_)));exact retL (vs:=[(.pointer none),(.int .i64 L)]) trivial q ⟨q,q,tV⟩ q ⟨_,none,L,q,M,q,(by assumption),(by rw[openF,X,if_pos H])⟩
 (have H:=dF W);refine c_skip (c_then (ns (st _ (r_loadPart (PHead.cells C) q (by exact agg69) A q) (st_call fn39 q (hEnd_any uQ C P) ?_))));rintro en w6 ⟨U,Ab,rfl,D,Aa,e⟩;refine rv ?_;obtain⟨h0,A,uQ,M⟩:=k4 D h0 A uQ M;refine mv q (se q q (se q q (asg q (an q (c_seq ?_)))));have I:=A;refine c_mixT [(0,true),(1,true),(2,true),(4,true),(3,false)] [5,6,7,8] (fun w'=>Md [] w6 w') mixed (by kernel_rfl) ?_;intro w7 G;refine⟨G.mono (by simp),?_⟩;have o:=G.mono (T:=[]) (by simp);have rf:readF b=(C,0):=(by rw[X];simp only[Prod.mk.injEq,true_and];omega);have en:=read_end rf e;refine mo q (mo q (mz (fun w' x=>r_sliceZ 1 0 U u34 el5 q h0.shp (by omega) (by omega) q ⟨_,q⟩) ?_));have Y:=h0.head (hi:=U) (by omega);refine mz (fun w' x=>r_loadPart (PHead.cells C) q (by exact agg69) (I.o x) q) ?_;obtain⟨A,Y,uQ,M⟩:=k4 G A Y uQ M;refine m_e ?_ rfl;refine st_call fn40 q (bClone_any_ls uQ Y (by(simp<;>omega))) ?_;rintro en w9 ⟨K,N,rfl,D,E,Ae⟩;refine rv ?_;obtain⟨A,uQ,M,o⟩:=k4 D A uQ M o;refine st_nil ⟨q,o,?_⟩;refine m_nil ?_;clear I;clear o;refine st _ (r_buildG (us:=[[K],(PHead.cells C)]) (cs:=(PView.cells (({b:=N,h:=C}:PView)) K)) [(0,0,1),(1,1,91)] z96 pl96 q q ⟨(cells_one E.oneCell),q,tV⟩ ⟨q,q,tV⟩ q q) (st_box (cs:=(PView.cells (({b:=N,h:=C}:PView)) K)) q q ?_);intro R Ah F i D f;have d:V≠R:=(by have:=A.lt;omega);obtain⟨Ac,j,k,p,J⟩:=exQ uQ F i D
 replace l:=tT l k;replace F:=ly M.size F;replace E:=(E.sub j).o D;replace M:=M.k D;replace uQ:=J;clear J j k;refine asg q (ar q ?_);exact retL (vs:=[(.pointer (some ⟨R,0,none⟩)),(.int .i64 ((0:Nat):Int))]) trivial q ⟨q,q,tV⟩ q ⟨_,(some (({b:=N,h:=C}:PView))),0,q,M,⟨_,_,q,t _ F,f,tPView_mk (by assumption) (E.sub (fun b S _=>l b S))⟩,(by omega),(by rw[openF,X,if_neg H,e];simp_all)⟩
end Go.Proofs.YtllaambooilnlaaGreat
