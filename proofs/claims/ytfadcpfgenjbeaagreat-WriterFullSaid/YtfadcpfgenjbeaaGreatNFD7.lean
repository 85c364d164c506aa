/- Part 7 of what the walk of a law stands on: ImT6, ImT7, ImT8, ImT9, GoLP, ImT10, ImT11, ImT12, ImT13, ImT14, LinkP, LinkQ, ImT15, ImT16, ImT17, LwP, LdP, HsP, HsQ, HsR, WsP, WsQ, WsR, WsS, WsT, WsU, PacQ, WsV. No statement is proved here. -/
import Derived.Test.YtfadcpfgenjbeaaGreatNFD6
set_option linter.unusedSimpArgs false
set_option linter.unusedVariables false
set_option linter.unusedSimpArgs false
namespace Go.Wk
open Go Go.RowKit
theorem at8_new (b o:Ly) (q:Nat):at8 (b ++ o) (b.length+q)=at8 o q:=by rw[at8_skip (by omega),Nat.add_sub_cancel_left]
theorem seg_new' (b o:Ly) (q n:Nat):seg (b ++ o) (b.length+q) n=seg o q n:=by rw[seg_skip (by omega),Nat.add_sub_cancel_left]
/-- An object of numbers and a text. -/
theorem objB {k:Nat} (hk:1≤k∧k≤7) (ns:List Nat) (t:Ly) (hn:∀v∈ns,v<18446744073709551616) :
    (∃r,putF k (nums ns ++ t)=hdr k (16+8*ns.length+t.length) ++ r)∧(putF k (nums ns ++ t)).length=up8 (16+8*ns.length+t.length) ∧
    (∀i v:Nat,ns[i]? = some v→at8 (putF k (nums ns ++ t)) (16+8*i)=v)∧seg (putF k (nums ns ++ t)) (16+8*ns.length) t.length=t:=by
  have A:(nums ns ++ t).length=8*ns.length+t.length:=by simp[nums_len]
  rw[putF_hdr hk,A,show 16+(8*ns.length+t.length)=16+8*ns.length+t.length by omega]
  refine⟨⟨_,List.append_assoc _ _ _⟩,?_,fun i v h=>?_,?_⟩
  · rw[List.length_append,List.length_append,hdr_len,A,List.length_replicate];unfold up8;omega
  · rw[List.append_assoc,at8_skip (by rw[hdr_len];omega),hdr_len,Nat.add_sub_cancel_left,List.append_assoc]
    exact at8_nums h (hn v (List.mem_of_getElem? h))
  · rw[List.append_assoc,seg_skip (by rw[hdr_len];omega),hdr_len,show 16+8*ns.length-16=8*ns.length by omega,List.append_assoc,seg_skip (by rw[nums_len];omega),nums_len,Nat.sub_self]
    exact seg_take _ _ rfl
theorem hashM_lt (m:Mk) (s:Ly):hashM m s<18446744073709551616:=hashN_lt _ _ _
/-- A soft step keeps what stays; new data and fields are looked at by themselves. -/
theorem Stat.step {m m':Mk} {l l':List Ob} (h:Stat m l) (s:SoftStep m m' l l') (hd:∀k∈m'.datas,k∈m.datas∨DatS m'.b l' (hashM m k.text) k) (hf:∀k∈m'.fields,k∈m.fields∨FldS' m'.b l' (hashM m k.text) k)
    (h1:∀i j:Nat,∀k k':Known,m'.datas[i]? = some k→m'.datas[j]? = some k'→k.pos=k'.pos∨k.text=k'.text→i=j) (h2:∀o∈l',o.kind=1→∃k∈m'.datas,k.pos=o.pos) (h3:∀o∈l',o.kind=2→∃k∈m'.fields,k.pos=o.pos):Stat m' l':=by
  have B:=s.mem
  have D:∀a,Soft l' a→Mild l a:=fun a F=>(F.mild s.objs).mono B
  obtain⟨A,G,C⟩:=s.same
  have E:∀t,hashM m' t=hashM m t:=fun t=>by unfold hashM;rw[A]
  refine⟨s.objs,by rw[A];exact B _ h.tab4,by rw[A];exact B _ h.tab5,(C 2 (by decide) (by decide) (by decide)).trans h.n2,by rw[A];exact(C 4 (by decide) (by decide) (by decide)).trans h.n4,by rw[A];exact h.slots,fun k hk=>?_,fun k hk=>?_,h1,h2,h3,s.cn h.cn⟩
  · rw[E]
    rcases hd k hk with hk|hk
    · exact(h.data k hk).eff h.objs s.eff D B
    · exact hk
  · rw[E]
    rcases hf k hk with hk|hk
    · exact(h.fld k hk).eff h.objs s.eff D B
    · exact hk
theorem Stat.soft {m m':Mk} {l l':List Ob} (h:Stat m l) (s:SoftStep m m' l l') (hd:m'.datas=m.datas) (hf:m'.fields=m.fields) (hl:l'=l):Stat m' l' :=
  h.step s (fun k hk=>.inl (hd ▸ hk)) (fun k hk=>.inl (hf ▸ hk)) (by rw[hd];exact h.one) (by rw[hd,hl];exact h.all) (by rw[hf,hl];exact h.allf)
theorem soft4 {m:Mk} {l:List Ob} (h:Stat m l) {s:Nat} (hs:s<m.c.dataSlots):Soft l (m.num 2+16*s)∧Soft l (m.num 2+16*s+8):=by
  have:=up8_ge (16+16*m.c.dataSlots)
  rw[h.n2]
  exact⟨⟨_,h.tab4,.inl ⟨.inl rfl,by simp only;omega,by simp only;omega⟩⟩,⟨_,h.tab4,.inl ⟨.inl rfl,by simp only;omega,by simp only;omega⟩⟩⟩
theorem soft5 {m:Mk} {l:List Ob} (h:Stat m l) {s:Nat} (hs:s<m.c.fieldSlots):Soft l (m.num 4+16*s)∧Soft l (m.num 4+16*s+8):=by
  have:=up8_ge (16+16*m.c.fieldSlots)
  rw[h.n4]
  exact⟨⟨_,h.tab5,.inl ⟨.inr rfl,by simp only;omega,by simp only;omega⟩⟩,⟨_,h.tab5,.inl ⟨.inr rfl,by simp only;omega,by simp only;omega⟩⟩⟩
theorem field_im {m:Mk} {l:List Ob} (h:Stat m l) (name:Ly) (hn:name.length≤1000) :
    ∃l',SoftStep m (m.field name).2 l l'∧Stat (m.field name).2 l'∧(∃k∈(m.field name).2.fields,k.pos=(m.field name).1)∧(m.field name).2.datas=m.datas:=by
  unfold Mk.field
  cases hk:findK name m.fields with
  | some p =>
    obtain⟨k,Q,R,_⟩:=findK_mem hk
    exact⟨l,SoftStep.refl h.objs,h,⟨k,Q,R⟩,rfl⟩
  | none =>
    simp only
    generalize hF:putFieldF {hash:=hashN m.c.keyed m.c.file name,nextHash:=0,dat:=0,payload:=name}=o
    have O:o=putF 2 (nums [hashM m name,0,0] ++ name):=hF.symm
    obtain⟨⟨r,L⟩,M,U,N⟩:=objB (k:=2) (by decide) [hashM m name,0,0] name (by have:=hashM_lt m name;intro v g;simp at g;omega)
    rw[← O]at L M U N
    simp only[List.length_cons,List.length_nil,Nat.zero_add,Nat.reduceAdd,Nat.reduceMul]at L M N
    have G:=SoftStep.obj (m:=m) (o:=o) h.objs (.inr rfl) L M (by omega) (by omega)
    have P:(m.object o).2.b=m.b ++ o:=rfl
    have V:(m.object o).1=m.b.length:=rfl
    have H:=object_same m o
    have W:(m.object o).2.num 4=m.num 4:=by simp only[Mk.object];rw[num_setN (by omega),num_setN (by omega)];rfl
    generalize m.object o=z at *
    obtain⟨p,A⟩:=z
    simp only at G P V H W ⊢
    subst V
    have f:hashN m.c.keyed m.c.file name%A.c.fieldSlots<m.c.fieldSlots:=by rw[H.1];exact Nat.mod_lt _ (by have:=h.slots;omega)
    have S:=soft5 h f
    rw[← W]at S
    have I:=SoftStep.hang (m:=A) (p:=m.b.length) (ks:=A.fields) G.objs ⟨S.1.mono G.mem,S.2.mono G.mem⟩ (fun k hk=>by
      rw[H.2.2.1]at hk
      have:=(h.fld k hk).ob
      exact⟨_,G.mem _ this,.inr ⟨.inr ⟨rfl,by simp only;omega⟩,.inl rfl⟩⟩)
    have E:=hang_same A A.fields (A.num 4) m.b.length (hashN m.c.keyed m.c.file name%A.c.fieldSlots)
    generalize A.hang A.fields (A.num 4) m.b.length (hashN m.c.keyed m.c.file name%A.c.fieldSlots)=z at *
    obtain⟨n,B⟩:=z
    simp only at I E ⊢
    obtain⟨d1,d,T,d4,d5,d6⟩:=E
    have X:=G.trans I
    obtain⟨F,C⟩:∃F,F=({({B with depth:=max A.depth n}:Mk).setN 16 ((({B with depth:=max A.depth n}:Mk).num 16+1)%18446744073709551616)with fields:=(({B with depth:=max A.depth n}:Mk).setN 16 ((({B with depth:=max A.depth n}:Mk).num 16+1)%18446744073709551616)).fields ++ [({text:=name,pos:=m.b.length,slot:=hashN m.c.keyed m.c.file name%A.c.fieldSlots,count:=0,arrays:=[]}:Known)]}:Mk):=⟨_,rfl⟩
    show ∃l',SoftStep m ({({B with depth:=max A.depth n}:Mk).setN 16 ((({B with depth:=max A.depth n}:Mk).num 16+1)%18446744073709551616)with fields:=(({B with depth:=max A.depth n}:Mk).setN 16 ((({B with depth:=max A.depth n}:Mk).num 16+1)%18446744073709551616)).fields ++ [({text:=name,pos:=m.b.length,slot:=hashN m.c.keyed m.c.file name%A.c.fieldSlots,count:=0,arrays:=[]}:Known)]}:Mk) l l'∧Stat ({({B with depth:=max A.depth n}:Mk).setN 16 ((({B with depth:=max A.depth n}:Mk).num 16+1)%18446744073709551616)with fields:=(({B with depth:=max A.depth n}:Mk).setN 16 ((({B with depth:=max A.depth n}:Mk).num 16+1)%18446744073709551616)).fields ++ [({text:=name,pos:=m.b.length,slot:=hashN m.c.keyed m.c.file name%A.c.fieldSlots,count:=0,arrays:=[]}:Known)]}:Mk) l'∧(∃k∈({({B with depth:=max A.depth n}:Mk).setN 16 ((({B with depth:=max A.depth n}:Mk).num 16+1)%18446744073709551616)with fields:=(({B with depth:=max A.depth n}:Mk).setN 16 ((({B with depth:=max A.depth n}:Mk).num 16+1)%18446744073709551616)).fields ++ [({text:=name,pos:=m.b.length,slot:=hashN m.c.keyed m.c.file name%A.c.fieldSlots,count:=0,arrays:=[]}:Known)]}:Mk).fields,k.pos=m.b.length)∧({({B with depth:=max A.depth n}:Mk).setN 16 ((({B with depth:=max A.depth n}:Mk).num 16+1)%18446744073709551616)with fields:=(({B with depth:=max A.depth n}:Mk).setN 16 ((({B with depth:=max A.depth n}:Mk).num 16+1)%18446744073709551616)).fields ++ [({text:=name,pos:=m.b.length,slot:=hashN m.c.keyed m.c.file name%A.c.fieldSlots,count:=0,arrays:=[]}:Known)]}:Mk).datas=m.datas
    rw[← C]
    have K:F.b=B.b∧F.c=B.c∧F.main=B.main∧F.datas=B.datas∧F.fields=B.fields ++ [({text:=name,pos:=m.b.length,slot:=hashN m.c.keyed m.c.file name%A.c.fieldSlots,count:=0,arrays:=[]}:Known)]:=by subst C;exact⟨rfl,rfl,rfl,rfl,rfl⟩
    have S4:=X.to (m'':=F) K.1 K.2.1 K.2.2.1 (fun i _ _ h3=>by
      subst C
      exact(num_setN (m:={B with depth:=max A.depth n}) (by omega))) (by subst C;simp[Mk.setN])
    clear C
    obtain⟨Y,w,y,Z,J⟩:=K
    have D:F.datas=m.datas:=by rw[Z,d,H.2.1]
    refine⟨_,S4,h.step S4 (fun k hk=>.inl (D ▸ hk)) (fun k hk=>?_) (by rw[D];exact h.one) (fun x C hk=>?_) (fun x C hk=>?_),?_,D⟩
    · rw[J,T,H.2.2.1,List.mem_append,List.mem_singleton]at hk
      rcases hk with hk|rfl
      · exact .inl hk
      · right
        have j:FldS' A.b (l ++ [⟨m.b.length,2,40+name.length⟩]) (hashM m name) ({text:=name,pos:=m.b.length,slot:=hashN m.c.keyed m.c.file name%A.c.fieldSlots,count:=0,arrays:=[]}:Known):=by
          refine⟨by simp,?_,?_⟩
          · rw[P,at8_new];exact U 0 _ rfl
          · rw[P,seg_new'];exact N
        rw[Y]
        exact j.eff G.objs I.eff (fun a e=>e.mild I.objs) fun _ h=>h
    · rcases List.mem_append.1 C with C|C
      · rw[D];exact h.all x C hk
      · simp at C;subst C;simp at hk
    · rcases List.mem_append.1 C with C|C
      · obtain⟨k,t,u⟩:=h.allf x C hk
        exact⟨k,by rw[J,T,H.2.2.1];exact List.mem_append_left _ t,u⟩
      · simp at C;subst C
        exact⟨_,by rw[J];exact List.mem_append_right _ (List.mem_singleton.2 rfl),rfl⟩
    · exact⟨({text:=name,pos:=m.b.length,slot:=hashN m.c.keyed m.c.file name%A.c.fieldSlots,count:=0,arrays:=[]}:Known),by rw[J];simp,rfl⟩
theorem findI_get:∀{s:Ly} {l:List Known} {j i:Nat},findI s l j=some i→∃k,l[i-j]? = some k∧k.text=s∧j≤i
  | s,[],j,i,h=>by simp[findI]at h
  | s,x :: l,j,i,h=>by
    simp only[findI]at h
    split at h
    · rename_i hx;simp at h;subst h;exact⟨x,by simp,hx,Nat.le_refl _⟩
    · obtain⟨k,h1,h2,h3⟩:=findI_get h
      exact⟨k,by rw[show i-j=(i-(j+1))+1 by omega];simpa using h1,h2,by omega⟩
theorem findI_none:∀{s:Ly} {l:List Known} {j:Nat},findI s l j=none→∀k∈l,k.text≠s
  | s,[],j,_,k,hk=>by simp at hk
  | s,x :: l,j,h,k,hk=>by
    simp only[findI]at h
    split at h
    · cases h
    · rename_i hx
      rcases List.mem_cons.1 hk with rfl|hk
      · exact hx
      · exact findI_none h k hk
/-- The payload that is new has no entries yet. -/
structure Fresh (b:Ly) (p:Nat):Prop where
  ent:at8 b (p+40)=0
  arr:at8 b (p+48)=0
  cnt:at8 b (p+56)=0
theorem Fresh.eff {b c:Ly} {l l':List Ob} {p s:Nat} (h:Fresh b p) (ho:(⟨p,1,s⟩:Ob)∈l) (hs:64≤s) (hO:Objs b 272 l b.length) (hO':Objs c 272 l' c.length) (hm:∀o∈l,o∈l') (he:Eff (Soft l') b c):Fresh c p:=by
  have B:=(hO.mem ho).le
  have E:=up8_ge s
  simp only at B
  have A:∀q,40≤q→q≤56→at8 c (p+q)=at8 b (p+q):=fun q F D=>he.at8 (by omega) fun a C=>by
    have:=((C.at hO').2.2 _ (hm _ ho)).1 rfl;simp only at this;omega
  exact⟨(A 40 (by omega) (by omega)).trans h.ent,(A 48 (by omega) (by omega)).trans h.arr,(A 56 (by omega) (by omega)).trans h.cnt⟩
structure DataIm (m m':Mk) (l l':List Ob) (i:Nat) (t:Ly):Prop where
  step:SoftStep m m' l l'
  stat:Stat m' l'
  got:∃k,m'.datas[i]? = some k∧k.text=t
  new:m'.datas=m.datas∨∃s p,m'.datas=m.datas ++ [({text:=t,pos:=p,slot:=s,count:=0,arrays:=[]}:Known)]∧Fresh m'.b p∧m.b.length≤p
theorem data_im {m:Mk} {l:List Ob} (h:Stat m l) (x:Pr) (hx:x.name.length≤64∧x.value.length≤256):∃l',DataIm m (m.data x).2 l l' (m.data x).1 (payload x):=by
  unfold Mk.data
  cases hk:findI (payload x) m.datas 0 with
  | some i =>
    obtain⟨k,M,I,_⟩:=findI_get hk
    exact⟨l,SoftStep.refl h.objs,h,⟨k,by simpa using M,I⟩,.inl rfl⟩
  | none =>
    simp only
    have Ak:=findI_none hk
    have A6:=payload_len x
    generalize hF:putDataF {hash:=hashN m.c.keyed m.c.file (payload x),nextHash:=0,nextField:=0,entry:=0,array:=0,count:=0,payload:=payload x}=o
    have Ag:o=putF 1 (nums [hashM m (payload x),0,0,0,0,0] ++ payload x):=hF.symm
    obtain⟨⟨r,f1⟩,f2,S,f4⟩:=objB (k:=1) (by decide) [hashM m (payload x),0,0,0,0,0] (payload x) (by have:=hashM_lt m (payload x);intro v hv;simp at hv;omega)
    rw[← Ag]at f1 f2 S f4
    simp only[List.length_cons,List.length_nil,Nat.zero_add,Nat.reduceAdd,Nat.reduceMul]at f1 f2 f4
    have K:=SoftStep.obj (m:=m) (o:=o) h.objs (.inl rfl) f1 f2 (by omega) (by omega)
    have Q:(m.object o).2.b=m.b ++ o:=rfl
    have g1:(m.object o).1=m.b.length:=rfl
    have T:=object_same m o
    have g4:(m.object o).2.num 2=m.num 2:=by simp only[Mk.object];rw[num_setN (by omega),num_setN (by omega)];rfl
    generalize m.object o=z at *
    obtain⟨p,E⟩:=z
    simp only at K Q g1 T g4 ⊢
    subst g1
    have hs:hashN m.c.keyed m.c.file (payload x)%E.c.dataSlots<m.c.dataSlots:=by rw[T.1];exact Nat.mod_lt _ (by have:=h.slots;omega)
    have tt:=soft4 h hs
    rw[← g4]at tt
    have L:=SoftStep.hang (m:=E) (p:=m.b.length) (ks:=E.datas) K.objs ⟨tt.1.mono K.mem,tt.2.mono K.mem⟩ (fun k hk=>by
      rw[T.2.1]at hk
      have:=(h.data k hk).ob
      exact⟨_,K.mem _ this,.inr ⟨.inl ⟨rfl,by simp only;omega⟩,.inl rfl⟩⟩)
    have G:=hang_same E E.datas (E.num 2) m.b.length (hashN m.c.keyed m.c.file (payload x)%E.c.dataSlots)
    generalize hsl:hashN m.c.keyed m.c.file (payload x)%E.c.dataSlots=slot at *
    generalize E.hang E.datas (E.num 2) m.b.length slot=z at *
    obtain⟨n,B⟩:=z
    simp only at L G ⊢
    obtain⟨d1,d2,d3,d4,d5,d6⟩:=G
    have S3:=K.trans L
    generalize hx5:({(B.setN 19 (max (B.num 19) n)).setN 15 (((B.setN 19 (max (B.num 19) n)).num 15+1)%18446744073709551616)with datas:=((B.setN 19 (max (B.num 19) n)).setN 15 (((B.setN 19 (max (B.num 19) n)).num 15+1)%18446744073709551616)).datas ++ [({text:=payload x,pos:=m.b.length,slot:=slot,count:=0,arrays:=[]}:Known)]}:Mk)=m5
    have g:m5.b=B.b∧m5.c=B.c∧m5.main=B.main∧m5.fields=B.fields∧m5.datas=B.datas ++ [({text:=payload x,pos:=m.b.length,slot:=slot,count:=0,arrays:=[]}:Known)]:=by subst hx5;exact⟨rfl,rfl,rfl,rfl,rfl⟩
    have u:=S3.to (m'':=m5) g.1 g.2.1 g.2.2.1 (fun i _ _ h3=>by
      subst hx5
      exact(num_setN (m:=B.setN 19 (max (B.num 19) n)) (by omega)).trans (num_setN (by omega))) (by subst hx5;simp[Mk.setN])
    clear hx5
    obtain⟨a1,a2,a3,a4,a5⟩:=g
    have J:m5.datas=m.datas ++ [({text:=payload x,pos:=m.b.length,slot:=slot,count:=0,arrays:=[]}:Known)]:=by rw[a5,d2,T.2.1]
    have W:m5.fields=m.fields:=by rw[a4,d3,T.2.2.1]
    have C:(⟨m.b.length,1,64+(payload x).length⟩:Ob)∈l ++ [⟨m.b.length,1,64+(payload x).length⟩]:=by simp
    have Am:Stat m5 (l ++ [⟨m.b.length,1,64+(payload x).length⟩]):=by
      refine h.step u (fun k hk=>?_) (fun k hk=>.inl (W ▸ hk)) (fun i j k t H hj F=>?_) (fun y D hk=>?_) (fun y D hk=>?_)
      · rw[J,List.mem_append,List.mem_singleton]at hk
        rcases hk with hk|rfl
        · exact .inl hk
        · right
          have k0:DatS E.b (l ++ [⟨m.b.length,1,64+(payload x).length⟩]) (hashM m (payload x)) ({text:=payload x,pos:=m.b.length,slot:=slot,count:=0,arrays:=[]}:Known):=by
            refine⟨C,?_,?_⟩
            · rw[Q,at8_new];exact S 0 _ rfl
            · rw[Q,seg_new'];exact f4
          rw[a1]
          exact k0.eff K.objs L.eff (fun a ha=>ha.mild L.objs) fun _ h=>h
      · rw[J]at H hj
        have d:∀(i:Nat) (k:Known),m.datas[i]? = some k→k.pos+16≤m.b.length∧k.text≠payload x:=fun i k H=>by
          have hm:=List.mem_of_getElem? H
          have:=(h.objs.mem (h.data k hm).ob).le
          have:=up8_ge (64+k.text.length)
          simp only at *
          exact⟨by omega,Ak k hm⟩
        have A:∀(i:Nat) (k:Known),(m.datas ++ [({text:=payload x,pos:=m.b.length,slot:=slot,count:=0,arrays:=[]}:Known)])[i]? = some k→(m.datas[i]? = some k)∨i=m.datas.length∧k={text:=payload x,pos:=m.b.length,slot:=slot,count:=0,arrays:=[]}:=fun i k H=>by
          rcases Nat.lt_or_ge i m.datas.length with hl|hl
          · rw[List.getElem?_append_left hl]at H;exact .inl H
          · have Aj:=(List.getElem?_eq_some_iff.1 H).1
            simp at Aj
            rw[List.getElem?_append_right hl,show i-m.datas.length=0 by omega]at H
            exact .inr ⟨by omega,by simpa using H.symm⟩
        rcases A i k H with M|⟨M,rfl⟩
        · rcases A j t hj with I|⟨I,rfl⟩
          · exact h.one i j k t M I F
          · have:=d i k M
            rcases F with F|F
            · simp only at F;omega
            · exact absurd F this.2
        · rcases A j t hj with I|⟨I,rfl⟩
          · have:=d j t I
            rcases F with F|F
            · simp only at F;omega
            · exact absurd F.symm this.2
          · omega
      · rw[J]
        rcases List.mem_append.1 D with D|D
        · obtain⟨k,M,I⟩:=h.all y D hk
          exact⟨k,List.mem_append_left _ M,I⟩
        · simp at D;subst D
          exact⟨({text:=payload x,pos:=m.b.length,slot:=slot,count:=0,arrays:=[]}:Known),List.mem_append_right _ (by simp),rfl⟩
      · rw[W]
        rcases List.mem_append.1 D with D|D
        · exact h.allf y D hk
        · simp at D;subst D;simp at hk
    have Ad:Fresh E.b m.b.length:=⟨by rw[Q,at8_new];exact S 3 _ rfl,by rw[Q,at8_new];exact S 4 _ rfl,by rw[Q,at8_new];exact S 5 _ rfl⟩
    have Ae:Fresh m5.b m.b.length:=by
      rw[a1];exact Ad.eff C (by omega) K.objs L.objs L.mem L.eff
    obtain⟨l6,e,P,⟨R,Y,Z⟩,U⟩:=field_im Am x.name (by omega)
    have X:=(P.fld R Y).ob
    generalize m5.field x.name=z at *
    obtain⟨k,O⟩:=z
    simp only at e P Z U Y X ⊢
    subst Z
    have N:=e.mem _ C
    have sp:Soft l6 (m.b.length+32):=⟨_,N,.inr ⟨.inl ⟨rfl,by simp only;omega⟩,.inr rfl⟩⟩
    have sk:Soft l6 (R.pos+32):=⟨_,X,.inr ⟨.inr ⟨rfl,by simp only;omega⟩,.inr rfl⟩⟩
    have w:=SoftStep.put (m:=O) (getF O.b (R.pos+32:Nat) 8).1 e.objs sp
    have Ao:=P.soft w rfl rfl rfl
    have S8:=SoftStep.put (m:=O.put (m.b.length+32) (getF O.b (R.pos+32:Nat) 8).1) m.b.length w.objs sk
    have Ap:=Ao.soft S8 rfl rfl rfl
    have f:=e.trans (w.trans S8)
    have V:((O.put (m.b.length+32) (getF O.b (R.pos+32:Nat) 8).1).put (R.pos+32) m.b.length).datas=m.datas ++ [({text:=payload x,pos:=m.b.length,slot:=slot,count:=0,arrays:=[]}:Known)]:=by
      show O.datas=_
      rw[U,J]
    have Af:=Ae.eff C (by omega) u.objs f.objs f.mem f.eff
    refine⟨l6,u.trans f,Ap,⟨({text:=payload x,pos:=m.b.length,slot:=slot,count:=0,arrays:=[]}:Known),by rw[V];simp,rfl⟩,.inr ⟨slot,m.b.length,V,Af,Nat.le_refl _⟩⟩
end Go.Wk
namespace Go.Wk
open Go Go.RowKit
/-- The entries of a datum: ps are their places. -/
structure DatD (b:Ly) (l:List Ob) (k:Known) (ps:List Nat):Prop where
  cnt:k.count=ps.length
  word:at8 b (k.pos+56)=ps.length
  ent:at8 b (k.pos+40)=ps.getD 0 0
  chain:Chain b l (k.pos+48) k.arrays (ps.drop 1)
theorem dat_src {b:Ly} {l:List Ob} {n:Nat} {k:Known} (h:DatS b l n k):Src l (k.pos+48):=by
  have:=up8_ge (64+k.text.length)
  exact .inr ⟨_,h.ob,by simp,by simp only;omega,by simp only;omega⟩
theorem main_src (l:List Ob):Src l 176:=.inl (by decide)
theorem DatD.eff {b c:Ly} {l r:List Ob} {n:Nat} {k:Known} {ps:List Nat} {S:Nat→Prop} (h:DatD b l k ps) (hs:DatS b l n k) (hO:Objs b 272 l b.length) (he:Eff S b c) (hr:∀o∈l,o∈r)
    (h1:∀a,S a→a+8≤k.pos+40∨k.pos+64≤a) (h2:∀i x:Nat,k.arrays[i]? = some x→∀a,S a→a+8≤x+16∨x+24+8*roomF (i:Int)≤a):DatD c r k ps:=by
  have B:=(hO.mem hs.ob).le
  have C:=up8_ge (64+k.text.length)
  simp only at B
  refine⟨h.cnt,(he.at8 (by omega) fun a A=>?_).trans h.word,(he.at8 (by omega) fun a A=>?_).trans h.ent,h.chain.eff hO (dat_src hs) (Nat.le_refl _) he hr (fun a A=>?_) h2⟩
  · have:=h1 a A;omega
  · have:=h1 a A;omega
  · have:=h1 a A;omega
theorem Chain.arr_at {b b':Ly} {l l':List Ob} {src e:Nat} {av items:List Nat} (h:Chain b l src av items) (hO:Objs b' 272 l' e) (hm:∀o∈l,o∈l') {i x a:Nat} (hx:av[i]? = some x) (ha:∀o∈l',o.kind=6→a+8≤o.pos∨o.pos+up8 o.size≤a):a+8≤x+16∨x+24+8*roomF (i:Int)≤a:=by
  have:=ha _ (hm _ (h.ob i x hx)) rfl
  rw[up8_arr]at this
  simp only at this
  omega
theorem DatD.soft {b c:Ly} {l r:List Ob} {n:Nat} {k:Known} {ps:List Nat} (h:DatD b l k ps) (hs:DatS b l n k) (hO:Objs b 272 l b.length) (hO':Objs c 272 r c.length) (he:Eff (Soft r) b c) (hr:∀o∈l,o∈r):DatD c r k ps:=by
  have D:=up8_ge (64+k.text.length)
  refine h.eff hs hO he hr (fun a A=>?_) (fun i x C a A=>?_)
  · have:=((A.at hO').2.2 _ (hr _ hs.ob)).1 rfl
    simp only at this;omega
  · exact h.chain.arr_at hO' hr C fun o B hk=>((A.at hO').2.2 o B).2 hk
theorem main_soft {b c:Ly} {l r:List Ob} {av items:List Nat} (h:Chain b l 176 av items) (hO:Objs b 272 l b.length) (hO':Objs c 272 r c.length) (he:Eff (Soft r) b c) (hr:∀o∈l,o∈r):Chain c r 176 av items:=by
  refine h.eff hO (main_src l) (Nat.le_refl _) he hr (fun a B=>?_) (fun i x D a B=>?_)
  · have:=(B.at hO').1;omega
  · exact h.arr_at hO' hr D fun o C hk=>((B.at hO').2.2 o C).2 hk
/-- A datum without entries. -/
theorem DatD.new {b:Ly} {l:List Ob} {k:Known} (h:Fresh b k.pos) (hc:k.count=0) (ha:k.arrays=[]):DatD b l k []:=by
  refine⟨hc,h.cnt,h.ent,?_⟩
  rw[ha]
  exact⟨h.arr,by simp,by simp,by simp,by simp,Nat.le_refl _,Nat.le_refl _⟩
/-! one more entry -/
/-- What is written for one more entry of a datum. -/
def Hard (k:Known) (av:List Nat) (a:Nat):Prop:=a=k.pos+40∨a=k.pos+56∨LinkS (k.pos+48) av a
structure Hung (m m':Mk) (l l':List Ob) (i e:Nat) (k k':Known) (ps:List Nat):Prop where
  objs:Objs m'.b 272 l' m'.b.length
  sub:∃t,l'=l ++ t∧∀o∈t,o.kind=6∧m.b.length≤o.pos
  dat:m'.datas=m.datas.set i k'
  pos:k'.pos=k.pos∧k'.text=k.text∧k'.slot=k.slot
  arr:k'.arrays=k.arrays∨k'.arrays=k.arrays ++ [m.b.length]
  more:DatD m'.b l' k' (ps ++ [e])
  eff:Eff (Hard k k'.arrays) m.b m'.b
  top:m'.b.length≤m.b.length+2100
  same:m'.c=m.c∧m'.fields=m.fields∧m'.main=m.main∧m'.depth=m.depth∧∀i,i≠6→i≠7→i≠18→m'.num i=m.num i
  cn:Cn m l→Cn m' l'
theorem dat_sep {b:Ly} {l r:List Ob} {e n:Nat} {k:Known} (hO:Objs b 272 r e) (hm:∀o∈l,o∈r) {c:Ly} (hs:DatS c l n k):∀o∈r,o.kind=6→k.pos+64≤o.pos∨o.pos+up8 o.size≤k.pos:=fun o ho h6=>by
  have hu:=up8_ge (64+k.text.length)
  rcases hO.sep ho (hm _ hs.ob)with rfl|hh|hh
  · simp at h6
  · exact .inr hh
  · simp only at hh;exact .inl (by omega)
theorem dat_put {b c:Ly} {l r:List Ob} {n:Nat} {k:Known} (hs:DatS c l n k) (hm:∀o∈l,o∈r) (hO:Objs b 272 r b.length) {q:Nat} (v:Nat) (hq:q=k.pos+40∨q=k.pos+56):Objs (putN b q v) 272 r (putN b q v).length:=by
  have C:=up8_ge (64+k.text.length)
  rw[putN_len]
  exact hO.eff (Eff.put b q v) (Nat.le_refl _) fun o B a A=>by subst A;exact hO.body (.inr ⟨_,hm _ hs.ob,by simp only;omega,by simp only;omega⟩) B
theorem hang_zero {m:Mk} {l:List Ob} {i e n:Nat} {k:Known} {ps:List Nat} (hO:Objs m.b 272 l m.b.length) (hk:m.datas[i]? = some k) (hs:DatS m.b l n k) (hd:DatD m.b l k ps) (hb:m.b.length<900000) (he:e<18446744073709551616) (h0:k.count=0) :
    ∃l' k',Hung m (hang1 e i m) l l' i e k k' ps:=by
  have E:m.datas.getD i known0=k:=by simp[List.getD,hk]
  have V:=(hO.mem hs.ob).le
  have Z:=up8_ge (64+k.text.length)
  simp only at V
  have K:=hd.cnt
  unfold hang1
  simp only[E]
  rw[if_pos h0]
  have F:ps=[]:=List.eq_nil_of_length_eq_zero (by omega)
  subst F
  have R:=dat_put hs (fun _ h=>h) hO e (q:=k.pos+40) (.inl rfl)
  have S:=dat_put hs (fun _ h=>h) R 1 (q:=k.pos+56) (.inr rfl)
  have J:Eff (fun a=>a=k.pos+40∨a=k.pos+56) m.b (putN (putN m.b (k.pos+40) e) (k.pos+56) 1):=((Eff.put _ _ _).mono fun a A=>.inl A).trans ((Eff.put _ _ _).mono fun a A=>.inr A)
  have U:(putN (putN m.b (k.pos+40) e) (k.pos+56) 1).length=m.b.length:=by rw[putN_len,putN_len]
  have D:((m.put (k.pos+40) e).put (k.pos+56) 1).b=putN (putN m.b (k.pos+40) e) (k.pos+56) 1:=rfl
  have C:=put_same m (k.pos+40) e
  have Y:=put_same (m.put (k.pos+40) e) (k.pos+56) 1
  generalize (m.put (k.pos+40) e).put (k.pos+56) 1=M at *
  obtain⟨N,L,O,P,G,Q⟩:=Y
  rw[C.1]at N;rw[C.2.1]at L;rw[C.2.2.1]at O;rw[C.2.2.2.1]at P;rw[C.2.2.2.2.1]at G;rw[C.2.2.2.2.2]at Q
  clear C
  generalize hB:putN (putN m.b (k.pos+40) e) (k.pos+56) 1=B at *
  subst D
  have I:at8 M.b (k.pos+56)=1:=by rw[← hB];exact at8_put_same (by rw[putN_len];omega) (by decide)
  have H:at8 M.b (k.pos+40)=e:=by rw[← hB];exact(at8_put (by omega)).trans (at8_put_same (by omega) he)
  clear hB
  refine⟨l,{k with count:=1},S,⟨[],(List.append_nil l).symm,by simp⟩,?_,⟨rfl,rfl,rfl⟩,.inl rfl,⟨rfl,I,H,?_⟩,J.mono fun a A=>A.elim .inl fun h=>.inr (.inl h),?_,⟨N,O,P,Q,fun j _ _ _=>?_⟩,fun c=>c.same G⟩
  · show M.datas.set i _=_
    rw[L]
  · refine hd.chain.eff hO (dat_src hs) (Nat.le_refl _) J (fun _ h=>h) (fun a A=>by omega) (fun j x X a A=>?_)
    exact hd.chain.arr_at hO (fun _ h=>h) X fun o W T=>by have:=dat_sep hO (fun _ h=>h) hs o W T;omega
  · show M.b.length≤_
    omega
  · show M.h.n.getD j 0=_
    rw[G];rfl
theorem hang_more {m:Mk} {l:List Ob} {i e n:Nat} {k:Known} {ps:List Nat} (hO:Objs m.b 272 l m.b.length) (hk:m.datas[i]? = some k) (hs:DatS m.b l n k) (hd:DatD m.b l k ps) (hb:m.b.length<900000) (he:e<18446744073709551616) (hp:ps.length<1000000) (h0:¬k.count=0) :
    ∃l' k',Hung m (hang1 e i m) l l' i e k k' ps:=by
  have H:m.datas.getD i known0=k:=by simp[List.getD,hk]
  have P:=(hO.mem hs.ob).le
  have U:=up8_ge (64+k.text.length)
  simp only at P
  have A:=hd.cnt
  unfold hang1
  simp only[H]
  rw[if_neg h0]
  have N:k.count-1=(ps.drop 1).length:=by simp;omega
  rw[N]
  obtain⟨l',L⟩:=link_im (x:=e) hO hd.chain (dat_src hs) hb he
  have O:=L.eff.len
  have B:∀o∈l,o∈l':=by
    rcases L.sub with h|h
    · rw[h];exact fun _ h=>h
    · rw[h];exact fun o E=>List.mem_append_left _ E
  have R:=at8_lt m.b (k.pos+40)
  generalize m.link k.arrays (ps.drop 1).length (k.pos+48) e=r at *
  obtain⟨a,t,F⟩:=r
  simp only at L O ⊢
  have J:=dat_put hs B L.objs (k.count+1) (q:=k.pos+56) (.inr rfl)
  have I:Eff (fun a=>a=k.pos+56) F.b (putN F.b (k.pos+56) (k.count+1)):=Eff.put _ _ _
  have Q:⟨k.pos,1,64+k.text.length⟩∈l':=B _ hs.ob
  have D:Src l' (k.pos+48):=(dat_src hs).mono B
  have hsep':=dat_sep L.objs B hs
  have G:at8 F.b (k.pos+40)=at8 m.b (k.pos+40):=L.eff.at8 (by omega) fun x C=>by
    rcases C with rfl|⟨j,c,K,S,T⟩
    · omega
    · have:=hsep' _ (L.chain.ob j c K) rfl
      rw[up8_arr]at this;simp only at this;omega
  refine⟨l',{k with arrays:=a,count:=k.count+1},J,?_,?_,⟨rfl,rfl,rfl⟩,L.arr,⟨?_,?_,?_,?_⟩,?_,?_,⟨L.same.1,L.same.2.2.1,L.same.2.2.2.1,L.same.2.2.2.2.1,L.same.2.2.2.2.2⟩,fun c=>(L.cn c).same rfl⟩
  · rcases L.sub with h|h
    · exact⟨[],by simp[h],by simp⟩
    · exact⟨_,h,by intro o E;simp at E;subst E;exact⟨rfl,Nat.le_refl _⟩⟩
  · show F.datas.set i _=_
    rw[L.same.2.1]
  · show k.count+1=_
    simp;omega
  · refine(at8_put_same (by omega) (by omega)).trans ?_
    simp;omega
  · show at8 (putN F.b (k.pos+56) (k.count+1)) (k.pos+40)=_
    rw[at8_put (by omega),G,hd.ent]
    cases ps with
    | nil=>simp at A;exact absurd A h0
    | cons y r=>rfl
  · have:(ps ++ [e]).drop 1=ps.drop 1 ++ [e]:=by
      cases ps with
      | nil=>simp at A;exact absurd A h0
      | cons y r=>rfl
    rw[this]
    refine L.chain.eff L.objs D (Nat.le_refl _) I (fun _ h=>h) (fun x C=>by omega) (fun j x C y V=>?_)
    exact L.chain.arr_at L.objs (fun _ h=>h) C fun o E M=>by have:=hsep' o E M;omega
  · exact(L.eff.mono fun x C=>.inr (.inr C)).trans (I.mono fun x C=>.inr (.inl C))
  · show(putN F.b (k.pos+56) (k.count+1)).length≤_
    rw[putN_len];exact L.top
theorem hang_one {m:Mk} {l:List Ob} {i e n:Nat} {k:Known} {ps:List Nat} (hO:Objs m.b 272 l m.b.length) (hk:m.datas[i]? = some k) (hs:DatS m.b l n k) (hd:DatD m.b l k ps) (hb:m.b.length<900000) (he:e<18446744073709551616) (hp:ps.length<1000000) :
    ∃l' k',Hung m (hang1 e i m) l l' i e k k' ps:=by
  by_cases h0:k.count=0
  · exact hang_zero hO hk hs hd hb he h0
  · exact hang_more hO hk hs hd hb he hp h0
end Go.Wk
namespace Go.Wk
open Go Go.RowKit
structure EntG where
  pos:Nat
  ent:Ent
  who:List Nat
structure EntS (b:Ly) (l:List Ob) (g:EntG):Prop where
  ob:(⟨g.pos,3,64+16*g.ent.items.length⟩:Ob)∈l
  seg:seg b g.pos (64+16*g.ent.items.length)=putEntryF g.ent
theorem EntS.eff {b c:Ly} {l r:List Ob} {g:EntG} {S:Nat→Prop} (h:EntS b l g) (hO:Objs b 272 l b.length) (he:Eff S b c) (hs:∀a,S a→Mild l a) (hr:∀o∈l,o∈r):EntS c r g:=by
  have B:=(hO.mem h.ob).le
  have C:=up8_ge (64+16*g.ent.items.length)
  refine⟨hr _ h.ob,(he.seg _ _ (by simp only at B;omega) fun a A=>?_).trans h.seg⟩
  have:=(hs a A _ h.ob).2.2.2 rfl;simp only at this;omega
/-- No array is of two chains. -/
structure OwnC (m:Mk):Prop where
  main:∀(i:Nat) (k:Known),m.datas[i]? = some k→∀a∈k.arrays,a∉m.main
  one:∀(i j:Nat) (k k':Known) (a:Nat),m.datas[i]? = some k→m.datas[j]? = some k'→a∈k.arrays→a∈k'.arrays→i=j
structure ImgC (m:Mk) (l:List Ob) (es:List EntG) (mp:List Nat) (f:Nat→List Nat):Prop where
  stat:Stat m l
  main:Chain m.b l 176 m.main mp
  dat:∀(i:Nat) (k:Known),m.datas[i]? = some k→DatD m.b l k (f i)
  own:OwnC m
  ent:∀g∈es,EntS m.b l g
  kin:(l.filter fun o=>decide (o.kind=3)).map Ob.pos=es.map EntG.pos
theorem filter_app {l t:List Ob} (h:∀o∈t,o.kind≠3):((l ++ t).filter fun o=>decide (o.kind=3))=l.filter fun o=>decide (o.kind=3):=by
  have e:(t.filter fun o=>decide (o.kind=3))=[]:=List.filter_eq_nil_iff.2 fun o A=>by simpa using h o A
  rw[List.filter_append,e,List.append_nil]
/-- The same data, in what stays of them. -/
structure DSame (ds ds':List Known):Prop where
  len:ds'.length=ds.length
  get:∀(i:Nat) (k':Known),ds'[i]? = some k'→∃k,ds[i]? = some k∧k'.pos=k.pos∧k'.text=k.text
theorem DSame.refl (ds:List Known):DSame ds ds:=⟨rfl,fun _ k h=>⟨k,h,rfl,rfl⟩⟩
theorem DSame.set {ds:List Known} {i:Nat} {k k':Known} (h:ds[i]? = some k) (h1:k'.pos=k.pos) (h2:k'.text=k.text):DSame ds (ds.set i k'):=by
  refine⟨by simp,fun j y A=>?_⟩
  by_cases hj:i=j
  · subst hj
    rw[List.getElem?_set_self (List.getElem?_eq_some_iff.1 h).1]at A
    cases A
    exact⟨k,h,h1,h2⟩
  · rw[List.getElem?_set_ne hj]at A
    exact⟨y,A,rfl,rfl⟩
theorem DatS.congr {b:Ly} {l:List Ob} {n:Nat} {k k':Known} (h:DatS b l n k) (h1:k'.pos=k.pos) (h2:k'.text=k.text):DatS b l n k':=by
  obtain⟨A,B,C⟩:=h
  exact⟨by rw[h1,h2];exact A,by rw[h1];exact B,by rw[h1,h2];exact C⟩
theorem Stat.keep {m m':Mk} {l l':List Ob} {S:Nat→Prop} (h:Stat m l) (hO':Objs m'.b 272 l' m'.b.length) (hl:∃t,l'=l ++ t∧∀o∈t,o.kind≠1∧o.kind≠2) (he:Eff S m.b m'.b) (hM:∀a,S a→Mild l a) (hc:m'.c=m.c) (hf:m'.fields=m.fields) (hn:m'.num 2=m.num 2∧m'.num 4=m.num 4) (hd:DSame m.datas m'.datas) (hcn:Cn m' l'):Stat m' l':=by
  obtain⟨t,rfl,P⟩:=hl
  have I:∀o∈l,o∈l ++ t:=fun o B=>List.mem_append_left _ B
  have O:∀t,hashM m' t=hashM m t:=fun t=>by unfold hashM;rw[hc]
  refine⟨hO',by rw[hc];exact I _ h.tab4,by rw[hc];exact I _ h.tab5,hn.1.trans h.n2,by rw[hc];exact hn.2.trans h.n4,by rw[hc];exact h.slots,fun k hk=>?_,fun k hk=>?_,fun i j k F E Q R=>?_,fun o B C=>?_,fun o B C=>?_,hcn⟩
  · obtain⟨i,E⟩:=List.mem_iff_getElem?.1 hk
    obtain⟨J,K,C,D⟩:=hd.get i k E
    rw[O,D]
    exact((h.data J (List.mem_of_getElem? K)).eff h.objs he hM I).congr C D
  · rw[hf]at hk;rw[O]
    exact(h.fld k hk).eff h.objs he hM I
  · obtain⟨J,K,C,D⟩:=hd.get i k E
    obtain⟨T,H,L,N⟩:=hd.get j F Q
    exact h.one i j J T K H (by rw[← C,← L,← D,← N];exact R)
  · rcases List.mem_append.1 B with B|B
    · obtain⟨k,hk,D⟩:=h.all o B C
      obtain⟨i,E⟩:=List.mem_iff_getElem?.1 hk
      have M:=(List.getElem?_eq_some_iff.1 E).1
      obtain⟨F,G⟩:∃F,m'.datas[i]? = some F:=⟨_,List.getElem?_eq_getElem (by rw[hd.len];exact M)⟩
      obtain⟨J,H,L,N⟩:=hd.get i F G
      rw[E]at H;cases H
      exact⟨F,List.mem_of_getElem? G,L.trans D⟩
    · exact absurd C (P o B).1
  · rcases List.mem_append.1 B with B|B
    · rw[hf];exact h.allf o B C
    · exact absurd C (P o B).2
/-- A soft step: data and fields are made. -/
theorem ImgC.soft {m m':Mk} {l l':List Ob} {es:List EntG} {mp:List Nat} {f:Nat→List Nat} {i:Nat} {t:Ly} (h:ImgC m l es mp f) (d:DataIm m m' l l' i t) (hf:∀i,m.datas.length≤i→f i=[]):ImgC m' l' es mp f:=by
  have H:=d.step.mem
  have hO':=d.step.objs
  have J:=d.step.eff
  have O:∀a,Soft l' a→Mild l a:=fun a C=>(C.mild hO').mono H
  have D:=d.step.same.2.1
  have M:∀(j:Nat) (k:Known),m.datas[j]? = some k→DatD m'.b l' k (f j):=fun j k B=>(h.dat j k B).soft (h.stat.data k (List.mem_of_getElem? B)) h.stat.objs hO' J H
  have A:∀(j:Nat) (k:Known),m'.datas[j]? = some k→m.datas[j]? = some k∨(m.datas.length≤j∧k.count=0∧k.arrays=[]∧Fresh m'.b k.pos):=fun j k B=>by
    rcases d.new with e|⟨s,p,e,I,_⟩
    · rw[e]at B;exact .inl B
    · rw[e]at B
      rcases Nat.lt_or_ge j m.datas.length with F|F
      · rw[List.getElem?_append_left F]at B;exact .inl B
      · have L:=(List.getElem?_eq_some_iff.1 B).1
        simp at L
        rw[List.getElem?_append_right F,show j-m.datas.length=0 by omega]at B
        have:k={text:=t,pos:=p,slot:=s,count:=0,arrays:=[]}:=by simpa using B.symm
        subst this
        exact .inr ⟨F,rfl,rfl,I⟩
  refine⟨d.stat,?_,fun j k B=>?_,⟨fun j k B a C=>?_,fun i j k N a K B C E=>?_⟩,fun g Q=>(h.ent g Q).eff h.stat.objs J O H,?_⟩
  · rw[D];exact main_soft h.main h.stat.objs hO' J H
  · rcases A j k B with B|⟨F,P,C,I⟩
    · exact M j k B
    · rw[hf j F];exact DatD.new I P C
  · rw[D]
    rcases A j k B with B|⟨_,_,G,_⟩
    · exact h.own.main j k B a C
    · rw[G]at C;simp at C
  · rcases A i k K with K|⟨_,_,G,_⟩
    · rcases A j N B with B|⟨_,_,G,_⟩
      · exact h.own.one i j k N a K B C E
      · rw[G]at E;simp at E
    · rw[G]at C;simp at C
  · obtain⟨u,e,S⟩:=d.step.sub
    rw[e,filter_app fun o R=>by have:=(S o R).1;omega]
    exact h.kin
/-- An object of an entry behind the others. -/
theorem ImgC.entry {m:Mk} {l:List Ob} {es:List EntG} {mp:List Nat} {f:Nat→List Nat} (h:ImgC m l es mp f) {E:Ent} {who:List Nat} (hb:E.boot.length=16) (hn:E.items.length≤1000) :
    ImgC (m.object (putEntryF E)).2 (l ++ [⟨m.b.length,3,64+16*E.items.length⟩]) (es ++ [⟨m.b.length,E,who⟩]) mp f:=by
  have U:=putEntryF_len E hb
  have B:(m.object (putEntryF E)).2.b=m.b ++ putEntryF E:=rfl
  have T:=object_same m (putEntryF E)
  have C:∀i,i≠6→i≠7→(m.object (putEntryF E)).2.num i=m.num i:=fun i V W=>by
    simp only[Mk.object]
    rw[num_setN (by omega),num_setN (by omega)];rfl
  have I:=h.stat.cn.obj (putEntryF E) (k:=3) (s:=64+16*E.items.length) (by omega)
  generalize (m.object (putEntryF E)).2=m' at *
  obtain⟨R,H,S,M⟩:=T
  have P:up8 (64+16*E.items.length)=64+16*E.items.length:=by unfold up8;omega
  have F:(putEntryF E).length=64+16*E.items.length:=by omega
  have G:Eff (fun _=>False) m.b m'.b:=by rw[B];exact Eff.app _ _ _
  have Q:∃r,putEntryF E=hdr 3 (64+16*E.items.length) ++ r:=by
    unfold putEntryF
    rw[putF_hdr (by omega)]
    rw[show 16+(nums [E.seq,E.real,E.mono] ++ E.boot ++ nums [E.xor] ++ itemsF E.items).length=64+16*E.items.length by simp[nums_len,items_len,hb];omega]
    exact⟨_,List.append_assoc _ _ _⟩
  obtain⟨r,O⟩:=Q
  have hO':Objs m'.b 272 (l ++ [⟨m.b.length,3,64+16*E.items.length⟩]) m'.b.length:=by
    have:=(h.stat.objs.eff G (Nat.le_refl _) (fun _ _ _ A=>A.elim)).app (o:=⟨m.b.length,3,64+16*E.items.length⟩) rfl (by simp) (by simp) (by simp only;omega) (by simp only;omega) ?_
    · simp only[P]at this;rw[B,List.length_append,F];rw[B]at this;exact this
    · have L:=seg_skip (x:=m.b) (y:=putEntryF E) (p:=m.b.length) (n:=16) (Nat.le_refl _)
      rw[Nat.sub_self,hdr_of O (hdr_len _ _)]at L
      rw[B];exact L
  have K:∀o∈l,o∈l ++ [(⟨m.b.length,3,64+16*E.items.length⟩:Ob)]:=fun o N=>List.mem_append_left _ N
  refine⟨h.stat.keep hO' ⟨_,rfl,by simp⟩ G (fun _ A=>A.elim) R S ⟨C 2 (by decide) (by decide),C 4 (by decide) (by decide)⟩ (by rw[H];exact DSame.refl _) I,?_,fun i k J=>?_,⟨by rw[H,M];exact h.own.main,by rw[H];exact h.own.one⟩,fun g D=>?_,?_⟩
  · rw[M];exact h.main.eff h.stat.objs (main_src l) (Nat.le_refl _) G K (fun _ A=>A.elim) (fun _ _ _ _ A=>A.elim)
  · rw[H]at J
    exact(h.dat i k J).eff (h.stat.data k (List.mem_of_getElem? J)) h.stat.objs G K (fun _ A=>A.elim) (fun _ _ _ _ A=>A.elim)
  · rcases List.mem_append.1 D with D|D
    · exact(h.ent g D).eff h.stat.objs G (fun _ A=>A.elim) K
    · simp at D;subst D
      refine⟨by simp,?_⟩
      simp only
      rw[B,← F]
      exact seg_new _ _
  · rw[List.filter_append,List.map_append,h.kin];simp
/-! one more item in a chain hurts nothing else -/
theorem linkS_at {b:Ly} {l:List Ob} {e src a:Nat} {av:List Nat} (hO:Objs b 272 l e) (h:LinkS src av a) (hob:∀k c:Nat,av[k]? = some c→(⟨c,6,24+8*roomF (k:Int)⟩:Ob)∈l) {o:Ob} (ho:o∈l) (hne:∀c∈av,c≠o.pos):a=src∨a+8≤o.pos∨o.pos+up8 o.size≤a:=by
  rcases h with h|⟨k,c,B,C,D⟩
  · exact .inl h
  · right
    rcases hO.sep ho (hob k c B)with A|A|A
    · exact absurd (congrArg Ob.pos A).symm (hne c (List.mem_of_getElem? B))
    · simp only at A;omega
    · rw[up8_arr]at A;simp only at A;omega
theorem linkS_mild {b:Ly} {l:List Ob} {e src a:Nat} {av:List Nat} (hO:Objs b 272 l e) (h:LinkS src av a) (hob:∀k c:Nat,av[k]? = some c→(⟨c,6,24+8*roomF (k:Int)⟩:Ob)∈l) (hs:Mild l src):Mild l a:=by
  rcases h with h|⟨k,c,A,B,C⟩
  · rw[h];exact hs
  · exact mild_of hO (hob k c A) (by simp only;omega) (by rw[up8_arr];simp only;omega) (by simp) (by simp) (by simp)
end Go.Wk
namespace Go.Wk
open Go Go.RowKit
theorem mem_get {l:List Nat} {a:Nat} (h:a∈l):∃i:Nat,l[i]? = some a:=List.mem_iff_getElem?.1 h
theorem sub_of {m:Mk} {l l':List Ob} {n:Nat} (h:l'=l∨l'=l ++ [(⟨m.b.length,6,24+8*n⟩:Ob)]):∃t,l'=l ++ t∧∀o∈t,o.kind=6∧m.b.length≤o.pos:=by
  rcases h with h|h
  · exact⟨[],by simp[h],by simp⟩
  · exact⟨_,h,by intro o A;simp at A;subst A;exact⟨rfl,Nat.le_refl _⟩⟩
/-- The entry stands in the chain of all. -/
theorem ImgC.link {m m':Mk} {l l':List Ob} {es:List EntG} {mp:List Nat} {f:Nat→List Nat} {x:Nat} {av:List Nat} {m1:Mk} (h:ImgC m l es mp f) (L:Linked m m1 l l' 176 m.main av mp x)
    (hb:m'.b=m1.b) (hc:m'.c=m1.c) (hd:m'.datas=m1.datas) (hf:m'.fields=m1.fields) (hm':m'.main=av) (hn:m'.num 2=m1.num 2∧m'.num 4=m1.num 4) (hcn:Cn m1 l'→Cn m' l'):ImgC m' l' es (mp ++ [x]) f:=by
  obtain⟨X,Y,Z,n,p,T⟩:=L.same
  obtain⟨t,M,S⟩:=sub_of L.sub
  have hO':=L.objs
  have H:∀o∈l,o∈l':=fun o D=>by rw[M];exact List.mem_append_left _ D
  have N:=L.eff
  have I:∀a,LinkS 176 av a→Mild l a:=fun a C=>(linkS_mild hO' C L.chain.ob (mild_head hO' (by decide))).mono H
  have E:∀c∈av,c∈m.main∨c=m.b.length:=fun c hc=>by
    rcases L.arr with e|e
    · rw[e]at hc;exact .inl hc
    · rw[e,List.mem_append,List.mem_singleton]at hc;exact hc
  have F:∀c∈av,∀o∈l',o.kind≠6→c≠o.pos:=fun c hc o D hk e=>by
    obtain⟨i,B⟩:=mem_get hc
    rcases hO'.sep D (L.chain.ob i c B)with G|G|G
    · subst G;exact hk rfl
    · have:=up8_ge o.size;have:=(hO'.mem D).size.1;simp only at G;omega
    · rw[up8_arr]at G;simp only at G;omega
  have K:m'.datas=m.datas:=hd.trans Y
  refine⟨h.stat.keep (by rw[hb];exact hO') ⟨t,M,fun o D=>by have:=(S o D).1;exact⟨by omega,by omega⟩⟩ (by rw[hb];exact N) I (hc.trans X) (hf.trans Z) ⟨hn.1.trans (T 2 (by decide) (by decide) (by decide)),hn.2.trans (T 4 (by decide) (by decide) (by decide))⟩ (by rw[K];exact DSame.refl _) (hcn (L.cn h.stat.cn)),by rw[hb,hm'];exact L.chain,fun i k B=>?_,⟨fun i k B a C hc=>?_,by rw[K];exact h.own.one⟩,fun g U=>by rw[hb];exact(h.ent g U).eff h.stat.objs N I H,by rw[M,filter_app fun o D=>by have:=(S o D).1;omega];exact h.kin⟩
  · rw[K]at B
    have J:=h.stat.data k (List.mem_of_getElem? B)
    have d:=up8_ge (64+k.text.length)
    have V:272≤k.pos:=(h.stat.objs.mem J.ob).ge
    rw[hb]
    refine(h.dat i k B).eff J h.stat.objs N H (fun a C=>?_) (fun j y R a C=>?_)
    · rcases linkS_at hO' C L.chain.ob (H _ J.ob) (fun c hc=>F c hc _ (H _ J.ob) (by simp))with A|A|A
      · omega
      · simp only at A;omega
      · simp only at A;omega
    · have Q:=(h.dat i k B).chain.ob j y R
      have O:=(h.dat i k B).chain.le h.stat.objs R
      have P:∀c∈av,c≠y:=fun c hc e=>by
        subst e
        rcases E c hc with A|A
        · exact h.own.main i k B c (List.mem_of_getElem? R) A
        · omega
      rcases linkS_at hO' C L.chain.ob (H _ Q) P with A|A|A
      · omega
      · simp only at A;omega
      · rw[up8_arr]at A;simp only at A;omega
  · rw[K]at B;rw[hm']at hc
    rcases E a hc with A|A
    · exact h.own.main i k B a C A
    · obtain⟨j,W⟩:=mem_get C
      have O:=(h.dat i k B).chain.le h.stat.objs W
      omega
theorem hard_cases {k:Known} {av:List Nat} {a:Nat} (h:Hard k av a):(k.pos+40≤a∧a+8≤k.pos+64)∨LinkS (k.pos+48) av a:=by
  rcases h with h|h|h
  · left;omega
  · left;omega
  · exact .inr h
/-- The entry stands in the chain of one of its data. -/
theorem ImgC.hang {m m':Mk} {l l':List Ob} {es:List EntG} {mp:List Nat} {f:Nat→List Nat} {i e:Nat} {k k':Known} (h:ImgC m l es mp f) (hi:m.datas[i]? = some k) (H:Hung m m' l l' i e k k' (f i)):ImgC m' l' es mp (fun j=>if j=i then f i ++ [e]else f j):=by
  obtain⟨s1,s3,s4,s5,s6⟩:=H.same
  obtain⟨t,u,ht⟩:=H.sub
  have J:=H.objs
  have M:∀o∈l,o∈l':=fun o N=>by rw[u];exact List.mem_append_left _ N
  have p:=H.eff
  have T:=h.stat.data k (List.mem_of_getElem? hi)
  have hu:=up8_ge (64+k.text.length)
  have Ah:272≤k.pos:=(h.stat.objs.mem T.ob).ge
  have v:DSame m.datas m'.datas:=by rw[H.dat];exact DSame.set hi H.pos.1 H.pos.2.1
  have ob':=H.more.chain.ob
  have K:∀c∈k'.arrays,c∈k.arrays∨c=m.b.length:=fun c G=>by
    rcases H.arr with e|e
    · rw[e]at G;exact .inl G
    · rw[e,List.mem_append,List.mem_singleton]at G;exact G
  have Q:∀c∈k'.arrays,∀o∈l',o.kind≠6→c≠o.pos:=fun c G o N hk e=>by
    obtain⟨i,hi⟩:=mem_get G
    rcases J.sep N (ob' i c hi)with C|C|C
    · subst C;exact hk rfl
    · have:=up8_ge o.size;have:=(J.mem N).size.1;simp only at C;omega
    · rw[up8_arr]at C;simp only at C;omega
  -- what is written stands E from another object's inside
  have E:∀o∈l',o.pos≠k.pos→(∀c∈k'.arrays,c≠o.pos)→∀a,Hard k k'.arrays a→a+8≤o.pos∨o.pos+up8 o.size≤a:=fun o N x G a F=>by
    have Ak:o.pos+up8 o.size≤k.pos∨k.pos+up8 (64+k.text.length)≤o.pos:=by
      rcases J.sep N (M _ T.ob)with C|C|C
      · exact absurd (congrArg Ob.pos C) x
      · exact .inl C
      · exact .inr C
    rcases hard_cases F with B|B
    · omega
    · rcases linkS_at J B (by rw[← H.pos.1]at *;exact ob') N G with d|d
      · omega
      · exact d
  have U:∀a,Hard k k'.arrays a→Mild l a:=fun a F=>by
    have hw:∀q,k.pos+40≤q→q+8≤k.pos+64→Mild l' q:=fun q B d=>mild_of J (M _ T.ob) (by simp only;omega) (by simp only;omega) (by simp) (by simp only;omega) (by simp)
    rcases hard_cases F with B|B
    · exact(hw a B.1 B.2).mono M
    · exact(linkS_mild J B ob' (hw _ (by omega) (by omega))).mono M
  have A:∀(j:Nat) (y:Known),m'.datas[j]? = some y→(j=i∧y=k')∨(j≠i∧m.datas[j]? = some y):=fun j y D=>by
    rw[H.dat]at D
    by_cases I:i=j
    · subst I
      rw[List.getElem?_set_self (List.getElem?_eq_some_iff.1 hi).1]at D
      exact .inl ⟨rfl,by simpa using D.symm⟩
    · rw[List.getElem?_set_ne I]at D
      exact .inr ⟨fun e=>I e.symm,D⟩
  have R:=h.stat.keep J ⟨t,u,fun o N=>by have:=(ht o N).1;exact⟨by omega,by omega⟩⟩ p U s1 s3 ⟨s6 2 (by decide) (by decide) (by decide),s6 4 (by decide) (by decide) (by decide)⟩ v (H.cn h.stat.cn)
  refine⟨R,?_,fun j y D=>?_,⟨fun j y D a F G=>?_,fun j S y Z a D L F P=>?_⟩,fun g hg=>(h.ent g hg).eff h.stat.objs p U M,by rw[u,filter_app fun o N=>by have:=(ht o N).1;omega];exact h.kin⟩
  · rw[s4]
    refine h.main.eff h.stat.objs (main_src l) (Nat.le_refl _) p M (fun a F=>?_) (fun j y hy a F=>?_)
    · rcases hard_cases F with B|B|⟨j,c,B,d,h3⟩
      · omega
      · omega
      · have:=H.more.chain.le J B;omega
    · have O:=h.main.ob j y hy
      have w:=h.main.le h.stat.objs hy
      have:=E _ (M _ O) (fun e=>by
        have:=h.stat.objs.sep O T.ob
        rcases this with C|C|C
        · cases C
        · rw[up8_arr]at C;simp only at C e;omega
        · simp only at C e;omega) (fun c G e=>by
        simp only at e;subst e
        rcases K c G with B|B
        · exact h.own.main i k hi c B (List.mem_of_getElem? hy)
        · omega) a F
      rw[up8_arr]at this
      simp only at this;omega
  · rcases A j y D with⟨rfl,rfl⟩|⟨I,D⟩
    · rw[if_pos rfl];exact H.more
    · rw[if_neg I]
      have r:=h.stat.data y (List.mem_of_getElem? D)
      have Al:=up8_ge (64+y.text.length)
      have Aa:y.pos≠k.pos:=fun e=>I (h.stat.one j i y k D hi (.inl e))
      refine(h.dat j y D).eff r h.stat.objs p M (fun a F=>?_) (fun n z X a F=>?_)
      · have:=E _ (M _ r.ob) Aa (fun c G=>Q c G _ (M _ r.ob) (by simp)) a F
        simp only at this;omega
      · have O:=(h.dat j y D).chain.ob n z X
        have w:=(h.dat j y D).chain.le h.stat.objs X
        have:=E _ (M _ O) (fun e=>by
          have:=h.stat.objs.sep O T.ob
          rcases this with C|C|C
          · cases C
          · rw[up8_arr]at C;simp only at C e;omega
          · simp only at C e;omega) (fun c G e=>by
          simp only at e;subst e
          rcases K c G with B|B
          · exact I (h.own.one j i y k c D hi (List.mem_of_getElem? X) B)
          · omega) a F
        rw[up8_arr]at this
        simp only at this;omega
  · rw[s4]at G
    rcases A j y D with⟨rfl,rfl⟩|⟨I,D⟩
    · rcases K a F with B|B
      · exact h.own.main j k hi a B G
      · obtain⟨n,hn⟩:=mem_get G
        have:=h.main.le h.stat.objs hn;omega
    · exact h.own.main j y D a F G
  · have Y:∀(n:Nat) (z:Known),m.datas[n]? = some z→m.b.length∉z.arrays:=fun n z X W=>by
      obtain⟨q,hq⟩:=mem_get W
      have:=(h.dat n z X).chain.le h.stat.objs hq;omega
    rcases A j y D with⟨rfl,rfl⟩|⟨I,D⟩
    · rcases A S Z L with⟨rfl,rfl⟩|⟨V,L⟩
      · rfl
      · rcases K a F with B|B
        · exact h.own.one j S k Z a hi L B P
        · subst B;exact absurd P (Y S Z L)
    · rcases A S Z L with⟨rfl,rfl⟩|⟨V,L⟩
      · rcases K a P with B|B
        · exact h.own.one j S y k a D hi F B
        · subst B;exact absurd F (Y j y D)
      · exact h.own.one j S y Z a D L F P
end Go.Wk
namespace Go.Wk
open Go
abbrev plt (p q:Pr):Prop:=Op.bytesLess (whole p.pb) (whole q.pb)=true
theorem plt_irr (p:Pr):¬plt p p:=by unfold plt;rw[bl_irr];simp
theorem plt_trans {p q r:Pr} (h:plt p q) (k:plt q r):plt p r:=bl_trans h k
theorem plt_tri {p q:Pr} (hp:right p.pb=true) (hq:right q.pb=true) (h:¬plt p q) (k:¬plt q p):p=q :=
  pb_inj.1 (whole_inj hp hq (bl_tri (by simpa [plt]using h) (by simpa [plt]using k)))
abbrev Asc (l:List Pr):Prop:=l.Pairwise plt
/-- Two rising lists of the same pairs are one. -/
theorem asc_ext:∀{l m:List Pr},Asc l→Asc m→(∀p,p∈l↔p∈m)→l=m
  | [],[],_,_,_=>rfl
  | [],b :: m,_,_,h=>by have:=(h b).2 (by simp);simp at this
  | a :: l,[],_,_,h=>by have:=(h a).1 (by simp);simp at this
  | a :: l,b :: m,hl,hm,h=>by
    obtain⟨hl1,hl2⟩:=List.pairwise_cons.1 hl
    obtain⟨hm1,hm2⟩:=List.pairwise_cons.1 hm
    have e:a=b:=by
      rcases List.mem_cons.1 ((h a).1 (by simp))with e|A
      · exact e
      · rcases List.mem_cons.1 ((h b).2 (by simp))with e|C
        · exact e.symm
        · exact absurd (plt_trans (hl1 b C) (hm1 a A)) (plt_irr a)
    subst e
    congr 1
    refine asc_ext hl2 hm2 fun p=>⟨fun B=>?_,fun B=>?_⟩
    · rcases List.mem_cons.1 ((h p).1 (by simp[B]))with rfl|A
      · exact absurd (hl1 p B) (plt_irr p)
      · exact A
    · rcases List.mem_cons.1 ((h p).2 (by simp[B]))with rfl|A
      · exact absurd (hm1 p B) (plt_irr p)
      · exact A
/-! the document's insertion -/
def ins' (p:Pr):List Pr→List Pr
  | []=>[p]
  | q :: r=>if Op.bytesLess (payload q) (payload p)=true then q :: ins' p r else if q.pb=p.pb then q :: r else p :: q :: r
theorem rank_succ (t:Ly) (o:List Pr) (k:Nat):rankF t o (k+1)=rankF t o k+1:=by
  induction o generalizing k with
  | nil=>rfl
  | cons q r ih=>unfold rankF;split <;> simp[ih]
theorem rank_le (t:Ly) (o:List Pr):rankF t o 0≤o.length:=by
  induction o with
  | nil=>simp[rankF]
  | cons q r ih=>unfold rankF;split <;> simp[rank_succ,ih]
theorem shift_len:∀(n j:Nat) (o:List Pr),(shiftF n j o).length=o.length
  | 0,_,_=>rfl
  | n+1,j,o=>by unfold shiftF;rw[shift_len n];simp
theorem shift_get:∀(n j:Nat) (o:List Pr),n≤j→j<o.length→∀i,i<o.length→(shiftF n j o)[i]? = if j-n<i∧i≤j then o[i-1]? else o[i]?
  | 0,j,o,_,_,i,_=>by simp[shiftF];intro h1 h2;omega
  | n+1,j,o,hn,hj,i,hi=>by
    unfold shiftF
    have hd:o.getD (j-1) {name:=[],value:=[]}=o[j-1]:=by simp[List.getD,show j-1<o.length by omega]
    rw[shift_get n (j-1) _ (by omega) (by simp;omega) i (by simpa using hi),hd]
    by_cases h1:j-1-n<i∧i≤j-1
    · rw[if_pos h1,if_pos (by omega),List.getElem?_set_ne (by omega)]
    · rw[if_neg h1]
      by_cases h2:i=j
      · subst h2
        rw[if_pos (by omega),List.getElem?_set_self hj,List.getElem?_eq_getElem (show i-1<o.length by omega)]
      · rw[if_neg (by omega),List.getElem?_set_ne (by omega)]
theorem shift_set (o:List Pr) (k:Nat) (p d:Pr) (hk:k≤o.length):(shiftF (o.length-k) o.length (o ++ [d])).set k p=o.take k ++ p :: o.drop k:=by
  apply List.ext_getElem?
  intro i
  have A:(shiftF (o.length-k) o.length (o ++ [d])).length=o.length+1:=by rw[shift_len];simp
  by_cases hi:i<o.length+1
  · by_cases h1:i=k
    · subst h1
      rw[List.getElem?_set_self (by omega),List.getElem?_append_right (by simp;omega)]
      simp[Nat.min_eq_left hk]
    · rw[List.getElem?_set_ne (Ne.symm h1),shift_get _ _ _ (by omega) (by simp) i (by simp;omega)]
      by_cases h2:o.length-(o.length-k)<i∧i≤o.length
      · rw[if_pos h2,List.getElem?_append_left (by omega),List.getElem?_append_right (by simp;omega)]
        simp only[List.length_take,Nat.min_eq_left hk]
        obtain⟨m,rfl⟩:∃m,i=k+1+m:=⟨i-(k+1),by omega⟩
        rw[show k+1+m-k=m+1 by omega,List.getElem?_cons_succ,List.getElem?_drop]
        congr 1;omega
      · rw[if_neg h2,List.getElem?_append_left (by omega),List.getElem?_append_left (by simp;omega),List.getElem?_take,if_pos (by omega)]
  · rw[List.getElem?_eq_none (by simp[A];omega),List.getElem?_eq_none (by simp;omega)]
theorem ins_eq (p:Pr) (o:List Pr):insF p o=ins' p o:=by
  have A:∀o:List Pr,(rankF (payload p) o 0<o.length∧(o.getD (rankF (payload p) o 0) {name:=[],value:=[]}).pb=p.pb→ins' p o=o) ∧
      (¬(rankF (payload p) o 0<o.length∧(o.getD (rankF (payload p) o 0) {name:=[],value:=[]}).pb=p.pb)→ins' p o=o.take (rankF (payload p) o 0) ++ p :: o.drop (rankF (payload p) o 0)):=by
    intro o
    induction o with
    | nil=>simp[rankF,ins']
    | cons q r ih =>
      unfold rankF ins'
      by_cases h1:Op.bytesLess (payload q) (payload p)=true
      · rw[if_pos h1,if_pos h1,rank_succ]
        simp only[List.length_cons,Nat.add_lt_add_iff_right,List.getD_cons_succ,List.take_succ_cons,List.drop_succ_cons,List.cons_append,List.cons.injEq,true_and]
        exact ih
      · rw[if_neg h1,if_neg h1]
        simp only[List.length_cons,Nat.zero_lt_succ,true_and,List.getD_cons_zero,List.take_zero,List.drop_zero,List.nil_append]
        exact⟨fun h=>if_pos h,fun h=>if_neg h⟩
  unfold insF
  simp only
  split
  · rename_i h;exact((A o).1 h).symm
  · rename_i h;rw[shift_set _ _ _ _ (rank_le _ _)];exact((A o).2 h).symm
theorem mem_ins {p q:Pr} {o:List Pr}:q∈ins' p o↔q=p∨q∈o:=by
  induction o with
  | nil=>simp[ins']
  | cons x r ih =>
    unfold ins'
    split
    · simp[ih];constructor
      · rintro(h|h|h) <;> simp[h]
      · rintro(h|h|h) <;> simp[h]
    · split
      · rename_i h;rw[pb_inj]at h;subst h;simp
      · simp
theorem asc_ins {p:Pr} {o:List Pr} (hp:right p.pb=true) (ho:∀q∈o,right q.pb=true) (h:Asc o):Asc (ins' p o):=by
  induction o with
  | nil=>simp[ins']
  | cons x r ih =>
    obtain⟨C,D⟩:=List.pairwise_cons.1 h
    unfold ins'
    split
    · rename_i hx
      refine List.pairwise_cons.2 ⟨fun q A=>?_,ih (fun q A=>ho q (by simp[A])) D⟩
      rcases mem_ins.1 A with rfl|A
      · exact hx
      · exact C q A
    · rename_i hx
      split
      · exact h
      · rename_i hne
        have B:plt p x:=by
          cases hb:Op.bytesLess (whole p.pb) (whole x.pb)with
          | true=>exact hb
          | false=>exact absurd (pb_inj.2 (plt_tri (ho x (by simp)) hp hx (by simp[plt,hb]))) hne
        refine List.pairwise_cons.2 ⟨fun q A=>?_,h⟩
        rcases List.mem_cons.1 A with rfl|A
        · exact B
        · exact plt_trans B (C q A)
/-! the package's sort -/
theorem goL_all:∀(l o x:List Pr),goL l o=(x,0)→(∀q∈o,right q.pb=true)→Asc o→Asc x∧(∀q∈x,right q.pb=true)∧(∀q,q∈x↔q∈o∨q∈l)∧x.length≤16
  | [],o,x,h,hr,ha=>by
    unfold goL at h
    split at h
    · simp at h
    · rename_i hl
      obtain⟨rfl,_⟩:=Prod.mk.inj h
      exact⟨ha,hr,by simp,by omega⟩
  | p :: r,o,x,h,hr,ha=>by
    unfold goL at h
    split at h
    · rename_i h1;exact absurd (Prod.mk.inj h).2 h1
    · rename_i h1
      have hp:right p.pb=true:=joinF_right.1 (Classical.not_not.1 h1)
      rw[ins_eq]at h
      obtain⟨g1,g2,g3,g4⟩:=goL_all r _ x h (fun q hq=>by
        rcases mem_ins.1 hq with rfl|hq
        · exact hp
        · exact hr q hq) (asc_ins hp hr ha)
      refine⟨g1,g2,fun q=>?_,g4⟩
      rw[g3,mem_ins,List.mem_cons]
      constructor
      · rintro((h|h)|h)
        · exact .inr (.inl h)
        · exact .inl h
        · exact .inr (.inr h)
      · rintro(h|h|h)
        · exact .inl (.inr h)
        · exact .inl (.inl h)
        · exact .inr h
theorem listF_all {l x:List Pr} (h:listF l=(x,0)):Asc x∧(∀q∈x,right q.pb=true)∧(∀q,q∈x↔q∈l)∧x.length≤16∧x≠[]:=by
  unfold listF at h
  split at h
  · simp at h
  · rename_i h0
    obtain⟨B,C,A,D⟩:=goL_all l [] x h (by simp) List.Pairwise.nil
    refine⟨B,C,by simpa using A,D,?_⟩
    rintro rfl
    cases l with
    | nil=>simp at h0
    | cons y r=>exact absurd ((A y).2 (by simp)) (by simp)
end Go.Wk
namespace Go.Wk
open Go Go.RowKit
def textAt (ds:List Known) (i:Nat):List UInt8:=(ds.getD i known0).text
/-- The data ahead stay as they are, in what stays of them. -/
def DExt (ds ds':List Known):Prop:=∀(i:Nat) (k:Known),ds[i]? = some k→∃k',ds'[i]? = some k'∧k'.pos=k.pos∧k'.text=k.text
theorem DExt.refl (ds:List Known):DExt ds ds:=fun _ k h=>⟨k,h,rfl,rfl⟩
theorem DExt.trans {a b c:List Known} (h:DExt a b) (k:DExt b c):DExt a c:=fun i x hx=>by
  obtain⟨y,h1,h2,h3⟩:=h i x hx
  obtain⟨z,h4,h5,h6⟩:=k i y h1
  exact⟨z,h4,h5.trans h2,h6.trans h3⟩
theorem DSame.ext {a b:List Known} (h:DSame a b):DExt a b:=fun i k hk=>by
  have hl:=(List.getElem?_eq_some_iff.1 hk).1
  obtain⟨k',hk'⟩:∃k',b[i]? = some k':=⟨_,List.getElem?_eq_getElem (by rw[h.len];exact hl)⟩
  obtain⟨k0,h1,h2,h3⟩:=h.get i k' hk'
  rw[hk]at h1;cases h1
  exact⟨k',hk',h2,h3⟩
theorem DExt.at {a b:List Known} (h:DExt a b) {i:Nat} (hi:i<a.length):i<b.length∧posAt b i=posAt a i∧textAt b i=textAt a i:=by
  obtain⟨D,A,B,C⟩:=h i _ (List.getElem?_eq_getElem hi)
  refine⟨(List.getElem?_eq_some_iff.1 A).1,?_,?_⟩
  · unfold posAt;simp only[List.getD_eq_getElem?_getD,A,List.getElem?_eq_getElem hi,Option.getD_some];exact B
  · unfold textAt;simp only[List.getD_eq_getElem?_getD,A,List.getElem?_eq_getElem hi,Option.getD_some];exact C
theorem DataIm.ext {m m':Mk} {l l':List Ob} {i:Nat} {t:Ly} (d:DataIm m m' l l' i t):DExt m.datas m'.datas:=by
  rcases d.new with e|⟨s,p,e,_⟩
  · rw[e];exact DExt.refl _
  · rw[e];exact fun j k A=>⟨k,by rw[List.getElem?_append_left (List.getElem?_eq_some_iff.1 A).1];exact A,rfl,rfl⟩
theorem textAt_get {ds:List Known} {i:Nat} {k:Known} (h:ds[i]? = some k):textAt ds i=k.text∧posAt ds i=k.pos:=by
  unfold textAt posAt
  simp only[List.getD_eq_getElem?_getD,h,Option.getD_some,and_self]
theorem backF_spec (ds:List Known) (p:Nat) (od:List Nat):∀n,n≤od.length→(∀j,backF ds p od n≤j→j<n→p<posAt ds (od.getD j 0))∧(0<backF ds p od n→posAt ds (od.getD (backF ds p od n-1) 0)≤p)
  | 0,_=>⟨fun j h1 h2=>by omega,fun h=>by simp[backF]at h⟩
  | n+1,hn=>by
    rw[backF]
    split
    · rename_i hp
      obtain⟨g1,g2⟩:=backF_spec ds p od n (by omega)
      refine⟨fun j h1 h2=>?_,g2⟩
      by_cases hj:j=n
      · subst hj;exact hp
      · exact g1 j h1 (by omega)
    · rename_i hp
      exact⟨fun j h1 h2=>by omega,fun _=>by simp only[Nat.add_sub_cancel];omega⟩
theorem pairwise_split {α:Type} {R:α→α→Prop} {l:List α} {n:Nat} {x:α} (h:l.Pairwise R) (h1:∀y∈l.take n,R y x) (h2:∀y∈l.drop n,R x y):(l.take n ++ [x] ++ l.drop n).Pairwise R:=by
  rw[List.append_assoc,List.singleton_append]
  refine List.pairwise_append.2 ⟨h.take,List.pairwise_cons.2 ⟨h2,h.drop⟩,fun a C b A=>?_⟩
  rcases List.mem_cons.1 A with rfl|A
  · exact h1 a C
  · have B:=h
    rw[← List.take_append_drop n l]at B
    exact(List.pairwise_append.1 B).2.2 a C b A
theorem place_sorted {ds:List Known} {k:Nat} {od:List Nat} (h:od.Pairwise fun a b=>posAt ds a<posAt ds b) (hk:∀i∈od,posAt ds i≠posAt ds k):(placeF ds k od).Pairwise fun a b=>posAt ds a<posAt ds b:=by
  obtain⟨E,F⟩:=backF_spec ds (posAt ds k) od od.length (Nat.le_refl _)
  have I:=backF_le ds (posAt ds k) od od.length
  unfold placeF
  simp only
  generalize backF ds (posAt ds k) od od.length=n at *
  refine pairwise_split h (fun y D=>?_) (fun y D=>?_)
  · obtain⟨i,B⟩:=List.mem_iff_getElem?.1 D
    rw[List.getElem?_take]at B
    split at B
    · rename_i hin
      have G:=hk y (List.mem_of_getElem? B)
      have C:=(List.getElem?_eq_some_iff.1 B).1
      have J:=F (by omega)
      have A:od[n-1]? = some (od.getD (n-1) 0):=by simp[List.getD,List.getElem?_eq_getElem (show n-1<od.length by omega)]
      have:posAt ds y≤posAt ds (od.getD (n-1) 0):=by
        by_cases he:i=n-1
        · subst he;rw[B]at A;have:=Option.some.inj A;rw[← this];exact Nat.le_refl _
        · have H:=List.pairwise_iff_getElem.1 h i (n-1) C (by omega) (by omega)
          rw[List.getElem?_eq_getElem C]at B
          rw[List.getElem?_eq_getElem (show n-1<od.length by omega)]at A
          rw[Option.some.inj B,Option.some.inj A]at H
          omega
      omega
    · cases B
  · obtain⟨i,B⟩:=List.mem_iff_getElem?.1 D
    rw[List.getElem?_drop]at B
    have C:=(List.getElem?_eq_some_iff.1 B).1
    have:=E (n+i) (by omega) C
    rw[List.getD_eq_getElem?_getD,B]at this
    exact this
theorem place_perm (ds:List Known) (k:Nat) (od:List Nat):(placeF ds k od).Perm (k :: od):=by
  unfold placeF
  simp only
  generalize backF ds (posAt ds k) od od.length=n
  rw[List.append_assoc,List.singleton_append]
  have:=List.perm_middle (a:=k) (l₁:=od.take n) (l₂:=od.drop n)
  rw[List.take_append_drop]at this
  exact this
/-- The data of some fields: their texts, who they are, in the order of their places. -/
structure Whos (m:Mk) (dl:List Pr) (ps:List (List UInt8)) (od:List Nat):Prop where
  eq:ps=dl.map payload
  lt:∀i∈od,i<m.datas.length
  perm:(od.map (textAt m.datas)).Perm ps
  asc:od.Pairwise fun a b=>posAt m.datas a<posAt m.datas b
theorem payload_inj {p q:Pr} (hp:right p.pb=true) (hq:right q.pb=true) (h:payload p=payload q):p=q:=by
  have A:=(split_whole ((joinC_right _).2 hp)).2
  have B:=(split_whole ((joinC_right _).2 hq)).2
  have C:whole p.pb=whole q.pb:=h
  rw[C,B]at A
  exact(pb_inj.1 A).symm
theorem whos_step {m m':Mk} {l l':List Ob} {dl:List Pr} {ps:List (List UInt8)} {od:List Nat} {i:Nat} {x:Pr} (h:Whos m dl ps od) (hs:Stat m l) (d:DataIm m m' l l' i (payload x)) (hn:payload x∉dl.map payload) :
    Whos m' (dl ++ [x]) (ps ++ [(m'.datas.getD i known0).text]) (placeF m'.datas i od):=by
  have C:=d.ext
  obtain⟨k,hk,E⟩:=d.got
  obtain⟨F,L⟩:=textAt_get hk
  have J:=(List.getElem?_eq_some_iff.1 hk).1
  have G:(m'.datas.getD i known0).text=payload x:=F.trans E
  have A:od.map (textAt m'.datas)=od.map (textAt m.datas):=List.map_congr_left fun j B=>(C.at (h.lt j B)).2.2
  have D:i∉od:=fun K=>by
    have H:textAt m'.datas i∈od.map (textAt m'.datas):=List.mem_map.2 ⟨i,K,rfl⟩
    rw[A]at H
    have:=h.perm.subset H
    rw[h.eq,F,E]at this
    exact hn this
  refine⟨by rw[G,h.eq];simp,fun j B=>?_,?_,?_⟩
  · rcases place_mem B with rfl|B
    · exact J
    · exact(C.at (h.lt j B)).1
  · refine((place_perm m'.datas i od).map _).trans ?_
    rw[List.map_cons,A,F,E,G]
    exact(List.Perm.cons _ h.perm).trans (List.perm_append_comm (l₁:=[payload x]))
  · refine place_sorted ?_ fun j B e=>?_
    · refine List.Pairwise.imp_of_mem (fun {a b} ha hb hab=>?_) h.asc
      rw[(C.at (h.lt a ha)).2.1,(C.at (h.lt b hb)).2.1];exact hab
    · obtain⟨y,I⟩:∃y,m'.datas[j]? = some y:=⟨_,List.getElem?_eq_getElem (C.at (h.lt j B)).1⟩
      rw[(textAt_get I).2,L]at e
      have:=d.stat.one j i y k I hk (.inl e)
      subst this;exact D B
/-- Objects, no others but behind those that were there. -/
def Ons (m:Mk) (l l':List Ob):Prop:=∃t,l'=l ++ t∧∀o∈t,m.b.length≤o.pos
theorem Ons.refl (m:Mk) (l:List Ob):Ons m l l:=⟨[],by simp,by simp⟩
theorem Ons.trans {m m':Mk} {l l' l'':List Ob} (h:Ons m l l') (k:Ons m' l' l'') (hl:m.b.length≤m'.b.length):Ons m l l'':=by
  obtain⟨t,e,B⟩:=h
  obtain⟨u,f,C⟩:=k
  refine⟨t ++ u,by rw[f,e,List.append_assoc],fun o A=>?_⟩
  rcases List.mem_append.1 A with A|A
  · exact B o A
  · have:=C o A;omega
/-- Each datum's arrays go on. -/
def ArrX (ds ds':List Known):Prop:=∀(i:Nat) (k k':Known),ds[i]? = some k→ds'[i]? = some k'→∃t,k'.arrays=k.arrays ++ t
theorem ArrX.refl (ds:List Known):ArrX ds ds:=fun i k k' h h'=>⟨[],by rw[h]at h';cases h';simp⟩
theorem ArrX.trans {a b c:List Known} (h:ArrX a b) (k:ArrX b c) (e:DExt a b):ArrX a c:=fun i x z hx hz=>by
  obtain⟨y,hy,_⟩:=e i x hx
  obtain⟨t,h1⟩:=h i x y hx hy
  obtain⟨u,h2⟩:=k i y z hy hz
  exact⟨t ++ u,by rw[h2,h1,List.append_assoc]⟩
theorem ArrX.app (ds t:List Known):ArrX ds (ds ++ t):=fun i k k' h h'=>by
  rw[List.getElem?_append_left (List.getElem?_eq_some_iff.1 h).1,h]at h'
  cases h'
  exact⟨[],by simp⟩
theorem ArrX.set {ds:List Known} {i:Nat} {k k':Known} (h:ds[i]? = some k) (ha:k'.arrays=k.arrays∨∃x,k'.arrays=k.arrays ++ [x]):ArrX ds (ds.set i k'):=fun j y z hy hz=>by
  by_cases e:i=j
  · subst e
    rw[List.getElem?_set_self (List.getElem?_eq_some_iff.1 h).1]at hz
    rw[h]at hy
    cases hy;cases hz
    rcases ha with e|⟨x,e⟩
    · exact⟨[],by simp[e]⟩
    · exact⟨[x],e⟩
  · rw[List.getElem?_set_ne e,hy]at hz
    cases hz
    exact⟨[],by simp⟩
structure DatasIm (m m':Mk) (l l':List Ob) (es:List EntG) (mp:List Nat) (f:Nat→List Nat):Prop where
  img:ImgC m' l' es mp f
  ext:DExt m.datas m'.datas
  same:m'.c=m.c∧m'.main=m.main∧∀i,i≠6→i≠7→i<15→m'.num i=m.num i
  len:m.datas.length≤m'.datas.length
  sub:Ons m l l'
  ge:m.b.length≤m'.b.length
  arx:ArrX m.datas m'.datas
theorem datasL_im:∀(fs dl:List Pr) (m:Mk) (l:List Ob) (ps:List (List UInt8)) (od:List Nat) (es:List EntG) (mp:List Nat) (f:Nat→List Nat),ImgC m l es mp f→(∀i,m.datas.length≤i→f i=[])→Whos m dl ps od→(∀q∈fs,BD q)→((dl ++ fs).map payload).Nodup →
    ∃l',DatasIm m (datasL fs m ps od).2.2 l l' es mp f∧Whos (datasL fs m ps od).2.2 (dl ++ fs) (datasL fs m ps od).1 (datasL fs m ps od).2.1
  | [],dl,m,l,ps,od,es,mp,f,h,hf,hw,_,_=>⟨l,⟨h,DExt.refl _,⟨rfl,rfl,fun _ _ _ _=>rfl⟩,Nat.le_refl _,Ons.refl _ _,Nat.le_refl _,ArrX.refl _⟩,by rw[List.append_nil];exact hw⟩
  | x :: r,dl,m,l,ps,od,es,mp,f,h,hf,hw,hb,hnd=>by
    obtain⟨l1,d⟩:=data_im h.stat x (hb x (by simp))
    have hx:payload x∉dl.map payload:=fun hm=>by
      rw[List.map_append,List.map_cons]at hnd
      exact(List.nodup_append.1 hnd).2.2 _ hm _ (by simp) rfl
    have g:=h.soft d hf
    have w:=whos_step hw h.stat d hx
    have hle:m.datas.length≤(m.data x).2.datas.length:=by
      rcases d.new with e|⟨s,p,e,_⟩ <;> rw[e] <;> simp
    obtain⟨l',A,E⟩:=datasL_im r (dl ++ [x]) (m.data x).2 l1 _ _ es mp f g (fun i I=>hf i (by omega)) w (fun q G=>hb q (by simp[G])) (by rw[List.append_assoc];exact hnd)
    rw[List.append_assoc]at E
    refine⟨l',⟨A.img,d.ext.trans A.ext,⟨A.same.1.trans d.step.same.1,A.same.2.1.trans d.step.same.2.1,fun i B C D=>(A.same.2.2 i B C D).trans (d.step.same.2.2 i B C D)⟩,lv hle A.len,Ons.trans (by obtain⟨t,e,H⟩:=d.step.sub;exact⟨t,e,fun o F=>(H o F).2⟩) A.sub d.step.eff.len,lv d.step.eff.len A.ge,ArrX.trans (by rcases d.new with e|⟨s,p,e,_⟩<;>rw[e];exact ArrX.refl _;exact ArrX.app _ _) A.arx d.ext⟩,E⟩
end Go.Wk
namespace Go.Wk
open Go Go.RowKit
theorem xorF_perm:∀{a b:List (List UInt8)},a.Perm b→∀v,xorF v a=xorF v b:=by
  intro a b h
  induction h with
  | nil=>exact fun _=>rfl
  | cons x _ ih=>exact fun v=>ih _
  | swap x y l=>intro v;simp only[xorF];congr 1;rw[Nat.xor_assoc,Nat.xor_assoc,Nat.xor_comm (lookN y)]
  | trans _ _ ih1 ih2=>exact fun v=>(ih1 v).trans (ih2 v)
theorem xorF_lt:∀(l:List (List UInt8)) (v:Nat),v<18446744073709551616→xorF v l<18446744073709551616
  | [],_,h=>h
  | x :: r,v,h=>xorF_lt r _ (xor64_lt h (lookN_lt x))
structure HangsIm (m m':Mk) (l l':List Ob) (es:List EntG) (mp:List Nat) (f:Nat→List Nat) (e n:Nat) (od:List Nat):Prop where
  img:ImgC m' l' es mp (fun j=>if j∈od then f j ++ [e]else f j)
  ds:DSame m.datas m'.datas
  same:m'.c=m.c∧m'.fields=m.fields∧m'.main=m.main∧m'.depth=m.depth∧∀i,i≠6→i≠7→i≠18→m'.num i=m.num i
  top:m'.b.length≤m.b.length+2100*n
  ge:m.b.length≤m'.b.length
  sub:Ons m l l'
  arx:ArrX m.datas m'.datas
theorem DSame.trans {a b c:List Known} (h:DSame a b) (k:DSame b c):DSame a c:=⟨k.len.trans h.len,fun i x hx=>by
  obtain⟨y,h1,h2,h3⟩:=k.get i x hx
  obtain⟨z,h4,h5,h6⟩:=h.get i y h1
  exact⟨z,h4,h2.trans h5,h3.trans h6⟩⟩
theorem hangE_im {es:List EntG} {mp:List Nat} {e:Nat} (he:e<18446744073709551616):∀(od:List Nat) (m:Mk) (l:List Ob) (f:Nat→List Nat),ImgC m l es mp f→(∀i∈od,i<m.datas.length)→od.Nodup→(∀i∈od,(f i).length<900000)→m.b.length+2100*od.length<900000 →
    ∃l',HangsIm m (hangE e od m) l l' es mp f e od.length od
  | [],m,l,f,h,_,_,_,_=>⟨l,⟨by simp only[List.not_mem_nil,if_false];exact h,DSame.refl _,⟨rfl,rfl,rfl,rfl,fun _ _ _ _=>rfl⟩,Nat.le_refl _,Nat.le_refl _,Ons.refl _ _,ArrX.refl _⟩⟩
  | i :: r,m,l,f,h,hi,hn,hl,hb=>by
    obtain⟨k,hk⟩:∃k,m.datas[i]? = some k:=⟨_,List.getElem?_eq_getElem (hi i (by simp))⟩
    simp only[List.length_cons]at hb
    obtain⟨l1,k1,H⟩:=hang_one (e:=e) h.stat.objs hk (h.stat.data k (List.mem_of_getElem? hk)) (h.dat i k hk) (by omega) he (by have:=hl i (by simp);omega)
    have g:=h.hang hk H
    have hd1:DSame m.datas (hang1 e i m).datas:=by rw[H.dat];exact DSame.set hk H.pos.1 H.pos.2.1
    have F:=H.top
    obtain⟨L,M,N,O,P⟩:=H.same
    rw[hangE_cons]
    rw[List.nodup_cons]at hn
    have J:∀j∈r,(if j=i then f i ++ [e]else f j)=f j:=fun j A=>if_neg (by rintro rfl;exact hn.1 A)
    obtain⟨l',B⟩:=hangE_im he r (hang1 e i m) l1 _ g (fun j A=>by rw[hd1.len];exact hi j (by simp[A])) hn.2 (fun j A=>by simp only[J j A];exact hl j (by simp[A])) (by omega)
    obtain⟨Q,R,S,T,U⟩:=B.same
    have G:=B.top
    refine⟨l',⟨?_,hd1.trans B.ds,⟨Q.trans L,R.trans M,S.trans N,T.trans O,fun j D E C=>(U j D E C).trans (P j D E C)⟩,by simp only[List.length_cons];omega,lv H.eff.len B.ge,Ons.trans (by obtain⟨t,e,F⟩:=H.sub;exact⟨t,e,fun o K=>(F o K).2⟩) B.sub H.eff.len,ArrX.trans (by rw[H.dat];exact ArrX.set hk (H.arr.elim .inl fun h=>.inr ⟨_,h⟩)) B.arx hd1.ext⟩⟩
    have I:(fun j=>if j∈i :: r then f j ++ [e]else f j)=fun j=>if j∈r then(if j=i then f i ++ [e]else f j) ++ [e]else if j=i then f i ++ [e]else f j:=by
      funext j
      by_cases A:j=i
      · subst A;simp[hn.1]
      · simp[A]
    rw[I]
    exact B.img
def places (es:List EntG) (i:Nat):List Nat:=(es.filter fun g=>decide (i∈g.who)).map EntG.pos
theorem places_app (es:List EntG) (g:EntG) (i:Nat):places (es ++ [g]) i=if i∈g.who then places es i ++ [g.pos]else places es i:=by
  unfold places
  rw[List.filter_append,List.map_append]
  by_cases h:i∈g.who
  · rw[if_pos h];simp[h]
  · rw[if_neg h];simp[h]
theorem places_len (es:List EntG) (i:Nat):(places es i).length≤es.length:=by unfold places;rw[List.length_map];exact List.length_filter_le _ _
/-- An entry says who its data are. -/
structure EntW (m:Mk) (g:EntG):Prop where
  lt:∀i∈g.who,i<m.datas.length
  items:g.ent.items=g.who.map fun i=>{pos:=posAt m.datas i,hash:=hashM m (textAt m.datas i)}
  asc:g.who.Pairwise fun a b=>posAt m.datas a<posAt m.datas b
  xor:g.ent.xor=xorF 0 (g.who.map (textAt m.datas))
  ok:Ent.ok g.ent∧g.ent.seq≠0
  len:1≤g.who.length∧g.who.length≤16
/-- An entry is that of a record. -/
structure RecG (m:Mk) (g:EntG) (r:Rec):Prop where
  seq:g.ent.seq=r.seq
  real:g.ent.real=r.real
  mono:g.ent.mono=r.mono
  boot:g.ent.boot=r.boot
  fields:(g.who.map (textAt m.datas)).Perm (r.fields.map payload)
  asc:Asc r.fields
  right:∀q∈r.fields,right q.pb=true
theorem EntW.ext {m m':Mk} {g:EntG} (h:EntW m g) (hd:DExt m.datas m'.datas) (hc:m'.c=m.c):EntW m' g:=by
  have B:∀t,hashM m' t=hashM m t:=fun t=>by unfold hashM;rw[hc]
  refine⟨fun i A=>(hd.at (h.lt i A)).1,?_,?_,?_,h.ok,h.len⟩
  · rw[h.items]
    exact List.map_congr_left fun i A=>by rw[(hd.at (h.lt i A)).2.1,(hd.at (h.lt i A)).2.2,B]
  · exact List.Pairwise.imp_of_mem (fun {a b} ha hb hab=>by rw[(hd.at (h.lt a ha)).2.1,(hd.at (h.lt b hb)).2.1];exact hab) h.asc
  · rw[h.xor]
    congr 1
    exact(List.map_congr_left fun i A=>(hd.at (h.lt i A)).2.2).symm
theorem RecG.ext {m m':Mk} {g:EntG} {r:Rec} (h:RecG m g r) (w:EntW m g) (hd:DExt m.datas m'.datas):RecG m' g r:=by
  refine⟨h.seq,h.real,h.mono,h.boot,?_,h.asc,h.right⟩
  have:g.who.map (textAt m'.datas)=g.who.map (textAt m.datas):=List.map_congr_left fun i A=>(hd.at (w.lt i A)).2.2
  rw[this];exact h.fields
structure Img (m:Mk) (l:List Ob) (es:List EntG):Prop where
  c:ImgC m l es (es.map EntG.pos) (places es)
  n8:m.num 8=es.length
  n9:m.num 9<18446744073709551616
  n11:m.num 11=m.main.getD 0 0
  n10:m.num 10=(es.head?.map fun g=>g.ent.seq).getD 0
  who:∀g∈es,EntW m g
  txt:∀k∈m.datas,∃q:Pr,right q.pb=true∧k.text=payload q
theorem places_nil {es:List EntG} {m:Mk} (h:∀g∈es,EntW m g) (i:Nat) (hi:m.datas.length≤i):places es i=[]:=by
  unfold places
  rw[List.map_eq_nil_iff,List.filter_eq_nil_iff]
  intro g A
  simp only[decide_eq_true_eq]
  intro B
  have:=(h g A).lt i B
  omega
/-- What matters of a maker is the same. -/
theorem ImgC.to {m m':Mk} {l:List Ob} {es:List EntG} {mp:List Nat} {f:Nat→List Nat} (h:ImgC m l es mp f) (hb:m'.b=m.b) (hc:m'.c=m.c) (hd:m'.datas=m.datas) (hf:m'.fields=m.fields) (hm:m'.main=m.main) (hn:m'.num 2=m.num 2∧m'.num 4=m.num 4) (hcn:Cn m l→Cn m' l):ImgC m' l es mp f:=by
  have D:∀t,hashM m' t=hashM m t:=fun t=>by unfold hashM;rw[hc]
  obtain⟨⟨E,F,G,H,I,J,K,L,M,A,B,C⟩,N,O,⟨P,Q⟩,R,S⟩:=h
  exact⟨⟨by rw[hb];exact E,by rw[hc];exact F,by rw[hc];exact G,hn.1.trans H,by rw[hc];exact hn.2.trans I,by rw[hc];exact J,fun k hk=>by rw[hb,D];exact K k (hd ▸ hk),fun k hk=>by rw[hb,D];exact L k (hf ▸ hk),by rw[hd];exact M,by rw[hd];exact A,by rw[hf];exact B,hcn C⟩,by rw[hb,hm];exact N,by rw[hb,hd];exact O,⟨by rw[hd,hm];exact P,by rw[hd];exact Q⟩,by rw[hb];exact R,S⟩
end Go.Wk
namespace Go.Wk
open Go Go.RowKit
theorem finM_num (z:Mk) (n seq real mono e:Nat) (boot:Ly) (i:Nat) (h:i≠8∧i≠9∧i≠10∧i≠12∧i≠13∧i≠14):(finM z n seq real mono e boot).num i=z.num i:=by
  unfold finM
  simp only
  have A:(if n=0 then(z.setN 10 seq).setN 12 real else z).num i=z.num i:=by
    split
    · rw[num_setN (by omega),num_setN (by omega)]
    · rfl
  generalize (if n=0 then(z.setN 10 seq).setN 12 real else z)=y at *
  rw[← A]
  show((((y.setN 8 ((y.num 8+1)%18446744073709551616)).setN 9 seq).setN 13 real).setN 14 mono).num i=y.num i
  rw[num_setN (by omega),num_setN (by omega),num_setN (by omega),num_setN (by omega)]
theorem finM_ten (z:Mk) (n seq real mono e:Nat) (boot:Ly) (h:z.h.n.length=20):(finM z n seq real mono e boot).num 10=if n=0 then seq else z.num 10:=by
  unfold finM
  simp only
  have A:(if n=0 then(z.setN 10 seq).setN 12 real else z).num 10=if n=0 then seq else z.num 10:=by
    split
    · rw[num_setN (by omega),num_set (by omega)]
    · rfl
  generalize (if n=0 then(z.setN 10 seq).setN 12 real else z)=y at *
  rw[← A]
  show((((y.setN 8 ((y.num 8+1)%18446744073709551616)).setN 9 seq).setN 13 real).setN 14 mono).num 10=y.num 10
  rw[num_setN (by omega),num_setN (by omega),num_setN (by omega),num_setN (by omega)]
theorem asc_nodup {ds:List Known} {od:List Nat} (h:od.Pairwise fun a b=>posAt ds a<posAt ds b):od.Nodup :=
  List.Pairwise.imp (fun {a b} hab e=>by subst e;exact Nat.lt_irrefl _ hab) h
theorem asc_payload {fs:List Pr} (h:Asc fs) (hr:∀q∈fs,right q.pb=true):(fs.map payload).Nodup:=by
  unfold List.Nodup
  rw[List.pairwise_map]
  exact List.Pairwise.imp_of_mem (fun {a b} ha hb hab e=>by
    have:=payload_inj (hr a ha) (hr b hb) e
    subst this;exact plt_irr _ hab) h
theorem datasL_txt:∀(fs:List Pr) (m:Mk) (ps:List (List UInt8)) (od:List Nat),∀k∈(datasL fs m ps od).2.2.datas,k∈m.datas∨∃q∈fs,k.text=payload q
  | [],m,_,_,k,hk=>.inl hk
  | x :: r,m,ps,od,k,hk=>by
    rcases datasL_txt r (m.data x).2 _ _ k hk with h|⟨q,h1,h2⟩
    · rcases data_text k h with h|h
      · exact .inl h
      · exact .inr ⟨x,by simp,h⟩
    · exact .inr ⟨q,by simp[h1],h2⟩
structure AppIm (m m':Mk) (l l':List Ob) (es:List EntG) (g:EntG) (r:Rec):Prop where
  img:Img m' l' (es ++ [g])
  rcd:RecG m' g r
  ext:DExt m.datas m'.datas
  c:m'.c=m.c
  seq:r.seq=m.num 9+1∧m'.num 9=r.seq
  ge:m.b.length≤g.pos
  main:∃t,m'.main=m.main ++ t
  len:m.b.length≤m'.b.length
  num:∀i,i≤5→m'.num i=m.num i
  sub:Ons m l l'
  arx:ArrX m.datas m'.datas
theorem append_im {m m':Mk} {l:List Ob} {es:List EntG} {raw:List Pr} {real mono s:Nat} {boot:Ly} (h:Img m l es) (ok:MkOk m) (h20:m.h.n.length=20) (hb:boot.length=16) (hr:real<18446744073709551616∧mono<18446744073709551616) (ha:m.append raw real mono boot=(s,0,m')) :
    ∃l' g fs,listF raw=(fs,0)∧AppIm m m' l l' es g {seq:=s,real:=real,mono:=mono,boot:=boot,fields:=fs}:=by
  rcases hl:listF raw with⟨fs,c⟩
  by_cases I:c≠0
  · have e:m.append raw real mono boot=(0,c,m):=by unfold Mk.append;simp only[hl];rw[if_pos I]
    rw[e]at ha
    exact absurd (congrArg (fun x=>x.2.1) ha) I
  have Aq:=Classical.not_not.1 I
  subst Aq
  by_cases h3:m.num 9=18446744073709551615
  · have e:m.append raw real mono boot=(0,1,m):=by unfold Mk.append;simp only[hl];rw[if_neg I,if_pos h3]
    rw[e]at ha
    have:=congrArg (fun x=>x.2.1) ha
    simp at this
  obtain⟨N,A,Bj,Az,A0⟩:=listF_all hl
  obtain⟨bd,_⟩:=listF_bd hl
  have D:=datasL_ok fs m [] [] 0 (datas_start ok) bd
  obtain⟨l1,J,W⟩:=datasL_im fs [] m l [] [] es (es.map EntG.pos) (places es) h.c (fun i F=>places_nil h.who i F) ⟨rfl,by simp,by simp,List.Pairwise.nil⟩ bd (by rw[List.nil_append];exact asc_payload N A)
  have nl:=nl_datasL fs m [] []
  have tx:=datasL_txt fs m [] []
  rcases hd:datasL fs m [] []with⟨ps,G,x⟩
  rw[hd,Nat.zero_add]at D
  rw[hd]at J W nl tx
  rw[List.nil_append]at W
  simp only at D J W nl tx
  have s1:=ok.small
  have s4:=ok.nb
  have d2:=D.app.le
  have d5:=D.len.1
  have Ak:=D.app.ge
  obtain⟨c1,c2,c3⟩:=J.same
  have n9:x.num 9=m.num 9:=c3 9 (by decide) (by decide) (by decide)
  have n8:x.num 8=m.num 8:=c3 8 (by decide) (by decide) (by decide)
  have Q:=h.n8
  have Ce:=h.n9
  have Cd:es.length≤40000:=by
    have:m.n8=es.length:=Q
    omega
  have Au:=asc_nodup W.asc
  have B:(x.num 9+1)%18446744073709551616=m.num 9+1:=by rw[n9];exact Nat.mod_eq_of_lt (by omega)
  generalize hE:({seq:=(x.num 9+1)%18446744073709551616,real:=real,mono:=mono,boot:=boot,xor:=xorF 0 ps,items:=itemsL x G}:Ent)=E
  have eE:E.seq=m.num 9+1∧E.real=real∧E.mono=mono∧E.boot=boot∧E.xor=xorF 0 ps∧E.items=itemsL x G:=by subst hE;exact⟨B,rfl,rfl,rfl,rfl,rfl⟩
  obtain⟨q1,q2,q3,q4,q5,q6⟩:=eE
  have ei:E.items.length=G.length:=by rw[q6];simp[itemsL]
  have eb:E.boot.length=16:=by rw[q4];exact hb
  have wx:EntW x ⟨x.b.length,E,G⟩:=by
    refine⟨W.lt,q6,W.asc,?_,⟨⟨?_,?_,?_,eb,?_⟩,?_⟩,?_⟩
    · simp only;rw[q5];exact xorF_perm W.perm.symm 0
    · simp only;rw[q1];omega
    · simp only;rw[q2];exact hr.1
    · simp only;rw[q3];exact hr.2
    · simp only;rw[q5];exact xorF_lt _ _ (by decide)
    · simp only;rw[q1];omega
    · simp only;rw[d5];exact⟨List.length_pos_iff.2 A0,Az⟩
  have rx:RecG x ⟨x.b.length,E,G⟩ {seq:=m.num 9+1,real:=real,mono:=mono,boot:=boot,fields:=fs}:=by
    refine⟨q1,q2,q3,q4,?_,N,A⟩
    simp only;rw[← W.eq];exact W.perm
  have V:=J.img.entry (E:=E) (who:=G) eb (by omega)
  have w:=(object_spec x (putEntryF E))
  have os:=object_same x (putEntryF E)
  have U:∀i,i≠6→i≠7→(x.object (putEntryF E)).2.num i=x.num i:=fun i h6 h7=>by
    simp only[Mk.object]
    rw[num_setN (by omega),num_setN (by omega)];rfl
  have u:=nl_object x (putEntryF E)
  have el:=putEntryF_len E eb
  rcases M:x.object (putEntryF E)with⟨e,C⟩
  rw[M]at V w os U u
  simp only at V w os U u
  have Ar:e=x.b.length:=w.1
  subst Ar
  have p:C.num 8=(es.map EntG.pos).length:=by rw[U 8 (by decide) (by decide),n8,Q,List.length_map]
  have Cf:x.b.length<100000:=by omega
  obtain⟨l3,L⟩:=link_im (x:=x.b.length) V.stat.objs V.main (main_src _) (by have:=w.2.1;omega) (by omega)
  rw[← p]at L
  have v:=nl_link C C.main (C.num 8) 176 x.b.length
  rcases hk:C.link C.main (C.num 8) 176 x.b.length with⟨a,t,O⟩
  rw[hk]at L v
  simp only at L v
  have hz:=append_done (real:=real) (mono:=mono) (boot:=boot) hl I h3 hd (by rw[hE];exact M) hk rfl
  obtain⟨Y,Z⟩:∃Y,Y=(let m4:=({O with main:=a}:Mk).setN 11 (a.getD 0 0);({m4 with h:={m4.h with tailArray:=lastN a%4294967296,tailItems:=t%4294967296}}:Mk)):=⟨_,rfl⟩
  have S:∀i,i≠11→Y.num i=O.num i:=fun i F=>by subst Z;exact getD_set_ne' (by omega)
  have Ai:Y.num 11=a.getD 0 0:=by subst Z;exact getD_set_eq' (by show 11<O.h.n.length;omega)
  have Ys:Y.b=O.b∧Y.c=O.c∧Y.datas=O.datas∧Y.fields=O.fields∧Y.main=a∧Y.h.n.length=O.h.n.length:=by subst Z;exact⟨rfl,rfl,rfl,rfl,rfl,by simp[Mk.setN]⟩
  rw[← Z]at hz
  clear Z
  obtain⟨y1,y2,y3,y4,y5,y6⟩:=Ys
  have I3:=V.link L y1 y2 y3 y4 y5 ⟨S 2 (by decide),S 4 (by decide)⟩ (fun c=>c.to y6 fun i F=>S i (by omega))
  obtain⟨t1,t2,t3,t4,t5,t6⟩:=L.same
  have Bk:=L.top
  have K:Y.datas=x.datas:=by rw[y3,t2,os.2.1]
  have As:x.b.length<18446744073709551616:=by omega
  have Bn:=w.2.1
  obtain⟨l4,H⟩:=hangE_im (e:=x.b.length) As G Y l3 _ I3 (fun i F=>by rw[K];exact W.lt i F) Au (fun i _=>by have:=places_len es i;omega) (by rw[y1];omega)
  have Cl:=nl_hangE x.b.length G Y
  generalize hangE x.b.length G Y=z at *
  replace hz:m.append raw real mono boot=if z.c.most<z.b.length then(0,15,m)else((x.num 9+1)%18446744073709551616,0,finM z (C.num 8) ((x.num 9+1)%18446744073709551616) real mono x.b.length boot):=hz
  rw[hz]at ha
  split at ha
  · have:=congrArg (fun x=>x.2.1) ha;simp at this
  obtain⟨k1,k2,k3,k4,k5,R2,R4,kl,k8⟩:=finM_spec z (C.num 8) ((x.num 9+1)%18446744073709551616) real mono x.b.length boot
  have k5':=fun i (F:i≤5)=>finM_num z (C.num 8) ((x.num 9+1)%18446744073709551616) real mono x.b.length boot i (by omega)
  have kN:=fun i (F:i≠8∧i≠9∧i≠10∧i≠12∧i≠13∧i≠14)=>finM_num z (C.num 8) ((x.num 9+1)%18446744073709551616) real mono x.b.length boot i F
  have Av:=finM_ten z (C.num 8) ((x.num 9+1)%18446744073709551616) real mono x.b.length boot
  have Aw:=finM_num z (C.num 8) ((x.num 9+1)%18446744073709551616) real mono x.b.length boot 11 (by decide)
  obtain⟨d,Ao⟩:=Prod.mk.inj ha
  have Ap:=(Prod.mk.inj Ao).2
  rw[B]at d
  generalize finM z (C.num 8) ((x.num 9+1)%18446744073709551616) real mono x.b.length boot=R at *
  subst Ap
  subst d
  obtain⟨z1,z2,z3,z4,z5⟩:=H.same
  have zl:z.h.n.length=20:=by omega
  have R8:=(k8 zl).1
  have R9:=(k8 zl).2
  have z8:z.num 8=es.length:=by rw[z5 8 (by decide) (by decide) (by decide),S 8 (by decide),t6 8 (by decide) (by decide) (by decide),U 8 (by decide) (by decide),n8,Q]
  have Al:DExt x.datas z.datas:=by have:=H.ds.ext;rw[K]at this;exact this
  have P:DExt x.datas R.datas:=by rw[k3];exact Al
  have cR:R.c=x.c:=by rw[k2,z1,y2,t1,os.1]
  have X:DExt m.datas R.datas:=J.ext.trans P
  refine⟨l4,⟨x.b.length,E,G⟩,fs,rfl,⟨⟨?_,?_,?_,?_,?_,?_,?_⟩,rx.ext wx P,X,by rw[cR,c1],⟨rfl,by rw[R9,B]⟩,Ak,?_,?_,fun i F=>?_,?_,?_⟩⟩
  · have:=H.img.to (m':=R) k1 k2 k3 k4 k5 ⟨R2,R4⟩ (fun c=>c.to kl fun i F=>kN i (by omega))
    rw[List.map_append]
    have ef:places (es ++ [⟨x.b.length,E,G⟩])=fun j=>if j∈G then places es j ++ [x.b.length]else places es j:=funext fun j=>places_app es ⟨x.b.length,E,G⟩ j
    rw[ef]
    exact this
  · show R.n8=_
    rw[R8,show z.n8=es.length from z8,List.length_append,Nat.mod_eq_of_lt (by omega)]
    rfl
  · rw[R9,B];omega
  · rw[Aw,k5,z5 11 (by decide) (by decide) (by decide),Ai,z3,y5]
  · rw[Av zl,p,List.length_map,z5 10 (by decide) (by decide) (by decide),S 10 (by decide),t6 10 (by decide) (by decide) (by decide),U 10 (by decide) (by decide),c3 10 (by decide) (by decide) (by decide),h.n10]
    cases es with
    | nil=>simp only[List.length_nil,if_true,List.nil_append,List.head?_cons,Option.map_some,Option.getD_some];rw[q1,B]
    | cons y r=>simp
  · intro g T
    rcases List.mem_append.1 T with T|T
    · exact(h.who g T).ext X (by rw[cR,c1])
    · simp at T;subst T
      exact wx.ext P cR
  · intro k hk
    rw[k3]at hk
    obtain⟨i,F⟩:=List.mem_iff_getElem?.1 hk
    obtain⟨k0,h0,_,ht⟩:=H.ds.get i k F
    rw[K]at h0
    rcases tx k0 (List.mem_of_getElem? h0)with h1|⟨q,h1,I⟩
    · obtain⟨q,I,h3⟩:=h.txt k0 h1
      exact⟨q,I,ht.trans h3⟩
    · exact⟨q,A q h1,ht.trans I⟩
  · rw[k5,z3,y5]
    have f:C.main=m.main:=by rw[os.2.2.2,c2]
    rcases L.arr with e|e
    · exact⟨[],by rw[e,f,List.append_nil]⟩
    · exact⟨_,by rw[e,f]⟩
  · rw[k1]
    have h1:=L.eff.len
    have I:=H.ge
    rw[y1]at I
    omega
  · rw[k5' i F,z5 i (by omega) (by omega) (by omega),S i (by omega),t6 i (by omega) (by omega) (by omega),U i (by omega) (by omega),c3 i (by omega) (by omega) (by omega)]
  · have s2:Ons x l1 (l1 ++ [(⟨x.b.length,3,64+16*E.items.length⟩:Ob)]):=⟨_,rfl,fun o M=>by simp at M;subst M;exact Nat.le_refl _⟩
    have s3:Ons C (l1 ++ [(⟨x.b.length,3,64+16*E.items.length⟩:Ob)]) l3:=by
      rcases L.sub with e|e
      · rw[e];exact Ons.refl _ _
      · exact⟨_,e,fun o M=>by simp at M;subst M;exact Nat.le_refl _⟩
    exact(J.sub.trans s2 J.ge).trans (s3.trans H.sub (by rw[y1];exact L.eff.len)) (by omega)
  · have hx:=H.arx
    rw[K]at hx
    rw[k3]
    exact J.arx.trans hx J.ext
end Go.Wk
namespace Go.Wk
open Go Go.RowKit
/-! the rest of the head -/
def hk (m:Mk):Nat × Nat × Nat × List UInt8:=(m.h.compat,m.h.incompat,m.h.state,m.h.file)
/-! a new maker -/
theorem slots_zero (n:Nat):slotsF (List.replicate n {first:=0,tail:=0})=nums (List.replicate (2*n) 0):=by
  induction n with
  | zero=>rfl
  | succ n ih =>
    rw[List.replicate_succ,slotsF,ih,show 2*(n+1)=(2*n+1)+1 by omega,List.replicate_succ,List.replicate_succ]
    simp[nums]
theorem tabB {k:Nat} (hk:k=4∨k=5) (n:Nat):(∃r,putTableF k (List.replicate n {first:=0,tail:=0})=hdr k (16+16*n) ++ r)∧(putTableF k (List.replicate n {first:=0,tail:=0})).length=16+16*n ∧
    ∀i,i<2*n→at8 (putTableF k (List.replicate n {first:=0,tail:=0})) (16+8*i)=0:=by
  have e:putTableF k (List.replicate n {first:=0,tail:=0})=putF k (nums (List.replicate (2*n) 0) ++ []):=by
    unfold putTableF;rw[if_neg (by omega),slots_zero,List.append_nil]
  obtain⟨A,B,C,_⟩:=objB (k:=k) (by omega) (List.replicate (2*n) 0) [] (fun v E=>by rw[(List.mem_replicate.1 E).2];decide)
  rw[← e]at A B C
  simp only[List.length_replicate,List.length_nil,Nat.add_zero]at A B
  rw[show 16+8*(2*n)=16+16*n by omega]at A B
  exact⟨A,by rw[B];unfold up8;omega,fun i D=>C i 0 (by rw[List.getElem?_replicate,if_pos D])⟩
def objs0 (c:Cfg):List Ob:=[⟨272,4,16+16*c.dataSlots⟩,⟨288+16*c.dataSlots,5,16+16*c.fieldSlots⟩]
structure HeadI (m:Mk):Prop where
  hk:hk m=(2,if m.c.keyed then 4 else 0,1,m.c.file)
  n0:m.num 0=272
  n3:m.num 3=16*m.c.dataSlots
  n5:m.num 5=16*m.c.fieldSlots
theorem newMk_im {c:Cfg} {t:Nat} (h:c.dataSlots≤10∧c.fieldSlots≤10) (h1:1≤c.dataSlots∧1≤c.fieldSlots) (ht:t<1000000):Img (newMk c t) (objs0 c) []∧HeadI (newMk c t)∧(newMk c t).num 9=t:=by
  obtain⟨⟨S,J⟩,K,_⟩:=tabB (k:=4) (.inl rfl) c.dataSlots
  obtain⟨⟨T,L⟩,M,_⟩:=tabB (k:=5) (.inr rfl) c.fieldSlots
  have E:(newMk c t).b=List.replicate 272 0 ++ putTableF 4 (List.replicate c.dataSlots {first:=0,tail:=0}) ++ putTableF 5 (List.replicate c.fieldSlots {first:=0,tail:=0}):=rfl
  have A:(newMk c t).h.n=(((((((((List.replicate 20 0).set 0 272).set 2 288).set 3 (16*c.dataSlots)).set 4 ((List.replicate 272 (0:UInt8) ++ putTableF 4 (List.replicate c.dataSlots {first:=0,tail:=0})).length+16)).set 5 (16*c.fieldSlots)).set 6 ((List.replicate 272 (0:UInt8) ++ putTableF 4 (List.replicate c.dataSlots {first:=0,tail:=0})).length)).set 7 2).set 9 t):=rfl
  have D:(List.replicate 272 (0:UInt8) ++ putTableF 4 (List.replicate c.dataSlots {first:=0,tail:=0})).length=288+16*c.dataSlots:=by rw[List.length_append,List.length_replicate,K];omega
  have O:(newMk c t).b.length=304+16*c.dataSlots+16*c.fieldSlots:=by rw[E,List.length_append,D,M];omega
  rw[D]at A
  have num:∀i,(newMk c t).num i=(newMk c t).h.n.getD i 0:=fun _=>rfl
  generalize hT4:putTableF 4 (List.replicate c.dataSlots {first:=0,tail:=0})=T4 at *
  generalize hT5:putTableF 5 (List.replicate c.fieldSlots {first:=0,tail:=0})=T5 at *
  have Q:seg (newMk c t).b 272 16=hdr 4 (16+16*c.dataSlots):=by
    rw[E,List.append_assoc,seg_skip (by rw[List.length_replicate];exact Nat.le_refl _),List.length_replicate,Nat.sub_self,J,List.append_assoc]
    exact seg_take _ _ (hdr_len _ _).symm
  have R:seg (newMk c t).b (288+16*c.dataSlots) 16=hdr 5 (16+16*c.fieldSlots):=by
    rw[E,seg_skip (by omega),D,Nat.sub_self,L]
    exact seg_take _ _ (hdr_len _ _).symm
  have u4:up8 (16+16*c.dataSlots)=16+16*c.dataSlots:=by unfold up8;omega
  have u5:up8 (16+16*c.fieldSlots)=16+16*c.fieldSlots:=by unfold up8;omega
  have N:Objs (newMk c t).b 272 (objs0 c) (newMk c t).b.length:=by
    refine⟨rfl,by simp,by simp,by simp only;omega,by simp only;omega,Q,?_⟩
    simp only[u4]
    rw[show 272+(16+16*c.dataSlots)=288+16*c.dataSlots by omega]
    refine⟨rfl,by simp,by simp,by simp only;omega,by simp only;omega,R,?_⟩
    simp only[u5,Objs]
    rw[O];omega
  have B:(newMk c t).datas=[]:=rfl
  have P:(newMk c t).fields=[]:=rfl
  have H:(newMk c t).main=[]:=rfl
  have F:(newMk c t).c=c:=rfl
  have G:Cn (newMk c t) (objs0 c):=by
    refine⟨by rw[A];simp,by rw[num,A,objs0];rfl,by rw[num,A];rfl,by rw[num,A];rfl,by rw[num,A];simp[objs0],fun o I=>?_⟩
    simp[objs0]at I
    rcases I with rfl|rfl
    · exact⟨by simp,by simp,fun _=>⟨c.dataSlots,h1.1,rfl⟩⟩
    · exact⟨by simp,by simp,fun _=>⟨c.fieldSlots,h1.2,rfl⟩⟩
  have C:at8 (newMk c t).b 176=0:=by
    rw[E,at8_app (by rw[D];omega),at8_app (by rw[List.length_replicate];omega)]
    show leN (((List.replicate 272 0).drop 176).take 8)=0
    rw[List.drop_replicate,List.take_replicate]
    rfl
  refine⟨⟨⟨⟨N,by rw[F];simp[objs0],by rw[F];simp[objs0],by rw[num,A];rfl,by rw[num,A];simp only[F];show _+16=_;omega,by rw[F];exact h1,by rw[B];simp,by rw[P];simp,by rw[B];simp,by simp[objs0],by simp[objs0],G⟩,?_,by rw[B];simp,⟨by rw[B];simp,by rw[B];simp⟩,by simp,by simp[objs0]⟩,by rw[num,A];rfl,by rw[num,A];show t<_;omega,by rw[num,A,H];rfl,by rw[num,A];rfl,by simp,by rw[B];simp⟩,⟨rfl,by rw[num,A];rfl,by rw[num,A];rfl,by rw[num,A];rfl⟩,by rw[num,A];rfl⟩
  rw[H]
  exact⟨C,by simp,by simp,by simp,by simp,Nat.le_refl _,Nat.le_refl _⟩
end Go.Wk
namespace Go.Wk
open Go Go.RowKit
theorem listF_self {x fs:List Pr} (h:listF x=(fs,0)) (ha:Asc x):fs=x:=by
  obtain⟨A,_,B,_⟩:=listF_all h
  exact asc_ext A ha B
theorem goL_err:∀(l o x:List Pr) (c:Nat),goL l o=(x,c)→c≠0→x=[]
  | [],o,x,c,h,hc=>by
    unfold goL at h
    split at h
    · exact(Prod.mk.inj h).1.symm
    · exact absurd (Prod.mk.inj h).2.symm hc
  | p :: r,o,x,c,h,hc=>by
    unfold goL at h
    split at h
    · exact(Prod.mk.inj h).1.symm
    · exact goL_err r _ x c h hc
theorem listF_asc (l:List Pr):Asc (listF l).1:=by
  rcases h:listF l with⟨x,c⟩
  by_cases hc:c=0
  · subst hc;exact(listF_all h).1
  · unfold listF at h
    split at h
    · rw[← (Prod.mk.inj h).1];exact List.Pairwise.nil
    · rw[goL_err _ _ _ _ h hc];exact List.Pairwise.nil
theorem record_all (s:Sq) (n:Nat):(s.record n).1.seq=n∧(s.record n).1.boot.length=16∧((s.record n).1.real<18446744073709551616∧(s.record n).1.mono<18446744073709551616)∧Asc (s.record n).1.fields:=by
  refine⟨?_,record_boot s n,?_⟩
  · rcases h1:s.pairs 4 with⟨F,A⟩
    rcases h2:A.num 40 with⟨a,B⟩
    rcases h3:B.num 9 with⟨b,C⟩
    rcases h4:C.num 3 with⟨c,G⟩
    simp only[Sq.record,h1,h2,h3,h4]
  · rcases h1:s.pairs 4 with⟨F,A⟩
    rcases h2:A.num 40 with⟨a,B⟩
    rcases h3:B.num 9 with⟨b,C⟩
    rcases h4:C.num 3 with⟨c,G⟩
    have D:=A.num_le 40
    have E:=B.num_le 9
    rw[h2]at D;rw[h3]at E
    simp only[Sq.record,h1,h2,h3,h4]
    simp only at D E
    exact⟨by omega,listF_asc F⟩
end Go.Wk
namespace Go.Wk
open Go Go.RowKit
section
variable {P:Program} {n:Nat} {A:Fr n} {D:List Deferred} {l:List (Nat × Value)} {w:World} {d:Option Tmp} {ty:TypeId} {ps:String} {af:Array Edge} {g:Option (Nat × Bool)}
end
section
variable {P:Program} {n:Nat} {A:Fr n} {D:List Deferred} {l:List (Nat × Value)} {w:World} {d:Option Tmp} {ty:TypeId} {ps:String} {af:Array Edge} {g:Option (Nat × Bool)}
end
end Go.Wk
namespace Go.Wk
open Go Go.RowKit
end Go.Wk
namespace Go.Wk
open Go Go.RowKit
/-! the entries of a datum -/
end Go.Wk
namespace Go.Wk
open Go Go.RowKit
/-! entries -/
/-! records -/
end Go.Wk
namespace Go.Wk
open Go Go.RowKit
/-! the head's bytes -/
end Go.Wk
namespace Go.Wk
open Go Go.RowKit
section
variable {m:Mk} {B:Ly} {H:PHead} {l:List Ob} {es:List EntG} {rs:List Rec}
/-! the objects of a journal, one by one -/
def n3 (l:List Ob):Nat:=(l.filter fun o=>decide (o.kind=3)).length
end
/-! rows of records -/
end Go.Wk
namespace Go.Wk
open Go Go.RowKit
section
variable {m:Mk} {B:Ly} {H:PHead} {l:List Ob} {es:List EntG} {rs:List Rec}
end
end Go.Wk
namespace Go.Wk
open Go Go.RowKit
/-- The places of a slot's objects. -/
def slotP (ks:List Known) (s:Nat):List Nat:=(ks.filter fun k=>decide (k.slot=s)).map Known.pos
theorem slotP_app (ks:List Known) (k:Known) (s:Nat):slotP (ks ++ [k]) s=if k.slot=s then slotP ks s ++ [k.pos]else slotP ks s:=by
  unfold slotP
  rw[List.filter_append,List.map_append]
  by_cases h:k.slot=s
  · rw[if_pos h];simp[h]
  · rw[if_neg h];simp[h]
theorem slotP_mem {ks:List Known} {s p:Nat} (h:p∈slotP ks s):∃k∈ks,k.pos=p∧k.slot=s:=by
  obtain⟨k,hk,rfl⟩:=List.mem_map.1 h
  obtain⟨A,B⟩:=List.mem_filter.1 hk
  exact⟨k,A,rfl,dq B⟩
theorem slotP_sub (ks:List Known) (s:Nat):(slotP ks s).Sublist (ks.map Known.pos):=List.filter_sublist.map _
theorem hangL_eq (s:Nat):∀(ks:List Known) (n q:Nat),hangL s ks n q=(n+(slotP ks s).length,(slotP ks s).getLastD q)
  | [],_,_=>rfl
  | k :: r,n,q=>by
    rw[hangL]
    unfold slotP
    rw[List.filter_cons]
    by_cases h:k.slot=s
    · rw[if_pos h,if_pos (decide_eq_true h),hangL_eq s r]
      simp only[List.map_cons,List.length_cons,List.getLastD_cons]
      unfold slotP
      congr 1;omega
    · rw[if_neg h,if_neg (by simpa using h),hangL_eq s r];rfl
theorem getD_app0 {l:List Nat} {p i:Nat} (h:i<l.length):(l ++ [p]).getD i 0=l.getD i 0:=by
  rw[List.getD_eq_getElem?_getD,List.getD_eq_getElem?_getD,List.getElem?_append_left h]
theorem getD_appn (l:List Nat) (p:Nat):(l ++ [p]).getD l.length 0=p:=by
  rw[List.getD_eq_getElem?_getD,List.getElem?_append_right (Nat.le_refl _),Nat.sub_self];rfl
theorem getD_out0 {l:List Nat} {i:Nat} (h:l.length≤i):l.getD i 0=0:=by rw[List.getD_eq_getElem?_getD,List.getElem?_eq_none h];rfl
theorem lastD_get (l:List Nat) (h:l≠[]):l[l.length-1]? = some (l.getLastD 0):=by
  rw[← List.getLast?_eq_getElem?,List.getLastD_eq_getLast?]
  cases hq:l.getLast? with
  | none=>exact absurd (List.getLast?_eq_none_iff.1 hq) h
  | some x=>rfl
theorem lastD_app (l:List Nat) (p:Nat):(l ++ [p]).getLastD 0=p:=by simp[List.getLastD_eq_getLast?]
structure Row24 (b:Ly) (tab n:Nat) (ks:List Known):Prop where
  slot:∀k∈ks,k.slot<n
  head:∀s:Nat,s<n→at8 b (tab+16*s)=(slotP ks s).getD 0 0
  next:∀s j p:Nat,(slotP ks s)[j]? = some p→at8 b (p+24)=(slotP ks s).getD (j+1) 0
def In24 (tab n:Nat) (ks:List Known) (a:Nat):Prop:=(∃s:Nat,s<n∧a=tab+16*s)∨∃k∈ks,a=k.pos+24
theorem Row24.keep {b c:Ly} {tab n:Nat} {ks:List Known} (h:Row24 b tab n ks) (hc:∀a,In24 tab n ks a→at8 c a=at8 b a):Row24 c tab n ks:=by
  refine⟨h.slot,fun s B=>(hc _ (.inl ⟨s,B,rfl⟩)).trans (h.head s B),fun s j p A=>?_⟩
  obtain⟨k,hk,e,_⟩:=slotP_mem (List.mem_of_getElem? A)
  exact(hc _ (.inr ⟨k,hk,by rw[e]⟩)).trans (h.next s j p A)
/-- What matters of what is known. -/
def keyK (k:Known):Nat × Nat × List UInt8:=(k.pos,k.slot,k.text)
theorem slotP_key {ks ks':List Known} (h:ks'.map keyK=ks.map keyK) (s:Nat):slotP ks' s=slotP ks s:=by
  have e:∀ks:List Known,slotP ks s=((ks.map keyK).filter fun q=>decide (q.2.1=s)).map Prod.fst:=fun ks=>by
    unfold slotP;rw[List.filter_map,List.map_map];rfl
  rw[e,e,h]
theorem mem_key {ks ks':List Known} (h:ks'.map keyK=ks.map keyK) {k:Known} (hk:k∈ks'):∃x∈ks,x.pos=k.pos∧x.slot=k.slot∧x.text=k.text:=by
  have:keyK k∈ks.map keyK:=h ▸ List.mem_map.2 ⟨k,hk,rfl⟩
  obtain⟨x,D,e⟩:=List.mem_map.1 this
  obtain⟨B,A⟩:=Prod.mk.inj e
  obtain⟨A,C⟩:=Prod.mk.inj A
  exact⟨x,D,B,A,C⟩
theorem Row24.key {b:Ly} {tab n:Nat} {ks ks':List Known} (h:Row24 b tab n ks) (hk:ks'.map keyK=ks.map keyK):Row24 b tab n ks':=by
  refine⟨fun k A=>?_,fun s C=>by rw[slotP_key hk];exact h.head s C,fun s j p B=>by rw[slotP_key hk]at B ⊢;exact h.next s j p B⟩
  obtain⟨x,D,_,e,_⟩:=mem_key hk A
  rw[← e];exact h.slot x D
/-- What a hang writes. -/
def hangB (b:Ly) (ks:List Known) (tab p s:Nat):List UInt8 :=
  putN (if(slotP ks s).length=0 then putN b (tab+16*s) p else putN b ((slotP ks s).getLastD 0+24) p) (tab+16*s+8) p
theorem hang_b (m:Mk) (ks:List Known) (tab p s:Nat):(m.hang ks tab p s).2.b=hangB m.b ks tab p s:=by
  unfold Mk.hang
  rw[hangL_eq]
  simp only[Nat.zero_add]
  unfold hangB
  split <;> rfl
theorem hangB_len (b:Ly) (ks:List Known) (tab p s:Nat):(hangB b ks tab p s).length=b.length:=by
  unfold hangB;rw[putN_len];split <;> rw[putN_len]
section
variable {b:Ly} {tab n:Nat} {ks:List Known} {k:Known}
theorem asc_ne {l:List Nat} (h:l.Pairwise (· < ·)) {i j a c:Nat} (ha:l[i]? = some a) (hc:l[j]? = some c) (hij:i<j):a<c:=by
  obtain⟨A,rfl⟩:=List.getElem?_eq_some_iff.1 ha
  obtain⟨B,rfl⟩:=List.getElem?_eq_some_iff.1 hc
  exact List.pairwise_iff_getElem.1 h i j A B hij
theorem pos_inj (hn:(ks.map Known.pos).Pairwise (· < ·)) {x y:Known} (hx:x∈ks) (hy:y∈ks) (he:x.pos=y.pos):x=y:=by
  obtain⟨i,E⟩:=List.mem_iff_getElem?.1 hx
  obtain⟨j,B⟩:=List.mem_iff_getElem?.1 hy
  have C:(ks.map Known.pos)[i]? = some x.pos:=by rw[List.getElem?_map,E];rfl
  have D:(ks.map Known.pos)[j]? = some y.pos:=by rw[List.getElem?_map,B];rfl
  rcases Nat.lt_trichotomy i j with A|rfl|A
  · have:=asc_ne hn C D A;omega
  · rw[E]at B;exact Option.some.inj B
  · have:=asc_ne hn D C A;omega
/-- Where a hang writes nothing. -/
theorem hangB_at (hs:k.slot<n) {a p:Nat} (h1:a+8≤tab+16*k.slot∨tab+16*k.slot+16≤a) (h2:∀x∈ks,a+8≤x.pos+24∨x.pos+32≤a):at8 (hangB b ks tab p k.slot) a=at8 b a:=by
  unfold hangB
  rw[at8_put (by omega)]
  split
  · exact at8_put (by omega)
  · rename_i hne
    have A:=lastD_get (slotP ks k.slot) (fun e=>hne (by rw[e];rfl))
    obtain⟨x,B,e,_⟩:=slotP_mem (List.mem_of_getElem? A)
    have:=h2 x B
    exact at8_put (by omega)
/-- One more at the end of its slot's chain. -/
theorem Row24.hang (h:Row24 b tab n ks) (hs:k.slot<n) (hf:∀x∈ks,tab+16*n≤x.pos) (hp:tab+16*n≤k.pos) (hsep:∀x∈ks,x.pos+40≤k.pos) (pair:∀x∈ks,∀y∈ks,x.pos=y.pos∨x.pos+40≤y.pos∨y.pos+40≤x.pos)
    (nd:(ks.map Known.pos).Pairwise (· < ·)) (hn:at8 b (k.pos+24)=0) (hl:k.pos+40≤b.length) (hk:k.pos<18446744073709551616):Row24 (hangB b ks tab k.pos k.slot) tab n (ks ++ [k]):=by
  have R:(slotP ks k.slot).Pairwise (· < ·):=nd.sublist (slotP_sub ks k.slot)
  have F:∀(c:Ly) (a:Nat),In24 tab n (ks ++ [k]) a→at8 (putN c (tab+16*k.slot+8) k.pos) a=at8 c a:=fun c a S=>by
    refine at8_put ?_
    rcases S with⟨s,X,rfl⟩|⟨x,A,rfl⟩
    · rcases Nat.lt_or_ge k.slot s with M|M <;> omega
    · rcases List.mem_append.1 A with A|A
      · have:=hf x A;omega
      · rw[List.mem_singleton]at A;subst A;omega
  have I:∀s:Nat,s<n→In24 tab n (ks ++ [k]) (tab+16*s):=fun s hs=>.inl ⟨s,hs,rfl⟩
  have E:∀x∈ks,In24 tab n (ks ++ [k]) (x.pos+24):=fun x A=>.inr ⟨x,by simp[A],rfl⟩
  have J:In24 tab n (ks ++ [k]) (k.pos+24):=.inr ⟨k,by simp,rfl⟩
  have slot':∀x∈ks ++ [k],x.slot<n:=fun x A=>by
    rcases List.mem_append.1 A with A|A
    · exact h.slot x A
    · rw[List.mem_singleton]at A;subst A;exact hs
  unfold hangB
  by_cases h0:(slotP ks k.slot).length=0
  · have O:slotP ks k.slot=[]:=List.eq_nil_of_length_eq_zero h0
    rw[if_pos h0]
    refine⟨slot',fun s C=>?_,fun s j p B=>?_⟩
    · rw[F _ _ (I s C),slotP_app]
      by_cases e:k.slot=s
      · subst e
        rw[if_pos rfl,O,at8_put_same (by omega) hk];rfl
      · rw[if_neg e,at8_put (by rcases Nat.lt_or_ge k.slot s with M|M<;>omega)];exact h.head s C
    · rw[slotP_app]at B ⊢
      by_cases e:k.slot=s
      · subst e
        rw[if_pos rfl,O]at B ⊢
        obtain rfl:j=0:=by
          have:=(List.getElem?_eq_some_iff.1 B).1;simp at this;exact this
        obtain rfl:k.pos=p:=by simpa using B
        rw[F _ _ J,at8_put (by omega),hn];rfl
      · rw[if_neg e]at B ⊢
        obtain⟨x,A,H,_⟩:=slotP_mem (List.mem_of_getElem? B)
        have:=hf x A
        subst H
        rw[F _ _ (E x A),at8_put (by omega)]
        exact h.next s j _ B
  · rw[if_neg h0]
    have N:slotP ks k.slot≠[]:=fun e=>h0 (by rw[e];rfl)
    have K:=lastD_get _ N
    generalize (slotP ks k.slot).getLastD 0=q at K
    obtain⟨y,G,Q,L⟩:=slotP_mem (List.mem_of_getElem? K)
    have T:=hf y G
    have V:=hsep y G
    refine⟨slot',fun s C=>?_,fun s j p B=>?_⟩
    · rw[F _ _ (I s C),at8_put (by omega),h.head s C,slotP_app]
      by_cases e:k.slot=s
      · subst e;rw[if_pos rfl,getD_app0 (by omega)]
      · rw[if_neg e]
    · rw[slotP_app]at B ⊢
      by_cases e:k.slot=s
      · subst e
        rw[if_pos rfl]at B ⊢
        rcases Nat.lt_trichotomy j ((slotP ks k.slot).length-1)with D|D|D
        · rw[List.getElem?_append_left (by omega)]at B
          obtain⟨x,A,H,_⟩:=slotP_mem (List.mem_of_getElem? B)
          have:=asc_ne R B K (by omega)
          subst H
          have:=pair x A y G
          rw[F _ _ (E x A),at8_put (by omega),h.next _ j _ B,getD_app0 (by omega)]
        · rw[List.getElem?_append_left (by omega),D,K]at B
          cases B
          rw[F _ _ (by rw[← Q];exact E y G),at8_put_same (by omega) hk,D,show(slotP ks k.slot).length-1+1=(slotP ks k.slot).length by omega,getD_appn]
        · have:=(List.getElem?_eq_some_iff.1 B).1
          simp only[List.length_append,List.length_singleton]at this
          obtain rfl:j=(slotP ks k.slot).length:=by omega
          rw[List.getElem?_append_right (Nat.le_refl _),Nat.sub_self]at B
          obtain rfl:k.pos=p:=by simpa using B
          rw[F _ _ J,at8_put (by omega),hn,getD_out0 (by simp)]
      · rw[if_neg e]at B ⊢
        obtain⟨x,A,H,P⟩:=slotP_mem (List.mem_of_getElem? B)
        have W:x.pos≠y.pos:=fun U=>e (by rw[← L,← P,pos_inj nd A G U])
        have:=pair x A y G
        subst H
        rw[F _ _ (E x A),at8_put (by omega)]
        exact h.next s j _ B
end
/-! ## the data of a name -/
def nameT (t:Ly):List UInt8:=t.takeWhile fun c=>decide (c≠61)
theorem nameT_pay {q:Pr} (h:∀c∈q.name,c≠61):nameT (payload q)=q.name:=by
  unfold nameT payload
  rw[List.append_assoc,List.takeWhile_append_of_pos (fun c A=>decide_eq_true (h c A))]
  simp
def dataP (ds:List Known) (t:Ly):List Nat:=(ds.filter fun k=>decide (nameT k.text=t)).map Known.pos
theorem dataP_app (ds:List Known) (k:Known) (t:Ly):dataP (ds ++ [k]) t=if nameT k.text=t then dataP ds t ++ [k.pos]else dataP ds t:=by
  unfold dataP
  rw[List.filter_append,List.map_append]
  by_cases h:nameT k.text=t
  · rw[if_pos h];simp[h]
  · rw[if_neg h];simp[h]
theorem dataP_mem {ds:List Known} {t:Ly} {p:Nat} (h:p∈dataP ds t):∃k∈ds,k.pos=p∧nameT k.text=t:=by
  obtain⟨k,hk,rfl⟩:=List.mem_map.1 h
  obtain⟨A,B⟩:=List.mem_filter.1 hk
  exact⟨k,A,rfl,dq B⟩
theorem dataP_key {ks ks':List Known} (h:ks'.map keyK=ks.map keyK) (t:Ly):dataP ks' t=dataP ks t:=by
  have e:∀ks:List Known,dataP ks t=((ks.map keyK).filter fun q=>decide (nameT q.2.2=t)).map Prod.fst:=fun ks=>by
    unfold dataP;rw[List.filter_map,List.map_map];rfl
  rw[e,e,h]
structure RowD (b:Ly) (ds fs:List Known):Prop where
  head:∀f∈fs,at8 b (f.pos+32)=(dataP ds f.text).getLastD 0
  next:∀(t:Ly) (j p:Nat),(dataP ds t)[j]? = some p→at8 b (p+32)=if j=0 then 0 else(dataP ds t).getD (j-1) 0
theorem RowD.keep {b c:Ly} {ds fs:List Known} (h:RowD b ds fs) (h1:∀k∈ds,at8 c (k.pos+32)=at8 b (k.pos+32)) (h2:∀f∈fs,at8 c (f.pos+32)=at8 b (f.pos+32)):RowD c ds fs:=by
  refine⟨fun f A=>(h2 f A).trans (h.head f A),fun t j p B=>?_⟩
  obtain⟨k,hk,e,_⟩:=dataP_mem (List.mem_of_getElem? B)
  subst e
  exact(h1 k hk).trans (h.next t j _ B)
theorem RowD.key {b:Ly} {ds ds' fs:List Known} (h:RowD b ds fs) (hk:ds'.map keyK=ds.map keyK):RowD b ds' fs :=
  ⟨fun f hf=>by rw[dataP_key hk];exact h.head f hf,fun t j p hp=>by rw[dataP_key hk]at hp ⊢;exact h.next t j p hp⟩
/-- A new name, which has no data yet. -/
theorem RowD.field {b:Ly} {ds fs:List Known} {f:Known} (h:RowD b ds fs) (h0:at8 b (f.pos+32)=0) (hn:∀k∈ds,nameT k.text≠f.text):RowD b ds (fs ++ [f]):=by
  refine⟨fun g A=>?_,h.next⟩
  rcases List.mem_append.1 A with A|A
  · exact h.head g A
  · rw[List.mem_singleton]at A;subst A
    rw[h0]
    have:dataP ds g.text=[]:=by
      unfold dataP
      rw[List.map_eq_nil_iff,List.filter_eq_nil_iff]
      intro k hk;simpa using hn k hk
    rw[this];rfl
/-- One more datum ahead of the name's others. -/
theorem RowD.put {b:Ly} {ds fs:List Known} {f k:Known} {v:Nat} (h:RowD b ds fs) (hf:f∈fs) (ht:f.text=nameT k.text) (hv:v=at8 b (f.pos+32)) (one:∀x∈fs,∀y∈fs,(x.text=y.text↔x.pos=y.pos))
    (ap1:∀x∈ds,(x.pos+40≤k.pos∨k.pos+40≤x.pos)∧(x.pos+40≤f.pos∨f.pos+40≤x.pos)) (ap2:∀g∈fs,(g.pos+40≤k.pos∨k.pos+40≤g.pos)∧(g.pos=f.pos∨g.pos+40≤f.pos∨f.pos+40≤g.pos)) (hk:k.pos<18446744073709551616) (l1:k.pos+40≤b.length) (l2:f.pos+40≤b.length) :
    RowD (putN (putN b (k.pos+32) v) (f.pos+32) k.pos) (ds ++ [k]) fs:=by
  have L:=(ap2 f hf).1
  refine⟨fun g C=>?_,fun t j p A=>?_⟩
  · rw[dataP_app]
    by_cases e:nameT k.text=g.text
    · rw[if_pos e,lastD_app,(one g C f hf).1 (by rw[ht,e]),at8_put_same (by rw[putN_len];omega) hk]
    · rw[if_neg e]
      have K:=ap2 g C
      have J:g.pos≠f.pos:=fun I=>e (by rw[(one g C f hf).2 I,ht])
      rw[at8_put (by omega),at8_put (by omega)]
      exact h.head g C
  · rw[dataP_app]at A ⊢
    by_cases e:nameT k.text=t
    · rw[if_pos e]at A ⊢
      rcases Nat.lt_or_ge j (dataP ds t).length with F|F
      · rw[List.getElem?_append_left F]at A
        obtain⟨x,E,D,_⟩:=dataP_mem (List.mem_of_getElem? A)
        have G:=ap1 x E
        subst D
        rw[at8_put (by omega),at8_put (by omega),h.next t j _ A]
        split
        · rfl
        · rw[getD_app0 (by omega)]
      · have:=(List.getElem?_eq_some_iff.1 A).1
        simp only[List.length_append,List.length_singleton]at this
        obtain rfl:j=(dataP ds t).length:=by omega
        rw[List.getElem?_append_right (Nat.le_refl _),Nat.sub_self]at A
        obtain rfl:k.pos=p:=by simpa using A
        have B:=h.head f hf
        rw[ht,e]at B
        rw[at8_put (by omega),at8_put_same (by omega) (by rw[hv];exact at8_lt _ _),hv,B]
        split
        · rename_i h0
          rw[List.eq_nil_of_length_eq_zero h0];rfl
        · rename_i h0
          have:=lastD_get (dataP ds t) (fun H=>h0 (by rw[H];rfl))
          rw[getD_app0 (by omega),List.getD_eq_getElem?_getD,this];rfl
    · rw[if_neg e]at A ⊢
      obtain⟨x,E,D,_⟩:=dataP_mem (List.mem_of_getElem? A)
      have G:=ap1 x E
      subst D
      rw[at8_put (by omega),at8_put (by omega)]
      exact h.next t j _ A
end Go.Wk
namespace Go.Wk
open Go Go.RowKit
structure Hs (m:Mk):Prop where
  r4:Row24 m.b 288 m.c.dataSlots m.datas
  r5:Row24 m.b (304+16*m.c.dataSlots) m.c.fieldSlots m.fields
  rd:RowD m.b m.datas m.fields
  s4:∀k∈m.datas,k.slot=hashM m k.text%m.c.dataSlots
  s5:∀k∈m.fields,k.slot=hashM m k.text%m.c.fieldSlots
  own:∀k∈m.datas,∃f∈m.fields,f.text=nameT k.text
  bear:∀f∈m.fields,∃k∈m.datas,nameT k.text=f.text
  one:∀x∈m.fields,∀y∈m.fields,x.text=y.text→x=y
  a4:(m.datas.map Known.pos).Pairwise (· < ·)
  a5:(m.fields.map Known.pos).Pairwise (· < ·)
  n15:m.num 15=m.datas.length
  n16:m.num 16=m.fields.length
  c15:m.datas.length≤m.b.length
  c16:m.fields.length≤m.b.length
  h20:m.h.n.length=20
theorem get_at8 {b:Ly} {q:Nat} (h:q+8≤b.length):(getF b (q:Nat) 8).1=at8 b q:=by
  unfold getF at8
  rw[if_pos ⟨by decide,by omega,by omega⟩]
  simp
theorem num_same {m:Mk} {k v:Nat} (h:k<m.h.n.length):(m.setN k v).num k=v:=by
  show(m.h.n.set k v).getD k 0=v
  rw[List.getD_eq_getElem?_getD,List.getElem?_set_self h];rfl
def fobj (h:Nat) (t:Ly):List UInt8:=putFieldF {hash:=h,nextHash:=0,dat:=0,payload:=t}
def dobj (h:Nat) (t:Ly):List UInt8:=putDataF {hash:=h,nextHash:=0,nextField:=0,entry:=0,array:=0,count:=0,payload:=t}
theorem fobj_at {h:Nat} (t:Ly) (hh:h<18446744073709551616):(fobj h t).length=up8 (40+t.length)∧at8 (fobj h t) 24=0∧at8 (fobj h t) 32=0:=by
  have e:fobj h t=putF 2 (nums [h,0,0] ++ t):=rfl
  obtain⟨_,A,B,_⟩:=objB (k:=2) (by decide) [h,0,0] t (by intro v hv;simp at hv;omega)
  rw[← e]at A B
  simp only[List.length_cons,List.length_nil,Nat.zero_add,Nat.reduceAdd,Nat.reduceMul]at A
  exact⟨A,B 1 _ rfl,B 2 _ rfl⟩
theorem dobj_at {h:Nat} (t:Ly) (hh:h<18446744073709551616):(dobj h t).length=up8 (64+t.length)∧at8 (dobj h t) 24=0:=by
  have e:dobj h t=putF 1 (nums [h,0,0,0,0,0] ++ t):=rfl
  obtain⟨_,A,B,_⟩:=objB (k:=1) (by decide) [h,0,0,0,0,0] t (by intro v hv;simp at hv;omega)
  rw[← e]at A B
  simp only[List.length_cons,List.length_nil,Nat.zero_add,Nat.reduceAdd,Nat.reduceMul]at A
  exact⟨A,B 1 _ rfl⟩
def kn (t:Ly) (p s:Nat):Known:={text:=t,pos:=p,slot:=s,count:=0,arrays:=[]}
theorem obj_num (m:Mk) (o:Ly) {i:Nat} (h:i≠6∧i≠7):(m.object o).2.num i=m.num i:=by
  simp only[Mk.object];rw[num_setN (by omega),num_setN (by omega)];rfl
theorem obj_nl (m:Mk) (o:Ly):(m.object o).2.h.n.length=m.h.n.length:=by simp[Mk.object,Mk.setN]
theorem field_new {m:Mk} {name:Ly} (hk:findK name m.fields=none) (h20:m.h.n.length=20) :
    ∃z,m.field name=(m.b.length,z)∧z.b=hangB (m.b ++ fobj (hashM m name) name) m.fields (m.num 4) m.b.length (hashM m name%m.c.fieldSlots)∧z.fields=m.fields ++ [kn name m.b.length (hashM m name%m.c.fieldSlots)]∧z.datas=m.datas∧z.c=m.c∧z.num 15=m.num 15∧z.num 16=(m.num 16+1)%18446744073709551616∧z.h.n.length=20:=by
  unfold Mk.field
  rw[hk]
  simp only
  have H:=object_spec m (fobj (hashM m name) name)
  have I:=object_same m (fobj (hashM m name) name)
  have D:=fun i S=>obj_num m (fobj (hashM m name) name) (i:=i) S
  have J:=obj_nl m (fobj (hashM m name) name)
  have K:(m.object (fobj (hashM m name) name)).2.b=m.b ++ fobj (hashM m name) name:=rfl
  rw[show putFieldF {hash:=hashN m.c.keyed m.c.file name,nextHash:=0,dat:=0,payload:=name}=fobj (hashM m name) name from rfl]
  generalize m.object (fobj (hashM m name) name)=r at *
  obtain⟨p,A⟩:=r
  simp only at H I D J K ⊢
  obtain⟨E,O,F,_⟩:=I
  have L:=hang_b A A.fields (A.num 4) p (hashN m.c.keyed m.c.file name%A.c.fieldSlots)
  have N:=hang_same A A.fields (A.num 4) p (hashN m.c.keyed m.c.file name%A.c.fieldSlots)
  generalize A.hang A.fields (A.num 4) p (hashN m.c.keyed m.c.file name%A.c.fieldSlots)=r at *
  obtain⟨n,B⟩:=r
  simp only at L N ⊢
  obtain⟨P,Q,R,U,V,G⟩:=N
  have M:p=m.b.length:=H.1
  have C:∀i,B.num i=A.num i:=fun i=>by show B.h.n.getD i 0=_;rw[G];rfl
  have T:({B with depth:=max A.depth n}:Mk).h.n.length=20:=by show B.h.n.length=20;rw[G,J,h20]
  refine⟨_,by rw[M],?_,?_,?_,?_,?_,?_,?_⟩
  · show B.b=_;rw[L,K,F,D 4 (by decide),M,E];rfl
  · show B.fields ++ _=_;rw[R,F,E];rfl
  · show B.datas=_;rw[Q,O]
  · show B.c=_;rw[P,E]
  · show(Mk.setN _ 16 _).num 15=_
    rw[num_setN (by decide)];show B.num 15=_;rw[C,D 15 (by decide)]
  · show(Mk.setN _ 16 _).num 16=_
    rw[num_same (by omega)];show(B.num 16+1)%_=_;rw[C,D 16 (by decide)]
  · show(B.h.n.set 16 _).length=20;rw[List.length_set];exact T
/-- Ahead of the name. -/
theorem data_new {m:Mk} {x:Pr} (hk:findI (payload x) m.datas 0=none) (h20:m.h.n.length=20) :
    ∃z:Mk,z.b=hangB (m.b ++ dobj (hashM m (payload x)) (payload x)) m.datas (m.num 2) m.b.length (hashM m (payload x)%m.c.dataSlots)∧z.datas=m.datas ++ [kn (payload x) m.b.length (hashM m (payload x)%m.c.dataSlots)]∧z.fields=m.fields∧z.c=m.c∧z.num 15=(m.num 15+1)%18446744073709551616∧z.num 16=m.num 16∧z.num 4=m.num 4∧z.h.n.length=20 ∧
      (m.data x).2=(((z.field x.name).2.put (m.b.length+32) (getF (z.field x.name).2.b ((z.field x.name).1+32:Nat) 8).1).put ((z.field x.name).1+32) m.b.length):=by
  unfold Mk.data
  rw[hk]
  simp only
  have I:=object_spec m (dobj (hashM m (payload x)) (payload x))
  have J:=object_same m (dobj (hashM m (payload x)) (payload x))
  have D:=fun i S=>obj_num m (dobj (hashM m (payload x)) (payload x)) (i:=i) S
  have K:=obj_nl m (dobj (hashM m (payload x)) (payload x))
  have L:(m.object (dobj (hashM m (payload x)) (payload x))).2.b=m.b ++ dobj (hashM m (payload x)) (payload x):=rfl
  rw[show putDataF {hash:=hashN m.c.keyed m.c.file (payload x),nextHash:=0,nextField:=0,entry:=0,array:=0,count:=0,payload:=payload x}=dobj (hashM m (payload x)) (payload x)from rfl]
  generalize m.object (dobj (hashM m (payload x)) (payload x))=r at *
  obtain⟨p,B⟩:=r
  simp only at I J D K L ⊢
  obtain⟨E,G,O,_⟩:=J
  have M:=hang_b B B.datas (B.num 2) p (hashN m.c.keyed m.c.file (payload x)%B.c.dataSlots)
  have N:=hang_same B B.datas (B.num 2) p (hashN m.c.keyed m.c.file (payload x)%B.c.dataSlots)
  generalize B.hang B.datas (B.num 2) p (hashN m.c.keyed m.c.file (payload x)%B.c.dataSlots)=r at *
  obtain⟨n,A⟩:=r
  simp only at M N ⊢
  obtain⟨P,Q,R,V,W,H⟩:=N
  have F:p=m.b.length:=I.1
  have C:∀i,A.num i=B.num i:=fun i=>by show A.h.n.getD i 0=_;rw[H];rfl
  have T:A.h.n.length=20:=by rw[H,K,h20]
  have U:(A.setN 19 (max (A.num 19) n)).h.n.length=20:=by show(A.h.n.set 19 _).length=20;rw[List.length_set];exact T
  refine⟨({(A.setN 19 (max (A.num 19) n)).setN 15 (((A.setN 19 (max (A.num 19) n)).num 15+1)%18446744073709551616)with datas:=A.datas ++ [kn (payload x) p (hashN m.c.keyed m.c.file (payload x)%B.c.dataSlots)]}:Mk),?_,?_,?_,?_,?_,?_,?_,?_,?_⟩
  · show A.b=_;rw[M,L,G,D 2 (by decide),F,E];rfl
  · show A.datas ++ _=_;rw[Q,G,F,E];rfl
  · show A.fields=_;rw[R,O]
  · show A.c=_;rw[P,E]
  · show(Mk.setN _ 15 _).num 15=_
    rw[num_same (by omega),num_setN (by decide),C,D 15 (by decide)]
  · show(Mk.setN _ 15 _).num 16=_
    rw[num_setN (by decide),num_setN (by decide),C,D 16 (by decide)]
  · show(Mk.setN _ 15 _).num 4=_
    rw[num_setN (by decide),num_setN (by decide),C,D 4 (by decide)]
  · show(List.set _ 15 _).length=20;rw[List.length_set];exact U
  · subst F;rfl
theorem put_sm (m:Mk) (p v:Nat):(m.put p v).datas=m.datas∧(m.put p v).fields=m.fields∧(m.put p v).c=m.c∧(m.put p v).h=m.h∧(m.put p v).b=putN m.b p v:=by
  unfold Mk.put;exact⟨rfl,rfl,rfl,rfl,rfl⟩
theorem put_two (m:Mk) (p v q u:Nat):∃R,(m.put p v).put q u=R∧R.datas=m.datas∧R.fields=m.fields∧R.c=m.c∧(∀i,R.num i=m.num i)∧R.h.n.length=m.h.n.length∧R.b=putN (putN m.b p v) q u:=by
  obtain⟨C,D,E,A,F⟩:=put_sm m p v
  obtain⟨G,H,I,B,J⟩:=put_sm (m.put p v) q u
  exact⟨_,rfl,G.trans C,H.trans D,I.trans E,fun i=>by unfold Mk.num;rw[B,A],by rw[B,A],by rw[J,F]⟩
/-! where objects stand -/
section
variable {m:Mk} {l:List Ob}
theorem Stat.far (h:Stat m l) {o:Ob} (ho:o∈l) (hk:o.kind=1∨o.kind=2):304+16*m.c.dataSlots+16*m.c.fieldSlots≤o.pos:=by
  have B:=h.objs.mem ho
  have g:=B.ge
  have D:=up8_ge o.size
  have u4:up8 (16+16*m.c.dataSlots)=16+16*m.c.dataSlots:=by unfold up8;omega
  have u5:up8 (16+16*m.c.fieldSlots)=16+16*m.c.fieldSlots:=by unfold up8;omega
  have C:=B.size.1
  rcases h.objs.sep ho h.tab4 with e|e|e
  · subst e;simp at hk
  · simp only at e;omega
  · simp only[u4]at e
    rcases h.objs.sep ho h.tab5 with A|A|A
    · subst A;simp at hk
    · simp only at A;omega
    · simp only[u5]at A;omega
theorem Stat.two (h:Stat m l) {o x:Ob} (ho:o∈l) (hx:x∈l) (so:40≤o.size) (sx:40≤x.size):o.pos=x.pos∨o.pos+40≤x.pos∨x.pos+40≤o.pos:=by
  have:=up8_ge o.size
  have:=up8_ge x.size
  rcases h.objs.sep ho hx with e|e|e
  · exact .inl (by rw[e])
  · exact .inr (.inl (by omega))
  · exact .inr (.inr (by omega))
theorem Stat.apart (h:Stat m l) {o x:Ob} (ho:o∈l) (hx:x∈l) (so:40≤o.size) (sx:40≤x.size) (hk:o.kind≠x.kind):o.pos+40≤x.pos∨x.pos+40≤o.pos:=by
  have:=up8_ge o.size
  have:=up8_ge x.size
  rcases h.objs.sep ho hx with e|e|e
  · exact absurd (congrArg Ob.kind e) hk
  · exact .inl (by omega)
  · exact .inr (by omega)
theorem Stat.top (h:Stat m l) {o:Ob} (ho:o∈l) (so:40≤o.size):o.pos+40≤m.b.length:=by
  have:=up8_ge o.size
  have:=(h.objs.mem ho).le
  omega
/-- All that a datum or a name wants told of its place. -/
theorem Stat.dd (h:Stat m l):(∀x∈m.datas,304+16*m.c.dataSlots+16*m.c.fieldSlots≤x.pos∧x.pos+40≤m.b.length)∧(∀x∈m.fields,304+16*m.c.dataSlots+16*m.c.fieldSlots≤x.pos∧x.pos+40≤m.b.length) ∧
    (∀x∈m.datas,∀y∈m.datas,x.pos=y.pos∨x.pos+40≤y.pos∨y.pos+40≤x.pos)∧(∀x∈m.fields,∀y∈m.fields,x.pos=y.pos∨x.pos+40≤y.pos∨y.pos+40≤x.pos)∧(∀x∈m.datas,∀y∈m.fields,x.pos+40≤y.pos∨y.pos+40≤x.pos):=by
  refine⟨fun x A=>?_,fun x A=>?_,fun x A y B=>?_,fun x A y B=>?_,fun x A y B=>?_⟩
  · have o:=(h.data x A).ob;exact⟨h.far o (.inl rfl),h.top o (by simp only;omega)⟩
  · have o:=(h.fld x A).ob;exact⟨h.far o (.inr rfl),h.top o (by simp only;omega)⟩
  · exact h.two (h.data x A).ob (h.data y B).ob (by simp only;omega) (by simp only;omega)
  · exact h.two (h.fld x A).ob (h.fld y B).ob (by simp only;omega) (by simp only;omega)
  · exact h.apart (h.data x A).ob (h.fld y B).ob (by simp only;omega) (by simp only;omega) (by simp)
end
theorem asc_snoc {ks:List Known} {k:Known} (h:(ks.map Known.pos).Pairwise (· < ·)) (hk:∀x∈ks,x.pos<k.pos):((ks ++ [k]).map Known.pos).Pairwise (· < ·):=by
  rw[List.map_append,List.pairwise_append]
  refine⟨h,by simp,fun a B b A=>?_⟩
  obtain⟨x,C,rfl⟩:=List.mem_map.1 B
  simp only[List.map_cons,List.map_nil,List.mem_singleton]at A
  subst A;exact hk x C
theorem findK_none:∀{l:List Known} {s:Ly},findK s l=none→∀k∈l,k.text≠s
  | [],_,_,_,h=>by cases h
  | x :: l,s,h,k,hk=>by
    rw[findK]at h
    split at h
    · cases h
    · rename_i hx
      rcases List.mem_cons.1 hk with rfl|hk
      · exact hx
      · exact findK_none h k hk
theorem Row24.keepE {b c:Ly} {tab n:Nat} {ks:List Known} (h:Row24 b tab n ks) (h1:∀s:Nat,s<n→at8 c (tab+16*s)=at8 b (tab+16*s)) (h2:∀k∈ks,at8 c (k.pos+24)=at8 b (k.pos+24)):Row24 c tab n ks:=h.keep fun a ha=>by
  rcases ha with⟨s,hs,rfl⟩|⟨k,hk,rfl⟩
  · exact h1 s hs
  · exact h2 k hk
set_option maxHeartbeats 2000000 in
/-- A datum is made, or is there. -/
theorem hs_data {m:Mk} {l:List Ob} (h:Stat m l) (H:Hs m) (x:Pr) (he:∀c∈x.name,c≠61) (hb:m.b.length<900000) (hl:(payload x).length≤1000∧x.name.length≤1000) :
    Hs (m.data x).2∧(m.data x).2.datas.map Known.text=if payload x∈m.datas.map Known.text then m.datas.map Known.text else m.datas.map Known.text ++ [payload x]:=by
  cases hk:findI (payload x) m.datas 0 with
  | some i =>
    obtain⟨k,A,M,_⟩:=findI_get hk
    have e:(m.data x).2=m:=by unfold Mk.data;rw[hk]
    rw[e,if_pos (List.mem_map.2 ⟨k,List.mem_of_getElem? A,M⟩)]
    exact⟨H,rfl⟩
  | none =>
    have Ba:=findI_none hk
    obtain⟨z,z1,T,C,U,z5,z6,z7,z8,z9⟩:=data_new (m:=m) (x:=x) hk H.h20
    obtain⟨u,kp,kt,ks,ek⟩:∃u:Known,u.pos=m.b.length∧u.text=payload x∧u.slot=hashM m (payload x)%m.c.dataSlots∧kn (payload x) m.b.length (hashM m (payload x)%m.c.dataSlots)=u:=⟨_,rfl,rfl,rfl,rfl⟩
    rw[ek]at T
    clear ek
    obtain⟨V,L,d2,f2,W⟩:=h.dd
    have Bv:=h.slots
    have hh:=hashM_lt m (payload x)
    obtain⟨o1,o2⟩:=dobj_at (payload x) hh
    have Ay:hashM m (payload x)%m.c.dataSlots<m.c.dataSlots:=Nat.mod_lt _ (by omega)
    have hu:=up8_ge (64+(payload x).length)
    generalize ho:dobj (hashM m (payload x)) (payload x)=o at *
    rw[h.n2]at z1
    -- the datum stands in its chain
    have B1:(m.b ++ o).length=m.b.length+o.length:=List.length_append
    have Ak:∀a,a+8≤m.b.length→at8 (m.b ++ o) a=at8 m.b a:=fun a N=>at8_app N
    have K:Row24 z.b 288 m.c.dataSlots z.datas:=by
      rw[z1,T,← kp,← ks]
      have A:Row24 (m.b ++ o) 288 m.c.dataSlots m.datas:=H.r4.keepE (fun s hs=>Ak _ (by have:=h.objs.mem h.tab4;have:=this.le;have:=up8_ge (16+16*m.c.dataSlots);simp only at *;omega)) fun k hk=>Ak _ (by have:=V k hk;omega)
      have t4:=h.objs.mem h.tab4
      have Be:=t4.le
      have B6:=up8_ge (16+16*m.c.dataSlots)
      simp only at Be
      exact A.hang (k:=u) (by rw[ks];exact Ay) (fun y O=>by have:=V y O;omega) (by omega) (fun y O=>by have:=V y O;omega) d2 H.a4 (by rw[kp,at8_new];exact o2) (by omega) (by omega)
    have Bk:304+16*m.c.dataSlots+16*m.c.fieldSlots≤m.b.length:=by
      have:=h.objs.mem h.tab5;have:=this.le;have:=up8_ge (16+16*m.c.fieldSlots);simp only at *;omega
    have Af:∀a,a+8≤m.b.length→(a+8≤288+16*(hashM m (payload x)%m.c.dataSlots)∨288+16*(hashM m (payload x)%m.c.dataSlots)+16≤a)→(∀y∈m.datas,a+8≤y.pos+24∨y.pos+32≤a)→at8 z.b a=at8 m.b a:=fun a N A M=>by
      rw[z1]
      rw[← ks]at A ⊢
      exact(hangB_at (n:=m.c.dataSlots) (by rw[ks];exact Ay) A M).trans (Ak a N)
    have F:Row24 z.b (304+16*m.c.dataSlots) m.c.fieldSlots z.fields:=by
      rw[C]
      exact H.r5.keepE (fun s hs=>Af _ (by omega) (by omega) fun y O=>by have:=V y O;omega) fun k hk=>Af _ (by have:=L k hk;omega) (by have:=L k hk;omega) fun y O=>by have:=W y O k hk;omega
    have D:RowD z.b m.datas z.fields:=by
      rw[C]
      exact H.rd.keep (fun k hk=>Af _ (by have:=V k hk;omega) (by have:=V k hk;omega) fun y O=>by have:=d2 y O k hk;omega) fun f Y=>Af _ (by have:=L f Y;omega) (by have:=L f Y;omega) fun y O=>by have:=W y O f Y;omega
    have zb:z.b.length=m.b.length+o.length:=by rw[z1,hangB_len,B1]
    have Bb:∀t,hashM z t=hashM m t:=fun t=>by unfold hashM;rw[U]
    rw[z9]
    have A0:∀(w:Mk),w.datas=z.datas→w.datas.map Known.text=if payload x∈m.datas.map Known.text then m.datas.map Known.text else m.datas.map Known.text ++ [payload x]:=fun w hw=>by
      rw[hw,T,if_neg (fun hm=>by obtain⟨k,A,M⟩:=List.mem_map.1 hm;exact Ba k A M),List.map_append,List.map_cons,List.map_nil,kt]
    have a4:(z.datas.map Known.pos).Pairwise (· < ·):=by rw[T];exact asc_snoc H.a4 fun y O=>by have:=V y O;omega
    have Az:z.num 15=z.datas.length:=by
      have:=H.c15
      rw[z5,T,H.n15,List.length_append];exact Nat.mod_eq_of_lt (by omega)
    have Aa:nameT (payload x)=x.name:=nameT_pay he
    cases Y:findK x.name z.fields with
    | some p =>
      obtain⟨f,f1,rfl,f3⟩:=findK_mem Y
      have e:z.field x.name=(f.pos,z):=by unfold Mk.field;rw[Y]
      rw[e]
      simp only
      have fm:f∈m.fields:=C ▸ f1
      have Bs:=L f fm
      have E:(getF z.b (f.pos+32:Nat) 8).1=at8 z.b (f.pos+32):=get_at8 (by omega)
      have B:∀a,(a+8≤m.b.length+32∨m.b.length+40≤a)→(a+8≤f.pos+32∨f.pos+40≤a)→at8 (putN (putN z.b (m.b.length+32) (getF z.b (f.pos+32:Nat) 8).1) (f.pos+32) m.b.length) a=at8 z.b a:=fun a A M=>by
        rw[at8_put (by omega),at8_put (by omega)]
      have mk:∀y∈z.datas,y∈m.datas∨y=u:=fun y O=>by rw[T]at O;simpa using O
      obtain⟨Z,eZ,J,I,j,Rn,Rl,d⟩:=put_two z (m.b.length+32) (getF z.b (f.pos+32:Nat) 8).1 (f.pos+32) m.b.length
      rw[eZ]
      clear eZ
      have R:∀t,hashM Z t=hashM m t:=fun t=>by unfold hashM;rw[j,U]
      refine⟨⟨?_,?_,?_,?_,?_,?_,?_,?_,by rw[J];exact a4,?_,by rw[Rn,J];exact Az,?_,?_,?_,Rl.trans z8⟩,A0 _ J⟩
      · rw[d,j,J,U]
        refine K.keepE (fun s hs=>B _ (by omega) (by omega)) fun k hk=>?_
        rcases mk k hk with A|rfl
        · have:=V k A;have:=W k A f fm;exact B _ (by omega) (by omega)
        · exact B _ (by omega) (by omega)
      · rw[d,j,I,U]
        exact F.keepE (fun s hs=>B _ (by omega) (by omega)) fun k hk=>by
          rw[C]at hk;have:=L k hk;have:=f2 k hk f fm;exact B _ (by omega) (by omega)
      · rw[d,J,I,T,← kp]
        refine D.put (k:=u) f1 (by rw[f3,kt];exact Aa.symm) E (fun a N c X=>?_) (fun y O=>?_) (fun g S=>?_) (by omega) (by omega) (by omega)
        · rw[C]at N X
          exact⟨fun e=>by rw[H.one a N c X e],fun e=>by rw[pos_inj H.a5 N X e]⟩
        · have:=V y O;have:=W y O f fm;omega
        · rw[C]at S;have:=L g S;have:=f2 g S f fm;omega
      · intro k hk
        rw[J]at hk
        rw[R,j,U]
        rcases mk k hk with A|rfl
        · exact H.s4 k A
        · rw[ks,kt]
      · intro k hk
        rw[I]at hk
        rw[R,j,U];exact H.s5 k (C ▸ hk)
      · intro k hk
        rw[J]at hk
        rcases mk k hk with A|rfl
        · obtain⟨g,g1,g2⟩:=H.own k A;exact⟨g,by rw[I,C];exact g1,g2⟩
        · exact⟨f,by rw[I];exact f1,by rw[f3,kt];exact Aa.symm⟩
      · intro g S
        rw[I]at S
        obtain⟨k,k1,k2⟩:=H.bear g (C ▸ S)
        exact⟨k,by rw[J,T];simp[k1],k2⟩
      · intro a N c X;rw[I]at N X;exact H.one a (C ▸ N) c (C ▸ X)
      · rw[I,C];exact H.a5
      · rw[Rn,I,z6,C];exact H.n16
      · rw[d,J,putN_len,putN_len,zb,T,List.length_append];have:=H.c15;simp only[List.length_singleton];omega
      · rw[d,I,putN_len,putN_len,zb,C];have:=H.c16;omega
    | none =>
      have Q:=findK_none Y
      obtain⟨y,y1,y2,y3,y4,y5,y6,y7,y8⟩:=field_new (m:=z) (name:=x.name) Y z8
      have S:=hashM_lt z x.name
      obtain⟨q1,q2,q3⟩:=fobj_at x.name S
      have hq:=up8_ge (40+x.name.length)
      have Am:hashM z x.name%z.c.fieldSlots<m.c.fieldSlots:=by rw[U];exact Nat.mod_lt _ (by omega)
      generalize fobj (hashM z x.name) x.name=fo at *
      obtain⟨fd,fp,ft,fs,ef⟩:∃fd:Known,fd.pos=z.b.length∧fd.text=x.name∧fd.slot=hashM z x.name%z.c.fieldSlots∧kn x.name z.b.length (hashM z x.name%z.c.fieldSlots)=fd:=⟨_,rfl,rfl,rfl,rfl⟩
      rw[ef]at y3
      clear ef
      rw[y1]
      simp only
      rw[z7,h.n4]at y2
      have B2:(z.b ++ fo).length=z.b.length+fo.length:=List.length_append
      have r:∀a,a+8≤z.b.length→at8 (z.b ++ fo) a=at8 z.b a:=fun a N=>at8_app N
      have yb:y.b.length=z.b.length+fo.length:=by rw[y2,hangB_len,B2]
      have mk:∀v∈z.datas,v∈m.datas∨v=u:=fun v E=>by rw[T]at E;simpa using E
      have G:Row24 y.b (304+16*m.c.dataSlots) m.c.fieldSlots y.fields:=by
        rw[y2,y3,C,← fp,← fs]
        have A:Row24 (z.b ++ fo) (304+16*m.c.dataSlots) m.c.fieldSlots m.fields:=by
          rw[← C]
          exact F.keepE (fun s hs=>r _ (by omega)) fun k hk=>r _ (by rw[C]at hk;have:=L k hk;omega)
        exact A.hang (k:=fd) (by rw[fs];exact Am) (fun v E=>by have:=L v E;omega) (by omega) (fun v E=>by have:=L v E;omega) f2 H.a5 (by rw[fp,at8_new];exact q2) (by omega) (by omega)
      have P:∀a,a+8≤z.b.length→(a+8≤304+16*m.c.dataSlots+16*(hashM z x.name%z.c.fieldSlots)∨304+16*m.c.dataSlots+16*(hashM z x.name%z.c.fieldSlots)+16≤a)→(∀v∈m.fields,a+8≤v.pos+24∨v.pos+32≤a)→at8 y.b a=at8 z.b a:=fun a N A M=>by
        rw[y2,C]
        rw[← fs]at A ⊢
        exact(hangB_at (n:=m.c.fieldSlots) (by rw[fs];exact Am) A M).trans (r a N)
      have K2:Row24 y.b 288 m.c.dataSlots z.datas:=by
        refine K.keepE (fun s hs=>P _ (by omega) (by omega) fun v E=>by have:=L v E;omega) fun k hk=>?_
        rcases mk k hk with A|rfl
        · have:=V k A;exact P _ (by omega) (by omega) fun v E=>by have:=W k A v E;omega
        · exact P _ (by omega) (by omega) fun v E=>by have:=L v E;omega
      have D2:RowD y.b m.datas y.fields:=by
        have A:RowD y.b m.datas z.fields:=D.keep (fun k hk=>by have:=V k hk;exact P _ (by omega) (by omega) fun v E=>by have:=W k hk v E;omega) fun f Y=>by
          rw[C]at Y;have:=L f Y;exact P _ (by omega) (by omega) fun v E=>by have:=f2 f Y v E;omega
        rw[y3]
        refine A.field (f:=fd) ?_ fun k hk e=>?_
        · rw[y2,C,← fs]
          refine(hangB_at (n:=m.c.fieldSlots) (by rw[fs];exact Am) (by rw[fs];omega) (fun v E=>by have:=L v E;omega)).trans ?_
          rw[fp,at8_new];exact q3
        · obtain⟨g,g1,g2⟩:=H.own k hk
          exact Q g (by rw[C];exact g1) (by rw[g2,e,ft])
      have E:(getF y.b (z.b.length+32:Nat) 8).1=at8 y.b (z.b.length+32):=get_at8 (by omega)
      have B:∀a,(a+8≤m.b.length+32∨m.b.length+40≤a)→(a+8≤z.b.length+32∨z.b.length+40≤a)→at8 (putN (putN y.b (m.b.length+32) (getF y.b (z.b.length+32:Nat) 8).1) (z.b.length+32) m.b.length) a=at8 y.b a:=fun a A M=>by
        rw[at8_put (by omega),at8_put (by omega)]
      have yd:y.datas=z.datas:=y4
      have Bx:∀t,hashM y t=hashM m t:=fun t=>by unfold hashM;rw[y5,U]
      have mf:∀g∈y.fields,g∈m.fields∨g=fd:=fun g S=>by rw[y3,C]at S;simpa using S
      have f1:fd∈y.fields:=by rw[y3];simp
      obtain⟨Z,eZ,J,I,j,Rn,Rl,d⟩:=put_two y (m.b.length+32) (getF y.b (z.b.length+32:Nat) 8).1 (z.b.length+32) m.b.length
      rw[eZ]
      clear eZ
      have R:∀t,hashM Z t=hashM m t:=fun t=>by unfold hashM;rw[j,y5,U]
      refine⟨⟨?_,?_,?_,?_,?_,?_,?_,?_,by rw[J,yd];exact a4,?_,by rw[Rn,J,y6,yd];exact Az,?_,?_,?_,Rl.trans y8⟩,A0 _ (J.trans yd)⟩
      · rw[d,j,J,y5,U,yd]
        refine K2.keepE (fun s hs=>B _ (by omega) (by omega)) fun k hk=>?_
        rcases mk k hk with A|rfl
        · have:=V k A;exact B _ (by omega) (by omega)
        · exact B _ (by omega) (by omega)
      · rw[d,j,I,y5,U]
        refine G.keepE (fun s hs=>B _ (by omega) (by omega)) fun k hk=>?_
        rcases mf k hk with A|rfl
        · have:=L k A;exact B _ (by omega) (by omega)
        · exact B _ (by omega) (by omega)
      · rw[d,J,I,yd,T,← kp,← fp]
        refine D2.put (f:=fd) (k:=u) f1 (by rw[ft,kt];exact Aa.symm) (by rw[fp];exact E) (fun a N c X=>?_) (fun v E=>?_) (fun g S=>?_) (by omega) (by omega) (by omega)
        · rcases mf a N with A|rfl
          · rcases mf c X with M|rfl
            · exact⟨fun e=>by rw[H.one a A c M e],fun e=>by rw[pos_inj H.a5 A M e]⟩
            · exact⟨fun e=>absurd (e.trans ft) (Q a (by rw[C];exact A)),fun e=>by have:=L a A;omega⟩
          · rcases mf c X with M|rfl
            · exact⟨fun e=>absurd (e.symm.trans ft) (Q c (by rw[C];exact M)),fun e=>by have:=L c M;omega⟩
            · exact⟨fun _=>rfl,fun _=>rfl⟩
        · have:=V v E;omega
        · rcases mf g S with A|rfl
          · have:=L g A;omega
          · omega
      · intro k hk
        rw[J]at hk
        rw[R,j,y5,U]
        rcases mk k (yd ▸ hk)with A|rfl
        · exact H.s4 k A
        · rw[ks,kt]
      · intro k hk
        rw[I]at hk
        rw[R,j,y5,U]
        rcases mf k hk with A|rfl
        · exact H.s5 k A
        · rw[fs,ft,Bb,U]
      · intro k hk
        rw[J]at hk
        rcases mk k (yd ▸ hk)with A|rfl
        · obtain⟨g,g1,g2⟩:=H.own k A;exact⟨g,by rw[I,y3,C];simp[g1],g2⟩
        · exact⟨_,by rw[I];exact f1,by rw[ft,kt];exact Aa.symm⟩
      · intro g S
        rw[I]at S
        rcases mf g S with A|rfl
        · obtain⟨k,k1,k2⟩:=H.bear g A
          exact⟨k,by rw[J,yd,T];simp[k1],k2⟩
        · exact⟨u,by rw[J,yd,T];simp,by rw[kt,ft];exact Aa⟩
      · intro a N c X e
        rw[I]at N X
        rcases mf a N with A|rfl
        · rcases mf c X with M|rfl
          · exact H.one a A c M e
          · exact absurd (e.trans ft) (Q a (by rw[C];exact A))
        · rcases mf c X with M|rfl
          · exact absurd (e.symm.trans ft) (Q c (by rw[C];exact M))
          · rfl
      · rw[I,y3,C];exact asc_snoc H.a5 fun v E=>by have:=L v E;omega
      · have:=H.c16
        rw[Rn,I,y7,y3,z6,C,H.n16,List.length_append];exact Nat.mod_eq_of_lt (by omega)
      · rw[d,J,putN_len,putN_len,yb,zb,yd,T,List.length_append];have:=H.c15;simp only[List.length_singleton];omega
      · rw[d,I,putN_len,putN_len,yb,zb,y3,C,List.length_append];have:=H.c16;simp only[List.length_singleton];omega
end Go.Wk
namespace Go.Wk
open Go Go.RowKit
/-- A place that may be written without a hurt to the chains. -/
def Firm (l:List Ob) (a:Nat):Prop:=∀o∈l,(o.kind=4∨o.kind=5→a+8≤o.pos∨o.pos+up8 o.size≤a)∧((o.kind=1∨o.kind=2)→40≤o.size→a+8≤o.pos∨o.pos+40≤a)
theorem firm_head {b:Ly} {l:List Ob} {e a:Nat} (hO:Objs b 272 l e) (h:a+8≤272):Firm l a:=fun o ho=>by
  have:=(hO.mem ho).ge
  exact⟨fun _=>.inl (by omega),fun _ _=>.inl (by omega)⟩
theorem firm_in {b:Ly} {l:List Ob} {e a:Nat} (hO:Objs b 272 l e) {x:Ob} (hx:x∈l) (h1:x.pos+16≤a) (h2:a+8≤x.pos+up8 x.size) (hk:x.kind=6∨x.kind=1∧x.pos+40≤a):Firm l a:=fun o ho=>by
  have uo:=up8_ge o.size
  have ux:=up8_ge x.size
  rcases hO.sep ho hx with e1|e1|e1
  · subst e1
    exact⟨fun h=>by omega,fun h _=>by omega⟩
  · exact⟨fun _=>.inr (by omega),fun _ _=>.inr (by omega)⟩
  · exact⟨fun _=>.inl (by omega),fun _ _=>.inl (by omega)⟩
theorem linkS_firm {b:Ly} {l:List Ob} {e src a:Nat} {av:List Nat} (hO:Objs b 272 l e) (h:LinkS src av a) (hob:∀k c:Nat,av[k]? = some c→(⟨c,6,24+8*roomF (k:Int)⟩:Ob)∈l) (hs:Firm l src):Firm l a:=by
  rcases h with h|⟨k,c,A,B,C⟩
  · rw[h];exact hs
  · exact firm_in hO (hob k c A) (by simp only;omega) (by rw[up8_arr];simp only;omega) (.inl rfl)
theorem Firm.mono {l r:List Ob} {a:Nat} (h:Firm r a) (hs:∀o∈l,o∈r):Firm l a:=fun o ho=>h o (hs o ho)
/-- What a step leaves of the chains. -/
structure Kept (m m':Mk):Prop where
  c:m'.c=m.c
  ds:m'.datas.map keyK=m.datas.map keyK
  fs:m'.fields=m.fields
  n15:m'.num 15=m.num 15
  n16:m'.num 16=m.num 16
  len:m.b.length≤m'.b.length
  at4:∀s:Nat,s<m.c.dataSlots→at8 m'.b (288+16*s)=at8 m.b (288+16*s)
  at5:∀s:Nat,s<m.c.fieldSlots→at8 m'.b (304+16*m.c.dataSlots+16*s)=at8 m.b (304+16*m.c.dataSlots+16*s)
  dd:∀k∈m.datas,at8 m'.b (k.pos+24)=at8 m.b (k.pos+24)∧at8 m'.b (k.pos+32)=at8 m.b (k.pos+32)
  ff:∀k∈m.fields,at8 m'.b (k.pos+24)=at8 m.b (k.pos+24)∧at8 m'.b (k.pos+32)=at8 m.b (k.pos+32)
theorem Kept.refl (m:Mk):Kept m m:=⟨rfl,rfl,rfl,rfl,rfl,Nat.le_refl _,fun _ _=>rfl,fun _ _=>rfl,fun _ _=>⟨rfl,rfl⟩,fun _ _=>⟨rfl,rfl⟩⟩
theorem Kept.trans {a b c:Mk} (h:Kept a b) (k:Kept b c):Kept a c:=by
  refine⟨k.c.trans h.c,k.ds.trans h.ds,k.fs.trans h.fs,k.n15.trans h.n15,k.n16.trans h.n16,lv h.len k.len,fun s B=>(k.at4 s (by rw[h.c];exact B)).trans (h.at4 s B),fun s B=>?_,fun x A=>?_,fun x A=>?_⟩
  · have:=k.at5 s (by rw[h.c];exact B)
    rw[h.c]at this
    exact this.trans (h.at5 s B)
  · obtain⟨y,C,e,_⟩:=mem_key h.ds.symm A
    have:=k.dd y C
    rw[e]at this
    exact⟨this.1.trans (h.dd x A).1,this.2.trans (h.dd x A).2⟩
  · have:=k.ff x (by rw[h.fs];exact A)
    exact⟨this.1.trans (h.ff x A).1,this.2.trans (h.ff x A).2⟩
theorem Kept.same {m m':Mk} (hb:m'.b=m.b) (hc:m'.c=m.c) (hd:m'.datas=m.datas) (hf:m'.fields=m.fields) (h15:m'.num 15=m.num 15) (h16:m'.num 16=m.num 16):Kept m m' :=
  ⟨hc,by rw[hd],hf,h15,h16,by rw[hb];exact Nat.le_refl _,fun _ _=>by rw[hb],fun _ _=>by rw[hb],fun _ _=>by rw[hb];exact⟨rfl,rfl⟩,fun _ _=>by rw[hb];exact⟨rfl,rfl⟩⟩
theorem Kept.eff {m m':Mk} {l:List Ob} {S:Nat→Prop} (h:Stat m l) (he:Eff S m.b m'.b) (hs:∀a,S a→Firm l a) (hc:m'.c=m.c) (hd:m'.datas.map keyK=m.datas.map keyK) (hf:m'.fields=m.fields) (h15:m'.num 15=m.num 15) (h16:m'.num 16=m.num 16):Kept m m':=by
  have G:=h.objs.mem h.tab4
  have C:=G.le
  have u4:up8 (16+16*m.c.dataSlots)=16+16*m.c.dataSlots:=by unfold up8;omega
  have u5:up8 (16+16*m.c.fieldSlots)=16+16*m.c.fieldSlots:=by unfold up8;omega
  have H:=h.objs.mem h.tab5
  have D:=H.le
  simp only[u4]at C
  simp only[u5]at D
  obtain⟨E,F,_⟩:=h.dd
  refine⟨hc,hd,hf,h15,h16,he.len,fun s B=>he.at8 (by omega) fun a A=>?_,fun s B=>he.at8 (by omega) fun a A=>?_,fun k hk=>?_,fun k hk=>?_⟩
  · have:=((hs a A) _ h.tab4).1 (.inl rfl);simp only[u4]at this;omega
  · have:=((hs a A) _ h.tab5).1 (.inr rfl);simp only[u5]at this;omega
  · have d:=E k hk
    have f:∀a,S a→a+8≤k.pos∨k.pos+40≤a:=fun a A=>((hs a A) _ (h.data k hk).ob).2 (.inl rfl) (by simp only;omega)
    exact⟨he.at8 (by omega) fun a A=>by have:=f a A;omega,he.at8 (by omega) fun a A=>by have:=f a A;omega⟩
  · have d:=F k hk
    have f:∀a,S a→a+8≤k.pos∨k.pos+40≤a:=fun a A=>((hs a A) _ (h.fld k hk).ob).2 (.inr rfl) (by simp only;omega)
    exact⟨he.at8 (by omega) fun a A=>by have:=f a A;omega,he.at8 (by omega) fun a A=>by have:=f a A;omega⟩
theorem pos_key {ks ks':List Known} (h:ks'.map keyK=ks.map keyK):ks'.map Known.pos=ks.map Known.pos∧ks'.map Known.text=ks.map Known.text∧ks'.length=ks.length:=by
  have A:∀ks:List Known,ks.map Known.pos=(ks.map keyK).map Prod.fst:=fun ks=>by rw[List.map_map];rfl
  have B:∀ks:List Known,ks.map Known.text=(ks.map keyK).map fun q=>q.2.2:=fun ks=>by rw[List.map_map];rfl
  exact⟨by rw[A,A,h],by rw[B,B,h],by simpa using congrArg List.length h⟩
theorem Hs.kept {m m':Mk} (H:Hs m) (k:Kept m m') (h20:m'.h.n.length=20):Hs m':=by
  obtain⟨K,L,E⟩:=pos_key k.ds
  have D:∀t,hashM m' t=hashM m t:=fun t=>by unfold hashM;rw[k.c]
  refine⟨?_,?_,?_,fun x A=>?_,fun x A=>?_,fun x A=>?_,fun f J=>?_,?_,by rw[K];exact H.a4,by rw[k.fs];exact H.a5,by rw[k.n15,E];exact H.n15,by rw[k.n16,k.fs];exact H.n16,?_,?_,h20⟩
  · rw[k.c]
    exact(H.r4.keepE k.at4 fun x A=>(k.dd x A).1).key k.ds
  · rw[k.c,k.fs]
    exact H.r5.keepE k.at5 fun x A=>(k.ff x A).1
  · rw[k.fs]
    exact(H.rd.keep (fun x A=>(k.dd x A).2) fun x A=>(k.ff x A).2).key k.ds
  · obtain⟨y,C,_,F,B⟩:=mem_key k.ds A
    rw[D,k.c,← F,← B];exact H.s4 y C
  · rw[D,k.c];exact H.s5 x (k.fs ▸ A)
  · obtain⟨y,C,_,_,B⟩:=mem_key k.ds A
    obtain⟨f,G,I⟩:=H.own y C
    exact⟨f,by rw[k.fs];exact G,by rw[I,B]⟩
  · obtain⟨y,C,e⟩:=H.bear f (k.fs ▸ J)
    obtain⟨x,A,_,_,B⟩:=mem_key k.ds.symm C
    exact⟨x,A,by rw[B,e]⟩
  · rw[k.fs];exact H.one
  · rw[E];exact lv H.c15 k.len
  · rw[k.fs];exact lv H.c16 k.len
theorem set_key {ds:List Known} {i:Nat} {k k':Known} (h:ds[i]? = some k) (hk:keyK k'=keyK k):(ds.set i k').map keyK=ds.map keyK:=by
  apply List.ext_getElem?
  intro j
  rw[List.getElem?_map,List.getElem?_map]
  by_cases hj:i=j
  · subst hj
    rw[List.getElem?_set_self (List.getElem?_eq_some_iff.1 h).1,h]
    exact congrArg some hk
  · rw[List.getElem?_set_ne hj]
/-- An entry is named by each of its data. -/
theorem hangE_kept {es:List EntG} {mp:List Nat} {e:Nat} (he:e<18446744073709551616):∀(od:List Nat) (m:Mk) (l:List Ob) (f:Nat→List Nat),ImgC m l es mp f→(∀i∈od,i<m.datas.length)→od.Nodup→(∀i∈od,(f i).length<900000)→m.b.length+2100*od.length<900000→Kept m (hangE e od m)
  | [],m,_,_,_,_,_,_,_=>Kept.refl m
  | i :: r,m,l,f,h,hi,hn,hl,hb=>by
    obtain⟨k,hk⟩:∃k,m.datas[i]? = some k:=⟨_,List.getElem?_eq_getElem (hi i (by simp))⟩
    simp only[List.length_cons]at hb
    have hds:=h.stat.data k (List.mem_of_getElem? hk)
    obtain⟨l1,k1,H⟩:=hang_one (e:=e) h.stat.objs hk hds (h.dat i k hk) (by omega) he (by have:=hl i (by simp);omega)
    have g:=h.hang hk H
    have hd1:DSame m.datas (hang1 e i m).datas:=by rw[H.dat];exact DSame.set hk H.pos.1 H.pos.2.1
    have P:=H.top
    obtain⟨M,N,Q,R,F⟩:=H.same
    rw[List.nodup_cons]at hn
    obtain⟨t,I,_⟩:=H.sub
    have B:∀o∈l,o∈l1:=fun o L=>by rw[I];exact List.mem_append_left _ L
    have E:=B _ hds.ob
    have u:=up8_ge (64+k.text.length)
    have A:∀a,k.pos+40≤a→a+8≤k.pos+64→Firm l1 a:=fun a C O=>firm_in H.objs E (by simp only;omega) (by simp only;omega) (.inr ⟨rfl,C⟩)
    have G:Kept m (hang1 e i m):=Kept.eff h.stat H.eff (fun a J=>by
      refine Firm.mono ?_ B
      rcases hard_cases J with C|C
      · exact A a C.1 C.2
      · exact linkS_firm H.objs C H.more.chain.ob (A _ (by omega) (by omega))) M (by rw[H.dat];exact set_key hk (by unfold keyK;rw[H.pos.1,H.pos.2.1,H.pos.2.2])) N (F 15 (by decide) (by decide) (by decide)) (F 16 (by decide) (by decide) (by decide))
    rw[hangE_cons]
    have K:∀j∈r,(if j=i then f i ++ [e]else f j)=f j:=fun j D=>if_neg (by rintro rfl;exact hn.1 D)
    exact G.trans (hangE_kept he r (hang1 e i m) l1 _ g (fun j D=>by rw[hd1.len];exact hi j (by simp[D])) hn.2 (fun j D=>by simp only[K j D];exact hl j (by simp[D])) (by omega))
/-- Texts, each once, in the order in which they came. -/
def addT:List (List UInt8)→List (List UInt8)→List (List UInt8)
  | ts,[]=>ts
  | ts,p :: r=>addT (if p∈ts then ts else ts ++ [p]) r
theorem datasL_ge:∀(fs:List Pr) (m:Mk) (l:List Ob) (ps:List (List UInt8)) (od:List Nat),Stat m l→(∀q∈fs,BD q)→m.b.length≤(datasL fs m ps od).2.2.b.length
  | [],_,_,_,_,_,_=>Nat.le_refl _
  | x :: r,m,l,ps,od,h,hb=>by
    obtain⟨l1,d⟩:=data_im h x (hb x (by simp))
    exact lv d.step.eff.len (datasL_ge r (m.data x).2 l1 _ _ d.stat fun q hq=>hb q (by simp[hq]))
theorem datasL_hs:∀(fs:List Pr) (m:Mk) (l:List Ob) (ps:List (List UInt8)) (od:List Nat),Stat m l→Hs m→(∀q∈fs,BD q)→(∀q∈fs,∀c∈q.name,c≠61)→(datasL fs m ps od).2.2.b.length<900000 →
    Hs (datasL fs m ps od).2.2∧(datasL fs m ps od).2.2.datas.map Known.text=addT (m.datas.map Known.text) (fs.map payload)
  | [],_,_,_,_,_,H,_,_,_=>⟨H,rfl⟩
  | x :: r,m,l,ps,od,h,H,hb,hn,hl=>by
    have bx:=hb x (by simp)
    obtain⟨l1,d⟩:=data_im h x bx
    have g1:=datasL_ge (x :: r) m l ps od h hb
    have hp:=payload_len x
    obtain⟨H1,t1⟩:=hs_data h H x (hn x (by simp)) (by omega) ⟨by have:=bx.1;have:=bx.2;omega,by have:=bx.1;omega⟩
    obtain⟨H2,t2⟩:=datasL_hs r (m.data x).2 l1 (ps ++ [((m.data x).2.datas.getD (m.data x).1 known0).text]) (placeF (m.data x).2.datas (m.data x).1 od) d.stat H1 (fun q hq=>hb q (by simp[hq])) (fun q hq=>hn q (by simp[hq])) hl
    exact⟨H2,by rw[List.map_cons,addT,← t1];exact t2⟩
theorem name_61 {s:Ly} (h:isName s=true):∀c∈s,c≠61:=by
  intro c A e
  subst e
  unfold isName at h
  simp only[Bool.and_eq_true]at h
  have:=List.all_eq_true.1 h.2 61 A
  revert this;decide
theorem append_hs {m m':Mk} {l:List Ob} {es:List EntG} {raw fs:List Pr} {real mono s:Nat} {boot:Ly} (h:Img m l es) (H0:Hs m) (ok:MkOk m) (hb:boot.length=16) (hl:listF raw=(fs,0)) (ha:m.append raw real mono boot=(s,0,m')) :
    Hs m'∧m'.datas.map Known.text=addT (m.datas.map Known.text) (fs.map payload):=by
  by_cases h3:m.num 9=18446744073709551615
  · have e:m.append raw real mono boot=(0,1,m):=by unfold Mk.append;simp only[hl];rw[if_neg (by simp),if_pos h3]
    rw[e]at ha
    have:=congrArg (fun x=>x.2.1) ha
    simp at this
  have j:=H0.h20
  have Q:=nl_append m raw real mono boot
  rw[ha]at Q
  obtain⟨P,A,Ag,Bb,Bc⟩:=listF_all hl
  obtain⟨g,_⟩:=listF_bd hl
  have D:=datasL_ok fs m [] [] 0 (datas_start ok) g
  obtain⟨l1,I,W⟩:=datasL_im fs [] m l [] [] es (es.map EntG.pos) (places es) h.c (fun i K=>places_nil h.who i K) ⟨rfl,by simp,by simp,List.Pairwise.nil⟩ g (by rw[List.nil_append];exact asc_payload P A)
  have T:=datasL_hs fs m l [] [] h.c.stat H0 g (fun q hq=>name_61 (by have:=A q hq;unfold right at this;simp only[Bool.and_eq_true]at this;exact this.1))
  rcases hd:datasL fs m [] []with⟨ps,V,x⟩
  rw[hd,Nat.zero_add]at D
  rw[hd]at I W T
  rw[List.nil_append]at W
  simp only at D I W T
  have s1:=ok.small
  have s4:=ok.nb
  have d2:=D.app.le
  have d5:=D.len.1
  have M:=h.n8
  have Az:es.length≤40000:=by
    have:m.n8=es.length:=M
    omega
  obtain⟨Hx,tx⟩:=T (by omega)
  obtain⟨c1,c2,c3⟩:=I.same
  have n8:x.num 8=m.num 8:=c3 8 (by decide) (by decide) (by decide)
  have u:=asc_nodup W.asc
  generalize hE:({seq:=(x.num 9+1)%18446744073709551616,real:=real,mono:=mono,boot:=boot,xor:=xorF 0 ps,items:=itemsL x V}:Ent)=E
  have eb:E.boot.length=16:=by subst hE;exact hb
  have ei:E.items.length=V.length:=by subst hE;simp[itemsL]
  have G:=I.img.entry (E:=E) (who:=V) eb (by omega)
  have U:=(object_spec x (putEntryF E))
  have H:=object_same x (putEntryF E)
  have X:∀i,i≠6→i≠7→(x.object (putEntryF E)).2.num i=x.num i:=fun i h6 h7=>obj_num x _ ⟨h6,h7⟩
  have F:(x.object (putEntryF E)).2.b=x.b ++ putEntryF E:=rfl
  have el:=putEntryF_len E eb
  rcases N:x.object (putEntryF E)with⟨e,B⟩
  rw[N]at G U H X F
  simp only at G U H X F
  have r:e=x.b.length:=U.1
  subst r
  have K2:Kept x B:=by
    refine Kept.eff I.img.stat (S:=fun _=>False) (by rw[F];exact Eff.app _ _ _) (fun _ hf=>hf.elim) H.1 (by rw[H.2.1]) H.2.2.1 (X 15 (by decide) (by decide)) (X 16 (by decide) (by decide))
  have y:B.num 8=(es.map EntG.pos).length:=by rw[X 8 (by decide) (by decide),n8,M,List.length_map]
  have A4:x.b.length<100000:=by omega
  obtain⟨l3,L⟩:=link_im (x:=x.b.length) G.stat.objs G.main (main_src _) (by have:=U.2.1;omega) (by omega)
  rw[← y]at L
  rcases hk:B.link B.main (B.num 8) 176 x.b.length with⟨a,t,C⟩
  rw[hk]at L
  simp only at L
  have d:=append_done (real:=real) (mono:=mono) (boot:=boot) hl (by simp) h3 hd (by rw[hE];exact N) hk rfl
  obtain⟨t1,t2,t3,t4,t5,t6⟩:=L.same
  have K3:Kept B C:=by
    have O:∀o∈(l1 ++ [(⟨x.b.length,3,64+16*E.items.length⟩:Ob)]),o∈l3:=fun o N=>by
      rcases L.sub with e1|e1 <;> rw[e1]
      · exact N
      · exact List.mem_append_left _ N
    exact Kept.eff G.stat L.eff (fun a ha=>Firm.mono (linkS_firm L.objs ha L.chain.ob (firm_head L.objs (by decide))) O) t1 (by rw[t2]) t3 (t6 15 (by decide) (by decide) (by decide)) (t6 16 (by decide) (by decide) (by decide))
  obtain⟨Y,Z⟩:∃Y,Y=(let m4:=({C with main:=a}:Mk).setN 11 (a.getD 0 0);({m4 with h:={m4.h with tailArray:=lastN a%4294967296,tailItems:=t%4294967296}}:Mk)):=⟨_,rfl⟩
  have J:∀i,i≠11→Y.num i=C.num i:=fun i K=>by subst Z;exact getD_set_ne' (by omega)
  have Ys:Y.b=C.b∧Y.c=C.c∧Y.datas=C.datas∧Y.fields=C.fields∧Y.main=a∧Y.h.n.length=C.h.n.length:=by subst Z;exact⟨rfl,rfl,rfl,rfl,rfl,by simp[Mk.setN]⟩
  rw[← Z]at d
  clear Z
  obtain⟨y1,y2,y3,y4,y5,y6⟩:=Ys
  have K4:Kept C Y:=Kept.same y1 y2 y3 y4 (J 15 (by decide)) (J 16 (by decide))
  have I3:=G.link L y1 y2 y3 y4 y5 ⟨J 2 (by decide),J 4 (by decide)⟩ (fun c=>c.to y6 fun i K=>J i (by omega))
  have Ah:=L.top
  have f:Y.datas=x.datas:=by rw[y3,t2,H.2.1]
  have Ai:=U.2.1
  have K5:=hangE_kept (e:=x.b.length) (by omega) V Y l3 _ I3 (fun i K=>by rw[f];exact W.lt i K) u (fun i _=>by have:=places_len es i;omega) (by rw[y1];omega)
  generalize hangE x.b.length V Y=z at *
  replace d:m.append raw real mono boot=if z.c.most<z.b.length then(0,15,m)else((x.num 9+1)%18446744073709551616,0,finM z (B.num 8) ((x.num 9+1)%18446744073709551616) real mono x.b.length boot):=d
  rw[d]at ha
  split at ha
  · have:=congrArg (fun x=>x.2.1) ha;simp at this
  obtain⟨k1,k2,k3,k4,_⟩:=finM_spec z (B.num 8) ((x.num 9+1)%18446744073709551616) real mono x.b.length boot
  have v:=finM_num z (B.num 8) ((x.num 9+1)%18446744073709551616) real mono x.b.length boot 15 (by decide)
  have w:=finM_num z (B.num 8) ((x.num 9+1)%18446744073709551616) real mono x.b.length boot 16 (by decide)
  obtain⟨_,k⟩:=Prod.mk.inj ha
  have p:=(Prod.mk.inj k).2
  generalize finM z (B.num 8) ((x.num 9+1)%18446744073709551616) real mono x.b.length boot=R at *
  subst p
  have KR:Kept x R:=K2.trans (K3.trans (K4.trans (K5.trans (Kept.same k1 k2 k3 k4 v w))))
  exact⟨Hx.kept KR (Q.trans j),by rw[(pos_key KR.ds).2.1];exact tx⟩
theorem newMk_hs {c:Cfg} {t:Nat} (h1:1≤c.dataSlots∧1≤c.fieldSlots):Hs (newMk c t):=by
  obtain⟨_,G,H⟩:=tabB (k:=4) (.inl rfl) c.dataSlots
  obtain⟨_,J,I⟩:=tabB (k:=5) (.inr rfl) c.fieldSlots
  have E:(newMk c t).b=List.replicate 272 0 ++ putTableF 4 (List.replicate c.dataSlots {first:=0,tail:=0}) ++ putTableF 5 (List.replicate c.fieldSlots {first:=0,tail:=0}):=rfl
  have D:(List.replicate 272 (0:UInt8) ++ putTableF 4 (List.replicate c.dataSlots {first:=0,tail:=0})).length=288+16*c.dataSlots:=by rw[List.length_append,List.length_replicate,G];omega
  have B:(newMk c t).datas=[]:=rfl
  have A:(newMk c t).fields=[]:=rfl
  have F:(newMk c t).c=c:=rfl
  refine⟨⟨by rw[B];simp,fun s C=>?_,by rw[B];simp[slotP]⟩,⟨by rw[A];simp,fun s C=>?_,by rw[A];simp[slotP]⟩,⟨by rw[A];simp,by rw[B];simp[dataP]⟩,by rw[B];simp,by rw[A];simp,by rw[B];simp,by rw[A];simp,by rw[A];simp,by rw[B];simp,by rw[A];simp,?_,?_,by rw[B];simp,by rw[A];simp,?_⟩
  · rw[F]at C
    rw[B,E,at8_app (by rw[D];omega),at8_skip (by rw[List.length_replicate];omega),List.length_replicate,show 288+16*s-272=16+8*(2*s)by omega,H _ (by omega)];rfl
  · rw[F]at C ⊢
    rw[A,E,at8_skip (by omega),D,show 304+16*c.dataSlots+16*s-(288+16*c.dataSlots)=16+8*(2*s)by omega,I _ (by omega)];rfl
  · rw[B];show(((((((((List.replicate 20 0).set 0 272).set 2 288).set 3 _).set 4 _).set 5 _).set 6 _).set 7 2).set 9 _).getD 15 0=0;rw[getD_set_ne' (by decide),getD_set_ne' (by decide),getD_set_ne' (by decide),getD_set_ne' (by decide),getD_set_ne' (by decide),getD_set_ne' (by decide),getD_set_ne' (by decide),getD_set_ne' (by decide)];rfl
  · rw[A];show(((((((((List.replicate 20 0).set 0 272).set 2 288).set 3 _).set 4 _).set 5 _).set 6 _).set 7 2).set 9 _).getD 16 0=0;rw[getD_set_ne' (by decide),getD_set_ne' (by decide),getD_set_ne' (by decide),getD_set_ne' (by decide),getD_set_ne' (by decide),getD_set_ne' (by decide),getD_set_ne' (by decide),getD_set_ne' (by decide)];rfl
  · show(((((((((List.replicate 20 0).set 0 272).set 2 288).set 3 _).set 4 _).set 5 _).set 6 _).set 7 2).set 9 _).length=20;simp only[List.length_set,List.length_replicate]
end Go.Wk
namespace Go.Wk
open Go Go.RowKit
/-- Alike where a journal is read: its first array's place, and all behind the head. -/
def Agr (b c:Ly):Prop:=b.length=c.length∧∀q,(176≤q∧q<184∨272≤q)→b[q]? = c[q]?
theorem Agr.put {b c:Ly} (h:Agr b c) (p v:Nat):Agr (putN b p v) (putN c p v) :=
  ⟨by rw[putN_len,putN_len];exact h.1,fun q hq=>by rw[putN_getW,putN_getW,h.1,h.2 q hq]⟩
theorem Agr.app {b c:Ly} (h:Agr b c) (o:Ly):Agr (b ++ o) (c ++ o) :=
  ⟨by rw[List.length_append,List.length_append,h.1],fun q hq=>by
    have h1:=h.1;by_cases hl:q<b.length
    · rw[List.getElem?_append_left hl,List.getElem?_append_left (by omega),h.2 q hq]
    · rw[List.getElem?_append_right (by omega),List.getElem?_append_right (by omega),h1]⟩
theorem Agr.seg {b c:Ly} (h:Agr b c) {p n:Nat} (hp:272≤p):seg b p n=seg c p n:=seg_ext fun i _=>h.2 (p+i) (by omega)
theorem Agr.at8 {b c:Ly} (h:Agr b c) {p:Nat} (hp:p=176∨272≤p):at8 b p=at8 c p:=by
  rw[at8_seg,at8_seg];exact congrArg leN (seg_ext fun i A=>h.2 (p+i) (by omega))
/-- Places, each of which tells the next one. -/
def Thr (b:Ly):Nat→List Nat→Prop
  | a,[]=>a=0
  | a,x :: r=>a=x∧x≠0∧Thr b (at8 b (x+24)) r
def lookL (b:Ly) (h:Nat) (t:Ly) (k:Nat):List Nat→Nat→Nat→Nat→Nat × Nat × Nat
  | [],f,l,m=>(f,l,m)
  | a :: r,f,l,m=>lookL b h t k r (if at8 b (a+16)=h∧(b.take (a+at8 b (a+8))).drop (a+k)=t then a else f) a (m+1)
theorem lookG_list {b:Ly} {h:Nat} {t:Ly} {k:Nat}:∀(r:List Nat) (n a f l m:Nat),Thr b a r→r.length≤n→lookG b h t k n a f l m=lookL b h t k r f l m
  | [],n,a,f,l,m,hr,_=>by rw[show a=0 from hr,lookG_end];rfl
  | x :: r,n,a,f,l,m,⟨h1,h2,h3⟩,hn=>by
    subst h1;simp only[List.length_cons]at hn;rw[lookG_step (by omega) h2,lookG_list r _ _ _ _ _ h3 (by omega)];rfl
theorem okG_list {b:Ly} {k:Nat}:∀(r:List Nat) (n a:Nat),Thr b a r→r.length≤n→(∀x∈r,x+40≤b.length∧k≤at8 b (x+8)∧x+at8 b (x+8)≤b.length)→okG b k n a=true
  | [],n,a,hr,_,_=>by rw[show a=0 from hr];cases n<;>simp[okG]
  | x :: r,n,a,⟨h1,h2,h3⟩,hn,hx=>by
    subst h1
    cases n with
    | zero=>simp at hn
    | succ n =>
      simp only[okG,Bool.or_eq_true,Bool.and_eq_true,decide_eq_true_eq];exact .inr ⟨hx _ (by simp),okG_list r n _ h3 (by simpa using hn) fun y hy=>hx y (by simp[hy])⟩
theorem Row24.thrD {b:Ly} {tab n:Nat} {ks:List Known} (h:Row24 b tab n ks) (h0:∀k∈ks,k.pos≠0) (s:Nat):∀(d j:Nat),j+d=(slotP ks s).length→Thr b ((slotP ks s).getD j 0) ((slotP ks s).drop j)
  | 0,j,hj=>by rw[List.drop_eq_nil_of_le (by omega),getD_out0 (by omega)];rfl
  | d+1,j,hj=>by
    obtain⟨p,hp⟩:=getE (l:=slotP ks s) (show j<(slotP ks s).length by omega);rw[drop_get hp,getD_some hp];obtain⟨k,hk,e,_⟩:=slotP_mem (List.mem_of_getElem? hp);refine⟨rfl,by rw[← e];exact h0 k hk,?_⟩;rw[h.next s j p hp];exact Row24.thrD h h0 s d (j+1) (by omega)
theorem Row24.thr {b:Ly} {tab n:Nat} {ks:List Known} (h:Row24 b tab n ks) (h0:∀k∈ks,k.pos≠0) {s:Nat} (hs:s<n):Thr b (at8 b (tab+16*s)) (slotP ks s):=by
  have:=h.thrD h0 s _ 0 (Nat.zero_add _);rw[List.drop_zero]at this;rw[h.head s hs];exact this
theorem lookL_eq {b:Ly} {h:Nat} {t:Ly} {k:Nat}:∀(r:List Known) (f l m:Nat),(∀x∈r,(at8 b (x.pos+16)=h∧(b.take (x.pos+at8 b (x.pos+8))).drop (x.pos+k)=t)↔x.text=t) →
    lookL b h t k (r.map Known.pos) f l m=(((r.filter fun x=>decide (x.text=t)).map Known.pos).getLastD f,(r.map Known.pos).getLastD l,m+r.length)
  | [],_,_,_,_=>rfl
  | x :: r,f,l,m,hx=>by
    have h1:=hx x (by simp);rw[List.map_cons,lookL,lookL_eq r _ _ _ fun y hy=>hx y (by simp[hy]),List.getLastD_cons,List.length_cons,show m+1+r.length=m+(r.length+1)by omega];by_cases ht:x.text=t
    · rw[if_pos (h1.2 ht),List.filter_cons_of_pos (by simpa using ht),List.map_cons,List.getLastD_cons]
    · rw[if_neg (fun h=>ht (h1.1 h)),List.filter_cons_of_neg (by simpa using ht)]
theorem lastD_all {L:List Nat} {f p:Nat} (h:∀x∈L,x=p) (h0:L≠[]):L.getLastD f=p:=by
  rw[List.getLastD_eq_getLast?,List.getLast?_eq_some_getLast h0];exact h _ (List.getLast_mem h0)
theorem Objs.size8 {b:Ly} {l:List Ob} {p e:Nat} {o:Ob} (hO:Objs b p l e) (ho:o∈l):at8 b (o.pos+8)=o.size:=by
  have h:=hO.mem ho;rw[at8_part h.hd (by omega)];unfold hdr;rw[at8_skip (by simp)];exact at8_nums' (l:=[o.size]) (i:=0) rfl h.size.2
theorem found_none {t:Ly} {ks:List Known} (h:∀k∈ks,k.text≠t) (s:Nat):(((ks.filter fun k=>decide (k.slot=s)).filter fun x=>decide (x.text=t)).map Known.pos).getLastD 0=0:=by
  have:(ks.filter fun k=>decide (k.slot=s)).filter (fun x=>decide (x.text=t))=[]:=by
    rw[List.filter_eq_nil_iff];intro x A;simpa using h x (List.mem_filter.1 A).1
  rw[this];rfl
theorem found_some {t:Ly} {ks:List Known} {k:Known} (hk:k∈ks) (ht:k.text=t) (h1:∀x∈ks,x.text=t→x.pos=k.pos):(((ks.filter fun x=>decide (x.slot=k.slot)).filter fun x=>decide (x.text=t)).map Known.pos).getLastD 0=k.pos:=by
  refine lastD_all (fun p D=>?_) (fun e=>?_)
  · obtain⟨x,E,rfl⟩:=List.mem_map.1 D
    obtain⟨B,C⟩:=List.mem_filter.1 E;exact h1 x (List.mem_filter.1 B).1 (by simpa using C)
  · have:k.pos∈(((ks.filter fun x=>decide (x.slot=k.slot)).filter fun x=>decide (x.text=t)).map Known.pos):=List.mem_map.2 ⟨k,List.mem_filter.2 ⟨List.mem_filter.2 ⟨hk,by simp⟩,by simpa using ht⟩,rfl⟩
    rw[e]at this;simp at this
/-- A chain of a hash table, looked through for a text. -/
theorem look_row {b:Ly} {tab n k h:Nat} {ks:List Known} {t:Ly} (R:Row24 b tab n ks) {s:Nat} (hs:s<n)
    (hp:∀x∈ks,x.pos≠0∧at8 b (x.pos+8)=k+x.text.length∧x.pos+(k+x.text.length)≤b.length∧seg b (x.pos+k) x.text.length=x.text∧(x.text=t→at8 b (x.pos+16)=h)) (h40:40≤k) (hl:ks.length≤b.length) :
    lookG b h t k b.length (at8 b (tab+16*s)) 0 0 0=((((ks.filter fun x=>decide (x.slot=s)).filter fun x=>decide (x.text=t)).map Known.pos).getLastD 0,(hangL s ks 0 0).2,(hangL s ks 0 0).1)∧okG b k b.length (at8 b (tab+16*s))=true:=by
  have T:=R.thr (fun x B=>(hp x B).1) hs;have A:(slotP ks s).length≤b.length:=(by unfold slotP;rw[List.length_map];exact lv (List.length_filter_le _ _) hl);refine⟨?_,okG_list _ _ _ T A fun a G=>?_⟩
  · rw[lookG_list _ _ _ _ _ _ T A,hangL_eq]
    unfold slotP;rw[lookL_eq _ _ _ _ fun x B=>?_]
    · simp[List.length_map]
    · obtain⟨_,C,D,E,F⟩:=hp x (List.mem_filter.1 B).1
      have e:(b.take (x.pos+at8 b (x.pos+8))).drop (x.pos+k)=x.text:=by
        rw[List.drop_take,C,show x.pos+(k+x.text.length)-(x.pos+k)=x.text.length by omega];exact E
      rw[e];exact⟨fun h=>h.2,fun h=>⟨F h,h⟩⟩
  · obtain⟨x,B,e,_⟩:=slotP_mem G
    subst e;obtain⟨_,C,D,_⟩:=hp x B;rw[C];exact⟨by omega,by omega,D⟩
end Go.Wk
namespace Go.Wk
open Go Go.RowKit
def hdD (d:Drf):Nat × Nat × Nat × List UInt8 × List UInt8 × List UInt8 × List UInt8 × Nat × Nat × Nat:=(d.h.compat,d.h.incompat,d.h.state,d.h.file,d.h.machine,d.h.boot,d.h.seq,d.h.tailArray,d.h.tailItems,d.h.tailEntry)
def hdM (m:Mk):Nat × Nat × Nat × List UInt8 × List UInt8 × List UInt8 × List UInt8 × Nat × Nat × Nat:=(m.h.compat,m.h.incompat,m.h.state,m.h.file,m.h.machine,m.h.boot,m.h.seq,m.h.tailArray,m.h.tailItems,m.h.tailEntry)
/-- The draft is the maker's journal. -/
structure Sim (s:Nat) (d:Drf) (m:Mk):Prop where
  agr:Agr d.b m.b
  len:d.h.n.length=21
  lem:m.h.n.length=20
  n0:d.num 0=272
  n1:d.num 1=d.b.length-272
  n3:d.num 3=16*m.c.dataSlots
  n5:d.num 5=16*m.c.fieldSlots
  num:∀i,i≠1→i≠8∧i<20→d.num i=m.num i
  n8:d.num 8=m.num 8+s
  dep:d.num 20=m.depth
  hd:hdD d=hdM m
  file:m.h.file=m.c.file
  key:m.h.incompat=if m.c.keyed=true then 4 else 0
  hl:d.h.file.length=16∧d.h.machine.length=16∧d.h.boot.length=16∧d.h.seq.length=16∧d.h.state<256
theorem dnum_ne {d:Drf} {k v j:Nat} (h:k≠j):(d.setN k v).num j=d.num j:=getD_setW h
theorem dnum_eq {d:Drf} {k v:Nat} (h:k<d.h.n.length):(d.setN k v).num k=v:=by
  show(d.h.n.set k v).getD k 0=v;rw[List.getD_eq_getElem?_getD,List.getElem?_set_self h];rfl
theorem Sim.hash {s:Nat} {d:Drf} {m:Mk} (S:Sim s d m) (t:Ly):d.hash t=hashM m t:=by
  have h:=S.hd;unfold hdD hdM at h;simp only[Prod.mk.injEq]at h;obtain⟨_,A,_,B,_⟩:=h;unfold Drf.hash hashM;rw[A,B,S.file,S.key]
  cases m.c.keyed <;> rfl
theorem Sim.to {s:Nat} {d:Drf} {m m':Mk} (S:Sim s d m) (hb:m'.b=m.b) (hc:m'.c=m.c) (hh:m'.h=m.h) (hp:m'.depth=m.depth):Sim s d m':=by
  have A:∀i,m'.num i=m.num i:=fun i=>by show m'.h.n.getD i 0=_;rw[hh];rfl
  exact⟨by rw[hb];exact S.agr,S.len,by rw[hh];exact S.lem,S.n0,S.n1,by rw[hc];exact S.n3,by rw[hc];exact S.n5,fun i B C=>by rw[A];exact S.num i B C,by rw[A];exact S.n8,by rw[hp];exact S.dep,by unfold hdM;rw[hh];exact S.hd,by rw[hh,hc];exact S.file,by rw[hh,hc];exact S.key,S.hl⟩
theorem Sim.put {s:Nat} {d:Drf} {m:Mk} (S:Sim s d m) (p v:Nat):Sim s (d.put p v) (m.put p v) :=
  ⟨S.agr.put p v,S.len,S.lem,S.n0,by show d.num 1=(putN d.b p v).length-272;rw[putN_len];exact S.n1,S.n3,S.n5,S.num,S.n8,S.dep,S.hd,S.file,S.key,S.hl⟩
theorem Sim.setN {s:Nat} {d:Drf} {m:Mk} (S:Sim s d m) {k v:Nat} (hk:k≠0∧k≠1∧k≠3∧k≠5∧k≠8∧k<20):Sim s (d.setN k v) (m.setN k v):=by
  refine⟨S.agr,by show(d.h.n.set k v).length=21;rw[List.length_set];exact S.len,by show(m.h.n.set k v).length=20;rw[List.length_set];exact S.lem,(dnum_ne (by omega)).trans S.n0,(dnum_ne (by omega)).trans S.n1,(dnum_ne (by omega)).trans S.n3,(dnum_ne (by omega)).trans S.n5,fun i B A=>?_,by rw[dnum_ne (by omega),num_setN (by omega)];exact S.n8,(dnum_ne (by omega)).trans S.dep,S.hd,S.file,S.key,S.hl⟩;by_cases e:k=i
  · subst e
    rw[dnum_eq (by rw[S.len];omega),num_same (by rw[S.lem];exact A.2)]
  · rw[dnum_ne e,num_setN e];exact S.num i B A
theorem Sim.setD {s:Nat} {d:Drf} {m:Mk} (S:Sim s d m) (v:Nat):Sim s (d.setN 20 v) {m with depth:=v} :=
  ⟨S.agr,by show(d.h.n.set 20 v).length=21;rw[List.length_set];exact S.len,S.lem,(dnum_ne (by omega)).trans S.n0,(dnum_ne (by omega)).trans S.n1,(dnum_ne (by omega)).trans S.n3,(dnum_ne (by omega)).trans S.n5,fun i h1 h2=>(dnum_ne (by omega)).trans (S.num i h1 h2),(dnum_ne (by omega)).trans S.n8,dnum_eq (by rw[S.len];omega),S.hd,S.file,S.key,S.hl⟩
theorem Sim.app {s:Nat} {d:Drf} {m:Mk} (S:Sim s d m) (o:Ly):Sim s (({d with b:=d.b ++ o}:Drf).setN 1 ((d.b ++ o).length-272)) {m with b:=m.b ++ o} :=
  ⟨S.agr.app o,by show(d.h.n.set 1 _).length=21;rw[List.length_set];exact S.len,S.lem,(dnum_ne (d:={d with b:=d.b ++ o}) (by omega)).trans S.n0,dnum_eq (d:={d with b:=d.b ++ o}) (by show 1<d.h.n.length;rw[S.len];omega),(dnum_ne (d:={d with b:=d.b ++ o}) (by omega)).trans S.n3,(dnum_ne (d:={d with b:=d.b ++ o}) (by omega)).trans S.n5,fun i h1 h2=>(dnum_ne (d:={d with b:=d.b ++ o}) (by omega)).trans (S.num i h1 h2),(dnum_ne (d:={d with b:=d.b ++ o}) (by omega)).trans S.n8,(dnum_ne (d:={d with b:=d.b ++ o}) (by omega)).trans S.dep,S.hd,S.file,S.key,S.hl⟩
theorem Sim.add {s:Nat} {d:Drf} {m:Mk} (S:Sim s d m) (o:Ly):(d.add o).1=(m.object o).1∧(d.add o).1=d.b.length∧Sim s (d.add o).2 (m.object o).2:=by
  refine⟨S.agr.1,rfl,?_⟩;have E:=S.app o;have B:=(E.setN (k:=6) (v:=d.b.length) (by decide));have G:=B.setN (k:=7) (v:=((({d with b:=d.b ++ o}:Drf).setN 1 ((d.b ++ o).length-272)).setN 6 d.b.length).num 7+1%18446744073709551616) (by decide);have C:=B.setN (k:=7) (v:=(((({d with b:=d.b ++ o}:Drf).setN 1 ((d.b ++ o).length-272)).setN 6 d.b.length).num 7+1)%18446744073709551616) (by decide);have A:((({d with b:=d.b ++ o}:Drf).setN 1 ((d.b ++ o).length-272)).setN 6 d.b.length).num 7=(({m with b:=m.b ++ o}:Mk).setN 6 d.b.length).num 7:=B.num 7 (by decide) (by decide);have F:({d with b:=d.b ++ o}:Drf).num 0=272:=S.n0;unfold Drf.add Mk.object;simp only;rw[F];rw[A]at C;have D:=S.agr.1;rw[D]at C A;rw[show d.b.length=m.b.length from D,A];exact C
theorem Sim.hang {s:Nat} {d:Drf} {m:Mk} (S:Sim s d m) {c:Chn} {ks:List Known} {tab slot p:Nat} (h1:c.slot=tab+16*slot) (h2:c.last=(hangL slot ks 0 0).2) (h3:c.last=0↔(hangL slot ks 0 0).1=0):Sim s (d.join c p) (m.hang ks tab p slot).2:=by
  unfold Drf.join Mk.hang
  generalize hangL slot ks 0 0=r at *;obtain⟨n,q⟩:=r;simp only at h2 h3 ⊢;rw[h1];by_cases h0:n=0
  · rw[if_pos h0,if_pos (h3.2 h0)]
    exact(S.put _ _).put _ _
  · rw[if_neg h0,if_neg (fun h=>h0 (h3.1 h)),h2]
    exact(S.put _ _).put _ _
/-- A chain that is looked through. -/
theorem Sim.look {s:Nat} {d:Drf} {m:Mk} (S:Sim s d m) {ks:List Known} {tab n k:Nat} (R:Row24 m.b tab n ks) (h272:272≤tab) (hn:1≤n) (htop:tab+16*n≤m.b.length) (hk:40≤k) (hl:ks.length≤m.b.length)
    (ho:∀x∈ks,272≤x.pos∧at8 m.b (x.pos+8)=k+x.text.length∧x.pos+(k+x.text.length)≤m.b.length∧seg m.b (x.pos+k) x.text.length=x.text∧at8 m.b (x.pos+16)=hashM m x.text) (t:Ly) :
    d.okL tab (16*n) t k∧(d.look tab (16*n) t k).slot=tab+16*(hashM m t%n)∧(d.look tab (16*n) t k).last=(hangL (hashM m t%n) ks 0 0).2∧(d.look tab (16*n) t k).many=(hangL (hashM m t%n) ks 0 0).1 ∧
    ((d.look tab (16*n) t k).last=0↔(hangL (hashM m t%n) ks 0 0).1=0) ∧
    (d.look tab (16*n) t k).found=(((ks.filter fun x=>decide (x.slot=hashM m t%n)).filter fun x=>decide (x.text=t)).map Known.pos).getLastD 0:=by
  have A:=S.agr;have E:hashM m t%n<n:=Nat.mod_lt _ (by omega);have R':Row24 d.b tab n ks:=R.keepE (fun s E=>A.at8 (by omega)) fun x B=>A.at8 (by have:=ho x B;omega)
  have D:=look_row (b:=d.b) (k:=k) (h:=hashM m t) (t:=t) R' E (fun x B=>by
    obtain⟨K,F,G,H,I⟩:=ho x B;refine⟨by omega,by rw[A.at8 (by omega)];exact F,by rw[A.1];exact G,by rw[A.seg (by omega)];exact H,fun e=>by rw[A.at8 (by omega),I,e]⟩) hk (by rw[A.1];exact hl)
  have sl:d.slot tab (16*n) t=tab+16*(hashM m t%n):=by
    unfold Drf.slot;rw[S.hash,Nat.mul_div_cancel_left _ (by decide),Nat.mul_comm]
  have e:d.look tab (16*n) t k={slot:=tab+16*(hashM m t%n),found:=(((ks.filter fun x=>decide (x.slot=hashM m t%n)).filter fun x=>decide (x.text=t)).map Known.pos).getLastD 0,last:=(hangL (hashM m t%n) ks 0 0).2,many:=(hangL (hashM m t%n) ks 0 0).1}:=by
    unfold Drf.look;rw[sl,S.hash,D.1]
  refine⟨⟨by omega,by rw[A.1];exact htop,by rw[sl];exact D.2⟩,by rw[e],by rw[e],by rw[e],?_,by rw[e]⟩;rw[e];simp only;rw[hangL_eq];simp only[Nat.zero_add]
  constructor
  · intro C
    by_cases hne:slotP ks (hashM m t%n)=[]
    · rw[hne];rfl
    · have:=lastD_get _ hne
      rw[C]at this;obtain⟨x,B,J,_⟩:=slotP_mem (List.mem_of_getElem? this);have:=ho x B;omega
  · intro C
    rw[List.eq_nil_of_length_eq_zero C];rfl
/-- What is wanted of a maker's names. -/
structure FOk (m:Mk) (l:List Ob):Prop where
  stat:Stat m l
  r5:Row24 m.b (304+16*m.c.dataSlots) m.c.fieldSlots m.fields
  s5:∀k∈m.fields,k.slot=hashM m k.text%m.c.fieldSlots
  one:∀x∈m.fields,∀y∈m.fields,x.text=y.text→x=y
  c16:m.fields.length≤m.b.length
theorem Stat.tabs {m:Mk} {l:List Ob} (h:Stat m l):304+16*m.c.dataSlots+16*m.c.fieldSlots≤m.b.length:=by
  have:=(h.objs.mem h.tab5).le;have:=up8_ge (16+16*m.c.fieldSlots);simp only at *;omega
theorem Stat.fobs {m:Mk} {l:List Ob} (h:Stat m l):∀x∈m.fields,272≤x.pos∧at8 m.b (x.pos+8)=40+x.text.length∧x.pos+(40+x.text.length)≤m.b.length∧seg m.b (x.pos+40) x.text.length=x.text∧at8 m.b (x.pos+16)=hashM m x.text:=fun x hx=>by
  have f:=h.fld x hx;have o:=h.objs.mem f.ob;have:=o.ge;have:=o.le;have:=up8_ge (40+x.text.length);simp only at *;exact⟨by omega,h.objs.size8 f.ob,by omega,f.text,f.hash⟩
theorem Stat.dobs {m:Mk} {l:List Ob} (h:Stat m l):∀x∈m.datas,272≤x.pos∧at8 m.b (x.pos+8)=64+x.text.length∧x.pos+(64+x.text.length)≤m.b.length∧seg m.b (x.pos+64) x.text.length=x.text∧at8 m.b (x.pos+16)=hashM m x.text:=fun x hx=>by
  have f:=h.data x hx;have o:=h.objs.mem f.ob;have:=o.ge;have:=o.le;have:=up8_ge (64+x.text.length);simp only at *;exact⟨by omega,h.objs.size8 f.ob,by omega,f.text,f.hash⟩
/-- A name is found, or put. -/
theorem Sim.name {s:Nat} {d:Drf} {m:Mk} {l:List Ob} (S:Sim s d m) (F:FOk m l) (t:Ly):d.okL (d.num 4) (d.num 5) t 40∧(d.name t).1=(m.field t).1∧Sim s (d.name t).2 (m.field t).2:=by
  have sl:=F.stat.slots;have T:d.num 4=304+16*m.c.dataSlots:=(S.num 4 (by decide) (by decide)).trans F.stat.n4;obtain⟨L,M,N,D,O,E⟩:=S.look F.r5 (by omega) sl.2 F.stat.tabs (by omega) F.c16 F.stat.fobs t;rw[← S.n5,← T]at L M N D O E;refine⟨L,?_⟩;unfold Drf.name Mk.field;simp only
  generalize hc:d.look (d.num 4) (d.num 5) t 40=c at *
  cases hk:findK t m.fields with
  | some p =>
    obtain⟨k,B,b,K⟩:=findK_mem hk
    have e:c.found=p:=by
      rw[E,← b];have:=found_some (ks:=m.fields) B K fun x Z I=>by rw[F.one x Z k B (I.trans K.symm)]
      rw[F.s5 k B,K]at this;exact this
    have Y:c.found≠0:=(by have:=F.stat.fobs k B;omega);rw[if_pos Y];exact⟨e,S⟩
  | none =>
    have e:c.found=0:=(by rw[E];exact found_none (findK_none hk) _);rw[if_neg (by omega)];simp only;rw[S.hash];unfold hashM;obtain⟨P,U,G⟩:=S.add (putFieldF {hash:=hashN m.c.keyed m.c.file t,nextHash:=0,dat:=0,payload:=t});have Q:=object_same m (putFieldF {hash:=hashN m.c.keyed m.c.file t,nextHash:=0,dat:=0,payload:=t});have R:=obj_num m (putFieldF {hash:=hashN m.c.keyed m.c.file t,nextHash:=0,dat:=0,payload:=t}) (i:=4) (by decide);have X:(m.object (putFieldF {hash:=hashN m.c.keyed m.c.file t,nextHash:=0,dat:=0,payload:=t})).2.depth=m.depth:=rfl
    generalize d.add (putFieldF {hash:=hashN m.c.keyed m.c.file t,nextHash:=0,dat:=0,payload:=t})=r at *
    generalize m.object (putFieldF {hash:=hashN m.c.keyed m.c.file t,nextHash:=0,dat:=0,payload:=t})=r' at *;obtain⟨p,A⟩:=r;obtain⟨u,C⟩:=r';simp only at P U G Q R X ⊢;subst P;obtain⟨V,j,W,_⟩:=Q;rw[V,W,R,F.stat.n4];have J:=G.hang (c:=c) (ks:=m.fields) (tab:=304+16*m.c.dataSlots) (slot:=hashM m t%m.c.fieldSlots) (p:=p) (by rw[M,T]) N O;have H:(C.hang m.fields (304+16*m.c.dataSlots) p (hashM m t%m.c.fieldSlots)).1=(hangL (hashM m t%m.c.fieldSlots) m.fields 0 0).1:=(by unfold Mk.hang;rfl);unfold hashM at J H D
    generalize C.hang m.fields (304+16*m.c.dataSlots) p (hashN m.c.keyed m.c.file t%m.c.fieldSlots)=r at *;obtain⟨n,o⟩:=r;simp only at J H ⊢;rw[H,← D];refine⟨trivial,?_⟩
    have a:(A.join c p).num 20=C.depth:=by
      have:=(join_h A c p).1;show(A.join c p).h.n.getD 20 0=_;rw[this];exact G.dep
    have f:=J.setN (k:=16) (v:=((A.join c p).num 16+1)%18446744073709551616) (by decide);have g:=f.setD (max (((A.join c p).setN 16 (((A.join c p).num 16+1)%18446744073709551616)).num 20) c.many);refine g.to rfl rfl ?_ ?_
    · rw[J.num 16 (by decide) (by decide)];rfl
    · show max C.depth c.many=max _ c.many
      rw[dnum_ne (by decide),a]
end Go.Wk
namespace Go.Wk
open Go Go.RowKit
/-- A new payload's object, in its chain; the name comes next. -/
def Mk.mid (m:Mk) (x:Pr):Mk :=
  match m.object (putDataF {hash:=hashN m.c.keyed m.c.file (payload x),nextHash:=0,nextField:=0,entry:=0,array:=0,count:=0,payload:=payload x})with
  | (p,m1)=>match m1.hang m1.datas (m1.num 2) p (hashN m.c.keyed m.c.file (payload x)%m1.c.dataSlots)with
    | (n,m2) =>
      let m3:=m2.setN 19 (max (m2.num 19) n)
      let m4:=m3.setN 15 ((m3.num 15+1)%18446744073709551616)
      {m4 with datas:=m4.datas ++ [({text:=payload x,pos:=p,slot:=hashN m.c.keyed m.c.file (payload x)%m1.c.dataSlots,count:=0,arrays:=[]}:Known)]}
def Mk.mid2 (m:Mk) (p k:Nat):Mk:=(m.put (p+32) (getF m.b (k+32:Nat) 8).1).put (k+32) p
theorem data_mid {m:Mk} {x:Pr} (hk:findI (payload x) m.datas 0=none):m.data x=((((m.mid x).field x.name).2.mid2 m.b.length ((m.mid x).field x.name).1).datas.length-1,((m.mid x).field x.name).2.mid2 m.b.length ((m.mid x).field x.name).1):=by
  unfold Mk.data Mk.mid;rw[hk];rfl
theorem mid_stat {m:Mk} {l:List Ob} (h:Stat m l) {x:Pr} (hno:∀k∈m.datas,k.text≠payload x) (hx:x.name.length≤64∧x.value.length≤256) :
    Stat (m.mid x) (l ++ [⟨m.b.length,1,64+(payload x).length⟩])∧(m.mid x).fields=m.fields∧(m.mid x).c=m.c∧(m.mid x).datas=m.datas ++ [kn (payload x) m.b.length (hashM m (payload x)%m.c.dataSlots)] ∧
    (m.mid x).b=hangB (m.b ++ dobj (hashM m (payload x)) (payload x)) m.datas 288 m.b.length (hashM m (payload x)%m.c.dataSlots):=by
  obtain⟨J,A⟩:∃M,M=m.mid x:=⟨_,rfl⟩;rw[← A];unfold Mk.mid at A;have Ap:=payload_len x;have Y:dobj (hashM m (payload x)) (payload x)=putDataF {hash:=hashN m.c.keyed m.c.file (payload x),nextHash:=0,nextField:=0,entry:=0,array:=0,count:=0,payload:=payload x}:=rfl;rw[Y]
  generalize hF:putDataF {hash:=hashN m.c.keyed m.c.file (payload x),nextHash:=0,nextField:=0,entry:=0,array:=0,count:=0,payload:=payload x}=o at A ⊢;have g:o=putF 1 (nums [hashM m (payload x),0,0,0,0,0] ++ payload x):=hF.symm;obtain⟨⟨r,d⟩,e,f3,f⟩:=objB (k:=1) (by decide) [hashM m (payload x),0,0,0,0,0] (payload x) (by have:=hashM_lt m (payload x);intro v hv;simp at hv;omega);rw[← g]at d e f3 f;simp only[List.length_cons,List.length_nil,Nat.zero_add,Nat.reduceAdd,Nat.reduceMul]at d e f;have K:=SoftStep.obj (m:=m) (o:=o) h.objs (.inl rfl) d e (by omega) (by omega);have W:(m.object o).2.b=m.b ++ o:=rfl;have g1:(m.object o).1=m.b.length:=rfl;have I:=object_same m o;have V:(m.object o).2.num 2=m.num 2:=(by simp only[Mk.object];rw[num_setN (by omega),num_setN (by omega)];rfl)
  generalize m.object o=z at *;obtain⟨p,D⟩:=z;simp only at K W g1 I V A ⊢;subst g1;have hs:hashN m.c.keyed m.c.file (payload x)%D.c.dataSlots<m.c.dataSlots:=(by rw[I.1];exact Nat.mod_lt _ (by have:=h.slots;omega));have tt:=soft4 h hs;rw[← V]at tt
  have Q:=SoftStep.hang (m:=D) (p:=m.b.length) (ks:=D.datas) K.objs ⟨tt.1.mono K.mem,tt.2.mono K.mem⟩ (fun k hk=>by
    rw[I.2.1]at hk;have:=(h.data k hk).ob;exact⟨_,K.mem _ this,.inr ⟨.inl ⟨rfl,by simp only;omega⟩,.inl rfl⟩⟩)
  have C:=hang_same D D.datas (D.num 2) m.b.length (hashN m.c.keyed m.c.file (payload x)%D.c.dataSlots);have O:=hang_b D D.datas (D.num 2) m.b.length (hashN m.c.keyed m.c.file (payload x)%D.c.dataSlots);have Z:hashN m.c.keyed m.c.file (payload x)%D.c.dataSlots=hashM m (payload x)%m.c.dataSlots:=(by rw[I.1];rfl);rw[V,h.n2,I.2.1,W]at O;rw[← Z]
  generalize hsl:hashN m.c.keyed m.c.file (payload x)%D.c.dataSlots=slot at *;rw[V,h.n2,I.2.1]at Q C A
  generalize D.hang m.datas 288 m.b.length slot=z at *;obtain⟨n,P⟩:=z;simp only at Q C O A ⊢;obtain⟨d1,d2,d3,d4,d5,d6⟩:=C;have S3:=K.trans Q;have U:J.b=P.b∧J.c=P.c∧J.main=P.main∧J.fields=P.fields∧J.datas=P.datas ++ [({text:=payload x,pos:=m.b.length,slot:=slot,count:=0,arrays:=[]}:Known)]:=(by subst A;exact⟨rfl,rfl,rfl,rfl,rfl⟩)
  have S5:=S3.to (m'':=J) U.1 U.2.1 U.2.2.1 (fun i _ _ h3=>by
    subst A;exact(num_setN (m:=P.setN 19 (max (P.num 19) n)) (by omega)).trans (num_setN (by omega))) (by subst A;simp[Mk.setN])
  clear A;obtain⟨a1,a2,a3,a4,a5⟩:=U;have H:J.datas=m.datas ++ [({text:=payload x,pos:=m.b.length,slot:=slot,count:=0,arrays:=[]}:Known)]:=(by rw[a5,d2]);have N:J.fields=m.fields:=(by rw[a4,d3,I.2.2.1]);have S:(⟨m.b.length,1,64+(payload x).length⟩:Ob)∈l ++ [⟨m.b.length,1,64+(payload x).length⟩]:=(by simp);refine⟨?_,N,by rw[a2,d1,I.1],H,by rw[a1,O]⟩;refine h.step S5 (fun k hk=>?_) (fun k hk=>.inl (N ▸ hk)) (fun i j k X G t F=>?_) (fun y E hk=>?_) (fun y E hk=>?_)
  · rw[H,List.mem_append,List.mem_singleton]at hk
    rcases hk with hk|rfl
    · exact .inl hk
    · right
      have k0:DatS D.b (l ++ [⟨m.b.length,1,64+(payload x).length⟩]) (hashM m (payload x)) ({text:=payload x,pos:=m.b.length,slot:=slot,count:=0,arrays:=[]}:Known):=by
        refine⟨S,?_,?_⟩
        · rw[W,at8_new];exact f3 0 _ rfl
        · rw[W,seg_new'];exact f
      rw[a1];exact k0.eff K.objs Q.eff (fun a ha=>ha.mild Q.objs) fun _ h=>h
  · rw[H]at G t
    have T:∀(i:Nat) (k:Known),m.datas[i]? = some k→k.pos+16≤m.b.length∧k.text≠payload x:=fun i k G=>by
      have hm:=List.mem_of_getElem? G;have:=(h.objs.mem (h.data k hm).ob).le;have:=up8_ge (64+k.text.length);simp only at *;exact⟨by omega,hno k hm⟩
    have B:∀(i:Nat) (k:Known),(m.datas ++ [({text:=payload x,pos:=m.b.length,slot:=slot,count:=0,arrays:=[]}:Known)])[i]? = some k→(m.datas[i]? = some k)∨i=m.datas.length∧k={text:=payload x,pos:=m.b.length,slot:=slot,count:=0,arrays:=[]}:=fun i k G=>by
      rcases Nat.lt_or_ge i m.datas.length with u|u
      · rw[List.getElem?_append_left u]at G;exact .inl G
      · have w:=(List.getElem?_eq_some_iff.1 G).1
        simp at w;rw[List.getElem?_append_right u,show i-m.datas.length=0 by omega]at G;exact .inr ⟨by omega,by simpa using G.symm⟩
    rcases B i k G with R|⟨R,rfl⟩
    · rcases B j X t with L|⟨L,rfl⟩
      · exact h.one i j k X R L F
      · have:=T i k R
        rcases F with F|F
        · simp only at F;omega
        · exact absurd F this.2
    · rcases B j X t with L|⟨L,rfl⟩
      · have:=T j X L
        rcases F with F|F
        · simp only at F;omega
        · exact absurd F.symm this.2
      · omega
  · rw[H]
    rcases List.mem_append.1 E with E|E
    · obtain⟨k,R,L⟩:=h.all y E hk
      exact⟨k,List.mem_append_left _ R,L⟩
    · simp at E;subst E
      exact⟨({text:=payload x,pos:=m.b.length,slot:=slot,count:=0,arrays:=[]}:Known),List.mem_append_right _ (by simp),rfl⟩
  · rw[N]
    rcases List.mem_append.1 E with E|E
    · exact h.allf y E hk
    · simp at E;subst E;simp at hk
/-- Names are as they were. -/
theorem mid_fok {m:Mk} {l:List Ob} (h:Stat m l) (H:Hs m) {x:Pr} (hno:∀k∈m.datas,k.text≠payload x) (hx:x.name.length≤64∧x.value.length≤256):FOk (m.mid x) (l ++ [⟨m.b.length,1,64+(payload x).length⟩]):=by
  obtain⟨Q,C,G,U,K⟩:=mid_stat h hno hx;have P:∀t,hashM (m.mid x) t=hashM m t:=fun t=>by unfold hashM;rw[G]
  obtain⟨M,I,R,S,D⟩:=h.dd;have E:hashM m (payload x)%m.c.dataSlots<m.c.dataSlots:=Nat.mod_lt _ (by have:=h.slots;omega);have L:=h.tabs
  have A:∀a,a+8≤m.b.length→(a+8≤288+16*(hashM m (payload x)%m.c.dataSlots)∨288+16*(hashM m (payload x)%m.c.dataSlots)+16≤a)→(∀y∈m.datas,a+8≤y.pos+24∨y.pos+32≤a)→at8 (m.mid x).b a=at8 m.b a:=fun a B N O=>by
    rw[K];exact(hangB_at (k:=kn (payload x) m.b.length (hashM m (payload x)%m.c.dataSlots)) (n:=m.c.dataSlots) E N O).trans (at8_app B)
  refine⟨Q,?_,fun k hk=>?_,fun a B c J=>?_,?_⟩
  · rw[C,G]
    exact H.r5.keepE (fun s T=>A _ (by omega) (by omega) fun y F=>by have:=M y F;omega) fun k hk=>A _ (by have:=I k hk;omega) (by have:=I k hk;omega) fun y F=>by have:=D y F k hk;omega
  · rw[C]at hk;rw[P,G];exact H.s5 k hk
  · rw[C]at B J;exact H.one a B c J
  · rw[C,K,hangB_len,List.length_append];have:=H.c16;omega
set_option maxRecDepth 4000 in
/-- A datum is found, or put. -/
theorem Sim.data {s:Nat} {d:Drf} {m:Mk} {l:List Ob} (S:Sim s d m) (h:Stat m l) (H:Hs m) {x:Pr} (hj:(joinF x).1=payload x) (hx:x.name.length≤64∧x.value.length≤256) (hb:m.b.length≤700000) :
    d.okDat x∧(d.data x.name (joinF x).1).1={pos:=posAt (m.data x).2.datas (m.data x).1,hash:=hashM m (payload x)}∧Sim s (d.data x.name (joinF x).1).2 (m.data x).2:=by
  have sl:=h.slots;have Ag:=h.tabs;have Ap:=payload_len x;have n2:d.num 2=288:=(S.num 2 (by decide) (by decide)).trans h.n2;obtain⟨L,Z,a,M,g,O⟩:=S.look H.r4 (by omega) sl.1 (by omega) (by omega) H.c15 h.dobs (payload x);rw[← S.n3,← n2]at L Z a M g O
  have A:d.b.length≤800000∧d.h.n.getD 0 0≤d.b.length∧(payload x).length≤1000∧x.name.length≤1000:=by
    have:=S.agr.1;have Q:d.h.n.getD 0 0=272:=S.n0;exact⟨by omega,by omega,by omega,by omega⟩
  unfold Drf.okDat Drf.data;simp only[hj]
  cases hk:findI (payload x) m.datas 0 with
  | some i =>
    obtain⟨k,E,V,_⟩:=findI_get hk;have W:=List.mem_of_getElem? E;rw[Nat.sub_zero]at E
    have e:(d.look (d.num 2) (d.num 3) (payload x) 64).found=k.pos:=by
      rw[O]
      have:=found_some (ks:=m.datas) W V fun y hy U=>by
        obtain⟨j,hj⟩:=List.mem_iff_getElem?.1 hy;have:=h.one j i y k hj E (.inr (U.trans V.symm));subst this;rw[hj]at E;rw[Option.some.inj E]
      rw[H.s4 k W,V]at this;exact this
    have Q:(d.look (d.num 2) (d.num 3) (payload x) 64).found≠0:=(by have:=h.dobs k W;omega);have em:m.data x=(i,m):=(by unfold Mk.data;rw[hk]);rw[em,if_pos Q];refine⟨⟨L,A.1,A.2.1,A.2.2.1,A.2.2.2,.inl Q⟩,?_,S⟩;simp only;rw[e,S.hash,(textAt_get E).2]
  | none =>
    have B:=findI_none hk;have e:(d.look (d.num 2) (d.num 3) (payload x) 64).found=0:=(by rw[O];exact found_none B _);have F:=mid_fok h H B hx;obtain⟨s1,s2,s3,s4,s5⟩:=mid_stat h B hx
    have N:(d.newData (payload x)).1=m.b.length∧Sim s (d.newData (payload x)).2 (m.mid x):=by
      unfold Drf.newData Mk.mid;simp only
      generalize hc:d.look (d.num 2) (d.num 3) (payload x) 64=c at *;rw[S.hash];unfold hashM;obtain⟨w,a2,z⟩:=S.add (putDataF {hash:=hashN m.c.keyed m.c.file (payload x),nextHash:=0,nextField:=0,entry:=0,array:=0,count:=0,payload:=payload x});have g1:(m.object (putDataF {hash:=hashN m.c.keyed m.c.file (payload x),nextHash:=0,nextField:=0,entry:=0,array:=0,count:=0,payload:=payload x})).1=m.b.length:=rfl;have g2:=object_same m (putDataF {hash:=hashN m.c.keyed m.c.file (payload x),nextHash:=0,nextField:=0,entry:=0,array:=0,count:=0,payload:=payload x});have g4:=obj_num m (putDataF {hash:=hashN m.c.keyed m.c.file (payload x),nextHash:=0,nextField:=0,entry:=0,array:=0,count:=0,payload:=payload x}) (i:=2) (by decide)
      generalize d.add (putDataF {hash:=hashN m.c.keyed m.c.file (payload x),nextHash:=0,nextField:=0,entry:=0,array:=0,count:=0,payload:=payload x})=r at *
      generalize m.object (putDataF {hash:=hashN m.c.keyed m.c.file (payload x),nextHash:=0,nextField:=0,entry:=0,array:=0,count:=0,payload:=payload x})=r' at *;obtain⟨p,D⟩:=r;obtain⟨p',m1⟩:=r';simp only at w a2 z g1 g2 g4 ⊢;subst w;obtain⟨c1,c2,c3,_⟩:=g2;rw[c1,c2,g4,h.n2];have J:=z.hang (c:=c) (ks:=m.datas) (tab:=288) (slot:=hashM m (payload x)%m.c.dataSlots) (p:=p) (by rw[Z,n2]) a g;have T:(m1.hang m.datas 288 p (hashM m (payload x)%m.c.dataSlots)).1=(hangL (hashM m (payload x)%m.c.dataSlots) m.datas 0 0).1:=(by unfold Mk.hang;rfl);unfold hashM at J T M
      generalize m1.hang m.datas 288 p (hashN m.c.keyed m.c.file (payload x)%m.c.dataSlots)=r at *;obtain⟨n,C⟩:=r;simp only at J T ⊢;rw[T,← M];refine⟨g1,?_⟩;have q1:=J.setN (k:=15) (v:=((D.join c p).num 15+1)%18446744073709551616) (by decide);have q2:=q1.setN (k:=19) (v:=max (((D.join c p).setN 15 (((D.join c p).num 15+1)%18446744073709551616)).num 19) c.many) (by decide);refine q2.to rfl rfl ?_ rfl;show {C.h with n:=(C.h.n.set 19 (max (C.num 19) c.many)).set 15 (((C.setN 19 (max (C.num 19) c.many)).num 15+1)%18446744073709551616)}={C.h with n:=(C.h.n.set 15 (((D.join c p).num 15+1)%18446744073709551616)).set 19 (max (((D.join c p).setN 15 (((D.join c p).num 15+1)%18446744073709551616)).num 19) c.many)};rw[dnum_ne (by decide),J.num 15 (by decide) (by decide),J.num 19 (by decide) (by decide),num_setN (by decide),List.set_comm _ _ (by decide)]
    rw[if_neg (by omega)];obtain⟨t,u⟩:=N;obtain⟨o,P,K⟩:=u.name F x.name;refine⟨⟨L,A.1,A.2.1,A.2.2.1,A.2.2.2,.inr o⟩,?_⟩;rw[data_mid hk];obtain⟨l6,S6,Y,⟨kf,I,R⟩,G⟩:=field_im s1 x.name (by omega);have fo:=Y.fobs kf I
    generalize d.newData (payload x)=r at *;obtain⟨p,d4⟩:=r;simp only at t u o P K ⊢;subst t
    generalize d4.name x.name=r at *
    generalize (m.mid x).field x.name=r' at *;obtain⟨f,d5⟩:=r;obtain⟨f',X⟩:=r';simp only at P K R fo G I ⊢;subst P;have hv:(getF X.b (f+32:Nat) 8).1=at8 d5.b (f+32):=(by rw[get_at8 (by omega),K.agr.at8 (by omega)]);unfold Mk.mid2;rw[hv];refine⟨?_,(K.put _ _).put _ _⟩;rw[S.hash];have:((X.put (m.b.length+32) (at8 d5.b (f+32))).put (f+32) m.b.length).datas=m.datas ++ [kn (payload x) m.b.length (hashM m (payload x)%m.c.dataSlots)]:=(by show X.datas=_;rw[G,s4]);rw[this];have hg:(m.datas ++ [kn (payload x) m.b.length (hashM m (payload x)%m.c.dataSlots)])[(m.datas ++ [kn (payload x) m.b.length (hashM m (payload x)%m.c.dataSlots)]).length-1]? = some (kn (payload x) m.b.length (hashM m (payload x)%m.c.dataSlots)):=(by simp);rw[(textAt_get hg).2];rfl
end Go.Wk
namespace Go.Wk
open Go Go.RowKit
theorem joinF_pay {p:Pr} (h:right p.pb=true):(joinF p).1=payload p:=by
  have A:=joinF_right.2 h;unfold joinF at A ⊢
  split at A
  · simp at A
  · rename_i h1
    split at A
    · simp at A
    · rename_i h3
      rw[if_neg h1,if_neg h3]
theorem itemsL_ext {m m':Mk} {ks:List Nat} (hd:DExt m.datas m'.datas) (hc:m'.c=m.c) (hl:∀i∈ks,i<m.datas.length):itemsL m' ks=itemsL m ks:=by
  unfold itemsL;refine List.map_congr_left fun i C=>?_;obtain⟨_,B,A⟩:=hd.at (hl i C);unfold textAt at A;rw[B,A,hc]
/-- The data of pairs. -/
theorem Sim.dataL {s:Nat} {m0:Mk} (ok0:MkOk m0):∀(fs dl:List Pr) (d:Drf) (m:Mk) (l:List Ob) (ps:List (List UInt8)) (od:List Nat) (o:List Itm) (ks:List Nat) (n:Nat),Sim s d m→Stat m l→Hs m→Whos m dl ps od→DatasOk m0 m ps od n→od.Perm ks→o=itemsL m ks →
    (∀q∈fs,BD q∧right q.pb=true)→((dl ++ fs).map payload).Nodup→n+fs.length≤16 →
    Drf.okDatL fs d∧Sim s (Drf.dataL fs d o).2 (datasL fs m ps od).2.2∧∃ks',(Drf.dataL fs d o).1=itemsL (datasL fs m ps od).2.2 ks'∧(datasL fs m ps od).2.1.Perm ks'
  | [],dl,d,m,l,ps,od,o,ks,n,S,_,_,_,_,hp,ho,_,_,_=>⟨trivial,S,ks,ho,hp⟩
  | x :: r,dl,d,m,l,ps,od,o,ks,n,S,h,H,W,D,hp,ho,hb,hnd,hn=>by
    obtain⟨bx,rx⟩:=hb x (by simp);have hj:=joinF_pay rx;simp only[List.length_cons]at hn;have hle:=D.app.le;have s0:=ok0.small
    have hx:payload x∉dl.map payload:=fun hm=>by
      rw[List.map_append,List.map_cons]at hnd;exact(List.nodup_append.1 hnd).2.2 _ hm _ (by simp) rfl
    obtain⟨O,I,S1⟩:=S.data h H hj bx (by omega);obtain⟨l1,dm⟩:=data_im h x bx;have n61:∀c∈x.name,c≠61:=name_61 (by unfold right at rx;simp only[Bool.and_eq_true]at rx;exact rx.1);have hpl:=payload_len x;have H1:=(hs_data h H x n61 (by omega) ⟨by have:=bx.1;have:=bx.2;omega,by have:=bx.1;omega⟩).1;have W1:=whos_step W h dm hx;have D1:=datas_step D bx;have hc:=(data_ok m x D.app.fit).c;obtain⟨k,hk,ht⟩:=dm.got;have pp:(placeF (m.data x).2.datas (m.data x).1 od).Perm (ks ++ [(m.data x).1]):=(place_perm _ _ _).trans ((List.Perm.cons _ hp).trans (List.perm_append_comm (l₁:=[(m.data x).1])));have lt:∀i∈ks,i<m.datas.length:=fun i hi=>W.lt i (hp.mem_iff.2 hi)
    have e1:o ++ [(d.data x.name (joinF x).1).1]=itemsL (m.data x).2 (ks ++ [(m.data x).1]):=by
      rw[I,ho,← itemsL_ext dm.ext hc lt];unfold itemsL;rw[List.map_append,List.map_cons,List.map_nil]
      have:((m.data x).2.datas.getD (m.data x).1 known0).text=payload x:=by
        have:=(textAt_get hk).1;unfold textAt at this;rw[this,ht]
      rw[this,hc];rfl
    have R:=Sim.dataL ok0 r (dl ++ [x]) (d.data x.name (joinF x).1).2 (m.data x).2 l1 _ _ _ _ (n+1) S1 dm.stat H1 W1 D1 pp e1 (fun q E=>hb q (by simp[E])) (by rw[List.append_assoc];exact hnd) (by omega);obtain⟨A,B,C⟩:=R;exact⟨⟨O,A⟩,B,C⟩
theorem leI_iff {x y:Itm}:leI x y=true↔x.pos≤y.pos:=by unfold leI;simp
/-- Items by their places. -/
theorem sortI_items {m:Mk} {od ks:List Nat} (hp:od.Perm ks) (ha:od.Pairwise fun a b=>posAt m.datas a<posAt m.datas b):sortI (itemsL m ks)=itemsL m od:=by
  have J:(sortI (itemsL m ks)).Pairwise fun a b=>leI a b=true:=List.pairwise_mergeSort (fun a b c=>by rw[leI_iff,leI_iff,leI_iff];omega) (fun a b=>by rw[Bool.or_eq_true,leI_iff,leI_iff];omega) _
  have C:(itemsL m od).Pairwise fun a b=>a.pos<b.pos:=by
    unfold itemsL;rw[List.pairwise_map];exact ha
  have B:(sortI (itemsL m ks)).Perm (itemsL m od):=(sortI_perm _).trans ((hp.map _).symm);refine List.Perm.eq_of_pairwise (fun a b M N K L=>?_) J (C.imp fun {a b} h=>leI_iff.2 (Nat.le_of_lt h)) B;have hA':=B.subset M;rw[leI_iff]at K L;obtain⟨i,E⟩:=List.mem_iff_getElem?.1 hA';obtain⟨j,D⟩:=List.mem_iff_getElem?.1 N;obtain⟨F,H⟩:=List.getElem?_eq_some_iff.1 E;obtain⟨G,I⟩:=List.getElem?_eq_some_iff.1 D;rw[List.pairwise_iff_getElem]at C;rcases Nat.lt_trichotomy i j with A|A|A
  · have:=C i j F G A;rw[H,I]at this;omega
  · subst A;rw[E]at D;exact Option.some.inj D
  · have:=C j i G F A;rw[H,I]at this;omega
/-! ## a chain of arrays -/
/-- Its last array has an item. -/
def TightC (av:List Nat) (n:Nat):Prop:=av≠[]→cum (av.length-1)<n
def aAt (src:Nat) (av:List Nat) (k:Nat):Nat:=if k=0 then src else av.getD (k-1) 0+16
theorem cum_ge (k:Nat):4*k≤cum k:=by
  induction k with
  | zero=>simp[cum]
  | succ k ih=>have:=roomF_ge (k:=(k:Int)) (by omega);simp only[cum];omega
theorem arrG_chain {b:Ly} {src n K:Nat} {av:List Nat} (hw:∀k,k<K→at8 b (aAt src av k)=av.getD k 0) (hr:n<cum (K+1)) (hl:cum K≤n):∀(d k f:Nat),k+d=K→d≤f→arrG b f k (aAt src av k) (n-cum k)=(aAt src av K,n-cum K,K)
  | 0,k,f,hk,hf=>by
    have e:k=K:=(by omega);subst e;exact arrG_end (by simp only[cum]at hr;omega)
  | d+1,k,f,hk,hf=>by
    have h1:cum (k+1)≤cum K:=cum_mono (by omega);simp only[cum]at h1;have h2:=hw k (by omega);rw[arrG_step (by omega) (by omega),h2,Nat.sub_sub];have:=arrG_chain hw hr hl d (k+1) (f-1) (by omega) (by omega);rw[show aAt src av (k+1)=av.getD k 0+16 from rfl]at this;exact this
theorem okA_chain {b:Ly} {src n K:Nat} {av:List Nat} (hw:∀k,k<K→at8 b (aAt src av k)=av.getD k 0) (hb:∀k,k≤K→aAt src av k+8≤b.length) (hr:n<cum (K+1)) (hl:cum K≤n):∀(d k f:Nat),k+d=K→d≤f→okA b f k (aAt src av k) (n-cum k)=true
  | 0,k,f,hk,hf=>by
    have e:k=K:=(by omega);subst e;have:=hb k (Nat.le_refl _);simp only[cum]at hr
    cases f with
    | zero=>simp only[okA,decide_eq_true_eq];exact⟨by omega,this⟩
    | succ f=>simp only[okA,Bool.and_eq_true,Bool.or_eq_true,decide_eq_true_eq];exact⟨this,.inl (by omega)⟩
  | d+1,k,f,hk,hf=>by
    have h2:=hw k (by omega);have:=okA_chain hw hb hr hl d (k+1) (f-1) (by omega) (by omega);rw[show aAt src av (k+1)=av.getD k 0+16 from rfl]at this
    cases f with
    | zero=>omega
    | succ f =>
      simp only[okA,Bool.and_eq_true,Bool.or_eq_true,decide_eq_true_eq];refine⟨hb k (by omega),.inr ?_⟩;rw[h2,Nat.sub_sub];exact this
/-- One more item in a chain of arrays. -/
theorem Sim.list {s:Nat} {d:Drf} {m:Mk} {l:List Ob} {src x:Nat} {av items:List Nat} (S:Sim s d m) (hO:Objs m.b 272 l m.b.length) (h:Chain m.b l src av items) (hs:Src l src) (h8:src=176∨272≤src) (ht:TightC av items.length) (hb:m.b.length<900000) :
    d.okList src items.length∧(d.list src items.length x).1=lastN (m.link av items.length src x).1∧(d.list src items.length x).2.1=(m.link av items.length src x).2.1∧Sim s (d.list src items.length x).2.2 (m.link av items.length src x).2.2∧TightC (m.link av items.length src x).1 (items.length+1):=by
  have A:=S.agr;have R:=h.lo;have Q:=h.hi;have V:=hs.lt hO
  have B:∀k,k≤av.length→(aAt src av k=176∨272≤aAt src av k)∧aAt src av k+8≤m.b.length:=fun k hk=>by
    unfold aAt;by_cases F:k=0
    · rw[if_pos F];exact⟨h8,V⟩
    · rw[if_neg F]
      obtain⟨a,G⟩:∃a,av[k-1]? = some a:=⟨_,List.getElem?_eq_getElem (by omega)⟩;have:=h.le hO G;rw[getD_some G];omega
  have C:∀k,k≤av.length→at8 d.b (aAt src av k)=av.getD k 0:=fun k hk=>by
    rw[A.at8 (B k hk).1];unfold aAt;by_cases F:k=0
    · subst F;rw[if_pos rfl];exact h.word
    · rw[if_neg F]
      obtain⟨a,G⟩:∃a,av[k-1]? = some a:=⟨_,List.getElem?_eq_getElem (by omega)⟩;rw[getD_some G,h.next _ _ G,show k-1+1=k by omega]
  have Y:∀K,K≤av.length→cum K≤items.length→items.length<cum (K+1)→arrG d.b items.length 0 src items.length=(aAt src av K,items.length-cum K,K)∧okA d.b items.length 0 src items.length=true:=fun K o O P=>by
    have i:=cum_ge K;have w:∀k,k<K→at8 d.b (aAt src av k)=av.getD k 0:=fun k hk=>C k (by omega);have b:∀k,k≤K→aAt src av k+8≤d.b.length:=fun k hk=>by rw[A.1];exact(B k (by omega)).2
    exact⟨arrG_chain w P O K 0 items.length (by omega) (by omega),okA_chain w b P O K 0 items.length (by omega) (by omega)⟩
  unfold Drf.okList Drf.list Mk.link;rw[rooms_all];simp only;by_cases hn:items.length=cum av.length
  · have U:=roomF_ge (k:=(av.length:Int)) (by omega)
    obtain⟨M,N⟩:=Y av.length (Nat.le_refl _) (by omega) (by simp only[cum];omega);rw[M,N];simp only;rw[if_pos hn,hn,Nat.sub_self,if_pos rfl];refine⟨⟨trivial,fun h=>absurd rfl h⟩,?_⟩;obtain⟨W,c,J⟩:=S.add (putArrayF {next:=0,items:=List.replicate (roomF (av.length:Int)) 0});have g:(m.object (putArrayF {next:=0,items:=List.replicate (roomF (av.length:Int)) 0})).1=m.b.length:=rfl;have X:(d.add (putArrayF {next:=0,items:=List.replicate (roomF (av.length:Int)) 0})).2.b=d.b ++ putArrayF {next:=0,items:=List.replicate (roomF (av.length:Int)) 0}:=rfl
    generalize d.add (putArrayF {next:=0,items:=List.replicate (roomF (av.length:Int)) 0})=r at *
    generalize m.object (putArrayF {next:=0,items:=List.replicate (roomF (av.length:Int)) 0})=r' at *;obtain⟨p,E⟩:=r;obtain⟨t,D⟩:=r';simp only at W c J g X ⊢;subst W;have I:=J.setN (k:=18) (v:=(E.num 18+1)%18446744073709551616) (by decide);have u:=(B av.length (Nat.le_refl _)).2;have j:m.b.length≤E.b.length:=(by rw[X,List.length_append,A.1];omega);have e:at8 ((E.setN 18 ((E.num 18+1)%18446744073709551616)).put (aAt src av av.length) p).b (aAt src av av.length)=p:=at8_putW (by show _≤E.b.length;omega) (by omega);rw[e];have f:lastN (av ++ [p])=p:=lastN_snoc av p;rw[f];have L:(E.num 18+1)%18446744073709551616=(D.num 18+1)%18446744073709551616:=(by rw[J.num 18 (by decide) (by decide)]);rw[L]at I ⊢;refine⟨rfl,trivial,?_,fun _=>?_⟩
    · have q:=(I.put (aAt src av av.length) p).put (p+24+8*0) x
      have:(if av.length=0 then(D.setN 18 ((D.num 18+1)%18446744073709551616)).put src p else(D.setN 18 ((D.num 18+1)%18446744073709551616)).put (lastN av+16) p)=(D.setN 18 ((D.num 18+1)%18446744073709551616)).put (aAt src av av.length) p:=by
        unfold aAt lastN
        split <;> rfl
      rw[this];exact q
    · rw[List.length_append,List.length_singleton,Nat.add_sub_cancel];omega
  · have H:av≠[]:=by rintro rfl;have O:items.length≤0:=Q;have P:¬items.length=0:=hn;omega
    have F:=List.length_pos_iff.2 H;have y:=ht H
    have i:cum av.length=cum (av.length-1)+roomF ((av.length-1:Nat):Int):=by
      have:av.length=(av.length-1)+1:=(by omega);rw[this];rfl
    obtain⟨M,N⟩:=Y (av.length-1) (by omega) R (by rw[show av.length-1+1=av.length by omega];omega);obtain⟨p,T⟩:∃p,av[av.length-1]? = some p:=⟨_,List.getElem?_eq_getElem (by omega)⟩;have n:=h.le hO T;have Z:=C (av.length-1) (by omega);rw[getD_some T]at Z;rw[M,N];simp only;rw[if_neg hn,if_neg (by omega),Z,lastN_eq T];exact⟨⟨trivial,fun _=>by rw[A.1];omega⟩,rfl,rfl,S.put _ _,fun _=>by simp only;omega⟩
end Go.Wk
namespace Go.Wk
open Go Go.RowKit
def TightM (m:Mk):Prop:=TightC m.main (m.num 8)∧∀k∈m.datas,TightC k.arrays (k.count-1)
/-- An entry is hung in at one of its data. -/
theorem Sim.hungE {s:Nat} {d:Drf} {m:Mk} {l:List Ob} {es:List EntG} {mp:List Nat} {f:Nat→List Nat} {i e:Nat} {k:Known} (S:Sim s d m) (h:ImgC m l es mp f) (hi:m.datas[i]? = some k) (ht:TightC k.arrays (k.count-1)) (hb:m.b.length<700000) (hf:(f i).length<900000) :
    (k.pos+64≤d.b.length∧(at8 d.b (k.pos+56)≠0→d.okList (k.pos+48) (at8 d.b (k.pos+56)-1))∧at8 d.b (k.pos+56)≤1000000∧d.b.length≤800000∧d.h.n.getD 0 0≤d.b.length)∧Sim s (d.link1 e k.pos) (hang1 e i m) ∧
    ∃k',(hang1 e i m).datas=m.datas.set i k'∧TightC k'.arrays (k'.count-1):=by
  have A:=S.agr;have D:=h.dat i k hi;have M:=h.stat.data k (List.mem_of_getElem? hi);have o:=h.stat.dobs k (List.mem_of_getElem? hi);have Q:d.h.n.getD 0 0=272:=S.n0;have B:at8 d.b (k.pos+56)=k.count:=(by rw[A.at8 (by omega),D.word,D.cnt]);have N:m.datas.getD i known0=k:=(by simp[List.getD,hi]);have C:=D.cnt;have E:((f i).drop 1).length=k.count-1:=(by rw[List.length_drop,C]);have ht':TightC k.arrays ((f i).drop 1).length:=(by rw[E];exact ht);obtain⟨H,I,J,G,F⟩:=S.list (x:=e) h.stat.objs D.chain (dat_src M) (.inr (by omega)) ht' (by omega);rw[E]at H I J G F;refine⟨⟨by rw[A.1];omega,fun _=>by rw[B];exact H,by omega,by rw[A.1];omega,by rw[A.1];omega⟩,?_⟩;unfold Drf.link1 Go.Wk.hang1;simp only[N,B];by_cases h0:k.count=0
  · rw[if_pos h0,if_pos h0,h0]
    refine⟨((S.put (k.pos+40) e).put (k.pos+56) 1).to rfl rfl rfl rfl,{k with count:=1},rfl,?_⟩;rw[h0]at ht;exact ht
  · rw[if_neg h0,if_neg h0,Nat.mod_eq_of_lt (by omega)]
    have K:(m.link k.arrays (k.count-1) (k.pos+48) e).2.2.datas=m.datas:=by
      obtain⟨P,L⟩:=link_im (x:=0) h.stat.objs D.chain (dat_src M) (by omega) (by omega);unfold Mk.link
      generalize roomsL k.arrays 0 0 0=r;obtain⟨a,b⟩:=r;simp only
      split
      · split <;> rfl
      · rfl
    generalize m.link k.arrays (k.count-1) (k.pos+48) e=r at *;obtain⟨a,t,O⟩:=r;simp only at I J G F K ⊢;refine⟨(G.put (k.pos+56) (k.count+1)).to rfl rfl rfl rfl,{k with arrays:=a,count:=k.count+1},?_,?_⟩
    · show O.datas.set i _=_
      rw[K]
    · simp only[Nat.add_sub_cancel]
      rw[show k.count-1+1=k.count by omega]at F;exact F
theorem Sim.linkL {s:Nat} {es:List EntG} {mp:List Nat} {e:Nat} (he:e<18446744073709551616):∀(od:List Nat) (d:Drf) (m:Mk) (l:List Ob) (f:Nat→List Nat),Sim s d m→ImgC m l es mp f→(∀i∈od,i<m.datas.length)→od.Nodup→(∀i∈od,(f i).length<900000)→m.b.length+2100*od.length<700000→(∀k∈m.datas,TightC k.arrays (k.count-1)) →
    Drf.okLinkL e (itemsL m od) d∧Sim s (Drf.linkL e (itemsL m od) d) (hangE e od m)∧∀k∈(hangE e od m).datas,TightC k.arrays (k.count-1)
  | [],d,m,l,f,S,_,_,_,_,_,T=>⟨trivial,S,T⟩
  | i :: r,d,m,l,f,S,h,hi,hn,hl,hb,T=>by
    obtain⟨k,hk⟩:∃k,m.datas[i]? = some k:=⟨_,List.getElem?_eq_getElem (hi i (by simp))⟩;simp only[List.length_cons]at hb;have hli:=hl i (by simp);obtain⟨S1,S2,kt,S3,S4⟩:=S.hungE (e:=e) h hk (T k (List.mem_of_getElem? hk)) (by omega) hli;obtain⟨l1,k1,H⟩:=hang_one (e:=e) h.stat.objs hk (h.stat.data k (List.mem_of_getElem? hk)) (h.dat i k hk) (by omega) he (by omega);have g:=h.hang hk H;have hd1:DSame m.datas (hang1 e i m).datas:=(by rw[H.dat];exact DSame.set hk H.pos.1 H.pos.2.1);have htp:=H.top;rw[hangE_cons];rw[List.nodup_cons]at hn;have hf:∀j∈r,(if j=i then f i ++ [e]else f j)=f j:=fun j hj=>if_neg (by rintro rfl;exact hn.1 hj)
    have T1:∀k∈(hang1 e i m).datas,TightC k.arrays (k.count-1):=fun y hy=>by
      rw[S3]at hy;rcases List.mem_or_eq_of_mem_set hy with h1|h1
      · exact T y h1
      · rw[h1];exact S4
    have ei:itemsL (hang1 e i m) r=itemsL m r:=itemsL_ext hd1.ext H.same.1 fun j hj=>hi j (by simp[hj]);have R:=Sim.linkL he r (d.link1 e k.pos) (hang1 e i m) l1 _ S2 g (fun j hj=>by rw[hd1.len];exact hi j (by simp[hj])) hn.2 (fun j hj=>by simp only[hf j hj];exact hl j (by simp[hj])) (by omega) T1;rw[ei]at R;have ep:posAt m.datas i=k.pos:=(textAt_get hk).2;have e0:itemsL m (i :: r)={pos:=k.pos,hash:=hashN m.c.keyed m.c.file (m.datas.getD i known0).text} :: itemsL m r:=(by unfold itemsL;rw[List.map_cons,ep]);rw[e0];exact⟨⟨S1,R.1⟩,R.2.1,R.2.2⟩
/-! ## the head -/
theorem leN_injW:∀{a b:Ly},a.length=b.length→leN a=leN b→a=b
  | [],[],_,_=>rfl
  | [],_ :: _,h,_=>by simp at h
  | _ :: _,[],h,_=>by simp at h
  | x :: a,y :: b,h,e=>by
    simp only[leN]at e;have hx:=x.toNat_lt;have hy:=y.toNat_lt;have h1:x.toNat=y.toNat:=(by omega);have h2:leN a=leN b:=(by omega);rw[UInt8.toNat_inj.1 h1,leN_injW (by simpa using h) h2]
theorem at8_bytes {b c:Ly} {p:Nat} (hb:p+8≤b.length) (hc:p+8≤c.length) (h:at8 b p=at8 c p) {q:Nat} (hq:p≤q∧q<p+8):b[q]? = c[q]?:=by
  have e:(b.drop p).take 8=(c.drop p).take 8:=leN_injW (by simp;omega) h;have:=congrArg (fun l=>l[q-p]?) e;simp only[List.getElem?_take,List.getElem?_drop]at this;rw[if_pos (by omega),if_pos (by omega),show p+(q-p)=q by omega]at this;exact this
theorem putH_lenW {h:PHead} (hl:h.file.length=16∧h.machine.length=16∧h.boot.length=16∧h.seq.length=16∧h.state<256) (hn:h.n.length=21):(putH h).length=272:=by
  have:signF.length=8:=rfl;simp only[putH,List.length_append,low_len,nums_len,this,hl.1,hl.2.1,hl.2.2.1,hl.2.2.2.1,hn,List.length_cons,List.length_nil]
theorem putH_11 {h:PHead} (hl:h.file.length=16∧h.machine.length=16∧h.boot.length=16∧h.seq.length=16∧h.state<256) (hn:h.n.length=21) (hv:h.n.getD 11 0<18446744073709551616):at8 (putH h) 176=h.n.getD 11 0:=by
  have e:putH h=(signF ++ (low h.compat 4 ++ (low h.incompat 4 ++ ([UInt8.ofNat h.state,0,0,0,0,0,0,0] ++ (h.file ++ (h.machine ++ (h.boot ++ h.seq))))))) ++ (nums h.n ++ (low h.tailArray 4 ++ (low h.tailItems 4 ++ low h.tailEntry 8))):=by
    unfold putH;simp only[List.append_assoc]
  have B:signF.length=8:=rfl
  have A:(signF ++ (low h.compat 4 ++ (low h.incompat 4 ++ ([UInt8.ofNat h.state,0,0,0,0,0,0,0] ++ (h.file ++ (h.machine ++ (h.boot ++ h.seq))))))).length=88:=by
    simp only[List.length_append,low_len,B,hl.1,hl.2.1,hl.2.2.1,hl.2.2.2.1,List.length_cons,List.length_nil]
  rw[e,at8_skip (by rw[A];omega),A,show 176-88=8*11 by decide];exact at8_nums (by rw[List.getD_eq_getElem?_getD];rw[List.getElem?_eq_getElem (by omega)];rfl) hv
theorem Sim.nums {d:Drf} {m:Mk} (S:Sim 0 d m):d.h.n=m.h.n.set 1 (m.b.length-272) ++ [m.depth]:=by
  have D:=S.len;have A:=S.lem
  have hk:∀i,i<21→d.h.n[i]? = some (d.num i):=fun i B=>by
    show _=some (d.h.n.getD i 0);rw[List.getD_eq_getElem?_getD,List.getElem?_eq_getElem (by omega)];rfl
  have C:∀i,i<20→m.h.n[i]? = some (m.num i):=fun i B=>by
    show _=some (m.h.n.getD i 0);rw[List.getD_eq_getElem?_getD,List.getElem?_eq_getElem (by omega)];rfl
  apply List.ext_getElem?;intro i;by_cases h21:i<21
  · rw[hk i h21]
    by_cases h20:i<20
    · rw[List.getElem?_append_left (by rw[List.length_set];omega)]
      by_cases h11:i=1
      · subst h11
        rw[List.getElem?_set_self (by omega),S.n1,S.agr.1]
      · rw[List.getElem?_set_ne (by omega),C i h20]
        by_cases h8:i=8
        · subst h8;rw[S.n8];rfl
        · rw[S.num i h11 ⟨h8,h20⟩]
    · obtain rfl:i=20:=by omega
      rw[List.getElem?_append_right (by rw[List.length_set];omega),List.length_set,A,S.dep];rfl
  · rw[List.getElem?_eq_none (by omega),List.getElem?_eq_none (by simp;omega)]
/-- The head put, of a state: the maker's image. -/
theorem Sim.image {d:Drf} {m:Mk} (S:Sim 0 d m) (st:Nat):putH {d.h with state:=st} ++ d.b.drop 272=imageM m st:=by
  have K:d.b.drop 272=m.b.drop 272:=by
    apply List.ext_getElem?;intro i;rw[List.getElem?_drop,List.getElem?_drop];exact S.agr.2 _ (.inr (by omega))
  have B:=S.hd;unfold hdD hdM at B;simp only[Prod.mk.injEq]at B;obtain⟨C,D,L,E,F,G,H,I,J,A⟩:=B;unfold imageM;rw[K,putH_headF (p:={d.h with state:=st}) (h:={m.h with state:=st,n:=m.h.n.set 1 (m.b.length-272)}) (depth:=m.depth) (by simp only[C,D,E,F,G,H,I,J,A]) S.nums]
theorem Sim.hput {d:Drf} {m:Mk} (S:Sim 0 d m) (h272:272≤m.b.length) (hw:at8 m.b 176=m.num 11):Sim 0 d.hput m:=by
  have D:=putH_lenW S.hl S.len;have B:d.h.n.getD 11 0=m.num 11:=S.num 11 (by decide) (by decide);have G:d.h.n.getD 11 0<18446744073709551616:=(by rw[B,← hw];exact at8_lt _ _);have F:=putH_11 S.hl S.len G;have A:=S.agr;have E:(putH d.h ++ d.b.drop 272).length=d.b.length:=(by rw[List.length_append,D,List.length_drop,A.1];omega);refine⟨⟨by show(putH d.h ++ d.b.drop 272).length=_;rw[E];exact A.1,fun q C=>?_⟩,S.len,S.lem,S.n0,by show d.num 1=(putH d.h ++ d.b.drop 272).length-272;rw[E];exact S.n1,S.n3,S.n5,S.num,S.n8,S.dep,S.hd,S.file,S.key,S.hl⟩;show(putH d.h ++ d.b.drop 272)[q]? = _;rcases C with C|C
  · refine at8_bytes (p:=176) (by rw[E,A.1];omega) (by omega) ?_ (by omega)
    rw[at8_app (by rw[D];omega),F,B,hw]
  · rw[List.getElem?_append_right (by rw[D];omega),D,List.getElem?_drop,show 272+(q-272)=q by omega]
    exact A.2 q (.inr C)
theorem Sim.bump {d:Drf} {m:Mk} (S:Sim 1 d m) (h:m.num 8<1000000):Sim 0 d (m.setN 8 ((m.num 8+1)%18446744073709551616)):=by
  rw[Nat.mod_eq_of_lt (by omega)];refine⟨S.agr,S.len,by show(m.h.n.set 8 _).length=20;rw[List.length_set];exact S.lem,S.n0,S.n1,S.n3,S.n5,fun i A B=>?_,?_,S.dep,S.hd,S.file,S.key,S.hl⟩
  · rw[num_setN (by omega)];exact S.num i A B
  · rw[num_same (by rw[S.lem];omega),S.n8]
theorem Sim.boot {s:Nat} {d:Drf} {m:Mk} (S:Sim s d m) {boot:Ly} (hb:boot.length=16) (p:Nat):Sim s {d with h:={d.h with boot:=boot,tailEntry:=p}} {m with h:={m.h with boot:=boot,tailEntry:=p}}:=by
  refine⟨S.agr,S.len,S.lem,S.n0,S.n1,S.n3,S.n5,S.num,S.n8,S.dep,?_,S.file,S.key,S.hl.1,S.hl.2.1,hb,S.hl.2.2.2⟩;have A:=S.hd;unfold hdD hdM at A ⊢;simp only[Prod.mk.injEq]at A ⊢;obtain⟨B,D,E,F,G,K,H,I,J,C⟩:=A;exact⟨B,D,E,F,G,trivial,H,I,J,tV⟩
theorem Sim.mark {d:Drf} {z:Mk} {n seq real mono e:Nat} {boot:Ly} (S:Sim 1 d z) (hn:z.num 8=n) (h8:n<1000000) (hb:boot.length=16) (h272:272≤z.b.length) (hw:at8 z.b 176=z.num 11) :
    Sim 0 (d.mark e seq real mono boot) (finM z n seq real mono e boot)∧∀st,st=(d.mark e seq real mono boot).h.state→(d.mark e seq real mono boot).b=imageM (finM z n seq real mono e boot) st:=by
  have E:=(finM_spec z n seq real mono e boot).1;have B:=finM_num z n seq real mono e boot 11 (by decide)
  have C:∃A:Drf,d.mark e seq real mono boot=A.hput∧Sim 0 A (finM z n seq real mono e boot):=by
    unfold Drf.mark finM;simp only;have c:d.num 8=1↔n=0:=(by rw[S.n8,hn];omega)
    have F:Sim 1 (if d.num 8=1 then(d.setN 10 seq).setN 12 real else d) (if n=0 then(z.setN 10 seq).setN 12 real else z):=by
      by_cases h0:n=0
      · rw[if_pos h0,if_pos (c.2 h0)];exact(S.setN (by decide)).setN (by decide)
      · rw[if_neg h0,if_neg (fun h=>h0 (c.1 h))];exact S
    have K:(if n=0 then(z.setN 10 seq).setN 12 real else z).num 8=n:=by
      split
      · rw[num_setN (by decide),num_setN (by decide),hn]
      · exact hn
    generalize (if d.num 8=1 then(d.setN 10 seq).setN 12 real else d)=d4 at *
    generalize (if n=0 then(z.setN 10 seq).setN 12 real else z)=m7 at *;have G:=F.bump (by omega);have H:=((G.setN (k:=9) (v:=seq) (by decide)).setN (k:=13) (v:=real) (by decide)).setN (k:=14) (v:=mono) (by decide);exact⟨_,rfl,H.boot hb e⟩
  obtain⟨A,I,D⟩:=C;rw[I];refine⟨D.hput (by rw[E];exact h272) (by rw[E,B];exact hw),fun st J=>?_⟩;have:=D.image st;rw[← this,J];rfl
theorem Sim.linkH {d:Drf} {m:Mk} {a:List Nat} {t:Nat} (S:Sim 0 d m) (hw:at8 m.b 176=a.getD 0 0) (h8:m.num 8<1000000):Sim 1 (d.linkH (lastN a) t) (let m4:=({m with main:=a}:Mk).setN 11 (a.getD 0 0);({m4 with h:={m4.h with tailArray:=lastN a%4294967296,tailItems:=t%4294967296}}:Mk)):=by
  have e:at8 d.b 176=a.getD 0 0:=(by rw[S.agr.at8 (.inl rfl),hw])
  have A:Sim 0 (d.setN 11 (at8 d.b 176)) (({m with main:=a}:Mk).setN 11 (a.getD 0 0)):=by
    rw[e];exact(S.to (m':={m with main:=a}) rfl rfl rfl rfl).setN (by decide)
  have M:(d.setN 11 (at8 d.b 176)).num 8=m.num 8:=(by rw[dnum_ne (by decide),S.n8];rfl);refine⟨A.agr,?_,A.lem,?_,?_,?_,?_,fun i K L=>?_,?_,?_,?_,A.file,A.key,A.hl⟩
  · show((d.h.n.set 11 _).set 8 _).length=21;rw[List.length_set,List.length_set];exact S.len
  · exact(dnum_ne (d:={d.setN 11 (at8 d.b 176)with h:={(d.setN 11 (at8 d.b 176)).h with tailArray:=lastN a%4294967296,tailItems:=t%4294967296}}) (by decide)).trans A.n0
  · exact(dnum_ne (d:={d.setN 11 (at8 d.b 176)with h:={(d.setN 11 (at8 d.b 176)).h with tailArray:=lastN a%4294967296,tailItems:=t%4294967296}}) (by decide)).trans A.n1
  · exact(dnum_ne (d:={d.setN 11 (at8 d.b 176)with h:={(d.setN 11 (at8 d.b 176)).h with tailArray:=lastN a%4294967296,tailItems:=t%4294967296}}) (by decide)).trans A.n3
  · exact(dnum_ne (d:={d.setN 11 (at8 d.b 176)with h:={(d.setN 11 (at8 d.b 176)).h with tailArray:=lastN a%4294967296,tailItems:=t%4294967296}}) (by decide)).trans A.n5
  · exact(dnum_ne (d:={d.setN 11 (at8 d.b 176)with h:={(d.setN 11 (at8 d.b 176)).h with tailArray:=lastN a%4294967296,tailItems:=t%4294967296}}) (by omega)).trans (A.num i K L)
  · refine(dnum_eq (d:={d.setN 11 (at8 d.b 176)with h:={(d.setN 11 (at8 d.b 176)).h with tailArray:=lastN a%4294967296,tailItems:=t%4294967296}}) (by show 8<(d.h.n.set 11 _).length;rw[List.length_set,S.len];omega)).trans ?_
    show((d.setN 11 (at8 d.b 176)).num 8+1)%18446744073709551616=_;rw[M,Nat.mod_eq_of_lt (by omega)];show _=(({m with main:=a}:Mk).setN 11 (a.getD 0 0)).num 8+1;rw[num_setN (by decide)];rfl
  · exact(dnum_ne (d:={d.setN 11 (at8 d.b 176)with h:={(d.setN 11 (at8 d.b 176)).h with tailArray:=lastN a%4294967296,tailItems:=t%4294967296}}) (by decide)).trans A.dep
  · have C:=S.hd
    unfold hdD hdM at C ⊢;simp only[Prod.mk.injEq]at C;obtain⟨D,E,F,G,H,I,J,N,O,B⟩:=C;show(d.h.compat,d.h.incompat,d.h.state,d.h.file,d.h.machine,d.h.boot,d.h.seq,lastN a%4294967296,t%4294967296,d.h.tailEntry)=(m.h.compat,m.h.incompat,m.h.state,m.h.file,m.h.machine,m.h.boot,m.h.seq,lastN a%4294967296,t%4294967296,m.h.tailEntry);rw[D,E,F,G,H,I,J,B]
end Go.Wk
namespace Go.Wk
open Go Go.RowKit
set_option maxHeartbeats 1000000 in
/-- An entry more: no step of it breaks, and all is as the maker has it. -/
theorem Sim.entry {d:Drf} {m:Mk} {l:List Ob} {es:List EntG} {raw fs:List Pr} {real mono:Nat} {boot:Ly} {e:Ent} (S:Sim 0 d m) (h:Img m l es) (H:Hs m) (ok:MkOk m) (T:TightM m) (hb:boot.length=16) (hl:listF raw=(fs,0)) (h3:¬m.num 9=18446744073709551615)
    (he:e.seq=m.num 9+1∧e.real=real∧e.mono=mono∧e.boot=boot) :
    d.okEnt fs e∧∃z:Mk,(d.entry fs e).b.length=z.b.length∧m.append raw real mono boot=(if m.c.most<z.b.length then(0,15,m)else(m.num 9+1,0,z))∧Sim 0 (d.entry fs e) z∧TightM z∧(d.entry fs e).b=imageM z (d.entry fs e).h.state∧z.b.length≤300000:=by
  have Cb:=H.h20;obtain⟨Ag,A,Bn,Cl,Co⟩:=listF_all hl;obtain⟨bd,_⟩:=listF_bd hl;have D:=datasL_ok fs m [] [] 0 (datas_start ok) bd;have R:=asc_payload Ag A;have Af:Whos m [] [] []:=⟨rfl,by simp,by simp,List.Pairwise.nil⟩;obtain⟨l1,D2,W⟩:=datasL_im fs [] m l [] [] es (es.map EntG.pos) (places es) h.c (fun i Z=>places_nil h.who i Z) Af bd (by rw[List.nil_append];exact R);obtain⟨A7,X,ks,v,pD⟩:=Sim.dataL ok fs [] d m l [] [] [] [] 0 S h.c.stat H Af (datas_start ok) (List.Perm.refl _) rfl (fun q u=>⟨bd q u,A q u⟩) (by rw[List.nil_append];exact R) (by omega);have nl:=nl_datasL fs m [] []
  have TD:∀k∈(datasL fs m [] []).2.2.datas,TightC k.arrays (k.count-1):=by
    have:∀(fs:List Pr) (m:Mk) (j:List (List UInt8)) (C:List Nat),(∀k∈m.datas,TightC k.arrays (k.count-1))→m.fit→(∀q∈fs,BD q)→∀k∈(datasL fs m j C).2.2.datas,TightC k.arrays (k.count-1):=by
      intro fs
      induction fs with
      | nil=>exact fun m j C h _ _=>h
      | cons x r ih =>
        intro m j C h hf hb;have g:=data_ok m x hf;refine ih (m.data x).2 _ _ (fun k hk=>?_) g.fit (fun q u=>hb q (by simp[u]));rcases g.pre with e|⟨y,e,_,y2,_⟩
        · rw[e]at hk;exact h k hk
        · rw[e,List.mem_append,List.mem_singleton]at hk
          rcases hk with hk|rfl
          · exact h k hk
          · exact fun A3=>absurd y2 A3
    exact this fs m [] [] T.2 ok.fit bd
  unfold Drf.okEnt Drf.entry;rcases hd:datasL fs m [] []with⟨j,C,x⟩;rw[hd,Nat.zero_add]at D;rw[hd]at D2 W nl X v pD TD;rw[List.nil_append]at W;simp only at D D2 W nl X v pD TD;rcases hdd:Drf.dataL fs d []with⟨o,d1⟩;rw[hdd]at X v;simp only at X v ⊢;have s1:=ok.small;have s4:=ok.nb;have d2:=D.app.le;have d5:=D.len.1;have B0:=D.app.ge;obtain⟨c1,c2,c3⟩:=D2.same;have n9:x.num 9=m.num 9:=c3 9 (by decide) (by decide) (by decide);have n8:x.num 8=m.num 8:=c3 8 (by decide) (by decide) (by decide);have f:=h.n8;have Ch:=h.n9
  have Cf:es.length≤40000:=by
    have:m.n8=es.length:=f;omega
  have Ad:=asc_nodup W.asc;have U:(x.num 9+1)%18446744073709551616=m.num 9+1:=(by rw[n9];exact Nat.mod_eq_of_lt (by omega));have Ae:sortI o=itemsL x C:=(by rw[v];exact sortI_items pD W.asc);have A4:(fs.map fun q=>(joinF q).1)=j:=(by rw[W.eq];exact List.map_congr_left fun q u=>joinF_pay (A q u))
  have hE:Drf.entOf e fs o={seq:=(x.num 9+1)%18446744073709551616,real:=real,mono:=mono,boot:=boot,xor:=xorF 0 j,items:=itemsL x C}:=by
    unfold Drf.entOf;rw[Ae,A4,U,he.1,he.2.1,he.2.2.1,he.2.2.2]
  rw[hE,Ae,he.1,he.2.1,he.2.2.1,he.2.2.2]
  have A8:(o.map Itm.pos).Nodup:=by
    have hp:(o.map Itm.pos).Perm (C.map (posAt x.datas)):=by
      rw[v];unfold itemsL;rw[List.map_map];exact(pD.map _).symm
    refine hp.nodup_iff.2 ?_;unfold List.Nodup;rw[List.pairwise_map];exact W.asc.imp fun {a b} h=>Nat.ne_of_lt h
  have A1:=X.agr.1;have q0:d1.h.n.getD 0 0=272:=X.n0;have Bl:=ok.hd
  generalize hEE:({seq:=(x.num 9+1)%18446744073709551616,real:=real,mono:=mono,boot:=boot,xor:=xorF 0 j,items:=itemsL x C}:Ent)=E;have ei:E.items.length=C.length:=(by subst hEE;simp[itemsL]);have eb:E.boot.length=16:=(by subst hEE;exact hb);have V:=D2.img.entry (E:=E) (who:=C) eb (by omega);have ob:=(object_spec x (putEntryF E));have w:=object_same x (putEntryF E);have on:∀i,i≠6→i≠7→(x.object (putEntryF E)).2.num i=x.num i:=fun i h6 h7=>obj_num x _ ⟨h6,h7⟩;have Ah:=nl_object x (putEntryF E);have el:=putEntryF_len E eb;obtain⟨b1,b2,Q⟩:=X.add (putEntryF E);rcases ho:x.object (putEntryF E)with⟨p,B⟩;rw[ho]at V ob w on Ah b1 Q;simp only at V ob w on Ah b1 Q;have A0:p=x.b.length:=ob.1;subst A0;rcases hoo:d1.add (putEntryF E)with⟨p,M⟩;rw[hoo]at b1 Q;simp only at b1 Q ⊢;subst b1;have I:B.num 8=(es.map EntG.pos).length:=(by rw[on 8 (by decide) (by decide),n8,f,List.length_map]);have Cj:x.b.length<100000:=(by omega);have Bq:=ob.2.1;obtain⟨l3,L⟩:=link_im (x:=x.b.length) V.stat.objs V.main (main_src _) (by omega) (by omega)
  have tm:TightC B.main (es.map EntG.pos).length:=by
    rw[w.2.2.2,c2,List.length_map,← f];exact T.1
  obtain⟨L1,O,J,P,L5⟩:=Q.list (x:=x.b.length) V.stat.objs V.main (main_src _) (.inl rfl) tm (by omega);have G:M.num 8=B.num 8:=(by rw[Q.n8];rfl);rw[← I]at L L1 O J P L5;rw[← G]at L1;unfold Drf.okLink Drf.link;rw[← G]at O J P;have Ai:=nl_link B B.main (B.num 8) 176 x.b.length;have A2:=Q.agr.1;have Cs:M.h.n.getD 0 0=272:=Q.n0;have Ba:M.h.n.getD 8 0=B.num 8:=G;rcases hk:B.link B.main (B.num 8) 176 x.b.length with⟨a,t,N⟩;rw[G]at O J P;rw[hk]at L Ai O J P L5;simp only at L Ai O J P L5;rw[G];rcases hkk:M.list 176 (B.num 8) x.b.length with⟨a',t',d3⟩;rw[hkk]at O J P;simp only at O J P ⊢;subst O;replace J:=J.symm;subst J;have hz:=append_done (real:=real) (mono:=mono) (boot:=boot) hl (by simp) h3 hd (by rw[hEE];exact ho) hk rfl;have t1:=L.same;obtain⟨t1,t2,t3,t4,t5,t6⟩:=t1;have Bo:=L.top;have Cm:=L.eff.len;have Cp:N.num 8=es.length:=(by rw[t6 8 (by decide) (by decide) (by decide),I,List.length_map]);have SY:=P.linkH (a:=a) (t:=t) L.chain.word (by omega);obtain⟨Y,hY⟩:∃Y,Y=(let m4:=({N with main:=a}:Mk).setN 11 (a.getD 0 0);({m4 with h:={m4.h with tailArray:=lastN a%4294967296,tailItems:=t%4294967296}}:Mk)):=⟨_,rfl⟩;have Yn:∀i,i≠11→Y.num i=N.num i:=fun i Z=>by subst hY;exact getD_set_ne' (by omega)
  have Az:Y.num 11=a.getD 0 0:=(by subst hY;exact getD_set_eq' (by show 11<N.h.n.length;omega));have Ys:Y.b=N.b∧Y.c=N.c∧Y.datas=N.datas∧Y.fields=N.fields∧Y.main=a∧Y.h.n.length=N.h.n.length:=(by subst hY;exact⟨rfl,rfl,rfl,rfl,rfl,by simp[Mk.setN]⟩);rw[← hY]at hz SY;clear hY;obtain⟨y1,y2,y3,y4,y5,y6⟩:=Ys;have I3:=V.link L y1 y2 y3 y4 y5 ⟨Yn 2 (by decide),Yn 4 (by decide)⟩ (fun c=>c.to y6 fun i Z=>Yn i (by omega));have K:Y.datas=x.datas:=(by rw[y3,t2,w.2.1]);have iY:itemsL Y C=itemsL x C:=itemsL_ext (by rw[K];exact DExt.refl _) (by rw[y2,t1,w.1]) W.lt;obtain⟨K1,K2,K3⟩:=Sim.linkL (e:=x.b.length) (by omega) C (d3.linkH (lastN a) t) Y l3 _ SY I3 (fun i Z=>by rw[K];exact W.lt i Z) Ad (fun i _=>by have:=places_len es i;omega) (by rw[y1];omega) (by rw[K];exact TD);rw[iY]at K1 K2;obtain⟨l4,HH⟩:=hangE_im (e:=x.b.length) (by omega) C Y l3 _ I3 (fun i Z=>by rw[K];exact W.lt i Z) Ad (fun i _=>by have:=places_len es i;omega) (by rw[y1];omega);have A6:(Drf.linkL x.b.length (itemsL x C) (d3.linkH (lastN a) t)).h.state<256:=K2.hl.2.2.2.2;have A5:=K2.agr.1
  generalize hangE x.b.length C Y=z at *;replace hz:m.append raw real mono boot=if z.c.most<z.b.length then(0,15,m)else((x.num 9+1)%18446744073709551616,0,finM z (B.num 8) ((x.num 9+1)%18446744073709551616) real mono x.b.length boot):=hz;have zt:=HH.top;have zg:=HH.ge;rw[y1]at zt zg;obtain⟨z1,z2,z3,z4,z5⟩:=HH.same;have z8:z.num 8=B.num 8:=(by rw[z5 8 (by decide) (by decide) (by decide),Yn 8 (by decide),t6 8 (by decide) (by decide) (by decide)])
  have Bc:at8 z.b 176=z.num 11:=by
    rw[HH.img.main.word,z5 11 (by decide) (by decide) (by decide),Az,z3,y5]
  have zc:z.c=m.c:=(by rw[z1,y2,t1,w.1,c1]);have MK:=K2.mark (n:=B.num 8) (seq:=m.num 9+1) (real:=real) (mono:=mono) (e:=x.b.length) (boot:=boot) z8 (by rw[I,List.length_map];omega) hb (by omega) Bc;have F:=finM_spec z (B.num 8) (m.num 9+1) real mono x.b.length boot;obtain⟨f1,f2,f3,f4,f5,_,_,f6,f7⟩:=F;have zl:z.h.n.length=20:=K2.lem;have fA:=MK.1.agr.1;refine⟨⟨A7,A8,by omega,by omega,⟨G ▸ L1,by omega,K1⟩,by omega,by omega,?_,by omega,by omega,A6⟩,finM z (B.num 8) (m.num 9+1) real mono x.b.length boot,fA,?_,MK.1,⟨?_,?_⟩,MK.2 _ rfl,by rw[f1];omega⟩
  · rw[Ba,I,List.length_map];omega
  · rw[hz,zc,U,f1]
  · rw[f5,z3,y5]
    have:=(f7 zl).1
    have e8:(finM z (B.num 8) (m.num 9+1) real mono x.b.length boot).num 8=B.num 8+1:=by
      have e:z.n8=B.num 8:=z8;rw[e,Nat.mod_eq_of_lt (by rw[I,List.length_map];omega)]at this;exact this
    rw[e8];exact L5
  · rw[f3];exact K3
end Go.Wk
namespace Go.Wk
open Go Go.RowKit
theorem leP_trans (a b c:Pr) (h:leP a b=true) (k:leP b c=true):leP a c=true:=by
  unfold leP at *
  simp only[Bool.not_eq_true']at *
  cases h3:Op.bytesLess (whole c.pb) (whole a.pb)with
  | false=>rfl
  | true =>
    cases h4:Op.bytesLess (whole a.pb) (whole b.pb)with
    | true=>have:=bl_trans h3 h4;rw[k]at this;cases this
    | false=>have e:=bl_tri h4 h;rw[e,k]at h3;cases h3
theorem leP_total (a b:Pr):(leP a b || leP b a)=true:=by
  unfold leP
  cases h:Op.bytesLess (whole b.pb) (whole a.pb)with
  | false=>rfl
  | true=>rw[bl_asym h];rfl
theorem sort_le (l:List Pr):(sortF l).Pairwise fun a b=>leP a b=true:=List.pairwise_mergeSort leP_trans leP_total l
theorem mem_sort {p:Pr} {l:List Pr}:p∈sortF l↔p∈l:=List.mem_mergeSort
theorem mem_dd {p:Pr}:∀{l:List Pr} {x:Pr},x∈ddF p l∨x=p↔x∈l∨x=p
  | [],x=>by simp[ddF]
  | q :: r,x=>by
    unfold ddF
    have ih:=mem_dd (p:=q) (l:=r) (x:=x)
    split
    · rename_i h;rw[pb_inj]at h;subst h
      rw[ih];simp;constructor
      · rintro(h|h)<;>simp[h]
      · rintro((h|h)|h)<;>simp[h]
    · simp only[List.mem_cons]
      constructor
      · rintro((h|h)|h)
        · simp[h]
        · rcases ih.1 (.inl h)with h|h<;>simp[h]
        · simp[h]
      · rintro((h|h)|h)
        · simp[h]
        · rcases ih.2 (.inl h)with h|h<;>simp[h]
        · simp[h]
theorem mem_compact {x:Pr}:∀{l:List Pr},x∈compactF l↔x∈l
  | []=>by simp[compactF]
  | p :: r=>by
    have:=mem_dd (p:=p) (l:=r) (x:=x)
    simp only[compactF,List.mem_cons]
    constructor
    · rintro(h|h)
      · simp[h]
      · rcases this.1 (.inl h)with h|h<;>simp[h]
    · rintro(h|h)
      · simp[h]
      · rcases this.2 (.inl h)with h|h<;>simp[h]
theorem dd_asc:∀{l:List Pr} {p:Pr},right p.pb=true→(∀q∈l,right q.pb=true)→(p :: l).Pairwise (fun a b=>leP a b=true)→Asc (p :: ddF p l)
  | [],p,_,_,_=>by simp[ddF]
  | q :: r,p,hp,hr,h=>by
    obtain⟨h1,h2⟩:=List.pairwise_cons.1 h
    have hq:=hr q (by simp)
    have ih:=dd_asc hq (fun x hx=>hr x (by simp[hx])) h2
    unfold ddF
    split
    · rename_i e;rw[pb_inj]at e;subst e;exact ih
    · rename_i e
      have hpq:plt p q:=by
        have A:=h1 q (by simp)
        unfold leP at A
        cases hb:Op.bytesLess (whole p.pb) (whole q.pb)with
        | true=>exact hb
        | false=>exact absurd (pb_inj.2 (plt_tri hq hp (by simpa [plt]using A) (by simp[plt,hb]))) e
      refine List.pairwise_cons.2 ⟨fun x hx=>?_,ih⟩
      rcases List.mem_cons.1 hx with rfl|hx
      · exact hpq
      · exact plt_trans hpq ((List.pairwise_cons.1 ih).1 x hx)
theorem pack_asc {l:List Pr} (h:∀q∈l,right q.pb=true):Asc (packF l):=by
  unfold packF
  have C:=sort_le l
  have B:∀q∈sortF l,right q.pb=true:=fun q A=>h q (mem_sort.1 A)
  cases hl:sortF l with
  | nil=>simp[compactF]
  | cons p r=>rw[hl]at C B;exact dd_asc (B p (by simp)) (fun q A=>B q (by simp[A])) C
theorem mem_pack {x:Pr} {l:List Pr}:x∈packF l↔x∈l:=mem_compact.trans mem_sort
/-! both are one -/
theorem goL_right:∀(l o:List Pr),(∀q∈l,right q.pb=true)→(∀q∈o,right q.pb=true)→Asc o →
    ∃m,goL l o=(if 16<m.length then([],21)else(m,0))∧Asc m∧∀x,x∈m↔x∈l∨x∈o
  | [],o,_,_,ha=>⟨o,rfl,ha,by simp⟩
  | p :: r,o,hl,ho,ha=>by
    have hp:=hl p (by simp)
    have e:goL (p :: r) o=goL r (ins' p o):=by
      show(if(joinF p).2≠0 then([],(joinF p).2)else goL r (insF p o))=_
      rw[if_neg (by simp[joinF_right.2 hp]),ins_eq]
    obtain⟨m,B,C,D⟩:=goL_right r (ins' p o) (fun q A=>hl q (by simp[A])) (fun q A=>by rcases mem_ins.1 A with rfl|A;exact hp;exact ho q A) (asc_ins hp ho ha)
    refine⟨m,by rw[e,B],C,fun x=>?_⟩
    rw[D,mem_ins]
    simp;constructor
    · rintro(h|h|h) <;> simp[h]
    · rintro((h|h)|h) <;> simp[h]
theorem chk_right:∀(l:List Pr) (r:List Pr × Nat),(∀q∈l,right q.pb=true)→chkL l r=r
  | [],_,_=>rfl
  | p :: t,r,h=>by
    show(if(joinF p).2≠0 then([],(joinF p).2)else chkL t r)=r
    rw[if_neg (by simp[joinF_right.2 (h p (by simp))]),chk_right t r fun q hq=>h q (by simp[hq])]
theorem chk_wrong:∀(l o:List Pr) (r:List Pr × Nat),(¬∀q∈l,right q.pb=true)→chkL l r=goL l o
  | [],_,_,h=>absurd (by simp) h
  | p :: t,o,r,h=>by
    show(if(joinF p).2≠0 then([],(joinF p).2)else chkL t r)=(if(joinF p).2≠0 then([],(joinF p).2)else goL t (insF p o))
    split
    · rfl
    · rename_i h1
      have hp:right p.pb=true:=joinF_right.1 (by simpa using h1)
      exact chk_wrong t _ r fun hh=>h fun q hq=>by rcases List.mem_cons.1 hq with rfl|hq;exact hp;exact hh q hq
theorem plist_eq (l:List Pr):plistF l=listF l:=by
  unfold plistF listF
  split
  · rfl
  · by_cases h:∀q∈l,right q.pb=true
    · obtain⟨m,A,B,C⟩:=goL_right l [] h (by simp) (by simp)
      have e:m=packF l:=asc_ext B (pack_asc h) fun x=>by rw[C,mem_pack];simp
      rw[chk_right l _ h,A,e];rfl
    · exact chk_wrong l [] _ h
theorem right_tabF:∀a,a<6→∀b,b<10→right (namesF.getD a [],valuesF.getD b [])=true:=by decide
theorem pair_right (s:Sq):right s.pair.1.pb=true:=by
  have A:=s.num_le 6
  have B:=(s.num 6).2.num_le 10
  exact right_tabF (s.num 6).1 (by omega) ((s.num 6).2.num 10).1 (by omega)
theorem pairsL_right (n:Nat):∀(s:Sq) (o:List Pr),(∀q∈o,right q.pb=true)→∀q∈(pairsL n s o).1,right q.pb=true:=by
  induction n with
  | zero=>exact fun s o h=>h
  | succ n ih =>
    intro s o h
    refine ih s.pair.2 (o ++ [s.pair.1]) (fun q A=>?_)
    rcases List.mem_append.1 A with A|A
    · exact h q A
    · rw[List.mem_singleton.1 A];exact pair_right s
theorem ins_le (p:Pr):∀o:List Pr,(ins' p o).length≤o.length+1
  | []=>by simp[ins']
  | q :: r=>by
    unfold ins'
    have:=ins_le p r
    split
    · simp only[List.length_cons];omega
    · split<;>simp only[List.length_cons]<;>omega
theorem goL_rightL:∀(l o:List Pr),(∀q∈l,right q.pb=true)→l.length+o.length≤16→∃m,goL l o=(m,0)∧m.length≤l.length+o.length
  | [],o,_,h=>⟨o,by unfold goL;rw[if_neg (by simp at h;omega)],by simp⟩
  | p :: r,o,hl,h=>by
    simp only[List.length_cons]at h
    have e:goL (p :: r) o=goL r (ins' p o):=by
      show(if(joinF p).2≠0 then([],(joinF p).2)else goL r (insF p o))=_
      rw[if_neg (by simp[joinF_right.2 (hl p (by simp))]),ins_eq]
    have D:=ins_le p o
    obtain⟨m,A,C⟩:=goL_rightL r (ins' p o) (fun q B=>hl q (by simp[B])) (by omega)
    exact⟨m,by rw[e,A],by simp only[List.length_cons];omega⟩
theorem right_short:∀a,a<6→∀b,b<10→(namesF.getD a []).length≤8∧(valuesF.getD b []).length≤40:=by decide
theorem pair_short (s:Sq):s.pair.1.name.length≤8∧s.pair.1.value.length≤40:=by
  have A:=s.num_le 6
  have B:=(s.num 6).2.num_le 10
  exact right_short (s.num 6).1 (by omega) ((s.num 6).2.num 10).1 (by omega)
theorem pairsL_short (n:Nat):∀(s:Sq) (o:List Pr),(∀q∈o,q.name.length≤8∧q.value.length≤40)→∀q∈(pairsL n s o).1,q.name.length≤8∧q.value.length≤40:=by
  induction n with
  | zero=>exact fun s o h=>h
  | succ n ih =>
    intro s o h
    refine ih s.pair.2 (o ++ [s.pair.1]) (fun q B=>?_)
    rcases List.mem_append.1 B with B|B
    · exact h q B
    · rw[List.mem_singleton.1 B];exact pair_short s
/-- A record of choices: its fields are a list as it is to be, few and short. -/
theorem record_few (s:Sq) (n:Nat):listF (s.record n).1.fields=((s.record n).1.fields,0)∧(1≤(s.record n).1.fields.length∧(s.record n).1.fields.length≤4)∧∀q∈(s.record n).1.fields,right q.pb=true∧q.name.length≤8∧q.value.length≤40:=by
  rcases h1:s.pairs 4 with⟨I,Q⟩
  rcases h2:Q.num 40 with⟨a,R⟩
  rcases h3:R.num 9 with⟨b,S⟩
  rcases h4:S.num 3 with⟨c,W⟩
  simp only[Sq.record,h1,h2,h3,h4]
  have V:=s.num_le 4
  have e:s.pairs 4=pairsL ((s.num 4).1+1) (s.num 4).2 []:=rfl
  rw[e]at h1
  have G:=(pairsL_bd ((s.num 4).1+1) (s.num 4).2 [] (by simp)).2
  have C:=pairsL_right ((s.num 4).1+1) (s.num 4).2 [] (by simp)
  have D:=pairsL_short ((s.num 4).1+1) (s.num 4).2 [] (by simp)
  rw[h1]at G C D
  simp only[List.length_nil,Nat.zero_add]at G C D
  obtain⟨m,M,N⟩:=goL_rightL I [] C (by simp only[List.length_nil];omega)
  have F:listF I=(m,0):=by unfold listF;rw[if_neg (by omega)];exact M
  obtain⟨J,E,K,T,L⟩:=listF_all F
  rw[F]
  simp only[List.length_nil]at N
  have B:m.length≠0:=fun h=>L (List.eq_nil_of_length_eq_zero h)
  refine⟨?_,⟨by simp only;omega,by simp only;omega⟩,fun q H=>⟨E q H,D q ((K q).1 H)⟩⟩
  obtain⟨P,O,U⟩:=goL_rightL m [] E (by simp only[List.length_nil];omega)
  have A:listF m=(P,0):=by unfold listF;rw[if_neg B];exact O
  rw[A,listF_self A J]
end Go.Wk
namespace Go.Wk
open Go Go.RowKit
theorem link_top (m:Mk) (av:List Nat) (n src x:Nat) (h:n≤8):(m.link av n src x).2.2.b.length≤m.b.length+88:=by
  unfold Mk.link;rw[rooms_all];simp only;by_cases hn:n=cum av.length
  · rw[if_pos hn]
    have D:=cum_ge av.length
    have E:roomF (av.length:Int)≤8∨2≤av.length:=by
      rcases hl:av.length with _|_|k
      · exact .inl (by decide)
      · exact .inl (by decide)
      · exact .inr (by omega)
    have C:2≤av.length→12≤cum av.length:=fun h=>cum_mono (i:=2) h;have A:=(object_spec m (putArrayF {next:=0,items:=List.replicate (roomF (av.length:Int)) 0})).2.1;rw[putArrayF_len]at A;simp only[List.length_replicate]at A
    generalize m.object (putArrayF {next:=0,items:=List.replicate (roomF (av.length:Int)) 0})=r at *;obtain⟨p,B⟩:=r;simp only at A ⊢;rw[put_len]
    split
    · rw[put_len];show B.b.length≤_;omega
    · rw[put_len];show B.b.length≤_;omega
  · rw[if_neg hn]
    simp only;rw[put_len];omega
theorem hangE_top {es:List EntG} {mp:List Nat} {e:Nat} (he:e<18446744073709551616):∀(od:List Nat) (m:Mk) (l:List Ob) (f:Nat→List Nat),ImgC m l es mp f→(∀i∈od,i<m.datas.length)→od.Nodup→(∀i∈od,(f i).length≤8)→m.b.length+2100*od.length<900000 →
    (hangE e od m).b.length≤m.b.length+88*od.length
  | [],m,l,f,_,_,_,_,_=>Nat.le_refl _
  | i :: r,m,l,f,h,hi,hn,hl,hb=>by
    obtain⟨k,hk⟩:∃k,m.datas[i]? = some k:=⟨_,List.getElem?_eq_getElem (hi i (by simp))⟩;simp only[List.length_cons]at hb ⊢;have hli:=hl i (by simp);obtain⟨l1,k1,H⟩:=hang_one (e:=e) h.stat.objs hk (h.stat.data k (List.mem_of_getElem? hk)) (h.dat i k hk) (by omega) he (by omega);have g:=h.hang hk H;have hd1:DSame m.datas (hang1 e i m).datas:=(by rw[H.dat];exact DSame.set hk H.pos.1 H.pos.2.1);have ht:=H.top
    have t1:(hang1 e i m).b.length≤m.b.length+88:=by
      have D:m.datas.getD i known0=k:=(by simp[List.getD,hk]);have F:=(h.dat i k hk).cnt;have B:=link_top m k.arrays (k.count-1) (k.pos+48) e (by omega);unfold Go.Wk.hang1;simp only[D]
      split
      · show((m.put (k.pos+40) e).put (k.pos+56) 1).b.length≤_
        rw[put_len,put_len];omega
      · generalize m.link k.arrays (k.count-1) (k.pos+48) e=q at *
        obtain⟨a,t,E⟩:=q;simp only at B ⊢;show(E.put (k.pos+56) (k.count+1)).b.length≤_;rw[put_len];exact B
    rw[hangE_cons];rw[List.nodup_cons]at hn;have C:∀j∈r,(if j=i then f i ++ [e]else f j)=f j:=fun j A=>if_neg (by rintro rfl;exact hn.1 A);have:=hangE_top he r (hang1 e i m) l1 _ g (fun j A=>by rw[hd1.len];exact hi j (by simp[A])) hn.2 (fun j A=>by simp only[C j A];exact hl j (by simp[A])) (by omega);omega
theorem datasL_top:∀(fs:List Pr) (m:Mk) (ps:List (List UInt8)) (od:List Nat),m.fit→(∀q∈fs,q.name.length≤8∧q.value.length≤40)→(datasL fs m ps od).2.2.b.length≤m.b.length+460*fs.length
  | [],m,_,_,_,_=>Nat.le_refl _
  | x :: r,m,ps,od,h,hq=>by
    have g:=data_ok m x h;have gl:=g.le;have hp:=payload_len x;have hx:=hq x (by simp);have:=datasL_top r (m.data x).2 (ps ++ [((m.data x).2.datas.getD (m.data x).1 known0).text]) (placeF (m.data x).2.datas (m.data x).1 od) g.fit fun q h=>hq q (by simp[h]);have e:datasL (x :: r) m ps od=datasL r (m.data x).2 (ps ++ [((m.data x).2.datas.getD (m.data x).1 known0).text]) (placeF (m.data x).2.datas (m.data x).1 od):=rfl;rw[e,List.length_cons];omega
/-- An entry of few short fields has room. -/
theorem append_small {m:Mk} {l:List Ob} {es:List EntG} {raw fs:List Pr} {real mono:Nat} {boot:Ly} (h:Img m l es) (ok:MkOk m) (hb:boot.length=16) (hl:listF raw=(fs,0)) (h3:¬m.num 9=18446744073709551615)
    (hfs:fs.length≤4) (hq:∀q∈fs,q.name.length≤8∧q.value.length≤40) (hn:es.length≤8) (hm:m.b.length+2420≤m.c.most):∃m',m.append raw real mono boot=(m.num 9+1,0,m')∧m'.b.length≤m.b.length+2420:=by
  obtain⟨O,B,u,Ah,Ai⟩:=listF_all hl;obtain⟨j,_⟩:=listF_bd hl;have D:=datasL_ok fs m [] [] 0 (datas_start ok) j;have o:=datasL_top fs m [] [] ok.fit hq;obtain⟨l1,Q,W⟩:=datasL_im fs [] m l [] [] es (es.map EntG.pos) (places es) h.c (fun i F=>places_nil h.who i F) ⟨rfl,by simp,by simp,List.Pairwise.nil⟩ j (by rw[List.nil_append];exact asc_payload O B);rcases hd:datasL fs m [] []with⟨ps,H,x⟩;rw[hd,Nat.zero_add]at D;rw[hd]at Q W o;rw[List.nil_append]at W;simp only at D Q W o;have s1:=ok.small;have d5:=D.len.1;obtain⟨c1,c2,k⟩:=Q.same;have n9:x.num 9=m.num 9:=k 9 (by decide) (by decide) (by decide);have n8:x.num 8=m.num 8:=k 8 (by decide) (by decide) (by decide);have d:=h.n8;have Ag:=h.n9;have K:=asc_nodup W.asc;have M:(x.num 9+1)%18446744073709551616=m.num 9+1:=(by rw[n9];exact Nat.mod_eq_of_lt (by omega))
  generalize hE:({seq:=(x.num 9+1)%18446744073709551616,real:=real,mono:=mono,boot:=boot,xor:=xorF 0 ps,items:=itemsL x H}:Ent)=E;have ei:E.items.length=H.length:=(by subst hE;simp[itemsL]);have p:E.boot.length=16:=(by subst hE;exact hb);have I:=Q.img.entry (E:=E) (who:=H) p (by omega);have S:=(object_spec x (putEntryF E));have U:=object_same x (putEntryF E);have f:∀i,i≠6→i≠7→(x.object (putEntryF E)).2.num i=x.num i:=fun i h6 h7=>obj_num x _ ⟨h6,h7⟩;have el:=putEntryF_len E p;rcases ho:x.object (putEntryF E)with⟨e,C⟩;rw[ho]at I S U f;simp only at I S U f;have Z:e=x.b.length:=S.1;subst Z;have P:C.num 8=(es.map EntG.pos).length:=(by rw[f 8 (by decide) (by decide),n8,d,List.length_map]);have w:=S.2.1;obtain⟨r,L⟩:=link_im (x:=x.b.length) I.stat.objs I.main (main_src _) (by omega) (by omega);rw[← P]at L;have v:=link_top C C.main (C.num 8) 176 x.b.length (by rw[P,List.length_map];exact hn);rcases hk:C.link C.main (C.num 8) 176 x.b.length with⟨a,t,G⟩;rw[hk]at L v;simp only at L v;have N:=append_done (real:=real) (mono:=mono) (boot:=boot) hl (by simp) h3 hd (by rw[hE];exact ho) hk rfl;obtain⟨t1,t2,t3,t4,t5,t6⟩:=L.same;obtain⟨Y,R⟩:∃Y,Y=(let m4:=({G with main:=a}:Mk).setN 11 (a.getD 0 0);({m4 with h:={m4.h with tailArray:=lastN a%4294967296,tailItems:=t%4294967296}}:Mk)):=⟨_,rfl⟩;have X:∀i,i≠11→Y.num i=G.num i:=fun i F=>by subst R;exact getD_set_ne' (by omega)
  have Ys:Y.b=G.b∧Y.c=G.c∧Y.datas=G.datas∧Y.fields=G.fields∧Y.main=a∧Y.h.n.length=G.h.n.length:=(by subst R;exact⟨rfl,rfl,rfl,rfl,rfl,by simp[Mk.setN]⟩);rw[← R]at N;clear R;obtain⟨V,y,y3,y4,y5,y6⟩:=Ys;have g:=I.link L V y y3 y4 y5 ⟨X 2 (by decide),X 4 (by decide)⟩ (fun c=>c.to y6 fun i F=>X i (by omega));have J:Y.datas=x.datas:=(by rw[y3,t2,U.2.1]);have T:=hangE_top (e:=x.b.length) (by omega) H Y r _ g (fun i F=>by rw[J];exact W.lt i F) K (fun i _=>by have:=places_len es i;omega) (by rw[V];omega);obtain⟨l4,HH⟩:=hangE_im (e:=x.b.length) (by omega) H Y r _ g (fun i F=>by rw[J];exact W.lt i F) K (fun i _=>by have:=places_len es i;omega) (by rw[V];omega)
  generalize hangE x.b.length H Y=z at *;replace N:m.append raw real mono boot=if z.c.most<z.b.length then(0,15,m)else((x.num 9+1)%18446744073709551616,0,finM z (C.num 8) ((x.num 9+1)%18446744073709551616) real mono x.b.length boot):=N;have zc:z.c=m.c:=(by rw[HH.same.1,y,t1,U.1,c1]);rw[V]at T;have zt:z.b.length≤m.b.length+2420:=(by omega);rw[if_neg (by rw[zc];omega),M]at N;exact⟨_,N,by rw[(finM_spec z (C.num 8) (m.num 9+1) real mono x.b.length boot).1];exact zt⟩
/-- A draft that goes as a maker's journal of n entries. -/
structure Live (d:Drf) (m:Mk) (n:Nat):Prop where
  img:∃l es,Img m l es∧es.length=n
  hs:Hs m
  ok:MkOk m
  tight:TightM m
  sim:Sim 0 d m
  im:d.b=imageM m d.h.state
/-- An entry more, or none where there is no room for it. -/
theorem Live.step {d:Drf} {m:Mk} {n:Nat} (L:Live d m n) {raw fs:List Pr} {real mono:Nat} {boot:Ly} {e:Ent} (hb:boot.length=16) (hr:real<18446744073709551616∧mono<18446744073709551616) (hl:listF raw=(fs,0)) (h3:¬m.num 9=18446744073709551615)
    (he:e.seq=m.num 9+1∧e.real=real∧e.mono=mono∧e.boot=boot) :
    d.okEnt fs e∧∃z:Mk,m.append raw real mono boot=(if m.c.most<(d.entry fs e).b.length then(0,15,m)else(m.num 9+1,0,z))∧(d.entry fs e).b.length≤300000∧(¬m.c.most<(d.entry fs e).b.length→Live (d.entry fs e) z (n+1)∧z.num 9=m.num 9+1∧z.c=m.c):=by
  obtain⟨l,R,D,J⟩:=L.img;obtain⟨M,z,E,A,G,N,P,Q⟩:=L.sim.entry D L.hs L.ok L.tight hb hl h3 he;refine⟨M,z,by rw[E];exact A,by rw[E];exact Q,fun I=>?_⟩;rw[← E,if_neg I]at A;obtain⟨K,g,B,F,C⟩:=append_im D L.ok L.hs.h20 hb hr A;rw[hl]at F;obtain rfl:fs=B:=(Prod.mk.inj F).1;have H:=append_hs D L.hs L.ok hb hl A;have O:=append_ok L.ok (raw:=raw) (real:=real) (mono:=mono) (boot:=boot) hb (by rw[A];exact G.lem);rw[A]at O;exact⟨⟨⟨K,_,C.img,by rw[List.length_append];simp[J]⟩,H.1,O,N,G,P⟩,C.seq.2.trans rfl,C.c⟩
end Go.Wk
