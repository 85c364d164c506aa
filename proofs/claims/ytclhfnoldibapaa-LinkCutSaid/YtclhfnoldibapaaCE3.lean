/- Part 3 of what the walk of a law stands on: ImT13, ImT14, LinkP, LinkQ, ImT15, ImT16, ImT17, LwP, CutP, BhP, CutQ, PutP, VLe, VGet, VHead, VHead2, VHead3, VHead4, VAdd20, VPut. No statement is proved here. -/
import Derived.Test.YtclhfnoldibapaaCE2
import Derived.Test.YtclhfnoldibapaaRows
set_option linter.unusedVariables false
set_option linter.unusedSimpArgs false
namespace Go.Wk
open Go Go.RowKit
/-! the rest of the head -/
def hk (m:Mk):Nat × Nat × Nat × List UInt8:=(m.h.compat,m.h.incompat,m.h.state,m.h.file)
theorem hk_h {m M:Mk} (h:M.h=m.h):hk M=hk m:=by unfold hk;rw[h]
theorem hk_hang (m:Mk) (l:List Known) (t p s:Nat):hk (m.hang l t p s).2=hk m:=by unfold hk;rw[(hang_eq m l t p s).1]
theorem hk_field (m:Mk) (x:Ly):hk (m.field x).2=hk m:=by
  unfold Mk.field
  split
  · rfl
  simp only
  have B:hk (m.object (putFieldF {hash:=hashN m.c.keyed m.c.file x,nextHash:=0,dat:=0,payload:=x})).2=hk m:=rfl
  generalize m.object (putFieldF {hash:=hashN m.c.keyed m.c.file x,nextHash:=0,dat:=0,payload:=x})=r at *
  obtain⟨p,A⟩:=r
  simp only at B ⊢
  have C:=hk_hang A A.fields (A.num 4) p (hashN m.c.keyed m.c.file x%A.c.fieldSlots)
  generalize A.hang A.fields (A.num 4) p (hashN m.c.keyed m.c.file x%A.c.fieldSlots)=r at *
  obtain⟨n,D⟩:=r
  exact C.trans B
theorem hk_data (m:Mk) (x:Pr):hk (m.data x).2=hk m:=by
  unfold Mk.data
  split
  · rfl
  simp only
  have C:hk (m.object (putDataF {hash:=hashN m.c.keyed m.c.file (payload x),nextHash:=0,nextField:=0,entry:=0,array:=0,count:=0,payload:=payload x})).2=hk m:=rfl
  generalize m.object (putDataF {hash:=hashN m.c.keyed m.c.file (payload x),nextHash:=0,nextField:=0,entry:=0,array:=0,count:=0,payload:=payload x})=r at *
  obtain⟨p,A⟩:=r
  simp only at C ⊢
  have D:=hk_hang A A.datas (A.num 2) p (hashN m.c.keyed m.c.file (payload x)%A.c.dataSlots)
  generalize A.hang A.datas (A.num 2) p (hashN m.c.keyed m.c.file (payload x)%A.c.dataSlots)=r at *
  obtain⟨n,B⟩:=r
  simp only at D ⊢
  generalize hx5:({(B.setN 19 (max (B.num 19) n)).setN 15 (((B.setN 19 (max (B.num 19) n)).num 15+1)%18446744073709551616)with datas:=((B.setN 19 (max (B.num 19) n)).setN 15 (((B.setN 19 (max (B.num 19) n)).num 15+1)%18446744073709551616)).datas ++ [({text:=payload x,pos:=p,slot:=hashN m.c.keyed m.c.file (payload x)%A.c.dataSlots,count:=0,arrays:=[]}:Known)]}:Mk)=m5
  have E:hk m5=hk B:=by subst hx5;rfl
  have F:=hk_field m5 x.name
  generalize m5.field x.name=r at *
  obtain⟨k,G⟩:=r
  exact F.trans (E.trans (D.trans C))
theorem hk_datasL:∀(l:List Pr) (m:Mk) (ps:List (List UInt8)) (od:List Nat),hk (datasL l m ps od).2.2=hk m
  | [],_,_,_=>rfl
  | x :: r,m,ps,od=>(hk_datasL r _ _ _).trans (hk_data m x)
theorem hk_link (m:Mk) (a:List Nat) (n src item:Nat):hk (m.link a n src item).2.2=hk m:=by
  unfold Mk.link
  generalize roomsL a 0 0 0=r
  obtain⟨A,C⟩:=r
  simp only
  split
  · have B:hk (m.object (putArrayF {next:=0,items:=List.replicate (roomF (a.length:Int)) 0})).2=hk m:=rfl
    generalize m.object (putArrayF {next:=0,items:=List.replicate (roomF (a.length:Int)) 0})=r at *
    obtain⟨p,D⟩:=r
    simp only at B ⊢
    split
    · exact B
    exact B
  rfl
theorem hk_hangE (e:Nat):∀(od:List Nat) (m:Mk),hk (hangE e od m)=hk m
  | [],_=>rfl
  | i :: r,m=>by
    rw[hangE_cons,hk_hangE e r]
    unfold hang1
    simp only
    split
    · exact hk_h rfl
    · have g:=hk_link m (m.datas.getD i known0).arrays ((m.datas.getD i known0).count-1) ((m.datas.getD i known0).pos+48) e
      generalize m.link (m.datas.getD i known0).arrays ((m.datas.getD i known0).count-1) ((m.datas.getD i known0).pos+48) e=r at *
      obtain⟨a,t,m1⟩:=r
      exact(hk_h rfl).trans g
theorem hk_finM (z:Mk) (n seq real mono e:Nat) (boot:Ly):hk (finM z n seq real mono e boot)=hk z:=by
  unfold finM
  simp only
  generalize hy:(if n=0 then(z.setN 10 seq).setN 12 real else z)=y
  have:hk y=hk z:=by subst hy;split <;> rfl
  exact this
theorem hk_append (m:Mk) (raw:List Pr) (real mono:Nat) (boot:Ly):hk (m.append raw real mono boot).2.2=hk m∧((m.append raw real mono boot).2.1≠0→(m.append raw real mono boot).2.2=m):=by
  rcases hl:listF raw with⟨l,c⟩
  by_cases h2:c≠0
  · have e:m.append raw real mono boot=(0,c,m):=by unfold Mk.append;simp only[hl];rw[if_pos h2]
    rw[e];exact⟨rfl,fun _=>rfl⟩
  by_cases h3:m.num 9=18446744073709551615
  · have e:m.append raw real mono boot=(0,1,m):=by unfold Mk.append;simp only[hl];rw[if_neg h2,if_pos h3]
    rw[e];exact⟨rfl,fun _=>rfl⟩
  have E:=hk_datasL l m [] []
  rcases hd:datasL l m [] []with⟨I,D,x⟩
  rw[hd]at E
  have F:hk (x.object (putEntryF {seq:=(x.num 9+1)%18446744073709551616,real:=real,mono:=mono,boot:=boot,xor:=xorF 0 I,items:=itemsL x D})).2=hk x:=rfl
  rcases ho:x.object (putEntryF {seq:=(x.num 9+1)%18446744073709551616,real:=real,mono:=mono,boot:=boot,xor:=xorF 0 I,items:=itemsL x D})with⟨e,A⟩
  rw[ho]at F
  have G:=hk_link A A.main (A.num 8) 176 e
  rcases hk3:A.link A.main (A.num 8) 176 e with⟨a,t,C⟩
  rw[hk3]at G
  simp only at E F G
  have B:m.append raw real mono boot=_:=append_done (real:=real) (mono:=mono) (boot:=boot) hl h2 h3 hd ho hk3 rfl
  have H:=hk_hangE e D (let m4:=({C with main:=a}:Mk).setN 11 (a.getD 0 0);{m4 with h:={m4.h with tailArray:=lastN a%4294967296,tailItems:=t%4294967296}})
  have J:hk (let m4:=({C with main:=a}:Mk).setN 11 (a.getD 0 0);({m4 with h:={m4.h with tailArray:=lastN a%4294967296,tailItems:=t%4294967296}}:Mk))=hk C:=rfl
  rw[J]at H
  generalize hangE e D (let m4:=({C with main:=a}:Mk).setN 11 (a.getD 0 0);{m4 with h:={m4.h with tailArray:=lastN a%4294967296,tailItems:=t%4294967296}})=z at B H
  replace B:m.append raw real mono boot=if z.c.most<z.b.length then(0,15,m)else((x.num 9+1)%18446744073709551616,0,finM z (A.num 8) ((x.num 9+1)%18446744073709551616) real mono e boot):=B
  rw[B]
  split
  · exact⟨rfl,fun _=>rfl⟩
  refine⟨?_,fun h=>absurd rfl h⟩
  show hk (finM _ _ _ _ _ _ _)=_
  rw[hk_finM,H,G,F,E]
/-! a new maker -/
theorem slots_zero (n:Nat):slotsF (List.replicate n {first:=0,tail:=0})=nums (List.replicate (2*n) 0):=by
  induction n with
  | zero=>rfl
  | succ n ih =>
    rw[List.replicate_succ,slotsF,ih,show 2*(n+1)=(2*n+1)+1 by omega,List.replicate_succ,List.replicate_succ]
    simp[nums]
theorem tabB {k:Nat} (hk:k=4∨k=5) (n:Nat):(∃r,putTableF k (List.replicate n {first:=0,tail:=0})=hdr k (16+16*n) ++ r)∧(putTableF k (List.replicate n {first:=0,tail:=0})).length=16+16*n ∧
    ∀i,i<2*n→at8 (putTableF k (List.replicate n {first:=0,tail:=0})) (16+8*i)=0:=by
  have e:putTableF k (List.replicate n {first:=0,tail:=0})=putF k (nums (List.replicate (2*n) 0) ++ []):=by
    unfold putTableF;rw[if_neg (by omega),slots_zero,List.append_nil]
  obtain⟨A,B,C,_⟩:=objB (k:=k) (by omega) (List.replicate (2*n) 0) [] (fun v E=>by rw[(List.mem_replicate.1 E).2];decide)
  rw[← e]at A B C
  simp only[List.length_replicate,List.length_nil,Nat.add_zero]at A B
  rw[show 16+8*(2*n)=16+16*n by omega]at A B
  exact⟨A,by rw[B];unfold up8;omega,fun i D=>C i 0 (by rw[List.getElem?_replicate,if_pos D])⟩
def objs0 (c:Cfg):List Ob:=[⟨272,4,16+16*c.dataSlots⟩,⟨288+16*c.dataSlots,5,16+16*c.fieldSlots⟩]
structure HeadI (m:Mk):Prop where
  hk:hk m=(2,if m.c.keyed then 4 else 0,1,m.c.file)
  n0:m.num 0=272
  n3:m.num 3=16*m.c.dataSlots
  n5:m.num 5=16*m.c.fieldSlots
theorem newMk_im {c:Cfg} {t:Nat} (h:c.dataSlots≤10∧c.fieldSlots≤10) (h1:1≤c.dataSlots∧1≤c.fieldSlots) (ht:t<1000000):Img (newMk c t) (objs0 c) []∧HeadI (newMk c t)∧(newMk c t).num 9=t:=by
  obtain⟨⟨Q,H⟩,I,_⟩:=tabB (k:=4) (.inl rfl) c.dataSlots
  obtain⟨⟨R,J⟩,K,_⟩:=tabB (k:=5) (.inr rfl) c.fieldSlots
  have E:(newMk c t).b=List.replicate 272 0 ++ putTableF 4 (List.replicate c.dataSlots {first:=0,tail:=0}) ++ putTableF 5 (List.replicate c.fieldSlots {first:=0,tail:=0}):=rfl
  have A:(newMk c t).h.n=(((((((((List.replicate 20 0).set 0 272).set 2 288).set 3 (16*c.dataSlots)).set 4 ((List.replicate 272 (0:UInt8) ++ putTableF 4 (List.replicate c.dataSlots {first:=0,tail:=0})).length+16)).set 5 (16*c.fieldSlots)).set 6 ((List.replicate 272 (0:UInt8) ++ putTableF 4 (List.replicate c.dataSlots {first:=0,tail:=0})).length)).set 7 2).set 9 t):=rfl
  have D:(List.replicate 272 (0:UInt8) ++ putTableF 4 (List.replicate c.dataSlots {first:=0,tail:=0})).length=288+16*c.dataSlots:=by rw[List.length_append,List.length_replicate,I];omega
  have M:(newMk c t).b.length=304+16*c.dataSlots+16*c.fieldSlots:=by rw[E,List.length_append,D,K];omega
  rw[D]at A
  have num:∀i,(newMk c t).num i=(newMk c t).h.n.getD i 0:=fun _=>rfl
  generalize hT4:putTableF 4 (List.replicate c.dataSlots {first:=0,tail:=0})=T4 at *
  generalize hT5:putTableF 5 (List.replicate c.fieldSlots {first:=0,tail:=0})=T5 at *
  have O:seg (newMk c t).b 272 16=hdr 4 (16+16*c.dataSlots):=by
    rw[E,List.append_assoc,seg_skip (by rw[List.length_replicate];exact Nat.le_refl _),List.length_replicate,Nat.sub_self,H,List.append_assoc]
    exact seg_take _ _ (hdr_len _ _).symm
  have P:seg (newMk c t).b (288+16*c.dataSlots) 16=hdr 5 (16+16*c.fieldSlots):=by
    rw[E,seg_skip (by omega),D,Nat.sub_self,J]
    exact seg_take _ _ (hdr_len _ _).symm
  have u4:up8 (16+16*c.dataSlots)=16+16*c.dataSlots:=by unfold up8;omega
  have u5:up8 (16+16*c.fieldSlots)=16+16*c.fieldSlots:=by unfold up8;omega
  have L:Objs (newMk c t).b 272 (objs0 c) (newMk c t).b.length:=by
    refine⟨rfl,by simp,by simp,by simp only;omega,by simp only;omega,O,?_⟩
    simp only[u4]
    rw[show 272+(16+16*c.dataSlots)=288+16*c.dataSlots by omega]
    refine⟨rfl,by simp,by simp,by simp only;omega,by simp only;omega,P,?_⟩
    simp only[u5,Objs]
    rw[M];omega
  have B:(newMk c t).datas=[]:=rfl
  have N:(newMk c t).fields=[]:=rfl
  have G:(newMk c t).main=[]:=rfl
  have F:(newMk c t).c=c:=rfl
  have C:at8 (newMk c t).b 176=0:=by
    rw[E,at8_app (by rw[D];omega),at8_app (by rw[List.length_replicate];omega)]
    show leN (((List.replicate 272 0).drop 176).take 8)=0
    rw[List.drop_replicate,List.take_replicate]
    rfl
  refine⟨⟨⟨⟨L,by rw[F];simp[objs0],by rw[F];simp[objs0],by rw[num,A];rfl,by rw[num,A];simp only[F];show _+16=_;omega,by rw[F];exact h1,by rw[B];simp,by rw[N];simp,by rw[B];simp,by simp[objs0]⟩,?_,by rw[B];simp,⟨by rw[B];simp,by rw[B];simp⟩,by simp,by simp[objs0]⟩,by rw[num,A];rfl,by rw[num,A];show t<_;omega,by rw[num,A,G];rfl,by simp,by rw[B];simp⟩,⟨rfl,by rw[num,A];rfl,by rw[num,A];rfl,by rw[num,A];rfl⟩,by rw[num,A];rfl⟩
  rw[G]
  exact⟨C,by simp,by simp,by simp,by simp,Nat.le_refl _,Nat.le_refl _⟩
end Go.Wk
namespace Go.Wk
open Go Go.RowKit
/-- A maker and the records that were put. -/
structure MkIm (m:Mk) (l:List Ob) (es:List EntG) (rs:List Rec):Prop where
  img:Img m l es
  ok:MkOk m
  h20:m.h.n.length=20
  hd:HeadI m
  len:es.length=rs.length
  rcd:∀(i:Nat) (g:EntG) (r:Rec),es[i]? = some g→rs[i]? = some r→RecG m g r
  rise:rs.Pairwise fun a b=>a.seq<b.seq
  top:∀r∈rs,1≤r.seq∧r.seq≤m.num 9
/-- m' goes on from m. -/
structure MkOn (m m':Mk) (es es':List EntG) (rs rs':List Rec):Prop where
  es:∃t,es'=es ++ t
  rs:∃t,rs'=rs ++ t
  main:∃t,m'.main=m.main ++ t
  ext:DExt m.datas m'.datas
  c:m'.c=m.c
  len:m.b.length≤m'.b.length
  num:∀i,i≤5→m'.num i=m.num i
theorem MkOn.refl (m:Mk) (es:List EntG) (rs:List Rec):MkOn m m es es rs rs:=⟨⟨[],by simp⟩,⟨[],by simp⟩,⟨[],by simp⟩,DExt.refl _,rfl,Nat.le_refl _,fun _ _=>rfl⟩
theorem MkOn.trans {a b c:Mk} {es es' es'':List EntG} {rs rs' rs'':List Rec} (h:MkOn a b es es' rs rs') (k:MkOn b c es' es'' rs' rs''):MkOn a c es es'' rs rs'':=by
  obtain⟨H,B⟩:=h.es;obtain⟨K,E⟩:=k.es
  obtain⟨I,C⟩:=h.rs;obtain⟨L,F⟩:=k.rs
  obtain⟨J,D⟩:=h.main;obtain⟨u3,G⟩:=k.main
  exact⟨⟨H ++ K,by rw[E,B,List.append_assoc]⟩,⟨I ++ L,by rw[F,C,List.append_assoc]⟩,⟨J ++ u3,by rw[G,D,List.append_assoc]⟩,h.ext.trans k.ext,k.c.trans h.c,lE h.len k.len,fun i A=>(k.num i A).trans (h.num i A)⟩
theorem listF_self {x fs:List Pr} (h:listF x=(fs,0)) (ha:Asc x):fs=x:=by
  obtain⟨A,_,B,_⟩:=listF_all h
  exact asc_ext A ha B
theorem goL_err:∀(l o x:List Pr) (c:Nat),goL l o=(x,c)→c≠0→x=[]
  | [],o,x,c,h,hc=>by
    unfold goL at h
    split at h
    · exact(Prod.mk.inj h).1.symm
    · exact absurd (Prod.mk.inj h).2.symm hc
  | p :: r,o,x,c,h,hc=>by
    unfold goL at h
    split at h
    · exact(Prod.mk.inj h).1.symm
    · exact goL_err r _ x c h hc
theorem listF_asc (l:List Pr):Asc (listF l).1:=by
  rcases h:listF l with⟨x,c⟩
  by_cases hc:c=0
  · subst hc;exact(listF_all h).1
  unfold listF at h
  split at h
  · rw[← (Prod.mk.inj h).1];exact List.Pairwise.nil
  rw[goL_err _ _ _ _ h hc];exact List.Pairwise.nil
theorem app_get' {α:Type} {l:List α} {p a:α} {k:Nat} (h:(l ++ [p])[k]? = some a):(k<l.length∧l[k]? = some a)∨(k=l.length∧a=p):=by
  rcases Nat.lt_or_ge k l.length with hk|hk
  · rw[List.getElem?_append_left hk]at h;exact .inl ⟨hk,h⟩
  have B:=(List.getElem?_eq_some_iff.1 h).1
  simp at B
  rw[List.getElem?_append_right hk,show k-l.length=0 by omega]at h
  exact .inr ⟨by omega,by simpa using h.symm⟩
/-- A record that is put. -/
theorem step_im {m m':Mk} {l:List Ob} {es:List EntG} {rs:List Rec} {r:Rec} {s:Nat} (h:MkIm m l es rs) (hr:r.seq=(m.num 9+1)%18446744073709551616) (hb:r.boot.length=16) (hn:r.real<18446744073709551616∧r.mono<18446744073709551616) (hf:Asc r.fields) (ha:m.append r.fields r.real r.mono r.boot=(s,0,m')) :
    ∃l' es',MkIm m' l' es' (rs ++ [r])∧MkOn m m' es es' rs (rs ++ [r]):=by
  have C:=nl_append m r.fields r.real r.mono r.boot
  have ok':=append_ok (raw:=r.fields) (real:=r.real) (mono:=r.mono) h.ok hb (C.trans h.h20)
  have D:=(hk_append m r.fields r.real r.mono r.boot).1
  rw[ha]at C ok' D
  obtain⟨l',g,S,O,A⟩:=append_im h.img h.ok h.h20 hb hn ha
  have H:=listF_self O hf
  subst H
  have T:=h.img.n9
  have P:s=m.num 9+1:=A.seq.1
  have n9':m'.num 9=s:=A.seq.2
  have R:=A.img.n9
  have F:r.seq=s:=by rw[hr,P];exact Nat.mod_eq_of_lt (by omega)
  have I:({seq:=s,real:=r.real,mono:=r.mono,boot:=r.boot,fields:=r.fields}:Rec)=r:=by cases r;simp only at F;subst F;rfl
  have A':=A.rcd
  rw[I]at A'
  refine⟨l',es ++ [g],⟨A.img,ok',C.trans h.h20,⟨?_,?_,?_,?_⟩,by simp[h.len],fun i J Q N E=>?_,?_,fun y B=>?_⟩,⟨⟨_,rfl⟩,⟨_,rfl⟩,A.main,A.ext,A.c,A.len,A.num⟩⟩
  · rw[D,h.hd.hk,A.c]
  · rw[A.num 0 (by decide)];exact h.hd.n0
  · rw[A.num 3 (by decide),A.c];exact h.hd.n3
  · rw[A.num 5 (by decide),A.c];exact h.hd.n5
  · rcases app_get' N with⟨M,K⟩|⟨M,rfl⟩
    · rcases app_get' E with⟨_,G⟩|⟨G,_⟩
      · exact(h.rcd i J Q K G).ext (h.img.who J (List.mem_of_getElem? K)) A.ext
      have:=h.len;omega
    rcases app_get' E with⟨G,_⟩|⟨_,rfl⟩
    · have:=h.len;omega
    exact A'
  · refine List.pairwise_append.2 ⟨h.rise,by simp,fun y B z L=>?_⟩
    simp at L;subst L
    have:=(h.top y B).2;omega
  rw[n9']
  rcases List.mem_append.1 B with B|B
  · have:=h.top y B;omega
  simp at B;subst B;omega
theorem record_all (s:Sq) (n:Nat):(s.record n).1.seq=n∧(s.record n).1.boot.length=16∧((s.record n).1.real<18446744073709551616∧(s.record n).1.mono<18446744073709551616)∧Asc (s.record n).1.fields:=by
  refine⟨?_,record_boot s n,?_⟩
  · rcases h1:s.pairs 4 with⟨F,A⟩
    rcases h2:A.num 40 with⟨a,B⟩
    rcases h3:B.num 9 with⟨b,C⟩
    rcases h4:C.num 3 with⟨c,G⟩
    simp only[Sq.record,h1,h2,h3,h4]
  rcases h1:s.pairs 4 with⟨F,A⟩
  rcases h2:A.num 40 with⟨a,B⟩
  rcases h3:B.num 9 with⟨b,C⟩
  rcases h4:C.num 3 with⟨c,G⟩
  have D:=A.num_le 40
  have E:=B.num_le 9
  rw[h2]at D;rw[h3]at E
  simp only[Sq.record,h1,h2,h3,h4]
  simp only at D E
  exact⟨by omega,listF_asc F⟩
theorem makerL_im:∀(n:Nat) (s:Sq) (m:Mk) (l:List Ob) (es:List EntG) (rs:List Rec),MkIm m l es rs →
    ∃l' es',MkIm (makerL n s m rs).1 l' es' (makerL n s m rs).2.1∧MkOn m (makerL n s m rs).1 es es' rs (makerL n s m rs).2.1∧(makerL n s m rs).2.1.length≤rs.length+n
  | 0,s,m,l,es,rs,h=>⟨l,es,h,MkOn.refl _ _ _,Nat.le_refl _⟩
  | n+1,s,m,l,es,rs,h=>by
    unfold makerL
    split
    · have hr:=record_all s ((m.num 9+1)%18446744073709551616)
      rcases hrec:s.record ((m.num 9+1)%18446744073709551616)with⟨r,s1⟩
      rw[hrec]at hr
      have hk:=(hk_append m r.fields r.real r.mono r.boot).2
      rcases ha:m.append r.fields r.real r.mono r.boot with⟨e,c,m1⟩
      rw[ha]at hk
      simp only[ha]
      split
      · rename_i hc
        have:=hk hc
        simp only at this
        subst this
        exact⟨l,es,h,MkOn.refl _ _ _,Nat.le_add_right _ _⟩
      · rename_i hc
        have hc0:c=0:=Classical.not_not.1 hc
        subst hc0
        obtain⟨l1,es1,g1,g2⟩:=step_im h hr.1 hr.2.1 hr.2.2.1 hr.2.2.2 ha
        obtain⟨l',es',k1,k2,k3⟩:=makerL_im n s1 m1 l1 es1 _ g1
        exact⟨l',es',k1,g2.trans k2,by rw[List.length_append]at k3;simp only[List.length_singleton]at k3;omega⟩
    · exact⟨l,es,h,MkOn.refl _ _ _,Nat.le_add_right _ _⟩
theorem maker_im {s s':Sq} {most:Nat} {m:Mk} {rs:List Rec} (h:s.maker most=(m,rs,s')):∃l es,MkIm m l es rs∧rs.length≤most:=by
  have A:=config_ok s
  rcases h1:s.config with⟨c,E⟩
  rcases h2:E.num 6 with⟨t,H⟩
  rw[h1]at A
  have B:=E.num_le 6
  rw[h2]at B
  simp only at B A
  simp only[Sq.maker,h1,h2]at h
  obtain⟨F,G,I⟩:=newMk_im (c:=c) (t:=t) A.1 A.2.1 (by omega)
  obtain⟨l,es,C,_,D⟩:=makerL_im most H (newMk c t) (objs0 c) [] [] ⟨F,newMk_ok A.1 A.2.1 A.2.2,rfl,G,rfl,by simp,List.Pairwise.nil,by simp⟩
  rw[h]at C D
  exact⟨l,es,C,by simpa using D⟩
end Go.Wk
namespace Go.Wk
open Go Go.RowKit
/-- A field of one cell of a struct's value. -/
def fieldOne (P:Program) (s:TypeId) (f:Nat):Option Nat :=
  match P.underlying s with
  | some (.struct fs)=>match fs[f]? with
    | some x=>cond (isOne P x.type) (some x.offset) none
    | none=>none
  | _=>none
section
variable {P:Program} {n:Nat} {A:Fr n} {D:List Deferred} {l:List (Nat × Value)} {w:World} {d:Option Tmp} {ty:TypeId} {ps:String} {af:Array Edge} {g:Option (Nat × Bool)}
theorem r_fieldV {x:Operand} {s:TypeId} {f off:Nat} {cs:List Value} {u:Value} (hf:fieldOne P s f=some off) (hx:ev n l x=some (.agg cs.toArray)) (hc:cs[off]? = some u) :
    RunV P ⟨d,.field s x f,ty,ps,af,g⟩ (over A D l).eval w u:=by
  unfold fieldOne at hf
  split at hf
  · rename_i fs hu
    split at hf
    · rename_i y hy
      cases h1:isOne P y.type with
      | false=>rw[h1]at hf;cases hf
      | true =>
        rw[h1]at hf
        simp only[cond_true,Option.some.injEq]at hf
        subst hf
        simp[RunV,execOp,ev_eval hx,Instr.field,run_underlying hu,hy,part,run_isAgg_one h1,asAgg,hc]
    cases hf
  cases hf
end
structure Lst where
  out:List Nat
  cur:Nat
  ahead:Nat
def Lst.cells (x:Lst) (v0:Value):List Value :=
  [v0] ++ ([(.int .u64 x.cur)] ++ ([(.int .u64 x.ahead)]))
def Lst.ok (x:Lst):Prop:=x.cur<18446744073709551616∧x.ahead<18446744073709551616
theorem Lst.one {x:Lst} {v0:Value} (h0:v0.oneCell'=true):(x.cells v0).all (fun u=>u.oneCell')=true:=(ones_app (ones_1 h0) (ones_app rfl rfl))
def roomP (k:Int):Nat:=if k<0 then 0 else if 6≤k then 256 else 4*2 ^ k.toNat
theorem open_empty:(openF (imageOf [] 0)).2=0∧((openF (imageOf [] 0)).1.map fun y=>y.h.n.getD 8 0)=some 0:=by decide +kernel
theorem open_emptyE {x:Option PView} {c:Nat} (h:openF (imageOf [] 0)=(x,c)):c=0∧∃y,x=some y∧y.h.n.getD 8 0=0:=by
  have A:=open_empty
  rw[h]at A
  obtain⟨C,B⟩:=A
  cases x with
  | none=>simp at B
  | some y=>exact⟨C,y,rfl,by simpa using B⟩
theorem img_len:(imageOf [] 0).length≤1000:=by decide +kernel
section
variable {P:Program} {n:Nat} {A:Fr n} {D:List Deferred} {l:List (Nat × Value)} {w:World} {d:Option Tmp} {ty:TypeId} {ps:String} {af:Array Edge} {g:Option (Nat × Bool)}
end
end Go.Wk
namespace Go.Wk
open Go Go.RowKit
def lastF (out:List Nat):Nat:=out.getLast?.getD 0
/-- May x stand behind these? -/
def itemF (out:List Nat) (x:Nat):Nat:=if out≠[]∧x≤lastF out then 13 else 0
def entI (b:Ly) (most:Nat):List Nat→List Nat→List Nat × Nat
  | [],out=>(out,0)
  | x :: r,out=>if most≤out.length then(out,0)else if x=0∨b.length≤x then(out,2)else if itemF out x≠0 then(out,13)else entI b most r (out ++ [x])
def entL (s:Nat) (b:Ly) (most p ahead:Nat) (out:List Nat):List Nat × Nat :=
  if most≤out.length then(out,0)
  else if p=0∨b.length≤p then(out,14)
  else if p≤ahead then(out,12)
  else if(arrAt s b p).2≠0 then(out,(arrAt s b p).2)
  else if(entI b most (arrAt s b p).1.items out).2≠0 then entI b most (arrAt s b p).1.items out
  else entL s b most (arrAt s b p).1.next p (entI b most (arrAt s b p).1.items out).1
termination_by b.length-ahead
decreasing_by omega
def nothF (b:Ly) (x:Nat):Bool:=decide (x=0∨b.length≤x)
def arrayF (s:Nat) (b:Ly) (l:Lst):List Nat × Nat × Lst :=
  if l.cur≤l.ahead then([],12,l)else((arrAt s b l.cur).1.items,(arrAt s b l.cur).2,{l with cur:=(arrAt s b l.cur).1.next,ahead:=l.cur})
def itF (l:Lst) (x:Nat):Nat × Lst:=if itemF l.out x≠0 then(13,l)else(0,{l with out:=l.out ++ [x]})
theorem item_13 {out:List Nat} {x y:Nat} (h:out[out.length-1]? = some y) (hx:x≤y):itemF out x≠0:=by
  unfold itemF lastF
  have A:out≠[]:=by rintro rfl;simp at h
  rw[List.getLast?_eq_getElem?,h,if_pos ⟨A,hx⟩]
  decide
theorem item_0 {out:List Nat} {x y:Nat} (h:out[out.length-1]? = some y) (hx:¬x≤y):itemF out x=0:=by
  unfold itemF lastF
  rw[List.getLast?_eq_getElem?,h,if_neg (fun h=>hx h.2)]
theorem item_e {out:List Nat} {x:Nat} (h:¬0<out.length):itemF out x=0:=by
  unfold itemF
  rw[if_neg (fun A=>A.1 (List.eq_nil_of_length_eq_zero (by omega)))]
/-- What rises from one on, below the end. -/
def Rise (b:Ly) (out:List Nat):Prop:=out.length≤lastF out∧lastF out<b.length+1
theorem rise_nil (b:Ly):Rise b []:=⟨Nat.le_refl _,Nat.succ_pos _⟩
theorem rise_len {b:Ly} {out:List Nat} (h:Rise b out):out.length≤b.length:=by have:=h.1;have:=h.2;omega
theorem noth_of {b:Ly} {x:Nat} (h:nothF b x=false):x≠0∧x<b.length:=by
  unfold nothF at h
  have:=dF h
  omega
theorem last_app (out:List Nat) (x:Nat):lastF (out ++ [x])=x:=by simp[lastF]
theorem rise_step {b:Ly} {l l':Lst} {x c:Nat} (h:Rise b l.out) (hi:itF l x=(c,l')) (hc:¬c≠0) (hn:nothF b x=false):Rise b l'.out∧l'.out=l.out ++ [x]∧l'.cur=l.cur∧l'.ahead=l.ahead∧itemF l.out x=0:=by
  have D:=noth_of hn
  unfold itF at hi
  split at hi
  · exact absurd (congrArg Prod.fst hi) (by omega)
  rename_i h2
  have e:=congrArg Prod.snd hi
  simp only at e
  subst e
  refine⟨⟨?_,?_⟩,rfl,rfl,rfl,by omega⟩
  · simp only[last_app,List.length_append,List.length_singleton]
    have A:itemF l.out x=0:=by omega
    unfold itemF at A
    have C:=h.1
    by_cases hn:l.out=[]
    · rw[hn];simp;omega
    have:¬x≤lastF l.out:=fun B=>by rw[if_pos ⟨hn,B⟩]at A;cases A
    omega
  simp only[last_app];omega
theorem arr_go {s c:Nat} {b:Ly} {l l':Lst} {items:List Nat} (ha:arrayF s b l=(items,c,l')) (hc:¬c≠0):l.ahead<l.cur∧l'.out=l.out∧l'.ahead=l.cur∧l'.cur=(arrAt s b l.cur).1.next∧items=(arrAt s b l.cur).1.items∧(arrAt s b l.cur).2=0:=by
  unfold arrayF at ha
  split at ha
  · exact absurd (congrArg (fun x=>x.2.1) ha) (by simp;omega)
  rename_i h
  simp only[Prod.mk.injEq]at ha
  obtain⟨rfl,A,rfl⟩:=ha
  exact⟨by omega,rfl,rfl,rfl,rfl,by omega⟩
theorem arr_out {s c:Nat} {b:Ly} {l l':Lst} {items:List Nat} (ha:arrayF s b l=(items,c,l')):l'.out=l.out:=by
  unfold arrayF at ha
  split at ha <;> (simp only[Prod.mk.injEq]at ha;obtain⟨_,_,rfl⟩:=ha;rfl)
theorem entL_end {s most p a:Nat} {b:Ly} {out:List Nat} (h:¬out.length<most):entL s b most p a out=(out,0):=by rw[entL,if_pos (by omega)]
theorem entL_14 {s most p a:Nat} {b:Ly} {out:List Nat} (h:out.length<most) (hn:nothF b p=true):entL s b most p a out=(out,14):=by
  rw[entL,if_neg (by omega),if_pos (by simpa [nothF]using hn)]
theorem entL_err {s most c:Nat} {b:Ly} {l l':Lst} {items:List Nat} (h:l.out.length<most) (hn:nothF b l.cur=false) (ha:arrayF s b l=(items,c,l')) (hc:c≠0):entL s b most l.cur l.ahead l.out=(l'.out,c):=by
  have A:=noth_of hn
  rw[arr_out ha]
  rw[entL,if_neg (by omega),if_neg (by omega)]
  unfold arrayF at ha
  split at ha
  · rename_i h1;rw[if_pos h1];simp only[Prod.mk.injEq]at ha;rw[ha.2.1]
  rename_i h1;rw[if_neg h1];simp only[Prod.mk.injEq]at ha;rw[← ha.2.1]at hc ⊢;rw[if_pos hc]
theorem entL_ok {s most c:Nat} {b:Ly} {l l':Lst} {items:List Nat} (h:l.out.length<most) (hn:nothF b l.cur=false) (ha:arrayF s b l=(items,c,l')) (hc:¬c≠0) :
    entL s b most l.cur l.ahead l.out=if(entI b most items l.out).2≠0 then entI b most items l.out else entL s b most l'.cur l'.ahead (entI b most items l.out).1:=by
  have G:=noth_of hn
  obtain⟨D,E,A,B,C,F⟩:=arr_go ha hc
  rw[entL,if_neg (by omega),if_neg (by omega),if_neg (by omega),if_neg (by omega),A,B,C]
theorem ent_go {s most c i:Nat} {b:Ly} {l l':Lst} {items out2:List Nat} {r r1:List Nat × Nat} (h0:entL s b most l.cur l.ahead l.out=r) (h:l.out.length<most) (hn:nothF b l.cur=false) (ha:arrayF s b l=(items,c,l')) (hc:¬c≠0)
    (h1o:entI b most (items.drop 0) l'.out=r1) (h1:entI b most (items.drop i) out2=r1) (he:entI b most (items.drop i) out2=(out2,0)):entL s b most l'.cur l'.ahead out2=r:=by
  have A:entI b most items l.out=(out2,0):=by rw[← arr_out ha];exact h1o.trans (h1.symm.trans he)
  rw[entL_ok h hn ha hc,A,if_neg (by simp)]at h0
  exact h0
theorem ent_stop {s most c i k:Nat} {b:Ly} {l l':Lst} {items out2 out3:List Nat} {r r1:List Nat × Nat} (h0:entL s b most l.cur l.ahead l.out=r) (h:l.out.length<most) (hn:nothF b l.cur=false) (ha:arrayF s b l=(items,c,l')) (hc:¬c≠0)
    (h1o:entI b most (items.drop 0) l'.out=r1) (h1:entI b most (items.drop i) out2=r1) (he:entI b most (items.drop i) out2=(out3,k)) (hk:k≠0):r=(out3,k):=by
  have A:entI b most items l.out=(out3,k):=by rw[← arr_out ha];exact h1o.trans (h1.symm.trans he)
  rw[entL_ok h hn ha hc,A,if_pos hk]at h0
  exact h0.symm
theorem entI_end {most i:Nat} {b:Ly} {items out:List Nat} (h:¬i<items.length):entI b most (items.drop i) out=(out,0):=by rw[List.drop_eq_nil_of_le (by omega)];rfl
theorem entI_full {most:Nat} {b:Ly} {items out:List Nat} (h:most≤out.length):entI b most items out=(out,0):=by
  cases items with
  | nil=>rfl
  | cons x r=>unfold entI;rw[if_pos h]
theorem drop_cons {items:List Nat} {i x:Nat} (h:items[i]? = some x):items.drop i=x :: items.drop (i+1):=by
  obtain⟨A,B⟩:=List.getElem?_eq_some_iff.1 h
  rw[← B];exact(List.drop_eq_getElem_cons A)
theorem entI_2 {most i x:Nat} {b:Ly} {items out:List Nat} (h:items[i]? = some x) (hm:¬most≤out.length) (hn:nothF b x=true):entI b most (items.drop i) out=(out,2):=by
  rw[drop_cons h,entI,if_neg hm,if_pos (by simpa [nothF]using hn)]
theorem entI_13 {most i x c:Nat} {b:Ly} {items:List Nat} {l l':Lst} (h:items[i]? = some x) (hm:¬most≤l.out.length) (hn:nothF b x=false) (hi:itF l x=(c,l')) (hc:c≠0):entI b most (items.drop i) l.out=(l'.out,c):=by
  have A:=noth_of hn
  rw[drop_cons h,entI,if_neg hm,if_neg (by omega)]
  unfold itF at hi
  split at hi
  · rename_i h2;rw[if_pos h2];simp only[Prod.mk.injEq]at hi;rw[← hi.1,← hi.2]
  exact absurd (congrArg Prod.fst hi).symm hc
theorem entI_step {most i x c:Nat} {b:Ly} {items:List Nat} {l l':Lst} (h:items[i]? = some x) (hm:¬most≤l.out.length) (hn:nothF b x=false) (hi:itF l x=(c,l')) (hc:¬c≠0):entI b most (items.drop i) l.out=entI b most (items.drop (i+1)) l'.out:=by
  have A:=noth_of hn
  rw[drop_cons h,entI,if_neg hm,if_neg (by omega)]
  unfold itF at hi
  split at hi
  · exact absurd (congrArg Prod.fst hi) (by omega)
  rename_i h2;rw[if_neg h2];simp only[Prod.mk.injEq]at hi;rw[← hi.2]
def entsF (s:Nat) (b:Ly) (most p:Nat):List Nat × Nat:=entL s b most p 0 []
end Go.Wk
namespace Go.Wk
open Go Go.RowKit
def roomL (items:List Nat) (c r:Nat):List Nat:=(List.range r).map fun j=>items.getD (c+j) 0
theorem roomL_succ (items:List Nat) (c r:Nat):roomL items c (r+1)=items.getD c 0 :: roomL items (c+1) r:=by
  unfold roomL
  rw[List.range_succ_eq_map,List.map_cons,List.map_map]
  congr 1
  exact List.map_congr_left fun j _=>by simp only[Function.comp];congr 1;omega
theorem arr_of {b:Ly} {l:List Ob} {src:Nat} {av items:List Nat} (h:Chain b l src av items) (hO:Objs b 272 l b.length) {k a:Nat} (ha:av[k]? = some a):arrAt 272 b a=({next:=av.getD (k+1) 0,items:=roomL items (cum k) (roomF (k:Int))},0):=by
  have D:=hO.mem (h.ob k a ha)
  have C:=h.le hO ha
  have E:=roomF_ge (k:=(k:Int)) (by omega)
  have A:=frame_ob D (by decide) (by simp only;omega)
  simp only at A
  unfold arrAt
  rw[if_neg (by omega)]
  unfold readArrF
  rw[A]
  simp only
  rw[if_neg (by simp),if_neg (by simp),if_neg (by omega),show(24+8*roomF (k:Int)-24)/8=roomF (k:Int)by omega,h.next k a ha]
  congr 2
  unfold numsAt roomL
  exact List.map_congr_left fun j B=>h.item k a j ha (List.mem_range.1 B)
structure Items (b:Ly) (items:List Nat):Prop where
  ok:∀x∈items,x≠0∧x<b.length
  asc:items.Pairwise (· < ·)
theorem Items.get {b:Ly} {items:List Nat} (h:Items b items) {i:Nat} (hi:i<items.length):items.getD i 0≠0∧items.getD i 0<b.length:=by
  have:items.getD i 0∈items:=by rw[List.getD_eq_getElem?_getD,List.getElem?_eq_getElem hi];exact List.getElem_mem hi
  exact h.ok _ this
theorem Items.lt {b:Ly} {items:List Nat} (h:Items b items) {i j:Nat} (hij:i<j) (hj:j<items.length):items.getD i 0<items.getD j 0:=by
  rw[List.getD_eq_getElem?_getD,List.getD_eq_getElem?_getD,List.getElem?_eq_getElem (by omega),List.getElem?_eq_getElem hj]
  exact List.pairwise_iff_getElem.1 h.asc i j (by omega) hj hij
theorem take_last {items:List Nat} {c:Nat} (h0:0<c) (hc:c≤items.length):lastF (items.take c)=items.getD (c-1) 0:=by
  unfold lastF
  rw[List.getLast?_eq_getElem?,List.length_take,List.getElem?_take,Nat.min_eq_left hc,if_pos (by omega),List.getD_eq_getElem?_getD]
theorem item_ok {b:Ly} {items:List Nat} (h:Items b items) {c:Nat} (hc:c<items.length):itemF (items.take c) (items.getD c 0)=0:=by
  unfold itemF
  by_cases h0:c=0
  · subst h0;simp
  rw[take_last (by omega) (by omega),if_neg]
  have:=h.lt (i:=c-1) (j:=c) (by omega) hc
  omega
theorem take_succ' {items:List Nat} {c:Nat} (hc:c<items.length):items.take c ++ [items.getD c 0]=items.take (c+1):=by
  rw[List.take_add_one,List.getD_eq_getElem?_getD,List.getElem?_eq_getElem hc];rfl
theorem getD_end {items:List Nat} {c:Nat} (hc:items.length≤c):items.getD c 0=0:=by rw[List.getD_eq_getElem?_getD,List.getElem?_eq_none hc];rfl
theorem entI_room {b:Ly} {items:List Nat} {most:Nat} (h:Items b items):∀(r c:Nat),c≤items.length→c≤most →
    entI b most (roomL items c r) (items.take c)=if most≤items.length∨c+r≤items.length then(items.take (min most (c+r)),0)else(items,2)
  | 0,c,hc,hm=>by
    show(items.take c,0)=_
    rw[if_pos (.inr (by omega)),Nat.add_zero,Nat.min_eq_right hm]
  | r+1,c,hc,hm=>by
    have hl:(items.take c).length=c:=by rw[List.length_take];omega
    rw[roomL_succ,entI,hl]
    by_cases h1:most≤c
    · rw[if_pos h1,if_pos (.inl (by omega)),Nat.min_eq_left (by omega),show most=c by omega]
    · rw[if_neg h1]
      by_cases h2:c<items.length
      · have A:=h.get h2
        rw[if_neg (by omega),item_ok h h2,if_neg (by simp),take_succ' h2,entI_room h r (c+1) (by omega) (by omega),show c+1+r=c+(r+1)by omega]
      · rw[getD_end (by omega),if_pos (.inl rfl),if_neg (by omega),List.take_of_length_le (by omega)]
/-- What is told of a chain when so many are wanted. -/
theorem entL_chain {b:Ly} {l:List Ob} {src:Nat} {av items:List Nat} {most:Nat} (h:Chain b l src av items) (hO:Objs b 272 l b.length) (hi:Items b items):∀(d k ahead:Nat),k+d=av.length→(k=0→ahead=0)→(∀j,k=j+1→av[j]? = some ahead)→min most (cum k)≤items.length →
    ∃c,entL 272 b most (av.getD k 0) ahead (items.take (min most (cum k)))=(items.take (min most items.length),c)∧(c=0∧most≤items.length∨(c=2∨c=14)∧items.length<most)
  | d,k,ahead,hd,h0,h1,hk=>by
    have hl:(items.take (min most (cum k))).length=min most (cum k):=by rw[List.length_take];omega
    have F:=h.hi
    rw[entL,hl]
    by_cases hm:most≤cum k
    · rw[Nat.min_eq_left hm]at hk ⊢
      rw[if_pos (Nat.le_refl _),Nat.min_eq_left (by omega)]
      exact⟨0,rfl,.inl ⟨rfl,hk⟩⟩
    · rw[Nat.min_eq_right (by omega)]at hk ⊢
      rw[if_neg (by omega)]
      match d with
      | 0 =>
        have C:k=av.length:=by omega
        subst C
        have:items.length=cum av.length:=by omega
        rw[getD_end (Nat.le_refl _),if_pos (.inl rfl),← this,Nat.min_eq_right (by omega)]
        exact⟨14,rfl,.inr ⟨.inr rfl,by omega⟩⟩
      | d+1 =>
        obtain⟨a,A⟩:∃a,av[k]? = some a:=⟨_,List.getElem?_eq_getElem (by omega)⟩
        have G:=h.le hO A
        have D:=arr_of h hO A
        have E:ahead<a:=by
          by_cases hk0:k=0
          · have:=h0 hk0;omega
          · have:=h1 (k-1) (by omega)
            exact h.asc (k-1) ahead a this (by rw[show k-1+1=k by omega];exact A)
        rw[getD_some A,if_neg (by omega),if_neg (by omega),D]
        simp only
        rw[if_neg (by simp),entI_room hi _ _ hk (by omega)]
        have B:cum k+roomF (k:Int)=cum (k+1):=rfl
        by_cases hb:most≤items.length∨cum k+roomF (k:Int)≤items.length
        · rw[if_pos hb]
          simp only
          rw[if_neg (by simp),B]
          exact entL_chain h hO hi d (k+1) a (by omega) (by omega) (fun j H=>by rw[show j=k by omega];exact A) (by rw[← B];omega)
        · rw[if_neg hb]
          simp only
          rw[if_pos (by simp),Nat.min_eq_right (by omega),List.take_length]
          exact⟨2,rfl,.inr ⟨.inl rfl,by omega⟩⟩
theorem ents_chain {b:Ly} {l:List Ob} {src most:Nat} {av items:List Nat} (h:Chain b l src av items) (hO:Objs b 272 l b.length) (hi:Items b items) :
    ∃c,entsF 272 b most (av.getD 0 0)=(items.take (min most items.length),c)∧(c=0∧most≤items.length∨(c=2∨c=14)∧items.length<most):=by
  have:=entL_chain (most:=most) h hO hi av.length 0 0 (by omega) (fun _=>rfl) (fun j A=>by omega) (by simp[cum])
  simp only[cum,Nat.min_zero,List.take_zero]at this
  exact this
/-! the entries of a datum -/
end Go.Wk
namespace Go.Wk
open Go Go.RowKit
/-! entries -/
/-! records -/
end Go.Wk
namespace Go.Wk
open Go Go.RowKit
structure Opened (m:Mk) (B:Ly) (H:PHead) (l:List Ob) (es:List EntG):Prop where
  len:B.length=m.b.length
  read:readF B=(H,0)
  opn:openF B=(some {b:=B,h:=H},0)
  n:∀i,i<20→i≠1→H.n.getD i 0=m.num i
  key:H.incompat=if m.c.keyed then 4 else 0
  file:H.file=m.c.file
  img:ImgC {m with b:=B} l es (es.map EntG.pos) (places es)
theorem ImgC.bytes {m:Mk} {l:List Ob} {es:List EntG} {f:Nat→List Nat} {mp:List Nat} {B:Ly} (h:ImgC m l es mp f) (hl:B.length=m.b.length) (hB:Eff (fun a=>a+8≤272) m.b B) (hw:at8 B 176=m.main.getD 0 0):ImgC {m with b:=B} l es mp f:=by
  have C:=h.stat.objs
  have H:∀a,a+8≤272→Mild l a:=fun a A=>mild_head C A
  have hO':Objs B 272 l B.length:=by
    rw[hl];exact C.eff hB (Nat.le_refl _) fun o L a A=>by have:=(C.mem L).ge;omega
  have D:∀o∈l,o∈l:=fun _ h=>h
  refine⟨h.stat.keep hO' ⟨[],by simp,by simp⟩ hB H rfl rfl ⟨rfl,rfl⟩ (DSame.refl _),?_,fun i k E=>?_,⟨h.own.main,h.own.one⟩,fun g I=>(h.ent g I).eff C hB H D,h.kin⟩
  · refine⟨hw,h.main.ob,fun k a A=>?_,fun k a j A K=>?_,h.main.asc,h.main.lo,h.main.hi⟩
    · have:=h.main.le C A
      rw[hB.at8 (by omega) fun x F=>by omega];exact h.main.next k a A
    have:=h.main.le C A
    rw[hB.at8 (by omega) fun x F=>by omega];exact h.main.item k a j A K
  have G:=h.stat.data k (List.mem_of_getElem? E)
  have J:272≤k.pos:=(C.mem G.ob).ge
  exact(h.dat i k E).eff G C hB D (fun a A=>by omega) fun j x F a A=>by
    have:=(h.dat i k E).chain.le C F;omega
/-! the head's bytes -/
theorem nums_app (a b:List Nat):nums (a ++ b)=nums a ++ nums b:=by
  induction a with
  | nil=>rfl
  | cons x r ih=>rw[List.cons_append,nums,ih,nums,List.append_assoc]
structure HeadB (B:Ly) (h:RHead):Prop where
  sign:B.take 8=signF
  incompat:at4 B 12=h.incompat
  state:(B.getD 16 0).toNat=h.state
  file:(B.drop 24).take 16=h.file
  n:∀i,i<20→at8 B (88+8*i)=h.n.getD i 0
theorem at4_skip {x y:Ly} {p:Nat} (h:x.length≤p):at4 (x ++ y) p=at4 y (p-x.length):=by
  show leN (seg (x ++ y) p 4)=leN (seg y (p-x.length) 4)
  rw[seg_skip h]
theorem at4_low {v:Nat} (r:Ly) (h:v<4294967296):at4 (low v 4 ++ r) 0=v:=by
  show leN (seg (low v 4 ++ r) 0 4)=v
  rw[seg_take _ _ (by rw[low_len]),leN_low]
  exact Nat.mod_eq_of_lt h
theorem at8_sk {x y:Ly} {p k:Nat} (hk:x.length=k) (h:k≤p):at8 (x ++ y) p=at8 y (p-k):=by rw[at8_skip (by omega),hk]
theorem head_bytes (h:RHead) (depth:Nat) (r:Ly) (ok:RHead.ok h) (hs:h.state<256):HeadB (headF h depth ++ r) h:=by
  obtain⟨L,F,M,C,G,H,I,⟨N,J⟩,_⟩:=ok
  have e:headF h depth ++ r=[76,80,75,83,72,72,82,72] ++ (low h.compat 4 ++ (low h.incompat 4 ++ ([UInt8.ofNat h.state,0,0,0,0,0,0,0] ++ (h.file ++ (h.machine ++ (h.boot ++ (h.seq ++ (nums h.n ++ (nums [depth] ++ (low h.tailArray 4 ++ (low h.tailItems 4 ++ (nums [h.tailEntry] ++ r)))))))))))):=by
    unfold headF;simp only[List.append_assoc]
  rw[e]
  refine⟨rfl,?_,?_,?_,fun i K=>?_⟩
  · rw[at4_skip (by simp),at4_skip (by simp[low_len])]
    simp only[low_len,List.length_cons,List.length_nil]
    exact at4_low _ F
  · have A:∀y:List UInt8,([76,80,75,83,72,72,82,72] ++ (low h.compat 4 ++ (low h.incompat 4 ++ y))).getD 16 0=y.getD 0 0:=fun y=>by
      have D:(low h.compat 4).length=4:=low_len _ _
      have E:(low h.incompat 4).length=4:=low_len _ _
      simp only[List.getD_eq_getElem?_getD]
      rw[List.getElem?_append_right (by simp),List.getElem?_append_right (by simp;omega),List.getElem?_append_right (by simp;omega),D,E]
      rfl
    rw[A]
    show(UInt8.ofNat h.state).toNat=_
    rw[UInt8.toNat_ofNat',Nat.mod_eq_of_lt (by omega)]
  · show seg _ 24 16=_
    rw[seg_skip (by simp),seg_skip (by simp[low_len]),seg_skip (by simp[low_len]),seg_skip (by simp[low_len])]
    simp only[low_len,List.length_cons,List.length_nil]
    exact seg_take _ _ C.symm
  rw[at8_sk (k:=8) rfl (by omega),at8_sk (k:=4) (low_len _ _) (by omega),at8_sk (k:=4) (low_len _ _) (by omega),at8_sk (k:=8) rfl (by omega),at8_sk (k:=16) C (by omega),at8_sk (k:=16) G (by omega),at8_sk (k:=16) H (by omega),at8_sk (k:=16) I (by omega),show 88+8*i-8-4-4-8-16-16-16-16=8*i by omega]
  have hi':i<h.n.length:=by omega
  have B:h.n[i]? = some (h.n.getD i 0):=by simp[List.getD,List.getElem?_eq_getElem hi']
  exact at8_nums B (J _ (List.mem_of_getElem? B))
theorem parse_n {b:Ly} {i:Nat} (h:i<21):(parseF b).n.getD i 0=at8 b (88+8*i):=by
  show(((List.range 21).map fun q=>if q<21 then at8 b (88+8*q)else 0)).getD i 0=_
  rw[List.getD_eq_getElem?_getD,List.getElem?_map,List.getElem?_range h]
  simp[h]
theorem image_bytes {m:Mk} {l:List Ob} {es:List EntG} {rs:List Rec} {st:Nat} (h:MkIm m l es rs) (hok:RHead.ok m.h) (hst:st≤2):HeadB (imageM m st) {m.h with state:=st,n:=m.h.n.set 1 (m.b.length-272)}∧(imageM m st).length=m.b.length∧Eff (fun a=>a+8≤272) m.b (imageM m st):=by
  have G:=h.img.c.stat.objs
  have J:=h.ok.small
  have D:=G.le
  have ok':RHead.ok {m.h with state:=st,n:=m.h.n.set 1 (m.b.length-272)}:=⟨hok.1,hok.2.1,(by show st<_;omega),hok.2.2.2.1,hok.2.2.2.2.1,hok.2.2.2.2.2.1,hok.2.2.2.2.2.2.1,nums_set hok.2.2.2.2.2.2.2.1 (by omega),hok.2.2.2.2.2.2.2.2⟩
  have F:=headF_len {m.h with state:=st,n:=m.h.n.set 1 (m.b.length-272)} m.depth ok'
  have E:=head_bytes {m.h with state:=st,n:=m.h.n.set 1 (m.b.length-272)} m.depth (m.b.drop 272) ok' (by show st<_;omega)
  have C:imageM m st=headF {m.h with state:=st,n:=m.h.n.set 1 (m.b.length-272)} m.depth ++ m.b.drop 272:=rfl
  rw[← C]at E
  have A:(imageM m st).length=m.b.length:=by rw[C,List.length_append,F,List.length_drop];omega
  have B:Eff (fun a=>a+8≤272) m.b (imageM m st):=by
    refine⟨by rw[A];exact Nat.le_refl _,fun q n K I=>?_⟩
    by_cases hn:n=0
    · subst hn;simp[seg]
    · have H:272≤q:=by
        by_cases h1:272≤q
        · exact h1
        · exfalso
          have:=I (min q 264) (by omega)
          omega
      rw[C,seg_skip (by omega),F]
      unfold seg
      rw[List.drop_drop,show 272+(q-272)=q by omega]
  exact⟨E,A,B⟩
theorem opened_of {m:Mk} {l:List Ob} {es:List EntG} {rs:List Rec} {st:Nat} {B:Ly} (h:MkIm m l es rs) (hst:st≤2) (hb:HeadB B {m.h with state:=st,n:=m.h.n.set 1 (m.b.length-272)}) (hlen:B.length=m.b.length) (hEff:Eff (fun a=>a+8≤272) m.b B):Opened m B (parseF B) l es:=by
  have L:=h.img.c.stat.objs
  have S:=h.ok.small
  have O:=L.le
  have A:∀i,i<20→i≠1→(parseF (B)).n.getD i 0=m.num i:=fun i R Q=>by
    rw[parse_n (by omega),hb.n i R]
    show(m.h.n.set 1 _).getD i 0=_
    rw[getD_set_ne' (by omega)];rfl
  have J:(parseF (B)).n.getD 1 0=m.b.length-272:=by
    rw[parse_n (by omega),hb.n 1 (by omega)]
    show(m.h.n.set 1 _).getD 1 0=_
    exact getD_set_eq' (by have:=h.h20;omega)
  have H:=h.hd.hk
  unfold hk at H
  simp only[Prod.mk.injEq]at H
  obtain⟨_,T,_,U⟩:=H
  have F:(parseF (B)).incompat=if m.c.keyed then 4 else 0:=hb.incompat.trans T
  have G:(parseF (B)).file=m.c.file:=hb.file.trans U
  have D:(parseF (B)).state=st:=hb.state
  have Y:=(L.mem h.img.c.stat.tab4).le
  have Z:=(L.mem h.img.c.stat.tab5).le
  have u4:=up8_ge (16+16*m.c.dataSlots)
  have u5:=up8_ge (16+16*m.c.fieldSlots)
  simp only at Y Z
  have sl:=h.img.c.stat.slots
  have N:(parseF (B)).n.getD 0 0=272:=(A 0 (by decide) (by decide)).trans h.hd.n0
  have V:(parseF (B)).n.getD 2 0=288:=(A 2 (by decide) (by decide)).trans h.img.c.stat.n2
  have n3:(parseF (B)).n.getD 3 0=16*m.c.dataSlots:=(A 3 (by decide) (by decide)).trans h.hd.n3
  have W:(parseF (B)).n.getD 4 0=304+16*m.c.dataSlots:=(A 4 (by decide) (by decide)).trans h.img.c.stat.n4
  have X:(parseF (B)).n.getD 5 0=16*m.c.fieldSlots:=(A 5 (by decide) (by decide)).trans h.hd.n5
  have E:endF (parseF (B))=(m.b.length,true):=by
    unfold endF
    rw[N,J,Nat.mod_eq_of_lt (by omega),if_neg (by omega),show 272+(m.b.length-272)=m.b.length by omega]
  have M:amissF (parseF (B)) (B).length=0:=by
    unfold amissF
    rw[E,F,D,N,J,V,n3,W,X,hlen]
    have I:¬andNot (if m.c.keyed=true then 4 else 0) 4≠0:=by cases m.c.keyed <;> decide
    rw[if_neg I,if_neg (by omega),if_neg (by omega),if_neg (by simp)]
    have P:∀(p s e:Nat),p%8=0→s≠0→s%16=0→288≤p→p+s≤e→tableF (parseF (B)) p s e=0:=fun p s e Q d f g k=>by
      unfold tableF
      rw[N,if_neg (by omega),if_neg (by omega),if_neg (by omega)]
    simp only
    rw[P 288 _ _ (by omega) (by omega) (by omega) (by omega) (by omega),if_neg (by simp)]
    exact P _ _ _ (by omega) (by omega) (by omega) (by omega) (by omega)
  have C:readF (B)=(parseF (B),0):=by
    unfold readF
    have K:prefF (B) signF=true:=by
      unfold prefF
      rw[if_pos (by show 8≤_;omega)]
      exact decide_eq_true hb.sign
    rw[if_neg (by omega),if_neg (by rw[K];simp),M,if_neg (by simp)]
  refine⟨hlen,C,?_,A,F,G,h.img.c.bytes hlen hEff ?_⟩
  · unfold openF
    rw[C]
    simp only
    rw[if_neg (by simp),E]
    simp only
    rw[← hlen,List.take_length]
  have:=hb.n 11 (by decide)
  rw[show 88+8*11=176 by rfl]at this
  rw[this]
  exact(getD_set_ne' (l:=m.h.n) (i:=1) (j:=11) (v:=m.b.length-272) (by decide)).trans h.img.n11
theorem opened {m:Mk} {l:List Ob} {es:List EntG} {rs:List Rec} {st:Nat} (h:MkIm m l es rs) (hok:RHead.ok m.h) (hst:st≤2):Opened m (imageM m st) (parseF (imageM m st)) l es:=by
  obtain⟨A,B,C⟩:=image_bytes h hok hst
  exact opened_of h hst A B C
end Go.Wk
namespace Go.Wk
open Go Go.RowKit
theorem ents_0' {s p:Nat} {b:Ly}:entsF s b 0 p=([],0):=by unfold entsF;rw[entL_end (by simp)]
theorem open_len' {b:Ly} {x:Option PView} {c:Nat} {y:PView} (h:openF b=(x,c)) (e:x=some y):y.b.length≤b.length:=by
  subst e
  unfold openF at h
  split at h
  · have:=congrArg Prod.fst h;simp at this
  have:=congrArg Prod.fst h
  simp only[Option.some.injEq]at this
  subst this
  simp only[List.length_take];omega
section
variable {m:Mk} {B:Ly} {H:PHead} {l:List Ob} {es:List EntG} {rs:List Rec}
theorem pos_asc:∀{l:List Ob} {p e:Nat},Objs B p l e→(l.map Ob.pos).Pairwise (· < ·)
  | [],_,_,_=>List.Pairwise.nil
  | o :: r,p,e,h=>by
    obtain⟨h1,h2,h3,h4,h5,h6,h7⟩:=h
    have hu:=up8_ge o.size
    rw[List.map_cons]
    refine List.pairwise_cons.2 ⟨fun x hx=>?_,pos_asc h7⟩
    obtain⟨y,hy,rfl⟩:=List.mem_map.1 hx
    have:=(h7.mem hy).ge
    omega
theorem es_items {mp:List Nat} {f:Nat→List Nat} (h:ImgC m l es mp f):Items m.b (es.map EntG.pos):=by
  have A:=h.stat.objs
  refine⟨fun x F=>?_,?_⟩
  · obtain⟨g,E,rfl⟩:=List.mem_map.1 F
    have B:=A.mem (h.ent g E).ob
    have C:=B.ge
    have D:=B.le
    have:=up8_ge (64+16*g.ent.items.length)
    simp only at C D
    omega
  rw[← h.kin]
  exact((pos_asc A).sublist (List.filter_sublist.map _))
/-! the objects of a journal, one by one -/
theorem num0 (im:MkIm m l es rs) (op:Opened m B H l es):H.n.getD 0 0=272:=(op.n 0 (by decide) (by decide)).trans im.hd.n0
def n3 (l:List Ob):Nat:=(l.filter fun o=>decide (o.kind=3)).length
end
/-! rows of records -/
end Go.Wk
namespace Go.Wk
open Go Go.RowKit
theorem low_snoc (v i:Nat):low v i ++ [UInt8.ofNat (v/2 ^ (8*i))]=low v (i+1):=by
  apply List.ext_getElem?
  intro j
  by_cases h:j<i
  · rw[List.getElem?_append_left (by rw[low_len];exact h),low_get i v j h,low_get (i+1) v j (by omega)]
  by_cases h2:j=i
  · subst h2
    rw[List.getElem?_append_right (by rw[low_len];omega),low_len,Nat.sub_self,low_get (j+1) v j (by omega)];rfl
  rw[List.getElem?_eq_none (by simp[low_len];omega),List.getElem?_eq_none (by rw[low_len];omega)]
def addF (b:Ly) (n v:Nat):List UInt8:=if n=1∨n=2∨n=4∨n=8 then b ++ low v n else b
theorem sizeOk_nat {n:Nat} {r:Bool} (h:sizeOk (n:Int)=r):(r=true↔n=1∨n=2∨n=4∨n=8):=by
  rw[← h,sizeOk_iff];omega
end Go.Wk
namespace Go.Wk
open Go Go.RowKit
section
variable {m:Mk} {B:Ly} {H:PHead} {l:List Ob} {es:List EntG} {rs:List Rec}
theorem open_end (op:Opened m B H l es):(endF H).1=B.length:=by
  obtain⟨C,_⟩:=read_end (e:=(endF H).1) (s:=(endF H).2) op.read rfl
  have h:=op.opn
  unfold openF at h
  rw[op.read]at h
  simp only[ne_eq,not_true_eq_false,if_false,Prod.mk.injEq,Option.some.injEq,and_true]at h
  have A:=congrArg (fun v:PView=>v.b.length) h
  simp only[List.length_take]at A
  omega
end
end Go.Wk
namespace Go.Wk
open Go Go.RowKit
def putH (h:PHead):List UInt8:=signF ++ (low h.compat 4 ++ (low h.incompat 4 ++ ([UInt8.ofNat h.state,0,0,0,0,0,0,0] ++ (h.file ++ (h.machine ++ (h.boot ++ (h.seq ++ (nums h.n ++ (low h.tailArray 4 ++ (low h.tailItems 4 ++ low h.tailEntry 8))))))))))
theorem addF_4 (b:Ly) (v:Nat):addF b 4 v=b ++ low v 4:=by unfold addF;rw[if_pos (by omega)]
theorem addF_8 (b:Ly) (v:Nat):addF b 8 v=b ++ low v 8:=by unfold addF;rw[if_pos (by omega)]
theorem putH_len {h:PHead} (ok:PHead.ok h):(putH h).length=272:=by
  obtain⟨_,_,_,A,B,C,D,⟨E,_⟩,_,_,_⟩:=ok
  have:signF.length=8:=rfl
  simp only[putH,List.length_append,low_len,nums_len,this,A,B,C,D,E,List.length_cons,List.length_nil]
theorem parse_put {h:PHead} (r:Ly) (ok:PHead.ok h) (hs:h.state<256):parseF (putH h ++ r)=h:=by
  obtain⟨f,g,z,C,H,N,Q,⟨R,j⟩,K,L,M⟩:=ok
  have I:signF.length=8:=rfl
  have J:(nums h.n).length=168:=by rw[nums_len,R]
  have e:putH h ++ r=signF ++ (low h.compat 4 ++ (low h.incompat 4 ++ ([UInt8.ofNat h.state,0,0,0,0,0,0,0] ++ (h.file ++ (h.machine ++ (h.boot ++ (h.seq ++ (nums h.n ++ (low h.tailArray 4 ++ (low h.tailItems 4 ++ (low h.tailEntry 8 ++ r))))))))))):=by
    unfold putH;simp only[List.append_assoc]
  have k:∀{x y:Ly} {p n:Nat} (a:Nat),x.length=a→a≤p→seg (x ++ y) p n=seg y (p-a) n:=fun a A F=>by rw[seg_skip (by omega),A]
  have E:∀(l:Ly) p,at4 l p=leN (seg l p 4):=fun _ _=>rfl
  have D:∀{v:Nat} {y:Ly},v<4294967296→leN (seg (low v 4 ++ y) 0 4)=v:=fun W=>at4_low _ W
  have S:at4 (putH h ++ r) 8=h.compat:=by rw[e,E,k 8 I (by omega)];exact D f
  have T:at4 (putH h ++ r) 12=h.incompat:=by rw[e,E,k 8 I (by omega),k 4 (low_len _ _) (by omega)];exact D g
  have O:∀n,seg (putH h ++ r) 16 n=seg ([UInt8.ofNat h.state,0,0,0,0,0,0,0] ++ (h.file ++ (h.machine ++ (h.boot ++ (h.seq ++ (nums h.n ++ (low h.tailArray 4 ++ (low h.tailItems 4 ++ (low h.tailEntry 8 ++ r))))))))) 0 n:=fun n=>by
    rw[e,k 8 I (by omega),k 4 (low_len _ _) (by omega),k 4 (low_len _ _) (by omega)]
  have st:((putH h ++ r).getD 16 0).toNat=h.state:=by
    have A:=byteAt_seg (b:=putH h ++ r) (p:=16) (i:=0) (n:=8) (by omega)
    rw[O]at A
    have F:byteAt (putH h ++ r) (16+0)=((putH h ++ r).getD 16 0).toNat:=rfl
    rw[F]at A
    rw[A,seg_take _ _ (show 8=([UInt8.ofNat h.state,0,0,0,0,0,0,0]:Ly).length from rfl)]
    show(UInt8.ofNat h.state).toNat=_
    rw[UInt8.toNat_ofNat',Nat.mod_eq_of_lt (by omega)]
  have b8':([UInt8.ofNat h.state,0,0,0,0,0,0,0]:Ly).length=8:=rfl
  have B:∀p n,24≤p→seg (putH h ++ r) p n=seg (h.file ++ (h.machine ++ (h.boot ++ (h.seq ++ (nums h.n ++ (low h.tailArray 4 ++ (low h.tailItems 4 ++ (low h.tailEntry 8 ++ r)))))))) (p-24) n:=fun p n V=>by
    rw[e,k 8 I (by omega),k 4 (low_len _ _) (by omega),k 4 (low_len _ _) (by omega),k 8 b8' (by omega)];congr 1
  have X:seg (putH h ++ r) 24 16=h.file:=by rw[B _ _ (by omega)];exact seg_take _ _ C.symm
  have Y:seg (putH h ++ r) 40 16=h.machine:=by rw[B _ _ (by omega),k 16 C (by omega)];exact seg_take _ _ H.symm
  have Z:seg (putH h ++ r) 56 16=h.boot:=by rw[B _ _ (by omega),k 16 C (by omega),k 16 H (by omega)];exact seg_take _ _ N.symm
  have c:seg (putH h ++ r) 72 16=h.seq:=by rw[B _ _ (by omega),k 16 C (by omega),k 16 H (by omega),k 16 N (by omega)];exact seg_take _ _ Q.symm
  have G:∀p n,88≤p→seg (putH h ++ r) p n=seg (nums h.n ++ (low h.tailArray 4 ++ (low h.tailItems 4 ++ (low h.tailEntry 8 ++ r)))) (p-88) n:=fun p n V=>by
    rw[B _ _ (by omega),k 16 C (by omega),k 16 H (by omega),k 16 N (by omega),k 16 Q (by omega)];congr 1
  have d:∀q,q<21→at8 (putH h ++ r) (88+8*q)=h.n.getD q 0:=fun q w=>by
    have P:h.n[q]? = some (h.n.getD q 0):=by simp[List.getD,List.getElem?_eq_getElem (show q<h.n.length by omega)]
    rw[at8_seg,G _ _ (by omega),show 88+8*q-88=8*q by omega]
    exact at8_nums P (j _ (List.mem_of_getElem? P))
  have o:at4 (putH h ++ r) 256=h.tailArray:=by rw[E,G _ _ (by omega),k 168 J (by omega)];exact D K
  have t:at4 (putH h ++ r) 260=h.tailItems:=by rw[E,G _ _ (by omega),k 168 J (by omega),k 4 (low_len _ _) (by omega)];exact D L
  have u:at8 (putH h ++ r) 264=h.tailEntry:=by rw[at8_seg,G _ _ (by omega),k 168 J (by omega),k 4 (low_len _ _) (by omega),k 4 (low_len _ _) (by omega)];exact at8_low _ M
  have U:((List.range 21).map fun q=>if q<21 then at8 (putH h ++ r) (88+8*q)else 0)=h.n:=by
    apply List.ext_getElem
    · simp[R]
    · intro q A F
      simp at A
      simp only[List.getElem_map,List.getElem_range]
      rw[if_pos A,d q A]
      simp[List.getD,List.getElem?_eq_getElem F]
  simp only[parseF,headUp]
  rw[S,T,st,o,t,u,U,show((putH h ++ r).drop 24).take 16=h.file from X,show((putH h ++ r).drop 40).take 16=h.machine from Y,show((putH h ++ r).drop 56).take 16=h.boot from Z,show((putH h ++ r).drop 72).take 16=h.seq from c]
  rfl
section
variable {m:Mk} {B:Ly} {H:PHead} {l:List Ob} {es:List EntG} {rs:List Rec}
theorem opened_ok (op:Opened m B H l es):PHead.ok H∧H.state<256∧272≤B.length:=by
  obtain⟨A,C,_⟩:=read_fine op.read
  refine⟨by rw[← C];exact parse_ok A,?_,A⟩
  rw[← C];exact UInt8.toNat_lt _
theorem cut_open (im:MkIm m l es rs) (op:Opened m B H l es) {v:Nat} (hv:v<18446744073709551616) :
    openF (putH {H with n:=H.n.set 8 v} ++ B.drop 272)=(some {b:=putH {H with n:=H.n.set 8 v} ++ B.drop 272,h:={H with n:=H.n.set 8 v}},0) ∧
    ∃c,entsF ((H.n.set 8 v).getD 0 0) (putH {H with n:=H.n.set 8 v} ++ B.drop 272) ((H.n.set 8 v).getD 8 0) ((H.n.set 8 v).getD 11 0)=((es.map EntG.pos).take (min v es.length),c)∧(c=0∧v≤es.length∨(c=2∨c=14)∧es.length<v):=by
  obtain⟨Q,J,M⟩:=opened_ok op
  have ok':PHead.ok {H with n:=H.n.set 8 v}:=by
    obtain⟨d,f,k,o,p,r,t,u,K⟩:=Q
    exact⟨d,f,k,o,p,r,t,nums_set u hv,K⟩
  have O:=putH_len ok'
  have P:=parse_put (B.drop 272) ok' J
  have g:∀j,j≠8→(H.n.set 8 v).getD j 0=H.n.getD j 0:=fun j w=>getD_set_ne' (by omega)
  have R:(H.n.set 8 v).getD 8 0=v:=getD_set_eq' (by rw[Q.2.2.2.2.2.2.2.1.1];omega)
  have N:endF {H with n:=H.n.set 8 v}=endF H:=by unfold endF;simp only[g 0 (by decide),g 1 (by decide)]
  generalize hH:({H with n:=H.n.set 8 v}:PHead)=H' at *
  have hn':H'.n=H.n.set 8 v:=by rw[← hH]
  have hi':H'.incompat=H.incompat:=by rw[← hH]
  have hs':H'.state=H.state:=by rw[← hH]
  generalize hb':putH H' ++ B.drop 272=b' at *
  have G:b'.length=B.length:=by rw[← hb'];simp[O];omega
  have X:readF b'=(H',0):=by
    obtain⟨_,_,T⟩:=read_fine op.read
    have E:prefF b' signF=true:=by
      have e:signF.length=8:=rfl
      unfold prefF
      rw[if_pos (by omega),← hb',e]
      exact decide_eq_true (by unfold putH;rw[List.append_assoc];exact List.take_left' rfl)
    have I:amissF H' b'.length=0:=by
      rw[← T,G];unfold amissF tableF;simp only[N,hi',hs',hn',g 0 (by decide),g 1 (by decide),g 2 (by decide),g 3 (by decide),g 4 (by decide),g 5 (by decide)]
    unfold readF
    rw[if_neg (by omega),if_neg (by rw[E];simp),P,if_neg (by rw[I];simp)]
  have V:openF b'=(some {b:=b',h:=H'},0):=by
    unfold openF
    rw[X]
    simp only[ne_eq,not_true_eq_false,if_false]
    rw[N,open_end op,← G,List.take_length]
  refine⟨V,?_⟩
  have D:Eff (fun a=>a+8≤272) B b':=by
    refine⟨by rw[G];exact Nat.le_refl _,fun q n x Y=>?_⟩
    by_cases U:n=0
    · subst U;simp[seg]
    · have W:272≤q:=by
        by_cases F:272≤q
        · exact F
        · exfalso
          have:=Y (min q 264) (by omega)
          omega
      rw[← hb',seg_skip (by omega),O]
      unfold seg
      rw[List.drop_drop,show 272+(q-272)=q by omega]
  have S:H.n.getD 0 0=272:=num0 im op
  have C:H.n.getD 11 0=m.main.getD 0 0:=(op.n 11 (by decide) (by decide)).trans im.img.n11
  have Z:at8 b' 176=m.main.getD 0 0:=by
    have:=parse_n (b:=b') (i:=11) (by decide)
    rw[P,hn',g 11 (by decide),C]at this
    exact this.symm
  have A:=op.img.bytes (B:=b') G D Z
  obtain⟨c,F,L⟩:=ents_chain (most:=v) A.main A.stat.objs (es_items A)
  rw[g 0 (by decide),g 11 (by decide),R,S,C]
  rw[List.length_map]at F L
  exact⟨c,F,L⟩
end
end Go.Wk
namespace Go.Wk
open Go Go.RowKit
section
variable {α:Type} {T:Dt α} {P:Program} {ops:Array Oper} {Q:Exit→Act→World→Prop} {n:Nat} {A:Fr n} {D:List Deferred} {l:List (Nat × Value)} {w:World} {rest:List Oper}
theorem st_apN {d:Nat} {x y:Operand} {ty:TypeId} {ps:String} {af:Array Edge} {t e:TypeId} {sz by':Nat} {v u:Value} {xs ys:List α} {w0:World} {Q0 R:Nat→Prop} (hn:T.n=sz) (ht:P.underlying t=some (.slice e)) (hE:elT P e sz by'=true) (hx:ev n l x=some v) (hy:ev n l y=some u)
    (F:New1 T w0 Q0 e w R v xs) (hY:Lz T w R u ys) (h63:xs.length+ys.length≤100000) (hb:by'≤1000)
    (k:∀v' w' R',New1 T w0 Q0 e w' R' v' (xs ++ ys)→Md (vblock v).toList w w'→(∀b,vblock v'=some b→vblock v=some b∨w.heap.size≤b)→wpList P ops Q rest (over A D ((d,v') :: l)) w') :
    wpList P ops Q (⟨some d,.call {callee:=.builtin .append,args:=#[x,y],argTypes:=#[t,t]},ty,ps,af,none⟩ :: rest) (over A D l) w:=by
  refine st_apZ hn ht hE hx hy F.ow hY F.up (fun b hb=>.inr (lE F.md.size hb)) (by omega) ?_ ?_
  · exact lE (Nat.mul_le_mul h63 hb) (by decide)
  intro v' w' R' E G H I B K L J
  exact k v' w' R' ⟨F.md.stepO B fun b hb=>(F.ow.2 b hb).1,fun b hb C=>E b (F.s b hb C) (lT C F.md.size),fun b hb=>F.t b (G b hb),H,I⟩ B J
theorem New1.call {w0 w w':World} {Q0 R Q':Nat→Prop} {e:TypeId} {v u:Value} {xs ys:List α} (F:New1 T w0 Q0 e w R v xs) (hm:Md [] w w') (kq:NewQ w w' Q0 Q') (h:Ow T e (Fsh [] w) w' Q' u ys):New1 T w0 Q0 e w' Q' u ys :=
  ⟨F.md.step0 hm,fun b hb hl=>kq.1 b hb (lT hl F.md.size),kq.2.1,kq.2.2,h.lower (Fsh.lift F.md)⟩
theorem New1.lsx {w0 w:World} {Q0 R:Nat→Prop} {e:TypeId} {v:Value} {xs:List α} (F:New1 T w0 Q0 e w R v xs) (u0:Up w0 Q0):Ls T w Q0 v xs:=F.ow.ls F.t (Fsh.up u0)
end
theorem lz_part {w:World} {R:Nat→Prop} {b off:Nat} {cs:List Value} {ty:TypeId} {ys:Ly} (hB:Blk w b cs ty) (hl:ys.length=16) (hc:∀j u,(ys.map b8)[j]? = some u→cs[off+j]? = some u):Lz tB8 w R (.slice (some ⟨b,off,none⟩) 16 16) ys:=by
  refine⟨some ⟨b,off,none⟩,16,ys.map b8,by rw[hl],by omega,by decide,fun h=>(by cases h),fun p B j u A=>?_,els_one fun _ _=>trivial⟩
  cases B
  have h:=hB.cell (j:=off+j)
  rw[hc j u A]at h
  simpa [Addr.add_mk]using h
def ids4 (h:PHead):List (List UInt8):=[h.file,h.machine,h.boot,h.seq]
theorem cells_parts {h:PHead} (ok:PHead.ok h):PHead.cells h=[(.int .u32 h.compat),(.int .u32 h.incompat),(.int .i64 h.state)] ++ (h.file.map b8 ++ (h.machine.map b8 ++ (h.boot.map b8 ++ (h.seq.map b8 ++ (h.n.map (fun x=>(.int .u64 x)) ++ [(.int .u32 h.tailArray),(.int .u32 h.tailItems),(.int .u64 h.tailEntry)]))))):=by
  obtain⟨F,G,H,A,B,C,D,⟨E,I⟩,_⟩:=ok
  unfold PHead.cells
  rw[idc_map A,idc_map B,idc_map C,idc_map D,nums21_map E]
  simp only[List.append_assoc,List.cons_append,List.nil_append]
theorem head_ids {h:PHead} (ok:PHead.ok h) {k:Nat} (hk:k<4):∃y,(ids4 h)[k]? = some y∧y.length=16∧∀j u,(y.map b8)[j]? = some u→(PHead.cells h)[3+k*16+j]? = some u:=by
  have e:=cells_parts ok
  obtain⟨L,M,N,F,G,H,I,_⟩:=ok
  have D:(h.file.map b8).length=16:=by simpa using F
  have E:(h.machine.map b8).length=16:=by simpa using G
  have J:(h.boot.map b8).length=16:=by simpa using H
  have K:(h.seq.map b8).length=16:=by simpa using I
  have B:([(.int .u32 h.compat),(.int .u32 h.incompat),(.int .i64 h.state)]:List Value).length=3:=rfl
  rw[e]
  rcases(show k=0∨k=1∨k=2∨k=3 by omega)with rfl|rfl|rfl|rfl
  · refine⟨h.file,rfl,F,fun j u A=>?_⟩
    have C:=(List.getElem?_eq_some_iff.1 A).1
    rw[List.getElem?_append_right (by omega),B,List.getElem?_append_left (by omega),show 3+0*16+j-3=j by omega];exact A
  · refine⟨h.machine,rfl,G,fun j u A=>?_⟩
    have C:=(List.getElem?_eq_some_iff.1 A).1
    rw[List.getElem?_append_right (by omega),B,List.getElem?_append_right (by omega),D,List.getElem?_append_left (by omega),show 3+1*16+j-3-16=j by omega];exact A
  · refine⟨h.boot,rfl,H,fun j u A=>?_⟩
    have C:=(List.getElem?_eq_some_iff.1 A).1
    rw[List.getElem?_append_right (by omega),B,List.getElem?_append_right (by omega),D,List.getElem?_append_right (by omega),E,List.getElem?_append_left (by omega),show 3+2*16+j-3-16-16=j by omega];exact A
  refine⟨h.seq,rfl,I,fun j u A=>?_⟩
  have C:=(List.getElem?_eq_some_iff.1 A).1
  rw[List.getElem?_append_right (by omega),B,List.getElem?_append_right (by omega),D,List.getElem?_append_right (by omega),E,List.getElem?_append_right (by omega),J,List.getElem?_append_left (by omega),show 3+3*16+j-3-16-16-16=j by omega];exact A
theorem head_num {h:PHead} (ok:PHead.ok h) {j:Nat} (hj:j<21):(PHead.cells h)[67+j*1]? = some (.int .u64 ((h.n.getD j 0:Nat):Int))∧h.n.getD j 0<18446744073709551616∧h.n.take (j+1)=h.n.take j ++ [h.n.getD j 0]:=by
  have e:=cells_parts ok
  obtain⟨L,M,N,G,H,I,J,⟨O,K⟩,_⟩:=ok
  have C:(h.file.map b8).length=16:=by simpa using G
  have D:(h.machine.map b8).length=16:=by simpa using H
  have E:(h.boot.map b8).length=16:=by simpa using I
  have F:(h.seq.map b8).length=16:=by simpa using J
  have B:([(.int .u32 h.compat),(.int .u32 h.incompat),(.int .i64 h.state)]:List Value).length=3:=rfl
  have A:h.n[j]? = some (h.n.getD j 0):=by simp[List.getD,List.getElem?_eq_getElem (show j<h.n.length by omega)]
  refine⟨?_,K _ (List.mem_of_getElem? A),?_⟩
  · rw[e,List.getElem?_append_right (by omega),B,List.getElem?_append_right (by omega),C,List.getElem?_append_right (by omega),D,List.getElem?_append_right (by omega),E,List.getElem?_append_right (by omega),F,List.getElem?_append_left (by simp;omega),show 67+j*1-3-16-16-16-16=j by omega,List.getElem?_map,A];rfl
  rw[List.take_add_one,A];rfl
theorem nums_take {l:List Nat} {j x:Nat} (h:l.take (j+1)=l.take j ++ [x]):nums (l.take (j+1))=nums (l.take j) ++ low x 8:=by rw[h,nums_app];simp[nums]
theorem ids_take {h:PHead} {k:Nat} {y:Ly} (hy:(ids4 h)[k]? = some y):((ids4 h).take (k+1)).flatten=((ids4 h).take k).flatten ++ y:=by rw[List.take_add_one,hy];simp
theorem flat_le {h:PHead} (ok:PHead.ok h) (k:Nat):(((ids4 h).take k).flatten).length≤64:=by
  obtain⟨E,F,G,A,B,C,D,_⟩:=ok
  have e:(((ids4 h).take k).flatten).length+(((ids4 h).drop k).flatten).length=64:=by
    rw[← List.length_append,← List.flatten_append,List.take_append_drop]
    simp[ids4,A,B,C,D]
  omega
theorem b8_state {s:Nat} (h:s<256):b8 (UInt8.ofNat s) = .int .u8 s:=by
  show Value.int .u8 (((UInt8.ofNat s).toNat:Nat):Int)=_
  rw[UInt8.toNat_ofNat',Nat.mod_eq_of_lt (by omega)]
theorem cut_view {m:Mk} {B:Ly} {H:PHead} {l:List Ob} {es:List EntG} {rs:List Rec} (im:MkIm m l es rs) (op:Opened m B H l es) {v:Nat} (hv:v<18446744073709551616) {b':Ly} (hb:putH {H with n:=H.n.set 8 v}=b') :
    ∃y:PView,openF (b' ++ B.drop 272)=(some y,0)∧y.b.length=B.length∧∃at_ c,entsF (y.h.n.getD 0 0) y.b (y.h.n.getD 8 0) (y.h.n.getD 11 0)=(at_,c)∧at_.length=min v rs.length∧(c=0∧v≤rs.length∨(c=2∨c=14)∧rs.length<v):=by
  obtain⟨D,c,E,R⟩:=cut_open im op hv
  obtain⟨Q,G,C⟩:=opened_ok op
  have ok':PHead.ok {H with n:=H.n.set 8 v}:=by
    obtain⟨I,J,K,L,M,N,O,P,A⟩:=Q
    exact⟨I,J,K,L,M,N,O,nums_set P hv,A⟩
  have F:=putH_len ok'
  have S:=im.len
  subst hb
  refine⟨_,D,by simp[F];omega,_,c,E,by rw[List.length_take,List.length_map];omega,by omega⟩
end Go.Wk
namespace Go.Proofs.Ytclhfnoldibapaa
open Go Go.Wk Go.RowKit
set_option linter.unusedVariables false
set_option linter.unusedSimpArgs false
attribute [local irreducible] wpList wpQuiet wpStill wpMix Code.wp Calls bodyPost
theorem el5:elemIs Try.prog 5 1=true:=by kernel_rfl
theorem one5:isOne Try.prog 5=true:=by kernel_rfl
theorem u31:Try.prog.underlying 31=some (.slice 5):=by kernel_rfl
theorem u36:Try.prog.underlying 36=some (.int .u64):=by kernel_rfl
theorem u5:Try.prog.underlying 5=some (.int .u8):=by kernel_rfl

theorem leSize_any {w:World} {Q:Nat→Prop} (uQ:Up w Q) (n:Int) (a0:(-9223372036854775808≤n∧n<9223372036854775808)) :
    Calls Try.prog 51 #[(.int .i64 (n:Int))] w fun en w'=>∃r0:Bool,en = .returned (.bool r0)∧Md [] w w'∧sizeOk n=r0:=by
  have M:=Md.refl [] w;have H:=uQ;refine enter (n:=17) Try.func51 rfl rfl rfl ?_;intro B;refine ns (asg rfl (nt (ns (mv rfl (st _ (r_eq (a:=n) (b:=1) rfl rfl) (mv rfl ?_))))));refine part_n (t:=5) rfl (fun C=>?_) (fun C=>?_)
  · (have F:=dT C);refine sk C (sk C (st _ (r_pick_t rfl C rfl) (mv rfl (sk rfl (sk rfl (st _ (r_pick_t rfl rfl rfl) (mv rfl (sk rfl (sk rfl ?_)))))))));refine st _ (r_pick_t rfl rfl rfl) (asg rfl (nt (c_ret ?_)));exact ret1L (v:=(.bool true)) trivial rfl ⟨rfl,tV⟩ ⟨true,rfl,M,(by simp only[sizeOk];exact decide_eq_true (by omega))⟩
  (have F:=dF C);refine sg C (r_move rfl) (sg C (r_eq (a:=n) (b:=2) rfl rfl) (st _ (r_pick_f rfl C rfl) (mv rfl ?_)));refine part_n (t:=9) rfl (fun D=>?_) (fun D=>?_)
  · (have G:=dT D);refine sk D (sk D (st _ (r_pick_t rfl D rfl) (mv rfl (sk rfl (sk rfl (st _ (r_pick_t rfl rfl rfl) (asg rfl (nt (c_ret ?_)))))))));exact ret1L (v:=(.bool true)) trivial rfl ⟨rfl,tV⟩ ⟨true,rfl,M,(by simp only[sizeOk];exact decide_eq_true (by omega))⟩
  (have G:=dF D);refine sg D (r_move rfl) (sg D (r_eq (a:=n) (b:=4) rfl rfl) (st _ (r_pick_f rfl D rfl) (mv rfl ?_)));refine part_n (t:=13) rfl (fun A=>?_) (fun A=>?_)
  · (have E:=dT A);refine sk A (sk A (st _ (r_pick_t rfl A rfl) (asg rfl (nt (c_ret ?_)))));exact ret1L (v:=(.bool true)) trivial rfl ⟨rfl,tV⟩ ⟨true,rfl,M,(by simp only[sizeOk];exact decide_eq_true (by omega))⟩
  (have E:=dF A);refine sg A (r_move rfl) (sg A (r_eq (a:=n) (b:=8) rfl rfl) (st _ (r_pick_f rfl A rfl) (asg rfl (nt (c_ret ?_)))));exact ret1L (v:=(.bool ((decide (n=8))))) trivial rfl ⟨rfl,tV⟩ ⟨(decide (n=8)),rfl,M,(by simp only[sizeOk];exact(decide_eq_decide.2 (by omega)))⟩
theorem refGet_any {w:World} {Q:Nat→Prop} (uQ:Up w Q) {v0:Value} {l:Ly} (h0:Ls tB8 w Q v0 l) (a:Int) (a1:(-9223372036854775808≤a∧a<9223372036854775808)) (n:Int) (a2:(-9223372036854775808≤n∧n<9223372036854775808)) :
    Calls Try.prog 61 #[v0,(.int .i64 (a:Int)),(.int .i64 (n:Int))] w fun en w'=>∃r0:Nat,∃r1:Bool,en = .returned (.tuple #[(.int .u64 r0),(.bool r1)])∧Md [] w w'∧r0<18446744073709551616∧getF l a n=(r0,r1):=by
  have u:=h0.len63;have M:=Md.refl [] w;have p:=uQ;have Z:∀b,Q b→Q b:=fun _ h=>h;have P:∀b,Q b→b<w.heap.size→Q b:=fun _ h _=>h;refine enter (n:=59) Try.func61 rfl rfl rfl ?_;intro B;refine ns (asg rfl (asg rfl (nt (c_seq (c_seq ?_)))));refine c_join (fun b=>[(41,.bool b),(0,v0),(1,(.int .i64 (a:Int))),(2,(.int .i64 (n:Int))),(6,(.int .u64 ((0:Nat):Int))),(7,(.bool false))]) (fun b w'=>w=w'∧(b=true↔¬(sizeOk n=true∧0≤a∧a+n≤l.length))) ?_ ?_
  · refine mv rfl (st _ (r_ne (a:=n) (b:=1) rfl rfl) (mv rfl ?_));refine part_n (t:=12) rfl (fun H=>?_) (fun H=>?_)
    · (have T:=dT H);refine sg H (r_move rfl) (sg H (r_ne (a:=n) (b:=2) rfl rfl) (st _ (r_pick_t rfl H rfl) (mv rfl ?_)));refine part_n (t:=16) rfl (fun I=>?_) (fun I=>?_)
      · (have U:=dT I);refine sg I (r_move rfl) (sg I (r_ne (a:=n) (b:=4) rfl rfl) (st _ (r_pick_t rfl I rfl) (mv rfl ?_)));refine part_n (t:=20) rfl (fun J=>?_) (fun J=>?_)
        · (have V:=dT J);refine sg J (r_move rfl) (sg J (r_ne (a:=n) (b:=8) rfl rfl) (st _ (r_pick_t rfl J rfl) (mv rfl ?_)));refine part_n (t:=24) rfl (fun K=>?_) (fun K=>?_)
          · (have W:=dT K);refine sk K (sk K (st _ (r_pick_t rfl K rfl) (mv rfl (sk rfl (sk rfl (sk rfl (sk rfl (st _ (r_pick_t rfl rfl rfl) (mv rfl ?_)))))))));refine sk rfl (sk rfl (sk rfl (sk rfl (sk rfl (sk rfl (st _ (r_pick_t rfl rfl rfl) (st_nil ?_)))))));refine⟨rfl,jn true ?_ ?_⟩
            · exact⟨rfl,rfl,rfl,rfl,rfl,rfl,tV⟩
            · exact⟨rfl,by rw[sizeOk_iff];simp;omega⟩
          · (have W:=dF K);refine sg K (r_move rfl) (sg K (r_lt (a:=a) (b:=0) rfl rfl) (st _ (r_pick_f rfl K rfl) (mv rfl ?_)));refine part_n (t:=28) rfl (fun C=>?_) (fun C=>?_)
            · (have E:=dT C);refine sk C (sk C (sk C (sk C (st _ (r_pick_t rfl C rfl) (mv rfl (sk rfl (sk rfl (sk rfl (sk rfl ?_)))))))));refine sk rfl (sk rfl (st _ (r_pick_t rfl rfl rfl) (st_nil ?_)));refine⟨rfl,jn true ?_ ?_⟩
              · exact⟨rfl,rfl,rfl,rfl,rfl,rfl,tV⟩
              · exact⟨rfl,by rw[sizeOk_iff];simp;omega⟩
            · (have E:=dF C);refine sg C (r_move rfl) (sg C (r_move rfl) (sg C (r_len rfl u31 h0.shp) (sg C (r_gt (a:=a) (b:=((l.length:Nat):Int)) rfl rfl) (st _ (r_pick_f rfl C rfl) (mv rfl ?_)))));refine part_n (t:=34) rfl (fun A=>?_) (fun A=>?_)
              · (have F:=dT A);refine sk A (sk A (sk A (sk A (sk A (sk A (st _ (r_pick_t rfl A rfl) (st_nil ?_)))))));refine⟨rfl,jn true ?_ ?_⟩
                · exact⟨rfl,rfl,rfl,rfl,rfl,rfl,tV⟩
                · exact⟨rfl,by rw[sizeOk_iff];simp;omega⟩
              · (have F:=dF A);refine sg A (r_move rfl) (sg A (r_len rfl u31 h0.shp) (sg A (r_move rfl) (sg A (r_subI (a:=((l.length:Nat):Int)) (b:=a) rfl rfl (by omega)) (sg A (r_move rfl) (sg A (r_lt (a:=((l.length:Nat):Int)-a) (b:=n) rfl rfl) (st _ (r_pick_f rfl A rfl) ?_))))));refine part_n (t:=41) rfl (fun D=>?_) (fun D=>?_)
                · (have G:=dT D);refine st_nil ?_;refine⟨rfl,jn true ?_ ?_⟩
                  · exact⟨fitB rfl D,rfl,rfl,rfl,rfl,rfl,tV⟩
                  · exact⟨rfl,by rw[sizeOk_iff];simp;omega⟩
                · (have G:=dF D);refine st_nil ?_;refine⟨rfl,jn false ?_ ?_⟩
                  · exact⟨fitB rfl D,rfl,rfl,rfl,rfl,rfl,tV⟩
                  · exact⟨rfl,by rw[sizeOk_iff];simp;omega⟩
        · (have V:=dF J);refine sk J (sk J (st _ (r_pick_f rfl J rfl) (mv rfl (sg rfl (r_move rfl) (sg rfl (r_lt (a:=a) (b:=0) rfl rfl) (st _ (r_pick_f rfl rfl rfl) (mv rfl ?_)))))));refine part_n (t:=28) rfl (fun C=>?_) (fun C=>?_)
          · (have E:=dT C);refine sk C (sk C (sk C (sk C (st _ (r_pick_t rfl C rfl) (mv rfl (sk rfl (sk rfl (sk rfl (sk rfl ?_)))))))));refine sk rfl (sk rfl (st _ (r_pick_t rfl rfl rfl) (st_nil ?_)));refine⟨rfl,jn true ?_ ?_⟩
            · exact⟨rfl,rfl,rfl,rfl,rfl,rfl,tV⟩
            · exact⟨rfl,by rw[sizeOk_iff];simp;omega⟩
          · (have E:=dF C);refine sg C (r_move rfl) (sg C (r_move rfl) (sg C (r_len rfl u31 h0.shp) (sg C (r_gt (a:=a) (b:=((l.length:Nat):Int)) rfl rfl) (st _ (r_pick_f rfl C rfl) (mv rfl ?_)))));refine part_n (t:=34) rfl (fun A=>?_) (fun A=>?_)
            · (have F:=dT A);refine sk A (sk A (sk A (sk A (sk A (sk A (st _ (r_pick_t rfl A rfl) (st_nil ?_)))))));refine⟨rfl,jn true ?_ ?_⟩
              · exact⟨rfl,rfl,rfl,rfl,rfl,rfl,tV⟩
              · exact⟨rfl,by rw[sizeOk_iff];simp;omega⟩
            · (have F:=dF A);refine sg A (r_move rfl) (sg A (r_len rfl u31 h0.shp) (sg A (r_move rfl) (sg A (r_subI (a:=((l.length:Nat):Int)) (b:=a) rfl rfl (by omega)) (sg A (r_move rfl) (sg A (r_lt (a:=((l.length:Nat):Int)-a) (b:=n) rfl rfl) (st _ (r_pick_f rfl A rfl) ?_))))));refine part_n (t:=41) rfl (fun D=>?_) (fun D=>?_)
              · (have G:=dT D);refine st_nil ?_;refine⟨rfl,jn true ?_ ?_⟩
                · exact⟨fitB rfl D,rfl,rfl,rfl,rfl,rfl,tV⟩
                · exact⟨rfl,by rw[sizeOk_iff];simp;omega⟩
              · (have G:=dF D);refine st_nil ?_;refine⟨rfl,jn false ?_ ?_⟩
                · exact⟨fitB rfl D,rfl,rfl,rfl,rfl,rfl,tV⟩
                · exact⟨rfl,by rw[sizeOk_iff];simp;omega⟩
      · (have U:=dF I);refine sk I (sk I (st _ (r_pick_f rfl I rfl) (mv rfl (sk rfl (sk rfl (st _ (r_pick_f rfl rfl rfl) (mv rfl (sg rfl (r_move rfl) (sg rfl (r_lt (a:=a) (b:=0) rfl rfl) ?_)))))))));refine st _ (r_pick_f rfl rfl rfl) (mv rfl ?_);refine part_n (t:=28) rfl (fun C=>?_) (fun C=>?_)
        · (have E:=dT C);refine sk C (sk C (sk C (sk C (st _ (r_pick_t rfl C rfl) (mv rfl (sk rfl (sk rfl (sk rfl (sk rfl ?_)))))))));refine sk rfl (sk rfl (st _ (r_pick_t rfl rfl rfl) (st_nil ?_)));refine⟨rfl,jn true ?_ ?_⟩
          · exact⟨rfl,rfl,rfl,rfl,rfl,rfl,tV⟩
          · exact⟨rfl,by rw[sizeOk_iff];simp;omega⟩
        · (have E:=dF C);refine sg C (r_move rfl) (sg C (r_move rfl) (sg C (r_len rfl u31 h0.shp) (sg C (r_gt (a:=a) (b:=((l.length:Nat):Int)) rfl rfl) (st _ (r_pick_f rfl C rfl) (mv rfl ?_)))));refine part_n (t:=34) rfl (fun A=>?_) (fun A=>?_)
          · (have F:=dT A);refine sk A (sk A (sk A (sk A (sk A (sk A (st _ (r_pick_t rfl A rfl) (st_nil ?_)))))));refine⟨rfl,jn true ?_ ?_⟩
            · exact⟨rfl,rfl,rfl,rfl,rfl,rfl,tV⟩
            · exact⟨rfl,by rw[sizeOk_iff];simp;omega⟩
          · (have F:=dF A);refine sg A (r_move rfl) (sg A (r_len rfl u31 h0.shp) (sg A (r_move rfl) (sg A (r_subI (a:=((l.length:Nat):Int)) (b:=a) rfl rfl (by omega)) (sg A (r_move rfl) (sg A (r_lt (a:=((l.length:Nat):Int)-a) (b:=n) rfl rfl) (st _ (r_pick_f rfl A rfl) ?_))))));refine part_n (t:=41) rfl (fun D=>?_) (fun D=>?_)
            · (have G:=dT D);refine st_nil ?_;refine⟨rfl,jn true ?_ ?_⟩
              · exact⟨fitB rfl D,rfl,rfl,rfl,rfl,rfl,tV⟩
              · exact⟨rfl,by rw[sizeOk_iff];simp;omega⟩
            · (have G:=dF D);refine st_nil ?_;refine⟨rfl,jn false ?_ ?_⟩
              · exact⟨fitB rfl D,rfl,rfl,rfl,rfl,rfl,tV⟩
              · exact⟨rfl,by rw[sizeOk_iff];simp;omega⟩
    · (have T:=dF H);refine sk H (sk H (st _ (r_pick_f rfl H rfl) (mv rfl (sk rfl (sk rfl (st _ (r_pick_f rfl rfl rfl) (mv rfl (sk rfl (sk rfl ?_)))))))));refine st _ (r_pick_f rfl rfl rfl) (mv rfl (sg rfl (r_move rfl) (sg rfl (r_lt (a:=a) (b:=0) rfl rfl) (st _ (r_pick_f rfl rfl rfl) (mv rfl ?_)))));refine part_n (t:=28) rfl (fun C=>?_) (fun C=>?_)
      · (have E:=dT C);refine sk C (sk C (sk C (sk C (st _ (r_pick_t rfl C rfl) (mv rfl (sk rfl (sk rfl (sk rfl (sk rfl ?_)))))))));refine sk rfl (sk rfl (st _ (r_pick_t rfl rfl rfl) (st_nil ?_)));refine⟨rfl,jn true ?_ ?_⟩
        · exact⟨rfl,rfl,rfl,rfl,rfl,rfl,tV⟩
        · exact⟨rfl,by rw[sizeOk_iff];simp;omega⟩
      · (have E:=dF C);refine sg C (r_move rfl) (sg C (r_move rfl) (sg C (r_len rfl u31 h0.shp) (sg C (r_gt (a:=a) (b:=((l.length:Nat):Int)) rfl rfl) (st _ (r_pick_f rfl C rfl) (mv rfl ?_)))));refine part_n (t:=34) rfl (fun A=>?_) (fun A=>?_)
        · (have F:=dT A);refine sk A (sk A (sk A (sk A (sk A (sk A (st _ (r_pick_t rfl A rfl) (st_nil ?_)))))));refine⟨rfl,jn true ?_ ?_⟩
          · exact⟨rfl,rfl,rfl,rfl,rfl,rfl,tV⟩
          · exact⟨rfl,by rw[sizeOk_iff];simp;omega⟩
        · (have F:=dF A);refine sg A (r_move rfl) (sg A (r_len rfl u31 h0.shp) (sg A (r_move rfl) (sg A (r_subI (a:=((l.length:Nat):Int)) (b:=a) rfl rfl (by omega)) (sg A (r_move rfl) (sg A (r_lt (a:=((l.length:Nat):Int)-a) (b:=n) rfl rfl) (st _ (r_pick_f rfl A rfl) ?_))))));refine part_n (t:=41) rfl (fun D=>?_) (fun D=>?_)
          · (have G:=dT D);refine st_nil ?_;refine⟨rfl,jn true ?_ ?_⟩
            · exact⟨fitB rfl D,rfl,rfl,rfl,rfl,rfl,tV⟩
            · exact⟨rfl,by rw[sizeOk_iff];simp;omega⟩
          · (have G:=dF D);refine st_nil ?_;refine⟨rfl,jn false ?_ ?_⟩
            · exact⟨fitB rfl D,rfl,rfl,rfl,rfl,rfl,tV⟩
            · exact⟨rfl,by rw[sizeOk_iff];simp;omega⟩
  · rintro c B _ ⟨rfl,L⟩
    refine c_boolcase c (fun D=>?_) (fun D=>?_)
    · replace L:=L.1 D;refine c_then (c_if_t rfl D (ns (asg rfl (asg rfl (nt (c_ret (r_then ?_)))))));exact retL (vs:=[(.int .u64 ((0:Nat):Int)),(.bool false)]) trivial rfl ⟨rfl,rfl,tV⟩ rfl ⟨0,false,rfl,M,(by omega),(getF_no (by omega))⟩
    · replace L:=mt L.2 (by rw[D];simp);refine c_then (c_if_f rfl D (c_skip (c_then (c_seq ?_))));replace L:=Classical.not_not.1 L;have y:=sizeOk_le L.1;refine c_region (asg rfl (nt (c_seq (ns (mv rfl (st _ (r_subI (a:=n) (b:=1) rfl rfl (by omega)) (asg rfl (nt (c_block ?_)))))))))

      refine loop2 (fun(v:Nat) (i:Int)=>[(8,(.int .u64 v)),(9,(.int .i64 (i:Int))),(0,v0),(1,(.int .i64 (a:Int))),(6,(.int .u64 ((0:Nat):Int))),(7,(.bool false))]) (fun(v:Nat) (i:Int) w'=>∃Q':Nat→Prop,(∀b,Q' b→Q b)∧(∀b,Q b→b<w.heap.size→Q' b)∧Up w' Q'∧Md [] w w'∧Ls tB8 w' Q' v0 l∧(-1≤i∧i<n)∧v=leN ((l.drop (a+(i+1)).toNat).take (n-1-i).toNat)∧v<18446744073709551616) (fun(v:Nat) (i:Int)=>(i+1).toNat) (x0:=0) (x1:=(n-1)) ?_ ?_ ?_
      · exact⟨rfl,rfl,rfl,rfl,rfl,rfl,tV⟩
      · exact⟨Q,Z,P,uQ,M,h0,(by omega),(by simp[show n-1-(n-1)=0 by omega,leN]),(by omega)⟩
      · clear M uQ Z P h0
        rintro v i B z ⟨g,Z,P,uQ,M,h0,e,N,f⟩;refine c_seq (ns (mv rfl (st _ (r_ge (a:=i) (b:=0) rfl rfl) (nt ?_))));refine c_if rfl (fun R=>?_) (fun R=>?_)
        · (have X:=dT R);have j:=leN_lt_of (l:=(l.drop (a+(i+1)).toNat).take (n-1-i).toNat) (k:=7) (by simp;omega);rw[← N]at j;refine c_skip (c_then (c_seq (c_block (c_region (mv rfl (st _ (r_mulN (a:=v) (b:=256) 18446744073709551616 rfl rfl rfl (by omega)) (mv rfl (mv rfl (mv rfl ?_)))))))));refine st _ (r_addI (a:=a) (b:=i) rfl rfl (by omega)) (st _ (r_indexZ (i:=a+i) 1 rfl rfl u31 el5 h0.shp (by omega)) ?_);obtain⟨S,Y⟩:=getE (l:=l) (i:=(a+i).toNat) (by omega);obtain⟨x,d,O⟩:=h0.get Y;obtain⟨rfl,_⟩:=d;have r:=UInt8.toNat_lt S;replace O:At _ v0 (((a+i).toNat)*1) [(b8 S)]:=O;refine st _ ((r_loadE (kk:=((a+i).toNat)*1) 0 rfl rfl one5 O rfl).to (b:=(b8 S)) rfl) (st _ (r_convN (a:=S.toNat) 18446744073709551616 rfl (by rw[u5];rfl) u36 rfl (lT (UInt8.toNat_lt _) (by decide))) (st _ (r_addN (a:=(v*256)) (b:=S.toNat) 18446744073709551616 rfl rfl rfl (by omega)) (asg rfl (st_nil ?_))));clear O;refine n_block (c_then (c_region (mv rfl (st _ (r_subI (a:=i) (b:=1) rfl rfl (by omega)) (asg rfl (nt ?_))))));refine next2 (x0:=((v*256)+S.toNat)) (x1:=(i-1)) (by omega) ⟨(fitI rfl (by rfl)),(fitI rfl (by omega)),rfl,rfl,rfl,rfl,tV⟩ ⟨g,Z,P,uQ,M,h0,(by omega),(by rw[N];have o:=leN_step (k:=(n-1-i).toNat) Y;rw[show(n-1-(i-1)).toNat=(n-1-i).toNat+1 by omega,show(a+(i-1+1)).toNat=(a+i).toNat by omega,o,show(a+i).toNat+1=(a+(i+1)).toNat by omega];omega),(by omega)⟩
        · (have X:=dF R);refine c_exit (x_then (x_then (x_hit (c_then (ns (mv rfl (asg rfl (asg rfl (nt ?_)))))))));refine c_ret ?_;exact retL (vs:=[(.int .u64 v),(.bool true)]) trivial rfl ⟨rfl,rfl,tV⟩ rfl ⟨v,true,rfl,M,(by assumption),(by rw[getF,if_pos (by omega),N,show i = -1 by omega];simp)⟩
theorem fn51:isFn Try.prog 51=true:=by kernel_rfl

theorem leGet_any {w:World} {Q:Nat→Prop} (uQ:Up w Q) {v0:Value} {l:Ly} (h0:Ls tB8 w Q v0 l) (a:Int) (a1:(-9223372036854775808≤a∧a<9223372036854775808)) (n:Int) (a2:(-9223372036854775808≤n∧n<9223372036854775808)) :
    Calls Try.prog 50 #[v0,(.int .i64 (a:Int)),(.int .i64 (n:Int))] w fun en w'=>∃r0:Nat,∃r1:Bool,en = .returned (.tuple #[(.int .u64 r0),(.bool r1)])∧Md [] w w'∧r0<18446744073709551616∧getF l a n=(r0,r1):=by
  have p:=h0.len63;have M:=Md.refl [] w;have j:=uQ;have P:∀b,Q b→Q b:=fun _ h=>h;have F:∀b,Q b→b<w.heap.size→Q b:=fun _ h _=>h;refine enter (n:=42) Try.func50 rfl rfl rfl ?_;intro B;refine ns (asg rfl (asg rfl (nt (c_seq (ns (mv rfl (st_call fn51 rfl (leSize_any uQ (n) (by omega)) ?_)))))));rintro en u ⟨Z,rfl,R,d⟩;refine⟨_,rfl,?_⟩;replace h0:=h0.md0 R;replace uQ:=uQ.md R;replace M:=M.step0 R;refine st _ (r_not rfl) (mv rfl ?_);refine part_n (t:=13) rfl (fun C=>?_) (fun C=>?_)
  · (have J:=bnt C);refine sk C (sk C (st _ (r_pick_t rfl C rfl) (mv rfl (sk rfl (sk rfl (sk rfl (sk rfl (sk rfl (sk rfl ?_)))))))));refine st _ (r_pick_t rfl rfl rfl) (nt (c_if_t rfl rfl (ns (asg rfl (asg rfl (nt (c_ret (r_then ?_))))))));exact retL (vs:=[(.int .u64 ((0:Nat):Int)),(.bool false)]) trivial rfl ⟨rfl,rfl,tV⟩ rfl ⟨0,false,rfl,M,(by omega),(getF_no (by rintro⟨U,V,W⟩;simp_all))⟩
  · (have J:=bnf C);refine sg C (r_move rfl) (sg C (r_lt (a:=a) (b:=0) rfl rfl) (st _ (r_pick_f rfl C rfl) (mv rfl ?_)));refine part_n (t:=17) rfl (fun A=>?_) (fun A=>?_)
    · (have K:=dT A);refine sk A (sk A (sk A (sk A (sk A (sk A (st _ (r_pick_t rfl A rfl) (nt (c_if_t rfl rfl (ns ?_)))))))));refine asg rfl (asg rfl (nt (c_ret (r_then ?_))));exact retL (vs:=[(.int .u64 ((0:Nat):Int)),(.bool false)]) trivial rfl ⟨rfl,rfl,tV⟩ rfl ⟨0,false,rfl,M,(by omega),(getF_no (by rintro⟨U,V,W⟩;omega))⟩
    · (have K:=dF A);have e:=sizeOk_le (n:=n) (by simp_all);refine sg A (r_move rfl) (sg A (r_move rfl) (sg A (r_len rfl u31 h0.shp) (sg A (r_move rfl) (sg A (r_subI (a:=((l.length:Nat):Int)) (b:=n) rfl rfl (by omega)) (sg A (r_gt (a:=a) (b:=((l.length:Nat):Int)-n) rfl rfl) (st _ (r_pick_f rfl A rfl) (nt ?_)))))));refine c_if rfl (fun G=>?_) (fun G=>?_)
      · (have L:=dT G);refine ns (asg rfl (asg rfl (nt (c_ret (r_then ?_)))));exact retL (vs:=[(.int .u64 ((0:Nat):Int)),(.bool false)]) trivial rfl ⟨rfl,rfl,tV⟩ rfl ⟨0,false,rfl,M,(by omega),(getF_no (by rintro⟨U,V,W⟩;omega))⟩
      · (have L:=dF G);refine c_skip (c_then (c_seq ?_));have T:sizeOk n=true∧0≤a∧a+n≤l.length:=⟨by simp_all,by omega,by omega⟩;have e:=sizeOk_le T.1;refine c_region (asg rfl (nt (c_seq (ns (mv rfl (st _ (r_subI (a:=n) (b:=1) rfl rfl (by omega)) (asg rfl (nt (c_block ?_)))))))))

        refine loop2 (fun(v:Nat) (i:Int)=>[(8,(.int .u64 v)),(9,(.int .i64 (i:Int))),(0,v0),(1,(.int .i64 (a:Int))),(6,(.int .u64 ((0:Nat):Int))),(7,(.bool false))]) (fun(v:Nat) (i:Int) w'=>∃Q':Nat→Prop,(∀b,Q' b→Q b)∧(∀b,Q b→b<w.heap.size→Q' b)∧Up w' Q'∧Md [] w w'∧Ls tB8 w' Q' v0 l∧(-1≤i∧i<n)∧v=leN ((l.drop (a+(i+1)).toNat).take (n-1-i).toNat)∧v<18446744073709551616) (fun(v:Nat) (i:Int)=>(i+1).toNat) (x0:=0) (x1:=(n-1)) ?_ ?_ ?_
        · exact⟨rfl,rfl,rfl,rfl,rfl,rfl,tV⟩
        · exact⟨Q,P,F,uQ,M,h0,(by omega),(by simp[show n-1-(n-1)=0 by omega,leN]),(by omega)⟩
        · clear M uQ P F h0
          rintro v i B x ⟨c,P,F,uQ,M,h0,X,D,Y⟩;refine c_seq (ns (mv rfl (st _ (r_ge (a:=i) (b:=0) rfl rfl) (nt ?_))));refine c_if rfl (fun H=>?_) (fun H=>?_)
          · (have N:=dT H);have f:=leN_lt_of (l:=(l.drop (a+(i+1)).toNat).take (n-1-i).toNat) (k:=7) (by simp;omega);rw[← D]at f;refine c_skip (c_then (c_seq (c_block (c_region (mv rfl (st _ (r_shlW (a:=v) (b:=8) 18446744073709551616 rfl rfl 64 rfl rfl rfl (by omega)) (mv rfl (mv rfl (mv rfl ?_)))))))));refine st _ (r_addI (a:=a) (b:=i) rfl rfl (by omega)) (st _ (r_indexZ (i:=a+i) 1 rfl rfl u31 el5 h0.shp (by omega)) ?_);obtain⟨I,O⟩:=getE (l:=l) (i:=(a+i).toNat) (by omega);obtain⟨r,S,E⟩:=h0.get O;obtain⟨rfl,_⟩:=S;have o:=UInt8.toNat_lt I;replace E:At _ v0 (((a+i).toNat)*1) [(b8 I)]:=E;refine st _ ((r_loadE (kk:=((a+i).toNat)*1) 0 rfl rfl one5 E rfl).to (b:=(b8 I)) rfl) (st _ (r_convN (a:=I.toNat) 18446744073709551616 rfl (by rw[u5];rfl) u36 rfl (lT (UInt8.toNat_lt _) (by decide))) (st _ (r_orN (a:=(v*2 ^ 8%18446744073709551616)) (b:=I.toNat) 18446744073709551616 rfl rfl rfl rfl (by omega)) (asg rfl (st_nil ?_))));clear E;refine n_block (c_then (c_region (mv rfl (st _ (r_subI (a:=i) (b:=1) rfl rfl (by omega)) (asg rfl (nt ?_))))));refine next2 (x0:=((v*2 ^ 8%18446744073709551616) ||| I.toNat)) (x1:=(i-1)) (by omega) ⟨(fitI rfl (by rfl)),(fitI rfl (by omega)),rfl,rfl,rfl,rfl,tV⟩ ⟨c,P,F,uQ,M,h0,(by omega),(by rw[shl_or (by omega),D];have g:=leN_step (k:=(n-1-i).toNat) O;rw[show(n-1-(i-1)).toNat=(n-1-i).toNat+1 by omega,show(a+(i-1+1)).toNat=(a+i).toNat by omega,g,show(a+i).toNat+1=(a+(i+1)).toNat by omega]),(by rw[shl_or (by omega)];have:=UInt8.toNat_lt I;omega)⟩
          · (have N:=dF H);refine c_exit (x_then (x_then (x_hit (c_then (ns (mv rfl (asg rfl (asg rfl (nt ?_)))))))));refine c_ret ?_;exact retL (vs:=[(.int .u64 v),(.bool true)]) trivial rfl ⟨rfl,rfl,tV⟩ rfl ⟨v,true,rfl,M,(by assumption),(by rw[getF,if_pos (by omega),D,show i = -1 by omega];simp)⟩
theorem agg38:isAggN Try.prog 38 91=true:=by kernel_rfl
theorem el81:elemIs Try.prog 81 1=true:=by kernel_rfl
theorem el84:elemIs Try.prog 84 1=true:=by kernel_rfl
theorem elT81:elT Try.prog 81 1 8=true:=by kernel_rfl
theorem elT84:elT Try.prog 84 1 8=true:=by kernel_rfl
theorem fn28:isFn Try.prog 28=true:=by kernel_rfl
theorem fn29:isFn Try.prog 29=true:=by kernel_rfl
theorem fn49:isFn Try.prog 49=true:=by kernel_rfl
theorem fn50:isFn Try.prog 50=true:=by kernel_rfl
theorem mixed:Try.prog.follows .mixedOrders=true:=by kernel_rfl
theorem off38_0:fieldOff Try.prog 38 0=some 0:=by kernel_rfl
theorem off38_1:fieldOff Try.prog 38 1=some 1:=by kernel_rfl
theorem off38_10:fieldOff Try.prog 38 10=some 70:=by kernel_rfl
theorem off38_11:fieldOff Try.prog 38 11=some 71:=by kernel_rfl
theorem off38_12:fieldOff Try.prog 38 12=some 72:=by kernel_rfl
theorem off38_13:fieldOff Try.prog 38 13=some 73:=by kernel_rfl
theorem off38_14:fieldOff Try.prog 38 14=some 74:=by kernel_rfl
theorem off38_15:fieldOff Try.prog 38 15=some 75:=by kernel_rfl
theorem off38_16:fieldOff Try.prog 38 16=some 76:=by kernel_rfl
theorem off38_17:fieldOff Try.prog 38 17=some 77:=by kernel_rfl
theorem off38_18:fieldOff Try.prog 38 18=some 78:=by kernel_rfl
theorem off38_19:fieldOff Try.prog 38 19=some 79:=by kernel_rfl
theorem off38_2:fieldOff Try.prog 38 2=some 2:=by kernel_rfl
theorem off38_20:fieldOff Try.prog 38 20=some 80:=by kernel_rfl
theorem off38_21:fieldOff Try.prog 38 21=some 81:=by kernel_rfl
theorem off38_22:fieldOff Try.prog 38 22=some 82:=by kernel_rfl
theorem off38_23:fieldOff Try.prog 38 23=some 83:=by kernel_rfl
theorem off38_24:fieldOff Try.prog 38 24=some 84:=by kernel_rfl
theorem off38_25:fieldOff Try.prog 38 25=some 85:=by kernel_rfl
theorem off38_26:fieldOff Try.prog 38 26=some 86:=by kernel_rfl
theorem off38_27:fieldOff Try.prog 38 27=some 87:=by kernel_rfl
theorem off38_28:fieldOff Try.prog 38 28=some 88:=by kernel_rfl
theorem off38_29:fieldOff Try.prog 38 29=some 89:=by kernel_rfl
theorem off38_3:fieldOff Try.prog 38 3=some 3:=by kernel_rfl
theorem off38_30:fieldOff Try.prog 38 30=some 90:=by kernel_rfl
theorem off38_4:fieldOff Try.prog 38 4=some 19:=by kernel_rfl
theorem off38_5:fieldOff Try.prog 38 5=some 35:=by kernel_rfl
theorem off38_6:fieldOff Try.prog 38 6=some 51:=by kernel_rfl
theorem off38_7:fieldOff Try.prog 38 7=some 67:=by kernel_rfl
theorem off38_8:fieldOff Try.prog 38 8=some 68:=by kernel_rfl
theorem off38_9:fieldOff Try.prog 38 9=some 69:=by kernel_rfl
theorem one31:isOne Try.prog 31=true:=by kernel_rfl
theorem one33:isOne Try.prog 33=true:=by kernel_rfl
theorem one36:isOne Try.prog 36=true:=by kernel_rfl
theorem one81:isOne Try.prog 81=true:=by kernel_rfl
theorem one84:isOne Try.prog 84=true:=by kernel_rfl
theorem pl38:bplace Try.prog 38=some [(0,1),(1,1),(2,1),(3,16),(19,16),(35,16),(51,16),(67,1),(68,1),(69,1),(70,1),(71,1),(72,1),(73,1),(74,1),(75,1),(76,1),(77,1),(78,1),(79,1),(80,1),(81,1),(82,1),(83,1),(84,1),(85,1),(86,1),(87,1),(88,1),(89,1),(90,1)]:=by kernel_rfl
theorem u3:Try.prog.underlying 3=some (.int .i64):=by kernel_rfl
theorem u33:Try.prog.underlying 33=some (.int .u32):=by kernel_rfl
theorem u35:Try.prog.underlying 35=some (.array 16 5):=by kernel_rfl
theorem u79:Try.prog.underlying 79=some (.slice 81):=by kernel_rfl
theorem u82:Try.prog.underlying 82=some (.slice 84):=by kernel_rfl
theorem z38:zcells Try.prog 38=some ([.int .u32 0,.int .u32 0,.int .i64 0] ++ (List.replicate 64 (.int .u8 0) ++ (List.replicate 21 (.int .u64 0) ++ ([.int .u32 0,.int .u32 0,.int .u64 0])))):=by kernel_rfl

theorem hIds_any {w:World} {b:Nat}:Calls Try.prog 28 #[.pointer (some ⟨b,0,none⟩)] w fun en w'=>∃x,en = .returned (.slice (some ⟨x,0,none⟩) 4 4)∧w.heap.size≤x∧Md [] w w'∧Blk w' x (ptrs b 3 16 4) 81:=by
  refine enter (n:=16) Try.func28 rfl rfl rfl ?_;intro B;refine ns (asg rfl (nt (c_seq (c_mixT (ml 12) [12,13] (fun w'=>Md [] w w') mixed (by kernel_rfl) ?_))));intro I C;refine⟨C,?_⟩;refine mo rfl (mz (fun w' A=>r_nil rfl) (mz (fun w' A=>r_field rfl off38_3) (mo rfl (mz (fun w' A=>r_nil rfl) (mz (fun w' A=>r_field rfl off38_4) (mo rfl (mz (fun w' A=>r_nil rfl) (mz (fun w' A=>r_field rfl off38_5) (mo rfl ?_)))))))));refine mz (fun w' A=>r_nil rfl) (mz (fun w' A=>r_field rfl off38_6) (m_nil (st_buildSlice u79 elT81 (by decide) rfl rfl rfl (by simp[OneAll,Value.oneCell']) (by decide) ?_)));intro x G E H D F;refine asg rfl (nt (c_ret ?_));exact ret1 trivial rfl rfl ⟨x,rfl,lE C.size E,C.step0 D,(show Blk G x (ptrs b 3 16 4) 81 from F)⟩
theorem hLong_any {w:World} {b:Nat}:Calls Try.prog 29 #[.pointer (some ⟨b,0,none⟩)] w fun en w'=>∃x,en = .returned (.slice (some ⟨x,0,none⟩) 21 21)∧w.heap.size≤x∧Md [] w w'∧Blk w' x (ptrs b 67 1 21) 84:=by
  refine enter (n:=67) Try.func29 rfl rfl rfl ?_;intro B;refine ns (asg rfl (nt (c_seq (c_mixT (ml 63) [63,64] (fun w'=>Md [] w w') mixed (by kernel_rfl) ?_))));intro I C;refine⟨C,?_⟩;refine mo rfl (mz (fun w' A=>r_nil rfl) (mz (fun w' A=>r_field rfl off38_7) (mo rfl (mz (fun w' A=>r_nil rfl) (mz (fun w' A=>r_field rfl off38_8) (mo rfl (mz (fun w' A=>r_nil rfl) (mz (fun w' A=>r_field rfl off38_9) (mo rfl ?_)))))))));refine mz (fun w' A=>r_nil rfl) (mz (fun w' A=>r_field rfl off38_10) (mo rfl (mz (fun w' A=>r_nil rfl) (mz (fun w' A=>r_field rfl off38_11) (mo rfl (mz (fun w' A=>r_nil rfl) (mz (fun w' A=>r_field rfl off38_12) (mo rfl (mz (fun w' A=>r_nil rfl) ?_)))))))));refine mz (fun w' A=>r_field rfl off38_13) (mo rfl (mz (fun w' A=>r_nil rfl) (mz (fun w' A=>r_field rfl off38_14) (mo rfl (mz (fun w' A=>r_nil rfl) (mz (fun w' A=>r_field rfl off38_15) (mo rfl (mz (fun w' A=>r_nil rfl) (mz (fun w' A=>r_field rfl off38_16) ?_)))))))))
  refine mo rfl (mz (fun w' A=>r_nil rfl) (mz (fun w' A=>r_field rfl off38_17) (mo rfl (mz (fun w' A=>r_nil rfl) (mz (fun w' A=>r_field rfl off38_18) (mo rfl (mz (fun w' A=>r_nil rfl) (mz (fun w' A=>r_field rfl off38_19) (mo rfl ?_)))))))));refine mz (fun w' A=>r_nil rfl) (mz (fun w' A=>r_field rfl off38_20) (mo rfl (mz (fun w' A=>r_nil rfl) (mz (fun w' A=>r_field rfl off38_21) (mo rfl (mz (fun w' A=>r_nil rfl) (mz (fun w' A=>r_field rfl off38_22) (mo rfl (mz (fun w' A=>r_nil rfl) ?_)))))))));refine mz (fun w' A=>r_field rfl off38_23) (mo rfl (mz (fun w' A=>r_nil rfl) (mz (fun w' A=>r_field rfl off38_24) (mo rfl (mz (fun w' A=>r_nil rfl) (mz (fun w' A=>r_field rfl off38_25) (mo rfl (mz (fun w' A=>r_nil rfl) (mz (fun w' A=>r_field rfl off38_26) ?_)))))))));refine mo rfl (mz (fun w' A=>r_nil rfl) (mz (fun w' A=>r_field rfl off38_27) (m_nil (st_buildSlice u82 elT84 (by decide) rfl rfl rfl (by simp[OneAll,Value.oneCell']) (by decide) ?_))));intro x G E H D F;refine asg rfl (nt (c_ret ?_));exact ret1 trivial rfl rfl ⟨x,rfl,lE C.size E,C.step0 D,(show Blk G x (ptrs b 67 1 21) 84 from F)⟩

theorem hFour_any {w:World} {Q:Nat→Prop} {b1:Nat} {v0:Value} {l:Ly} (hB:Blk w b1 [v0] 31) (h0:Ls tB8 w Q v0 l) (a:Nat) (ha:a+4≤l.length) :
    Calls Try.prog 49 #[.int .i64 (a:Int),.pointer (some ⟨b1,0,none⟩)] w fun en w'=>en = .returned (.int .u32 ((at4 l a:Nat):Int))∧Md [] w w':=by
  have L:=h0.len63;refine enter (n:=14) Try.func49 rfl rfl rfl ?_;intro B;refine ns (asg rfl (nt (ns (st _ (r_loadBlk rfl one31 hB rfl) (mv rfl (st_call fn50 rfl (leGet_any (Q:=fun _=>True) (fun _ _=>trivial) (h0.sub fun _ _ _=>trivial) (a:Int) (by omega) 4 (by omega)) ?_))))));rintro en H ⟨F,G,rfl,D,E,A⟩;refine⟨_,rfl,?_⟩;have C:getF l a 4=(at4 l a,true):=getF_at (k:=4) (.inl rfl) ha;rw[C]at A;obtain⟨rfl,rfl⟩:=Prod.mk.inj A;refine mv rfl (se rfl rfl (se rfl rfl (asg rfl (asg rfl (nt (ns (mv rfl (st _ (r_convN (a:=at4 l a) 4294967296 rfl (by rw[u36];rfl) u33 rfl (at4_lt _ _)) (asg rfl ?_)))))))));refine nt (c_ret ?_);exact ret1 trivial rfl rfl ⟨rfl,D⟩
set_option maxRecDepth 100000 in
theorem hParse_any {w:World} {Q:Nat→Prop} (uQ:Up w Q) {v0:Value} {b:Ly} (h00:Ls tB8 w Q v0 b) (p0:272≤b.length) :
    Calls Try.prog 23 #[v0] w fun en w'=>∃r0:PHead,en = .returned (.agg (PHead.cells r0).toArray)∧Md [] w w'∧PHead.ok r0∧parseF b=r0:=by
  have L:=h00.len63;obtain⟨U,f,F⟩:∃U:Nat→Prop,(∀x,w.heap.size≤x→¬U x)∧Ls tB8 w U v0 b:=⟨fun x=>x<w.heap.size,fun x h k=>by omega,h00.sub fun x _ h=>h⟩;clear h00;have M:=Md.refl [] w;refine enter (n:=73) Try.func23 rfl rfl rfl ?_;intro B;refine ns (st_box rfl (cells_one F.oneCell) ?_);intro O w1 g1 l1 C A;replace F:=F.md0 C;replace M:=M.step0 C;refine st_alloc z38 ?_;intro S w2 t l2 C E;replace F:=F.md0 C;obtain⟨Z,hZ,E⟩:∃Z,(PHead.cells (headUp b 0 0 0 0)).length=Z.length∧Blk w2 S Z 38:=⟨_,rfl,E⟩;have Am:O≠S:=(by have:=A.lt;omega);replace A:=A.md0 C;replace t:=lE M.size t;replace M:=M.step0 C;refine nt (ns (st _ (r_loadBlk rfl one31 A rfl) (st _ (r_indexN (i:=16) 1 rfl rfl u31 el5 F.shp (by omega)) ?_)));obtain⟨x,hx⟩:=getE (l:=b) (i:=16) (by omega);obtain⟨cx,Aa,R⟩:=F.get hx;obtain⟨rfl,_⟩:=Aa;have ex:b.getD 16 0=x:=(by simp[List.getD,hx]);have lx:=UInt8.toNat_lt x;replace R:At _ v0 (16*1) [(b8 x)]:=R;refine st _ ((r_loadE (kk:=16*1) 0 rfl rfl one5 R rfl).to (b:=(b8 x)) rfl) ?_;clear R;refine st _ (r_convN (a:=x.toNat) 9223372036854775808 rfl (by rw[u5];rfl) u3 rfl (by omega)) (st (.agg (PHead.cells (headUp b 0 0 0 0)).toArray) (by rw[show PHead.cells (headUp b 0 0 0 0)=PHead.cells {headUp b 0 0 0 0 with state:=x.toNat} by rw[← ex];rfl];exact r_build (cs:=PHead.cells {headUp b 0 0 0 0 with state:=x.toNat}) (ps:=[(2,2)]) z38 pl38 rfl rfl (by simp[OneAll,Value.oneCell']) rfl rfl rfl) (st_alloc z38 ?_));intro I w3 P l3 C D;replace F:=F.md0 C;have K:O≠I:=(by have:=A.lt;omega);have J:S≠I:=(by have:=E.lt;omega);replace A:=A.md0 C;replace E:=E.md0 C;replace P:=lE M.size P;replace M:=M.step0 C;refine st_storeAll rfl rfl (by exact agg38) (fun u hu=>one_cells PHead.one u hu) D rfl ?_;intro w4 C D;have N:∀x∈[I],¬U x:=(by intro y r;simp at r;subst r;exact f _ P);have Ao:∀x∈[S],¬U x:=(by intro y r;simp at r;subst r;exact f _ t);replace F:=F.md C N;replace A:=A.md1 C K;replace E:=E.md1 C J;replace M:=M.step1 C P;refine nt (c_seq ?_)
  refine c_region (st _ (r_makeFunc rfl) (asg rfl (nt (ns (mv rfl (st_callV (cs:=[.pointer (some ⟨O,0,none⟩)]) rfl fn49 rfl (hFour_any A F 8 (by omega)) ?_))))));rintro en w5 ⟨rfl,C⟩;refine⟨_,rfl,?_⟩;replace F:=F.md0 C;replace A:=A.md0 C;replace E:=E.md0 C;replace D:=D.md0 C;replace M:=M.step0 C;refine mv rfl (st_callV (cs:=[.pointer (some ⟨O,0,none⟩)]) rfl fn49 rfl (hFour_any A F 12 (by omega)) ?_);rintro en w6 ⟨rfl,C⟩;refine⟨_,rfl,?_⟩;replace F:=F.md0 C;replace A:=A.md0 C;replace E:=E.md0 C;replace D:=D.md0 C;replace M:=M.step0 C;refine sf rfl off38_0 (st_store rfl rfl one33 rfl D (by(show _<91;decide)) ?_);intro w7 C D;replace F:=F.md C N;replace A:=A.md1 C K;replace E:=E.md1 C J;replace M:=M.step1 C P;refine sf rfl off38_1 (st_store rfl rfl one33 rfl D (by(show _<91;decide)) ?_);intro w8 C D;replace F:=F.md C N;replace A:=A.md1 C K;replace E:=E.md1 C J;replace M:=M.step1 C P;replace D:Blk w8 I (PHead.cells (headUp b (at4 b 8) (at4 b 12) 0 0)) 38:=D;refine nt (ns (asg rfl (nt (c_seq (ns (st_call fn28 rfl (hIds_any (b:=I)) ?_))))));rintro en w9 ⟨Y,rfl,gi,C,G⟩;refine⟨_,rfl,?_⟩;have Ac:Y≠I:=(by have:=D.lt;omega);replace F:=F.md0 C;replace A:=A.md0 C;replace E:=E.md0 C;replace D:=D.md0 C;replace gi:=lE M.size gi;replace M:=M.step0 C;have g:Shp (.slice (some ⟨Y,0,none⟩) 4 4) 4:=⟨_,_,rfl,Nat.le_refl _,by simp[maxLen],by simp⟩;refine sL rfl u79 g (mv rfl (nt (c_block ?_)))
  refine loop2 (fun(k:Nat) (a:Nat)=>[(24,(.int .i64 k)),(5,(.int .i64 a)),(1,.pointer (some ⟨O,0,none⟩)),(2,.pointer (some ⟨S,0,none⟩)),(3,.pointer (some ⟨I,0,none⟩)),(4,.func (.func 49) #[] #[.pointer (some ⟨O,0,none⟩)]),(22,.slice (some ⟨Y,0,none⟩) 4 4),(23,.int .i64 ((4:Nat):Int))])
    (fun(k:Nat) (a:Nat) w'=>Md [] w w'∧Ls tB8 w' U v0 b∧Blk w' O [v0] 31∧Blk w' S Z 38∧Blk w' I (PHead.cells (headUp b (at4 b 8) (at4 b 12) k 0)) 38∧Blk w' Y (ptrs I 3 16 4) 81∧k≤4∧a=24+16*k) (fun(k:Nat) (a:Nat)=>4-k) (x0:=0) (x1:=24) ?_ ?_ ?_
  · exact⟨rfl,rfl,rfl,rfl,rfl,rfl,rfl,rfl,tV⟩
  · exact⟨M,F,A,E,D,G,by omega,rfl⟩
  clear M F A E D G
  rintro k a B Aq ⟨M,F,A,E,D,G,hk,p⟩;refine ns (st _ (r_ltN (a:=k) (b:=4) rfl rfl) (nt (c_seq ?_)));refine c_if rfl (fun V=>?_) (fun V=>?_)
  · have d:=dT V
    refine c_skip (c_then (c_seq (c_block (ns (st _ ((r_indexN (i:=k) 1 rfl rfl u79 el81 g (by omega)).to (b:=.pointer (some ⟨Y,k,none⟩)) (by simp[elemp,Addr.add_mk])) (st _ (r_loadBlk (b:=Y) (j:=k) (u:=.pointer (some ⟨I,3+k*16,none⟩)) rfl one81 G (ptrs_get (by omega))) (asg rfl (nt ?_))))))));have v:=F.shp;refine c_mix [(0,true),(1,true),(2,true),(3,true),(4,true),(5,true),(6,true),(7,false),(8,true),(9,true)] (fun w'=>Blk w' O [v0] 31) mixed (by kernel_rfl) ?_;intro Ar C;replace F:=F.md0 C;replace A:=A.md0 C;replace E:=E.md0 C;replace D:=D.md0 C;replace G:=G.md0 C;replace M:=M.step0 C;refine⟨A,?_⟩;refine mo rfl (mo rfl (mz (fun w' X=>r_nil rfl) (mz (fun w' X=>r_sliceArr u35 el5 rfl (by decide)) (mz (fun w' X=>r_loadBlk rfl one31 X rfl) (mo rfl (Go.Wk.m (subv v0 a b.length) (fun w' X=>by exact r_slice a b.length u31 el5 rfl v (by omega) (by omega) ⟨_,rfl⟩ rfl) ?_))))));refine m_e ?_ rfl;have hT:=F.by.tail a (by omega);refine st_copy u31 el5 rfl rfl D hT (one_b8 _) (by have:(PHead.cells (headUp b (at4 b 8) (at4 b 12) k 0)).length=91:=rfl;simp;omega) ?_;intro As C D;clear hT;rw[← List.map_take,p,ids_step (by omega) p0]at D;replace F:=F.md C N;replace A:=A.md1 C K;replace E:=E.md1 C J;replace G:=G.md1 C Ac;replace M:=M.step1 C P;refine st_nil ⟨rfl,A,?_⟩;have Ai:min ((b.drop a).map b8).length 16=16:=(by simp;omega);refine mz (fun w' X=>r_addN (a:=a) (b:=min ((b.drop a).map b8).length 16) 9223372036854775808 rfl rfl rfl (by omega)) (mz (fun w' X=>r_assign rfl) (m_nil (n_block (c_then (c_region (st _ (r_addN (a:=k) (b:=1) 9223372036854775808 rfl rfl rfl (by omega)) (mv rfl (nt ?_))))))));exact next2 (x0:=k+1) (x1:=a+min ((b.drop a).map b8).length 16) (by omega) ⟨rfl,rfl,rfl,rfl,rfl,rfl,rfl,rfl,tV⟩ ⟨M,F,A,E,D,G,by omega,by omega⟩
  have d:=dF V
  obtain rfl:k=4:=by omega
  subst p;clear G;refine c_exit (x_then (x_then (x_hit (c_then (c_seq (ns (st_call fn29 rfl (hLong_any (b:=I)) ?_)))))));rintro en Au ⟨c,rfl,gj,C,H⟩;refine⟨_,rfl,?_⟩;have Ad:c≠I:=(by have:=D.lt;omega);replace F:=F.md0 C;replace A:=A.md0 C;replace E:=E.md0 C;replace D:=D.md0 C;replace M:=M.step0 C;have o:Shp (.slice (some ⟨c,0,none⟩) 21 21) 21:=⟨_,_,rfl,Nat.le_refl _,by simp[maxLen],by simp⟩;refine sL rfl u82 o (mv rfl (nt (c_block ?_)))
  refine loop2 (fun(j:Nat) (a:Nat)=>[(40,(.int .i64 j)),(5,(.int .i64 a)),(1,.pointer (some ⟨O,0,none⟩)),(2,.pointer (some ⟨S,0,none⟩)),(3,.pointer (some ⟨I,0,none⟩)),(4,.func (.func 49) #[] #[.pointer (some ⟨O,0,none⟩)]),(38,.slice (some ⟨c,0,none⟩) 21 21),(39,.int .i64 ((21:Nat):Int))])
    (fun(j:Nat) (a:Nat) w'=>Md [] w w'∧Ls tB8 w' U v0 b∧Blk w' O [v0] 31∧Blk w' S Z 38∧Blk w' I (PHead.cells (headUp b (at4 b 8) (at4 b 12) 4 j)) 38∧Blk w' c (ptrs I 67 1 21) 84∧j≤21∧a=88+8*j) (fun(j:Nat) (a:Nat)=>21-j) (x0:=0) (x1:=24+16*4) ?_ ?_ ?_
  · exact⟨rfl,rfl,rfl,rfl,rfl,rfl,rfl,rfl,tV⟩
  · exact⟨M,F,A,E,D,H,by omega,rfl⟩
  clear M F A E D H
  rintro j a B Aw ⟨M,F,A,E,D,H,hj,p⟩;refine ns (st _ (r_ltN (a:=j) (b:=21) rfl rfl) (nt (c_seq ?_)));refine c_if rfl (fun W=>?_) (fun W=>?_)
  · have T:=dT W
    refine c_skip (c_then (c_seq (c_block (ns (st _ ((r_indexN (i:=j) 1 rfl rfl u82 el84 o (by omega)).to (b:=.pointer (some ⟨c,j,none⟩)) (by simp[elemp,Addr.add_mk])) (st _ (r_loadBlk (b:=c) (j:=j) (u:=.pointer (some ⟨I,67+j*1,none⟩)) rfl one84 H (ptrs_get (by omega))) (asg rfl (nt (ns ?_)))))))));refine mv rfl (st _ (r_loadBlk rfl one31 A rfl) (mv rfl (st_call fn50 rfl (leGet_any (Q:=fun _=>True) (fun _ _=>trivial) (F.sub fun _ _ _=>trivial) (a:Int) (by omega) 8 (by omega)) ?_)));rintro en Ax ⟨r0,r1,rfl,C,hr,e⟩;refine⟨_,rfl,?_⟩;have z:getF b a 8=(at8 b a,true):=getF_at (k:=8) (.inr rfl) (by omega);rw[z]at e;obtain⟨rfl,rfl⟩:=Prod.mk.inj e;replace F:=F.md0 C;replace A:=A.md0 C;replace E:=E.md0 C;replace D:=D.md0 C;replace H:=H.md0 C;replace M:=M.step0 C;refine mv rfl (st (.int .u64 ((at8 b a:Nat):Int)) (r_extract rfl rfl) (se rfl rfl (sn rfl (st_store (b:=I) (j:=67+j*1) rfl rfl one36 rfl D (by have:(PHead.cells (headUp b (at4 b 8) (at4 b 12) 4 j)).length=91:=rfl;omega) ?_))));intro Ay C D;rw[Nat.mul_one,p,long_step T]at D;replace F:=F.md C N;replace A:=A.md1 C K;replace E:=E.md1 C J;replace H:=H.md1 C Ad;replace M:=M.step1 C P;refine nt (c_region (mv rfl (st _ (r_addN (a:=a) (b:=8) 9223372036854775808 rfl rfl rfl (by omega)) (asg rfl (st_nil (n_block (c_then (c_region (st _ (r_addN (a:=j) (b:=1) 9223372036854775808 rfl rfl rfl (by omega)) ?_)))))))));refine mv rfl (nt ?_);exact next2 (x0:=j+1) (x1:=a+8) (by omega) ⟨rfl,rfl,rfl,rfl,rfl,rfl,rfl,rfl,tV⟩ ⟨M,F,A,E,D,H,by omega,by omega⟩
  have T:=dF W
  obtain rfl:j=21:=by omega
  subst p;clear H;refine c_exit (x_then (x_then (x_hit (c_then (ns (mv rfl (mv rfl (st_callV (cs:=[.pointer (some ⟨O,0,none⟩)]) rfl fn49 rfl (hFour_any A F 256 (by omega)) ?_))))))));rintro en Az ⟨rfl,C⟩;refine⟨_,rfl,?_⟩;replace F:=F.md0 C;replace A:=A.md0 C;replace E:=E.md0 C;replace D:=D.md0 C;replace M:=M.step0 C;refine mv rfl (mv rfl (st _ (r_addN (a:=256) (b:=4) 9223372036854775808 rfl rfl rfl (by omega)) (st_callV (cs:=[.pointer (some ⟨O,0,none⟩)]) rfl fn49 rfl (hFour_any A F 260 (by omega)) ?_)));rintro en A0 ⟨rfl,C⟩;refine⟨_,rfl,?_⟩;replace F:=F.md0 C;replace A:=A.md0 C;replace E:=E.md0 C;replace D:=D.md0 C;replace M:=M.step0 C;refine sf rfl off38_28 (st_store rfl rfl one33 rfl D (by(show _<91;decide)) ?_);intro A1 C D;replace F:=F.md C N;replace A:=A.md1 C K;replace E:=E.md1 C J;replace M:=M.step1 C P;refine sf rfl off38_29 (st_store rfl rfl one33 rfl D (by(show _<91;decide)) ?_);intro A2 C D;replace F:=F.md C N;replace A:=A.md1 C K;replace E:=E.md1 C J;replace M:=M.step1 C P;refine nt (ns (st _ (r_loadBlk rfl one31 A rfl) (mv rfl (st _ (r_addN (a:=256) (b:=8) 9223372036854775808 rfl rfl rfl (by omega)) (st_call fn50 rfl (leGet_any (Q:=fun _=>True) (fun _ _=>trivial) (F.sub fun _ _ _=>trivial) ((264:Nat):Int) (by omega) 8 (by omega)) ?_)))));rintro en A3 ⟨r0,r1,rfl,C,hr,e⟩;refine⟨_,rfl,?_⟩;have z:getF b ((264:Nat):Int) 8=(at8 b 264,true):=getF_at (k:=8) (.inr rfl) (by omega);rw[z]at e;obtain⟨rfl,rfl⟩:=Prod.mk.inj e;replace E:=E.md0 C;replace D:=D.md0 C;replace M:=M.step0 C;refine mv rfl (st (.int .u64 ((at8 b 264:Nat):Int)) (r_extract rfl rfl) (se rfl rfl (sf rfl off38_30 (st_store rfl rfl one36 rfl D (by(show _<91;decide)) ?_))));intro Ae C D;replace E:=E.md1 C J;replace M:=M.step1 C P
  replace D:Blk Ae I (PHead.cells (parseF b)) 38:=D;refine nt (ns (st _ (r_loadAll rfl (by exact agg38) D) (st_storeAll rfl rfl (by exact agg38) (fun u hu=>one_cells PHead.one u hu) E hZ ?_)));intro A4 C E;replace M:=M.step1 C t;refine nt (c_ret ?_);exact retc trivial rfl rfl (by exact agg38) E ⟨_,rfl,M,parse_ok p0,rfl⟩
theorem fn48:isFn Try.prog 48=true:=by kernel_rfl
theorem u9:Try.prog.underlying 9=some (.string):=by kernel_rfl


theorem hEqual_any {w:World} {Q:Nat→Prop} (uQ:Up w Q) {v0:Value} {a:Ly} (h0:Ls tB8 w Q v0 a) {v1:Value} {b:Ly} (h1:Ls tB8 w Q v1 b) :
    Calls Try.prog 48 #[v0,v1] w fun en w'=>∃r0:Bool,en = .returned (.bool r0)∧Md [] w w'∧decide (a=b)=r0:=by
  have C:=h0.len63;have D:=h1.len63;have M:=Md.refl [] w;have A:=uQ;refine enter (n:=10) Try.func48 rfl rfl rfl ?_;intro B;refine ns (asg rfl (nt (ns (mv rfl (st _ (r_convBS (s:=a) u31 u5 u9 rfl h0.by) (mv rfl (st _ (r_convBS (s:=b) u31 u5 u9 rfl h1.by) (st _ (r_eqlS (a:=a) (b:=b) rfl rfl) (asg rfl ?_)))))))));refine nt (c_ret ?_);exact ret1L (v:=(.bool ((decide (a=b))))) trivial rfl ⟨rfl,tV⟩ ⟨(decide (a=b)),rfl,M,(by simp(disch:=first|omega|assumption|(simp;done)|fail) only [SS,reduceIte])⟩
theorem hPref_any {w:World} {Q:Nat→Prop} (uQ:Up w Q) {v0:Value} {b:Ly} (h0:Ls tB8 w Q v0 b) {v1:Value} {p:Ly} (h1:Ls tB8 w Q v1 p) :
    Calls Try.prog 22 #[v0,v1] w fun en w'=>∃r0:Bool,en = .returned (.bool r0)∧Md [] w w'∧prefF b p=r0:=by
  have I:=h0.len63;have J:=h1.len63;have M:=Md.refl [] w;have H:=uQ;refine enter (n:=18) Try.func22 rfl rfl rfl ?_;intro B;refine ns (asg rfl (nt (ns (mv rfl (sL rfl u31 h0.shp (mv rfl (sL rfl u31 h1.shp (st _ (r_geN (a:=b.length) (b:=p.length) rfl rfl) (mv rfl ?_)))))))));refine part_n (t:=10) rfl (fun A=>?_) (fun A=>?_)
  · (have C:=dT A);refine sg A (r_move rfl) (sg A (r_move rfl) (sg A (r_len rfl u31 h1.shp) (sg A (r_sliceZ 1 0 p.length u31 el5 rfl h0.shp (by omega) (by omega) rfl ⟨_,rfl⟩) ?_)));have F:=h0.head (hi:=p.length) (by omega);refine sg A (r_move rfl) (st_call_g rfl rfl rfl A fn48 rfl (hEqual_any uQ F h1) ?_);rintro en K ⟨D,rfl,G,E⟩;refine⟨_,rfl,?_⟩;replace M:=M.step0 G;refine st _ (r_pick_t rfl A rfl) (asg rfl (nt (c_ret ?_)));exact ret1L (v:=(.bool D)) trivial rfl ⟨rfl,tV⟩ ⟨D,rfl,M,(by rw[prefF]<;>simp(disch:=first|omega|assumption|(simp;done)|fail) only [SS,reduceIte,C,E])⟩
  (have C:=dF A);refine sk A (sk A (sk A (sk A (sk A (sk A (st _ (r_pick_f rfl A rfl) (asg rfl (nt (c_ret ?_)))))))));exact ret1L (v:=(.bool false)) trivial rfl ⟨rfl,tV⟩ ⟨false,rfl,M,(by rw[prefF]<;>simp(disch:=first|omega|assumption|(simp;done)|fail) only [SS,reduceIte,C])⟩
theorem hEnd_any {w:World} {Q:Nat→Prop} (uQ:Up w Q) (h:PHead) (a0_0:PHead.ok h) :
    Calls Try.prog 24 #[.agg (PHead.cells h).toArray] w fun en w'=>∃r0:Nat,∃r1:Bool,en = .returned (.tuple #[(.int .u64 r0),(.bool r1)])∧Md [] w w'∧r0<18446744073709551616∧endF h=(r0,r1):=by
  have M:=Md.refl [] w;have J:=uQ;refine enter (n:=15) Try.func24 rfl rfl rfl ?_;intro B;refine ns (st_box (cs:=(PHead.cells h)) rfl rfl ?_);intro G N C I H E;have F:=uQ _ C;replace C:=lE M.size C;replace M:=M.step0 H;refine asg rfl (asg rfl (nt (ns (sf rfl off38_7 (sl (u:=(.int .u64 ((h.n.getD 0 0:Nat):Int))) rfl one36 E rfl ?_)))));have K:h.n.getD 0 0<18446744073709551616:=(nums_bd a0_0.2.2.2.2.2.2.2.1 0);refine sf rfl off38_8 (sl (u:=(.int .u64 ((h.n.getD 1 0:Nat):Int))) rfl one36 E rfl ?_);have L:h.n.getD 1 0<18446744073709551616:=(nums_bd a0_0.2.2.2.2.2.2.2.1 1);refine st _ (r_addW (a:=(h.n.getD 0 0)) (b:=(h.n.getD 1 0)) 18446744073709551616 rfl rfl rfl rfl) (asg rfl (nt (c_seq (ns (mv rfl (sf rfl off38_7 (sl (u:=(.int .u64 ((h.n.getD 0 0:Nat):Int))) rfl one36 E rfl (st _ (r_ltN (a:=(((h.n.getD 0 0)+(h.n.getD 1 0))%18446744073709551616)) (b:=(h.n.getD 0 0)) rfl rfl) (nt ?_)))))))));refine c_if rfl (fun D=>?_) (fun D=>?_)
  · (have A:=dT D);refine ns (asg rfl (asg rfl (nt (c_ret (r_then ?_)))));exact retL (vs:=[(.int .u64 ((0:Nat):Int)),(.bool false)]) trivial rfl ⟨rfl,rfl,tV⟩ rfl ⟨0,false,rfl,M,(by omega),(by rw[endF]<;>simp(disch:=first|omega|assumption|(simp;done)|fail) only [SS,reduceIte,A])⟩
  (have A:=dF D);refine c_skip (c_then (ns (mv rfl (asg rfl (asg rfl (nt (c_ret ?_)))))));exact retL (vs:=[(.int .u64 ((((h.n.getD 0 0)+(h.n.getD 1 0))%18446744073709551616:Nat):Int)),(.bool true)]) trivial rfl ⟨rfl,rfl,tV⟩ rfl ⟨((h.n.getD 0 0)+(h.n.getD 1 0))%18446744073709551616,true,rfl,M,(by omega),(by rw[endF]<;>simp(disch:=first|omega|assumption|(simp;done)|fail) only [SS,reduceIte,A])⟩
theorem hTable_any {w:World} {Q:Nat→Prop} (uQ:Up w Q) (h:PHead) (a0_0:PHead.ok h) (p:Nat) (a1:p<18446744073709551616) (size:Nat) (a2:size<18446744073709551616) (e:Nat) (a3:e<18446744073709551616) :
    Calls Try.prog 25 #[.agg (PHead.cells h).toArray,(.int .u64 p),(.int .u64 size),(.int .u64 e)] w fun en w'=>∃r0:Nat,en = .returned (.int .i64 r0)∧Md [] w w'∧r0<9223372036854775808∧tableF h p size e=r0:=by
  have M:=Md.refl [] w;have X:=uQ;refine enter (n:=45) Try.func25 rfl rfl rfl ?_;intro B;refine ns (st_box (cs:=(PHead.cells h)) rfl rfl ?_);intro U Z N W V R;have T:=uQ _ N;replace N:=lE M.size N;replace M:=M.step0 V;refine asg rfl (nt (c_seq (c_block (ns (mv rfl (st _ (r_remN (a:=p) (b:=8) rfl rfl (by omega)) (st _ (r_neN (a:=(p%8)) (b:=0) rfl rfl) (asg rfl (nt ?_)))))))));refine c_if rfl (fun S=>?_) (fun S=>?_)
  · (have I:=dT S);refine ns (asg rfl (nt (c_ret (r_block (r_then ?_)))));exact ret1L (v:=(.int .i64 ((3:Nat):Int))) trivial rfl ⟨rfl,tV⟩ ⟨3,rfl,M,(by omega),(by rw[tableF]<;>simp(disch:=first|omega|assumption|(simp;done)|fail) only [SS,reduceIte,I])⟩
  (have I:=dF S);refine ns (mv rfl (st _ (r_eqN (a:=size) (b:=0) rfl rfl) (mv rfl ?_)));refine part_n (t:=16) rfl (fun F=>?_) (fun F=>?_)
  · (have D:=dT F);refine sk F (sk F (sk F (st _ (r_pick_t rfl F rfl) (asg rfl (nt (c_if_t rfl rfl (ns (asg rfl (nt ?_)))))))));refine c_ret (r_block (r_then ?_));exact ret1L (v:=(.int .i64 ((5:Nat):Int))) trivial rfl ⟨rfl,tV⟩ ⟨5,rfl,M,(by omega),(by rw[tableF]<;>simp(disch:=first|omega|assumption|(simp;done)|fail) only [SS,reduceIte,I,D])⟩
  (have D:=dF F);refine sg F (r_move rfl) (sg F (r_remN (a:=size) (b:=16) rfl rfl (by omega)) (sg F (r_neN (a:=(size%16)) (b:=0) rfl rfl) (st _ (r_pick_f rfl F rfl) (asg rfl (nt ?_)))));refine c_if rfl (fun O=>?_) (fun O=>?_)
  · (have E:=dT O);refine ns (asg rfl (nt (c_ret (r_block (r_then ?_)))));exact ret1L (v:=(.int .i64 ((5:Nat):Int))) trivial rfl ⟨rfl,tV⟩ ⟨5,rfl,M,(by omega),(by rw[tableF]<;>simp(disch:=first|omega|assumption|(simp;done)|fail) only [SS,reduceIte,I,D,E])⟩
  (have E:=dF O);refine ns (mv rfl (sf rfl off38_7 (sl (u:=(.int .u64 ((h.n.getD 0 0:Nat):Int))) rfl one36 R rfl ?_)));have Y:h.n.getD 0 0<18446744073709551616:=(nums_bd a0_0.2.2.2.2.2.2.2.1 0);refine st _ (r_ltN (a:=p) (b:=(h.n.getD 0 0)) rfl rfl) (mv rfl ?_);refine part_n (t:=26) rfl (fun A=>?_) (fun A=>?_)
  · (have H:=dT A);refine sk A (sk A (sk A (sk A (sk A (st _ (r_pick_t rfl A rfl) (mv rfl (sk rfl (sk rfl (sk rfl ?_)))))))));refine st _ (r_pick_t rfl rfl rfl) (mv rfl (sk rfl (sk rfl (sk rfl (sk rfl (sk rfl (st _ (r_pick_t rfl rfl rfl) (asg rfl (nt ?_)))))))));refine c_if_t rfl rfl (ns (asg rfl (nt (c_ret (r_block (r_then ?_))))));exact ret1L (v:=(.int .i64 ((2:Nat):Int))) trivial rfl ⟨rfl,tV⟩ ⟨2,rfl,M,(by omega),(by rw[tableF]<;>simp(disch:=first|omega|assumption|(simp;done)|fail) only [SS,reduceIte,I,D,E,H])⟩
  (have H:=dF A);refine sg A (r_move rfl) (sg A (r_field rfl off38_7) (sg A ((r_loadBlk rfl one36 R rfl).to (b:=(.int .u64 ((h.n.getD 0 0:Nat):Int))) rfl) (sg A (r_subN (a:=p) (b:=(h.n.getD 0 0)) 18446744073709551616 rfl rfl rfl (by omega)) (sg A (r_ltN (a:=(p-(h.n.getD 0 0))) (b:=16) rfl rfl) (st _ (r_pick_f rfl A rfl) (mv rfl ?_))))));refine part_n (t:=33) rfl (fun G=>?_) (fun G=>?_)
  · (have J:=dT G);refine sk G (sk G (sk G (st _ (r_pick_t rfl G rfl) (mv rfl (sk rfl (sk rfl (sk rfl (sk rfl (sk rfl ?_)))))))));refine st _ (r_pick_t rfl rfl rfl) (asg rfl (nt (c_if_t rfl rfl (ns (asg rfl (nt (c_ret (r_block (r_then ?_)))))))));exact ret1L (v:=(.int .i64 ((2:Nat):Int))) trivial rfl ⟨rfl,tV⟩ ⟨2,rfl,M,(by omega),(by rw[tableF]<;>simp(disch:=first|omega|assumption|(simp;done)|fail) only [SS,reduceIte,I,D,E,H,J])⟩
  (have J:=dF G);refine sg G (r_move rfl) (sg G (r_move rfl) (sg G (r_gtN (a:=p) (b:=e) rfl rfl) (st _ (r_pick_f rfl G rfl) (mv rfl ?_))));refine part_n (t:=38) rfl (fun C=>?_) (fun C=>?_)
  · (have K:=dT C);refine sk C (sk C (sk C (sk C (sk C (st _ (r_pick_t rfl C rfl) (asg rfl (nt (c_if_t rfl rfl (ns ?_)))))))));refine asg rfl (nt (c_ret (r_block (r_then ?_))));exact ret1L (v:=(.int .i64 ((2:Nat):Int))) trivial rfl ⟨rfl,tV⟩ ⟨2,rfl,M,(by omega),(by rw[tableF]<;>simp(disch:=first|omega|assumption|(simp;done)|fail) only [SS,reduceIte,I,D,E,H,J,K])⟩
  (have K:=dF C);refine sg C (r_move rfl) (sg C (r_move rfl) (sg C (r_move rfl) (sg C (r_subN (a:=e) (b:=p) 18446744073709551616 rfl rfl rfl (by omega)) (sg C (r_gtN (a:=size) (b:=(e-p)) rfl rfl) (st _ (r_pick_f rfl C rfl) (asg rfl (nt ?_)))))));refine c_if rfl (fun P=>?_) (fun P=>?_)
  · (have L:=dT P);refine ns (asg rfl (nt (c_ret (r_block (r_then ?_)))));exact ret1L (v:=(.int .i64 ((2:Nat):Int))) trivial rfl ⟨rfl,tV⟩ ⟨2,rfl,M,(by omega),(by rw[tableF]<;>simp(disch:=first|omega|assumption|(simp;done)|fail) only [SS,reduceIte,I,D,E,H,J,K,L])⟩
  (have L:=dF P);refine c_skip (n_block (c_then (ns (asg rfl (nt (c_ret ?_))))));exact ret1L (v:=(.int .i64 ((0:Nat):Int))) trivial rfl ⟨rfl,tV⟩ ⟨0,rfl,M,(by omega),(by rw[tableF]<;>simp(disch:=first|omega|assumption|(simp;done)|fail) only [SS,reduceIte,I,D,E,H,J,K,L])⟩
theorem elT5:elT Try.prog 5 1 1=true:=by kernel_rfl
theorem fn22:isFn Try.prog 22=true:=by kernel_rfl
theorem fn23:isFn Try.prog 23=true:=by kernel_rfl
theorem fn24:isFn Try.prog 24=true:=by kernel_rfl
theorem fn25:isFn Try.prog 25=true:=by kernel_rfl
theorem one3:isOne Try.prog 3=true:=by kernel_rfl


theorem bClone_any {w:World} {Q:Nat→Prop} (uQ:Up w Q) {v0:Value} {l:Ly} (h0:Ls tB8 w Q v0 l) (p0:l.length≤140737488355328) :
    Calls Try.prog 26 #[v0] w fun en w'=>∃u0:Value,∃r0:List UInt8,∃Q':Nat→Prop,en = .returned (u0)∧Md [] w w'∧NewQ w w' Q Q'∧Ow tB8 5 (Fsh [] w) w' Q' u0 r0∧l=r0:=by
  obtain⟨a,A,T,R,V⟩:∃a A,v0 = .slice a l.length A∧l.length≤A∧(a=none→l=[]):=by
    obtain⟨a,A,j,e,M,k,N,_⟩:=h0;exact⟨a,A,e,M,fun h=>List.eq_nil_of_length_eq_zero (by have:=N h;omega)⟩
  refine enter (n:=8) Try.func26 rfl rfl rfl ?_;intro B;refine ns (asg rfl (nt (c_seq (ns (mv rfl (st (.bool a.isNone) (by exact r_eqlSN (a:=a) (m:=l.length) (c:=A) (by rw[← T];rfl) u31) (nt ?_)))))));refine c_if rfl (fun H=>?_) (fun H=>?_)
  · have S:l=[]:=V (Option.isNone_iff_eq_none.1 H)
    refine ns (asg rfl (nt (c_ret (r_then ?_))));exact ret1 trivial rfl rfl ⟨_,[],Q,rfl,Md.refl [] w,⟨fun x h _=>h,fun x h=>h,uQ⟩,Ow.nil _ _ _ _ _,S⟩
  refine c_skip ?_
  refine c_then (ns (st_build0 u31 elT5 ?_));intro b i D W C O;obtain⟨K,J,Z,X,f⟩:=exQ uQ D W C;have P:Ow tB8 5 (Fsh [] w) i K (.slice (some ⟨b,0,none⟩) 0 0) []:=Ow.of_blk (m:=0) O rfl rfl (by simp[maxLen]) (.inr D) X;replace h0:=(h0.sub J).md0 C;refine mv rfl (st_apZ (sz:=1) rfl u31 elT5 rfl rfl P h0.lz f (Fsh.new C) (by simp;omega) (by simp;omega) ?_);intro p r L Y d g E F o _ U;refine asg rfl (nt (c_ret ?_));exact ret1 trivial rfl rfl ⟨_,_,L,rfl,C.step1 F D,⟨fun x G I=>Y x (J x G I) (lT I C.size),fun x G=>Z x (d x G),g⟩,E,by simp⟩
theorem bClone_any_ls {w:World} {Q:Nat→Prop} (uQ:Up w Q) {v0:Value} {l:Ly} (h0:Ls tB8 w Q v0 l) (p0:l.length≤140737488355328) :
    Calls Try.prog 26 #[v0] w fun en w'=>∃u0:Value,∃r0:List UInt8,en = .returned (u0)∧Md [] w w'∧Ls tB8 w' Q u0 r0∧l=r0 :=
  (bClone_any uQ h0 p0).mono fun en w' ⟨u0,r0,Q2,he,hm,kq,k0,hF⟩=>⟨u0,r0,he,hm,k0.ls kq.2.1 (Fsh.up uQ),hF⟩
set_option maxRecDepth 100000 in
abbrev zz0:PHead:={compat:=0,incompat:=0,state:=0,file:=idZ,machine:=idZ,boot:=idZ,seq:=idZ,n:=(List.replicate 21 0),tailArray:=0,tailItems:=0,tailEntry:=0}
set_option maxHeartbeats 4000000 in
theorem hRead_any {w:World} {Q:Nat→Prop} (uQ:Up w Q) {v0:Value} {b:Ly} (h0:Ls tB8 w Q v0 b) :
    Calls Try.prog 7 #[v0] w fun en w'=>∃r0:PHead,∃r1:Nat,en = .returned (.tuple #[.agg (PHead.cells r0).toArray,(.int .i64 r1)])∧Md [] w w'∧PHead.ok r0∧r1<9223372036854775808∧readF b=(r0,r1):=by
  have L0:=h0.len63;have M:=Md.refl [] w;have Bl:=uQ;refine enter (n:=90) Try.func7 rfl rfl rfl ?_;intro B;refine ns (st_alloc z38 ?_);intro Aj w1 Ac Az E A;obtain⟨Q2,sQ,sT,A1,o⟩:=exQ uQ Ac Az E;replace h0:=h0.sub sQ;replace Ac:=lE M.size Ac;replace h0:=h0.md0 E;replace uQ:=uQ.md E;replace M:=M.step0 E;replace uQ:=o;clear o sQ sT;have I:Fsh [] w Aj:=.inr Ac;replace A:Blk _ _ (PHead.cells (zz0)) _:=A;have A9:PHead.ok (zz0):=(by first|exact⟨(by decide),(by decide),(by decide),rfl,rfl,rfl,rfl,(nums_zero _),(by decide),(by decide),(by decide)⟩|exact(by first|assumption|exact⟨(by(simp<;>omega)),(by(simp<;>omega)),(by first|omega|(simp<;>omega)|simp_all),(by rfl),(by rfl),(by rfl),(by first|assumption|rfl|simp_all),(by first|assumption|exact nums_zero _|exact nums_set (by assumption) (by omega)|simp_all),(by(simp<;>omega)),(by(simp<;>omega)),(by first|omega|(simp<;>omega)|simp_all)⟩));refine asg rfl (nt (c_seq (c_block (ns (mv rfl (sL rfl u31 h0.shp (st _ (r_ltN (a:=b.length) (b:=272) rfl rfl) (asg rfl (nt ?_)))))))));refine c_if rfl (fun h9=>?_) (fun h9=>?_)
  · (first|(have P:=dT h9)|(have P:=dF (bnt h9))|(have P:=bnt h9)|(have P:=h9));refine ns (st _ (r_buildG (us:=[]) (cs:=(PHead.cells (zz0))) [] z38 pl38 rfl rfl trivial trivial rfl rfl) (st_storeAgg (us:=(PHead.cells (zz0))) rfl rfl (by exact agg38) (by first|exact fun u K=>one_cells (PHead.one) u K|exact fun u K=>one_cells rfl u K) A (lB rfl) ?_));have F:=A;clear A;intro w4 E A;replace M:=M.step E (all_cons I all_nil);clear F;replace A:Blk _ _ (PHead.cells (zz0)) _:=A;refine asg rfl (nt (c_ret (r_block (r_then ?_))));exact retL (vs:=[(.agg (PHead.cells (zz0)).toArray),(.int .i64 ((22:Nat):Int))]) trivial rfl ⟨⟨_,rfl,load_agg (cs:=(PHead.cells (zz0))) (by exact agg38) A⟩,rfl,tV⟩ rfl ⟨(zz0),22,rfl,M,(by first|assumption|exact⟨(by first|omega|(simp<;>omega)|simp_all),(by first|omega|(simp<;>omega)|simp_all),(by first|omega|(simp<;>omega)|simp_all),(by first|assumption|rfl|simp_all),(by first|assumption|rfl|simp_all),(by first|assumption|rfl|simp_all),(by first|assumption|rfl|simp_all),(by first|assumption|exact nums_zero _|exact nums_set (by assumption) (by omega)|simp_all),(by first|omega|(simp<;>omega)|simp_all),(by first|omega|(simp<;>omega)|simp_all),(by first|omega|(simp<;>omega)|simp_all)⟩),(by first|assumption|omega|simp_all),(readF_short P)⟩
  (first|(have P:=dF h9)|(have P:=dT (bnf h9))|(have P:=bnf h9)|(have P:=h9));refine ns (mv rfl (st_buildSliceG [[(b8 76)],[(b8 80)],[(b8 75)],[(b8 83)],[(b8 72)],[(b8 72)],[(b8 82)],[(b8 72)]] u31 elT5 (by decide) (by decide) rfl rfl ⟨rfl,rfl,rfl,rfl,rfl,rfl,rfl,rfl,tV⟩ ⟨rfl,rfl,rfl,rfl,rfl,rfl,rfl,rfl,tV⟩ rfl (by decide) ?_));intro Aa w5 Ag Au E x;have Aq:Aj≠Aa:=(by have:=A.lt;omega);have Af:Fsh [] w Aa:=Fsh.new M _ Ag;obtain⟨Q6,sQ,sT,y,o⟩:=exQ uQ Ag Au E;replace h0:=h0.sub sQ;replace h0:=h0.md0 E;replace A:=A.md0 E;replace uQ:=uQ.md E;replace M:=M.step0 E;replace uQ:=o;clear o sQ sT;refine st_mark u31 u5 rfl (show Blk _ _ (([76,80,75,83,72,72,82,72]:Ly).map b8) _ from x) (By.of_blk (show Blk _ _ (([76,80,75,83,72,72,82,72]:Ly).map b8) _ from x) rfl (by decide)) ?_;intro w7 E hY;have Al:=x;clear x;have hS:∀b∈[Aa],¬Q6 b:=(by intro b z;simp at z;subst z;exact y);replace h0:=h0.md E hS;replace A:=A.md E (by intro z;simp at z;omega);replace uQ:=uQ.md E;replace M:=M.step E (all_cons Af all_nil);obtain⟨Q8,fQ,fT,Am⟩:=lit_freeze (Q:=Q6) hY;replace h0:=h0.sub (fun b z _=>fQ b z);replace uQ:Up w7 Q8:=fun b z=>fQ b (uQ b z);clear Al hS fQ fT hY y;refine st_call fn22 rfl (hPref_any uQ h0 Am) ?_;rintro en w9 ⟨Ba,rfl,E,d⟩;refine⟨_,rfl,?_⟩;replace h0:=h0.md0 E;replace A:=A.md0 E;replace uQ:=uQ.md E;replace M:=M.step0 E;refine st _ (r_not rfl) (asg rfl (nt ?_));refine c_if rfl (fun e=>?_) (fun e=>?_)
  · (first|(have V:=dT e)|(have V:=dF (bnt e))|(have V:=bnt e)|(have V:=e));refine ns (st _ (r_buildG (us:=[]) (cs:=(PHead.cells (zz0))) [] z38 pl38 rfl rfl trivial trivial rfl rfl) (st_storeAgg (us:=(PHead.cells (zz0))) rfl rfl (by exact agg38) (by first|exact fun u K=>one_cells (PHead.one) u K|exact fun u K=>one_cells rfl u K) A (lB rfl) ?_));have F:=A;clear A;intro Bm E A;replace M:=M.step E (all_cons I all_nil);clear F;replace A:Blk _ _ (PHead.cells (zz0)) _:=A;refine asg rfl (nt (c_ret (r_block (r_then ?_))));exact retL (vs:=[(.agg (PHead.cells (zz0)).toArray),(.int .i64 ((6:Nat):Int))]) trivial rfl ⟨⟨_,rfl,load_agg (cs:=(PHead.cells (zz0))) (by exact agg38) A⟩,rfl,tV⟩ rfl ⟨(zz0),6,rfl,M,(by first|assumption|exact⟨(by first|omega|(simp<;>omega)|simp_all),(by first|omega|(simp<;>omega)|simp_all),(by first|omega|(simp<;>omega)|simp_all),(by first|assumption|rfl|simp_all),(by first|assumption|rfl|simp_all),(by first|assumption|rfl|simp_all),(by first|assumption|rfl|simp_all),(by first|assumption|exact nums_zero _|exact nums_set (by assumption) (by omega)|simp_all),(by first|omega|(simp<;>omega)|simp_all),(by first|omega|(simp<;>omega)|simp_all),(by first|omega|(simp<;>omega)|simp_all)⟩),(by first|assumption|omega|simp_all),(readF_sign P (by rw[d];exact V))⟩
  (first|(have V:=dF e)|(have V:=dT (bnf e))|(have V:=bnf e)|(have V:=e));refine c_skip (n_block (c_then (ns (mv rfl (st_call fn23 rfl (hParse_any uQ h0 (by first|omega|(simp<;>omega)|(simp at *<;>omega))) ?_)))));rintro en Bn ⟨C,rfl,E,D,S⟩;refine⟨_,rfl,?_⟩;replace h0:=h0.md0 E;replace A:=A.md0 E;replace uQ:=uQ.md E;replace M:=M.step0 E;refine st_alloc z38 ?_;intro Ak Bo Ad A0 E G;have Aw:Aj≠Ak:=(by have:=A.lt;omega);obtain⟨Ax,sQ,sT,Ao,o⟩:=exQ uQ Ad A0 E;replace h0:=h0.sub sQ;replace Ad:=lE M.size Ad;replace h0:=h0.md0 E;replace A:=A.md0 E;replace uQ:=uQ.md E;replace M:=M.step0 E;replace uQ:=o;clear o sQ sT;have Ap:Fsh [] w Ak:=.inr Ad;replace G:Blk _ _ (PHead.cells (zz0)) _:=G;have A2:PHead.ok (zz0):=(by first|exact⟨(by decide),(by decide),(by decide),rfl,rfl,rfl,rfl,(nums_zero _),(by decide),(by decide),(by decide)⟩|exact(by first|assumption|exact⟨(by first|omega|(simp<;>omega)|simp_all),(by first|omega|(simp<;>omega)|simp_all),(by first|omega|(simp<;>omega)|simp_all),(by first|assumption|rfl|simp_all),(by first|assumption|rfl|simp_all),(by first|assumption|rfl|simp_all),(by first|assumption|rfl|simp_all),(by first|assumption|exact nums_zero _|exact nums_set (by assumption) (by omega)|simp_all),(by first|omega|(simp<;>omega)|simp_all),(by first|omega|(simp<;>omega)|simp_all),(by first|omega|(simp<;>omega)|simp_all)⟩));refine st_storeAgg (us:=(PHead.cells C)) rfl rfl (by exact agg38) (by exact fun u K=>one_cells (PHead.one) u K) G (lB rfl) ?_
  have As:=G;clear G;intro Bp E G;have hS:∀b∈[Ak],¬Ax b:=(by intro b z;simp at z;subst z;exact Ao);replace h0:=h0.md E hS;replace A:=A.md E (by intro z;simp at z;omega);replace uQ:=uQ.md E;replace M:=M.step E (all_cons Ap all_nil);clear As hS;replace G:Blk _ _ (PHead.cells C) _:=G;refine nt (ns (st _ (r_loadPart (PHead.cells C) rfl (by exact agg38) G rfl) (st_call fn24 rfl (hEnd_any uQ C D) ?_)));rintro en Bq ⟨p,A6,rfl,E,A3,T⟩;refine⟨_,rfl,?_⟩;replace h0:=h0.md0 E;replace A:=A.md0 E;replace G:=G.md0 E;replace uQ:=uQ.md E;replace M:=M.step0 E;refine mv rfl (se rfl rfl (se rfl rfl (asg rfl (asg rfl (nt (c_seq (c_block (ns (sf rfl off38_1 ?_)))))))));refine sl (u:=(.int .u32 C.incompat)) rfl one33 G rfl ?_;have Bd:C.incompat<4294967296:=D.2.1;refine st _ (r_andNotN (a:=C.incompat) (b:=4) 4294967296 rfl rfl rfl rfl (by omega)) (st _ (r_neN (a:=(andNot C.incompat 4)) (b:=0) rfl rfl) (asg rfl (nt ?_)));refine c_if rfl (fun f=>?_) (fun f=>?_)
  · (first|(have H:=dT f)|(have H:=dF (bnt f))|(have H:=bnt f)|(have H:=f));refine ns (st _ (r_buildG (us:=[]) (cs:=(PHead.cells (zz0))) [] z38 pl38 rfl rfl trivial trivial rfl rfl) (st_storeAgg (us:=(PHead.cells (zz0))) rfl rfl (by exact agg38) (by first|exact fun u K=>one_cells (PHead.one) u K|exact fun u K=>one_cells rfl u K) A (lB rfl) ?_));have F:=A;clear A;intro Br E A;replace M:=M.step E (all_cons I all_nil);clear F;replace A:Blk _ _ (PHead.cells (zz0)) _:=A;refine asg rfl (nt (c_ret (r_block (r_then ?_))));exact retL (vs:=[(.agg (PHead.cells (zz0)).toArray),(.int .i64 ((7:Nat):Int))]) trivial rfl ⟨⟨_,rfl,load_agg (cs:=(PHead.cells (zz0))) (by exact agg38) A⟩,rfl,tV⟩ rfl ⟨(zz0),7,rfl,M,(by first|assumption|exact⟨(by first|omega|(simp<;>omega)|simp_all),(by first|omega|(simp<;>omega)|simp_all),(by first|omega|(simp<;>omega)|simp_all),(by first|assumption|rfl|simp_all),(by first|assumption|rfl|simp_all),(by first|assumption|rfl|simp_all),(by first|assumption|rfl|simp_all),(by first|assumption|exact nums_zero _|exact nums_set (by assumption) (by omega)|simp_all),(by first|omega|(simp<;>omega)|simp_all),(by first|omega|(simp<;>omega)|simp_all),(by first|omega|(simp<;>omega)|simp_all)⟩),(by first|assumption|omega|simp_all),(readF_no P d (by simp_all) S (by rw[amiss_at T];rw[if_pos H]) (by decide))⟩
  (first|(have H:=dF f)|(have H:=dT (bnf f))|(have H:=bnf f)|(have H:=f));refine ns (sf rfl off38_2 (sl (u:=(.int .i64 C.state)) rfl one3 G rfl ?_));have Be:C.state<9223372036854775808:=D.2.2.1;refine st _ (r_gtN (a:=C.state) (b:=2) rfl rfl) (asg rfl (nt ?_));refine c_if rfl (fun g=>?_) (fun g=>?_)
  · (first|(have J:=dT g)|(have J:=dF (bnt g))|(have J:=bnt g)|(have J:=g));refine ns (st _ (r_buildG (us:=[]) (cs:=(PHead.cells (zz0))) [] z38 pl38 rfl rfl trivial trivial rfl rfl) (st_storeAgg (us:=(PHead.cells (zz0))) rfl rfl (by exact agg38) (by first|exact fun u K=>one_cells (PHead.one) u K|exact fun u K=>one_cells rfl u K) A (lB rfl) ?_));have F:=A;clear A;intro Bs E A;replace M:=M.step E (all_cons I all_nil);clear F;replace A:Blk _ _ (PHead.cells (zz0)) _:=A;refine asg rfl (nt (c_ret (r_block (r_then ?_))));exact retL (vs:=[(.agg (PHead.cells (zz0)).toArray),(.int .i64 ((8:Nat):Int))]) trivial rfl ⟨⟨_,rfl,load_agg (cs:=(PHead.cells (zz0))) (by exact agg38) A⟩,rfl,tV⟩ rfl ⟨(zz0),8,rfl,M,(by first|assumption|exact⟨(by first|omega|(simp<;>omega)|simp_all),(by first|omega|(simp<;>omega)|simp_all),(by first|omega|(simp<;>omega)|simp_all),(by first|assumption|rfl|simp_all),(by first|assumption|rfl|simp_all),(by first|assumption|rfl|simp_all),(by first|assumption|rfl|simp_all),(by first|assumption|exact nums_zero _|exact nums_set (by assumption) (by omega)|simp_all),(by first|omega|(simp<;>omega)|simp_all),(by first|omega|(simp<;>omega)|simp_all),(by first|omega|(simp<;>omega)|simp_all)⟩),(by first|assumption|omega|simp_all),(readF_no P d (by simp_all) S (by rw[amiss_at T];rw[if_neg H,if_pos J]) (by decide))⟩
  (first|(have J:=dF g)|(have J:=dT (bnf g))|(have J:=bnf g)|(have J:=g));refine ns (sf rfl off38_7 (sl (u:=(.int .u64 ((C.n.getD 0 0:Nat):Int))) rfl one36 G rfl ?_));have Bf:C.n.getD 0 0<18446744073709551616:=(nums_bd D.2.2.2.2.2.2.2.1 0);refine st _ (r_ltN (a:=(C.n.getD 0 0)) (b:=272) rfl rfl) (mv rfl ?_);refine part_n (t:=43) rfl (fun N=>?_) (fun N=>?_)
  · (first|(have X:=dT N)|(have X:=dF (bnt N))|(have X:=bnt N)|(have X:=N));refine sk N (sk N (sk N (sk N (st _ (r_pick_t rfl N rfl) (mv rfl (sk rfl (sk rfl (sk rfl (sk rfl ?_)))))))));refine st _ (r_pick_t rfl rfl rfl) (asg rfl (nt (c_if_t rfl rfl (ns (st _ (r_buildG (us:=[]) (cs:=(PHead.cells (zz0))) [] z38 pl38 rfl rfl trivial trivial rfl rfl) (st_storeAgg (us:=(PHead.cells (zz0))) rfl rfl (by exact agg38) (by first|exact fun u K=>one_cells (PHead.one) u K|exact fun u K=>one_cells rfl u K) A (lB rfl) ?_))))));have F:=A;clear A;intro Bt E A;replace M:=M.step E (all_cons I all_nil);clear F;replace A:Blk _ _ (PHead.cells (zz0)) _:=A;refine asg rfl (nt (c_ret (r_block (r_then ?_))));exact retL (vs:=[(.agg (PHead.cells (zz0)).toArray),(.int .i64 ((5:Nat):Int))]) trivial rfl ⟨⟨_,rfl,load_agg (cs:=(PHead.cells (zz0))) (by exact agg38) A⟩,rfl,tV⟩ rfl ⟨(zz0),5,rfl,M,(by first|assumption|exact⟨(by first|omega|(simp<;>omega)|simp_all),(by first|omega|(simp<;>omega)|simp_all),(by first|omega|(simp<;>omega)|simp_all),(by first|assumption|rfl|simp_all),(by first|assumption|rfl|simp_all),(by first|assumption|rfl|simp_all),(by first|assumption|rfl|simp_all),(by first|assumption|exact nums_zero _|exact nums_set (by assumption) (by omega)|simp_all),(by first|omega|(simp<;>omega)|simp_all),(by first|omega|(simp<;>omega)|simp_all),(by first|omega|(simp<;>omega)|simp_all)⟩),(by first|assumption|omega|simp_all),(readF_no P d (by simp_all) S (by rw[amiss_at T];rw[if_neg H,if_neg J,if_pos (by first|omega|simp_all)]) (by decide))⟩
  (first|(have X:=dF N)|(have X:=dT (bnf N))|(have X:=bnf N)|(have X:=N));refine sg N (r_field rfl off38_7) (sg N ((r_loadBlk rfl one36 G rfl).to (b:=(.int .u64 ((C.n.getD 0 0:Nat):Int))) rfl) (sg N (r_remN (a:=(C.n.getD 0 0)) (b:=8) rfl rfl (by omega)) (sg N (r_neN (a:=((C.n.getD 0 0)%8)) (b:=0) rfl rfl) (st _ (r_pick_f rfl N rfl) (mv rfl ?_)))));refine part_n (t:=49) rfl (fun O=>?_) (fun O=>?_)
  · (first|(have Y:=dT O)|(have Y:=dF (bnt O))|(have Y:=bnt O)|(have Y:=O));refine sk O (sk O (sk O (sk O (st _ (r_pick_t rfl O rfl) (asg rfl (nt (c_if_t rfl rfl (ns (st _ (r_buildG (us:=[]) (cs:=(PHead.cells (zz0))) [] z38 pl38 rfl rfl trivial trivial rfl rfl) ?_)))))))));refine st_storeAgg (us:=(PHead.cells (zz0))) rfl rfl (by exact agg38) (by first|exact fun u K=>one_cells (PHead.one) u K|exact fun u K=>one_cells rfl u K) A (lB rfl) ?_;have F:=A;clear A;intro Bu E A;replace M:=M.step E (all_cons I all_nil);clear F;replace A:Blk _ _ (PHead.cells (zz0)) _:=A;refine asg rfl (nt (c_ret (r_block (r_then ?_))));exact retL (vs:=[(.agg (PHead.cells (zz0)).toArray),(.int .i64 ((5:Nat):Int))]) trivial rfl ⟨⟨_,rfl,load_agg (cs:=(PHead.cells (zz0))) (by exact agg38) A⟩,rfl,tV⟩ rfl ⟨(zz0),5,rfl,M,(by first|assumption|exact⟨(by first|omega|(simp<;>omega)|simp_all),(by first|omega|(simp<;>omega)|simp_all),(by first|omega|(simp<;>omega)|simp_all),(by first|assumption|rfl|simp_all),(by first|assumption|rfl|simp_all),(by first|assumption|rfl|simp_all),(by first|assumption|rfl|simp_all),(by first|assumption|exact nums_zero _|exact nums_set (by assumption) (by omega)|simp_all),(by first|omega|(simp<;>omega)|simp_all),(by first|omega|(simp<;>omega)|simp_all),(by first|omega|(simp<;>omega)|simp_all)⟩),(by first|assumption|omega|simp_all),(readF_no P d (by simp_all) S (by rw[amiss_at T];rw[if_neg H,if_neg J,if_pos (by first|omega|simp_all)]) (by decide))⟩
  (first|(have Y:=dF O)|(have Y:=dT (bnf O))|(have Y:=bnf O)|(have Y:=O));refine sg O (r_field rfl off38_8) (sg O ((r_loadBlk rfl one36 G rfl).to (b:=(.int .u64 ((C.n.getD 1 0:Nat):Int))) rfl) ?_);have Bg:C.n.getD 1 0<18446744073709551616:=(nums_bd D.2.2.2.2.2.2.2.1 1);refine sg O (r_remN (a:=(C.n.getD 1 0)) (b:=8) rfl rfl (by omega)) (sg O (r_neN (a:=((C.n.getD 1 0)%8)) (b:=0) rfl rfl) (st _ (r_pick_f rfl O rfl) (asg rfl (nt ?_))));refine c_if rfl (fun i=>?_) (fun i=>?_)
  · (first|(have W:=dT i)|(have W:=dF (bnt i))|(have W:=bnt i)|(have W:=i));refine ns (st _ (r_buildG (us:=[]) (cs:=(PHead.cells (zz0))) [] z38 pl38 rfl rfl trivial trivial rfl rfl) (st_storeAgg (us:=(PHead.cells (zz0))) rfl rfl (by exact agg38) (by first|exact fun u K=>one_cells (PHead.one) u K|exact fun u K=>one_cells rfl u K) A (lB rfl) ?_));have F:=A;clear A;intro Bv E A;replace M:=M.step E (all_cons I all_nil);clear F;replace A:Blk _ _ (PHead.cells (zz0)) _:=A;refine asg rfl (nt (c_ret (r_block (r_then ?_))));exact retL (vs:=[(.agg (PHead.cells (zz0)).toArray),(.int .i64 ((5:Nat):Int))]) trivial rfl ⟨⟨_,rfl,load_agg (cs:=(PHead.cells (zz0))) (by exact agg38) A⟩,rfl,tV⟩ rfl ⟨(zz0),5,rfl,M,(by first|assumption|exact⟨(by first|omega|(simp<;>omega)|simp_all),(by first|omega|(simp<;>omega)|simp_all),(by first|omega|(simp<;>omega)|simp_all),(by first|assumption|rfl|simp_all),(by first|assumption|rfl|simp_all),(by first|assumption|rfl|simp_all),(by first|assumption|rfl|simp_all),(by first|assumption|exact nums_zero _|exact nums_set (by assumption) (by omega)|simp_all),(by first|omega|(simp<;>omega)|simp_all),(by first|omega|(simp<;>omega)|simp_all),(by first|omega|(simp<;>omega)|simp_all)⟩),(by first|assumption|omega|simp_all),(readF_no P d (by simp_all) S (by rw[amiss_at T];rw[if_neg H,if_neg J,if_pos (by first|omega|simp_all)]) (by decide))⟩
  (first|(have W:=dF i)|(have W:=dT (bnf i))|(have W:=bnf i)|(have W:=i));refine ns (mv rfl (st _ (r_not rfl) (mv rfl ?_)));refine part_n (t:=59) rfl (fun L=>?_) (fun L=>?_)
  · (first|(have c:=dT L)|(have c:=dF (bnt L))|(have c:=bnt L)|(have c:=L));refine sk L (sk L (sk L (sk L (sk L (st _ (r_pick_t rfl L rfl) (asg rfl (nt (c_if_t rfl rfl (ns ?_)))))))));refine st _ (r_buildG (us:=[]) (cs:=(PHead.cells (zz0))) [] z38 pl38 rfl rfl trivial trivial rfl rfl) (st_storeAgg (us:=(PHead.cells (zz0))) rfl rfl (by exact agg38) (by first|exact fun u K=>one_cells (PHead.one) u K|exact fun u K=>one_cells rfl u K) A (lB rfl) ?_);have F:=A;clear A;intro Bw E A;replace M:=M.step E (all_cons I all_nil);clear F;replace A:Blk _ _ (PHead.cells (zz0)) _:=A;refine asg rfl (nt (c_ret (r_block (r_then ?_))));exact retL (vs:=[(.agg (PHead.cells (zz0)).toArray),(.int .i64 ((2:Nat):Int))]) trivial rfl ⟨⟨_,rfl,load_agg (cs:=(PHead.cells (zz0))) (by exact agg38) A⟩,rfl,tV⟩ rfl ⟨(zz0),2,rfl,M,(by first|assumption|exact⟨(by first|omega|(simp<;>omega)|simp_all),(by first|omega|(simp<;>omega)|simp_all),(by first|omega|(simp<;>omega)|simp_all),(by first|assumption|rfl|simp_all),(by first|assumption|rfl|simp_all),(by first|assumption|rfl|simp_all),(by first|assumption|rfl|simp_all),(by first|assumption|exact nums_zero _|exact nums_set (by assumption) (by omega)|simp_all),(by first|omega|(simp<;>omega)|simp_all),(by first|omega|(simp<;>omega)|simp_all),(by first|omega|(simp<;>omega)|simp_all)⟩),(by first|assumption|omega|simp_all),(readF_no P d (by simp_all) S (by rw[amiss_at T];rw[if_neg H,if_neg J,if_neg (by first|omega|simp_all),if_pos (by first|(right;omega)|(left;simp_all)|simp_all)]) (by decide))⟩
  (first|(have c:=dF L)|(have c:=dT (bnf L))|(have c:=bnf L)|(have c:=L));refine sg L (r_move rfl) (sg L (r_move rfl) (sg L (r_len rfl u31 h0.shp) (sg L (r_convN (a:=b.length) 18446744073709551616 rfl (by rw[u3];rfl) u36 rfl (by first|omega|(have:=u8lt;omega))) (sg L (r_gtN (a:=p) (b:=b.length) rfl rfl) (st _ (r_pick_f rfl L rfl) (asg rfl (nt ?_)))))));refine c_if rfl (fun j=>?_) (fun j=>?_)
  · (first|(have Z:=dT j)|(have Z:=dF (bnt j))|(have Z:=bnt j)|(have Z:=j));refine ns (st _ (r_buildG (us:=[]) (cs:=(PHead.cells (zz0))) [] z38 pl38 rfl rfl trivial trivial rfl rfl) (st_storeAgg (us:=(PHead.cells (zz0))) rfl rfl (by exact agg38) (by first|exact fun u K=>one_cells (PHead.one) u K|exact fun u K=>one_cells rfl u K) A (lB rfl) ?_));have F:=A;clear A;intro Bx E A;replace M:=M.step E (all_cons I all_nil);clear F;replace A:Blk _ _ (PHead.cells (zz0)) _:=A;refine asg rfl (nt (c_ret (r_block (r_then ?_))));exact retL (vs:=[(.agg (PHead.cells (zz0)).toArray),(.int .i64 ((2:Nat):Int))]) trivial rfl ⟨⟨_,rfl,load_agg (cs:=(PHead.cells (zz0))) (by exact agg38) A⟩,rfl,tV⟩ rfl ⟨(zz0),2,rfl,M,(by first|assumption|exact⟨(by first|omega|(simp<;>omega)|simp_all),(by first|omega|(simp<;>omega)|simp_all),(by first|omega|(simp<;>omega)|simp_all),(by first|assumption|rfl|simp_all),(by first|assumption|rfl|simp_all),(by first|assumption|rfl|simp_all),(by first|assumption|rfl|simp_all),(by first|assumption|exact nums_zero _|exact nums_set (by assumption) (by omega)|simp_all),(by first|omega|(simp<;>omega)|simp_all),(by first|omega|(simp<;>omega)|simp_all),(by first|omega|(simp<;>omega)|simp_all)⟩),(by first|assumption|omega|simp_all),(readF_no P d (by simp_all) S (by rw[amiss_at T];rw[if_neg H,if_neg J,if_neg (by first|omega|simp_all),if_pos (by first|(right;omega)|(left;simp_all)|simp_all)]) (by decide))⟩
  (first|(have Z:=dF j)|(have Z:=dT (bnf j))|(have Z:=bnf j)|(have Z:=j));refine c_skip (n_block (c_then (c_seq (ns (st _ (r_loadPart (PHead.cells C) rfl (by exact agg38) G rfl) (sf rfl off38_9 (sl (u:=(.int .u64 ((C.n.getD 2 0:Nat):Int))) rfl one36 G rfl ?_)))))));have Bh:C.n.getD 2 0<18446744073709551616:=(nums_bd D.2.2.2.2.2.2.2.1 2);refine sf rfl off38_10 (sl (u:=(.int .u64 ((C.n.getD 3 0:Nat):Int))) rfl one36 G rfl ?_);have Bi:C.n.getD 3 0<18446744073709551616:=(nums_bd D.2.2.2.2.2.2.2.1 3);refine mv rfl (st_call fn25 rfl (hTable_any uQ C D (C.n.getD 2 0) (by omega) (C.n.getD 3 0) (by first|omega|(simp<;>omega)) p (by first|omega|(simp<;>omega))) ?_);rintro en Bz ⟨r,rfl,E,A4,Ab⟩;refine⟨_,rfl,?_⟩;replace A:=A.md0 E;replace G:=G.md0 E;replace uQ:=uQ.md E;replace M:=M.step0 E;refine asg rfl (nt (ns (mv rfl (st _ (r_neN (a:=r) (b:=0) rfl rfl) (nt ?_)))));refine c_if rfl (fun k=>?_) (fun k=>?_)
  · (first|(have R:=dT k)|(have R:=dF (bnt k))|(have R:=bnt k)|(have R:=k));refine ns (st _ (r_buildG (us:=[]) (cs:=(PHead.cells (zz0))) [] z38 pl38 rfl rfl trivial trivial rfl rfl) (mv rfl (st_storeAgg (us:=(PHead.cells (zz0))) rfl rfl (by exact agg38) (by first|exact fun u K=>one_cells (PHead.one) u K|exact fun u K=>one_cells rfl u K) A (lB rfl) ?_)));have F:=A;clear A;intro B0 E A;replace M:=M.step E (all_cons I all_nil);clear F;replace A:Blk _ _ (PHead.cells (zz0)) _:=A;refine asg rfl (nt (c_ret (r_then ?_)));exact retL (vs:=[(.agg (PHead.cells (zz0)).toArray),(.int .i64 r)]) trivial rfl ⟨⟨_,rfl,load_agg (cs:=(PHead.cells (zz0))) (by exact agg38) A⟩,rfl,tV⟩ rfl ⟨(zz0),r,rfl,M,(by first|assumption|exact⟨(by first|omega|(simp<;>omega)|simp_all),(by first|omega|(simp<;>omega)|simp_all),(by first|omega|(simp<;>omega)|simp_all),(by first|assumption|rfl|simp_all),(by first|assumption|rfl|simp_all),(by first|assumption|rfl|simp_all),(by first|assumption|rfl|simp_all),(by first|assumption|exact nums_zero _|exact nums_set (by assumption) (by omega)|simp_all),(by first|omega|(simp<;>omega)|simp_all),(by first|omega|(simp<;>omega)|simp_all),(by first|omega|(simp<;>omega)|simp_all)⟩),(by first|assumption|omega|simp_all),(readF_no P d (by simp_all) S (by rw[amiss_at T];rw[if_neg H,if_neg J,if_neg (by first|omega|simp_all),if_neg (by rintro(h|h)<;>first|omega|simp_all),Ab,if_pos R]) R)⟩
  (first|(have R:=dF k)|(have R:=dT (bnf k))|(have R:=bnf k)|(have R:=k));refine c_skip (c_then (c_seq (ns (st _ (r_loadPart (PHead.cells C) rfl (by exact agg38) G rfl) (sf rfl off38_11 (sl (u:=(.int .u64 ((C.n.getD 4 0:Nat):Int))) rfl one36 G rfl ?_))))));have Bj:C.n.getD 4 0<18446744073709551616:=(nums_bd D.2.2.2.2.2.2.2.1 4);refine sf rfl off38_12 (sl (u:=(.int .u64 ((C.n.getD 5 0:Nat):Int))) rfl one36 G rfl ?_);have Bk:C.n.getD 5 0<18446744073709551616:=(nums_bd D.2.2.2.2.2.2.2.1 5);refine mv rfl (st_call fn25 rfl (hTable_any uQ C D (C.n.getD 4 0) (by omega) (C.n.getD 5 0) (by first|omega|(simp<;>omega)) p (by first|omega|(simp<;>omega))) ?_);rintro en B1 ⟨v,rfl,E,A5,Ah⟩;refine⟨_,rfl,?_⟩;replace A:=A.md0 E;replace G:=G.md0 E;replace M:=M.step0 E;refine asg rfl (nt (ns (mv rfl (st _ (r_neN (a:=v) (b:=0) rfl rfl) (nt ?_)))));refine c_if rfl (fun l=>?_) (fun l=>?_)
  · (first|(have U:=dT l)|(have U:=dF (bnt l))|(have U:=bnt l)|(have U:=l));refine ns (st _ (r_buildG (us:=[]) (cs:=(PHead.cells (zz0))) [] z38 pl38 rfl rfl trivial trivial rfl rfl) (mv rfl (st_storeAgg (us:=(PHead.cells (zz0))) rfl rfl (by exact agg38) (by first|exact fun u K=>one_cells (PHead.one) u K|exact fun u K=>one_cells rfl u K) A (lB rfl) ?_)));have F:=A;clear A;intro B2 E A;replace M:=M.step E (all_cons I all_nil);clear F;replace A:Blk _ _ (PHead.cells (zz0)) _:=A;refine asg rfl (nt (c_ret (r_then ?_)));exact retL (vs:=[(.agg (PHead.cells (zz0)).toArray),(.int .i64 v)]) trivial rfl ⟨⟨_,rfl,load_agg (cs:=(PHead.cells (zz0))) (by exact agg38) A⟩,rfl,tV⟩ rfl ⟨(zz0),v,rfl,M,(by first|assumption|exact⟨(by first|omega|(simp<;>omega)|simp_all),(by first|omega|(simp<;>omega)|simp_all),(by first|omega|(simp<;>omega)|simp_all),(by first|assumption|rfl|simp_all),(by first|assumption|rfl|simp_all),(by first|assumption|rfl|simp_all),(by first|assumption|rfl|simp_all),(by first|assumption|exact nums_zero _|exact nums_set (by assumption) (by omega)|simp_all),(by first|omega|(simp<;>omega)|simp_all),(by first|omega|(simp<;>omega)|simp_all),(by first|omega|(simp<;>omega)|simp_all)⟩),(by first|assumption|omega|simp_all),(readF_no P d (by simp_all) S (by rw[amiss_at T];rw[if_neg H,if_neg J,if_neg (by first|omega|simp_all),if_neg (by rintro(h|h)<;>first|omega|simp_all),Ab,if_neg R,Ah]) U)⟩
  (first|(have U:=dF l)|(have U:=dT (bnf l))|(have U:=bnf l)|(have U:=l));refine c_skip (c_then (ns (st _ (r_loadPart (PHead.cells C) rfl (by exact agg38) G rfl) (st_storeAgg (us:=(PHead.cells C)) rfl rfl (by exact agg38) (by first|exact fun u K=>one_cells (PHead.one) u K|exact fun u K=>one_cells rfl u K) A (lB rfl) ?_))));have F:=A;clear A;intro B3 E A;replace M:=M.step E (all_cons I all_nil);clear F;replace A:Blk _ _ (PHead.cells C) _:=A;refine asg rfl (nt (c_ret ?_));exact retL (vs:=[(.agg (PHead.cells C).toArray),(.int .i64 ((0:Nat):Int))]) trivial rfl ⟨⟨_,rfl,load_agg (cs:=(PHead.cells C)) (by exact agg38) A⟩,rfl,tV⟩ rfl ⟨C,0,rfl,M,D,(by first|assumption|omega|simp_all),(readF_ok P d (by simp_all) S (by rw[amiss_at T];rw[if_neg H,if_neg J,if_neg (by first|omega|simp_all),if_neg (by rintro(h|h)<;>first|omega|simp_all),Ab,if_neg R,Ah];simpa using U))⟩
theorem fn26:isFn Try.prog 26=true:=by kernel_rfl
theorem fn7:isFn Try.prog 7=true:=by kernel_rfl
theorem pl77:bplace Try.prog 77=some [(0,1),(1,91)]:=by kernel_rfl
theorem z77:zcells Try.prog 77=some ([.slice none 0 0,.int .u32 0,.int .u32 0,.int .i64 0] ++ (List.replicate 64 (.int .u8 0) ++ (List.replicate 21 (.int .u64 0) ++ ([.int .u32 0,.int .u32 0,.int .u64 0])))):=by kernel_rfl

set_option maxRecDepth 100000 in
theorem aOpen_any {w:World} {Q:Nat→Prop} (uQ:Up w Q) {v0:Value} {b:Ly} (h0:Ls tB8 w Q v0 b) (p0:b.length≤140737488355328) :
    Calls Try.prog 9 #[v0] w fun en w'=>∃u0:Value,∃r0:Option (PView),∃r1:Nat,en = .returned (.tuple #[u0,(.int .i64 r1)])∧Md [] w w'∧Po tPView 77 w' Q u0 r0∧r1<9223372036854775808∧openF b=(r0,r1):=by
  have L0:=h0.len63;have M:=Md.refl [] w;have v:=uQ;have l:∀b,Q b→Q b:=fun _ h=>h;refine enter (n:=28) Try.func9 rfl rfl rfl ?_;intro B;refine ns (asg rfl (asg rfl (nt (ns (mv rfl (st_call fn7 rfl (hRead_any uQ h0) ?_))))));rintro en w1 ⟨C,O,rfl,E,R,Aa,X⟩;refine⟨_,rfl,?_⟩;replace h0:=h0.md0 E;replace uQ:=uQ.md E;replace M:=M.step0 E;refine mv rfl (se rfl rfl (se rfl rfl (st_alloc z38 ?_)));intro W w2 P t E A;obtain⟨Q3,j,k,Z,L⟩:=exQ uQ P t E;replace h0:=h0.sub j;replace l:=fun b U=>l b (k b U);replace P:=lE M.size P;replace h0:=h0.md0 E;replace uQ:=uQ.md E;replace M:=M.step0 E;replace uQ:=L;clear L j k;have c:Fsh [] w W:=.inr P;replace A:Blk _ _ (PHead.cells (zz0)) _:=A;have z:PHead.ok (zz0):=(by first|exact⟨(by decide),(by decide),(by decide),rfl,rfl,rfl,rfl,(nums_zero _),(by decide),(by decide),(by decide)⟩|exact(by first|assumption|exact⟨(by(simp<;>omega)),(by(simp<;>omega)),(by first|omega|(simp<;>omega)|simp_all),(by rfl),(by rfl),(by rfl),(by first|assumption|rfl|simp_all),(by first|assumption|exact nums_zero _|exact nums_set (by assumption) (by omega)|simp_all),(by(simp<;>omega)),(by(simp<;>omega)),(by first|omega|(simp<;>omega)|simp_all)⟩));refine st_storeAgg (us:=(PHead.cells C)) rfl rfl (by exact agg38) (by first|exact fun u r=>one_cells (PHead.one) u r|exact fun u r=>one_cells rfl u r) A (lB rfl) ?_
  have g:=A;clear A;intro w5 E A;have x:∀b∈[W],¬Q3 b:=(by intro b U;simp at U;subst U;exact Z);replace h0:=h0.md E x;replace uQ:=uQ.md E;replace M:=M.step E (all_cons c all_nil);clear g x;replace A:Blk _ _ (PHead.cells C) _:=A;refine asg rfl (nt (c_seq (ns (mv rfl (st _ (r_neN (a:=O) (b:=0) rfl rfl) (nt ?_))))));refine c_if rfl (fun G=>?_) (fun G=>?_)
  · (first|(have D:=dT G)|(have D:=dF (bnt G))|(have D:=bnt G)|(have D:=G));refine ns (mv rfl (asg rfl (asg rfl (nt (c_ret (r_then ?_))))));exact retL (vs:=[(.pointer none),(.int .i64 O)]) trivial rfl ⟨rfl,rfl,tV⟩ rfl ⟨_,none,O,rfl,M,rfl,(by first|assumption|omega|simp_all),(by rw[openF,X,if_pos D])⟩
  (first|(have D:=dF G)|(have D:=dT (bnf G))|(have D:=bnf G)|(have D:=G));refine c_skip (c_then (ns (st _ (r_loadPart (PHead.cells C) rfl (by exact agg38) A rfl) (st_call fn24 rfl (hEnd_any uQ C R) ?_))));rintro en w6 ⟨V,Ac,rfl,E,Ab,e⟩;refine⟨_,rfl,?_⟩;replace h0:=h0.md0 E;replace A:=A.md0 E;replace uQ:=uQ.md E;replace M:=M.step0 E;refine mv rfl (se rfl rfl (se rfl rfl (asg rfl (asg rfl (nt (c_seq ?_))))));have K:=A;refine c_mixT [(0,true),(1,true),(2,true),(4,true),(3,false)] [5,6,7,8] (fun w'=>Md [] w6 w') mixed (by kernel_rfl) ?_;intro w7 J;refine⟨J.mono (by simp),?_⟩;have o:=J.mono (T:=[]) (by simp);have rf:readF b=(C,0):=(by rw[X];simp only[Prod.mk.injEq,true_and];omega);have en:=read_end rf e;refine mo rfl (mo rfl (mz (fun w' y=>r_sliceZ 1 0 V u31 el5 rfl h0.shp (by omega) (by omega) rfl ⟨_,rfl⟩) ?_));have Y:=h0.head (hi:=V) (by omega);refine mz (fun w' y=>r_loadPart (PHead.cells C) rfl (by exact agg38) (K.md0 y) rfl) ?_;replace A:=A.md0 J;replace Y:=Y.md0 J;replace uQ:=uQ.md J;replace M:=M.step0 J;refine m_e ?_ rfl;refine st_call fn26 rfl (bClone_any_ls uQ Y (by first|omega|(simp<;>omega)|(simp at *<;>omega))) ?_;rintro en w9 ⟨N,I,rfl,E,F,Af⟩;refine⟨_,rfl,?_⟩;replace A:=A.md0 E;replace uQ:=uQ.md E;replace M:=M.step0 E;replace o:=o.step0 E;refine st_nil ⟨rfl,o,?_⟩;refine m_nil ?_;clear K;clear o;refine st _ (r_buildG (us:=[[N],(PHead.cells C)]) (cs:=(PView.cells (({b:=I,h:=C}:PView)) N)) [(0,0,1),(1,1,91)] z77 pl77 rfl rfl ⟨(cells_one F.oneCell),rfl,tV⟩ ⟨rfl,rfl,tV⟩ rfl rfl) (st_box (cs:=(PView.cells (({b:=I,h:=C}:PView)) N)) rfl rfl ?_);intro S Ah H i E f;have d:W≠S:=(by have:=A.lt;omega);obtain⟨Ad,j,k,p,L⟩:=exQ uQ H i E
  replace F:=F.sub j;replace l:=fun b U=>l b (k b U);replace H:=lE M.size H;replace F:=F.md0 E;replace uQ:=uQ.md E;replace M:=M.step0 E;replace uQ:=L;clear L j k;refine asg rfl (asg rfl (nt (c_ret ?_)));exact retL (vs:=[(.pointer (some ⟨S,0,none⟩)),(.int .i64 ((0:Nat):Int))]) trivial rfl ⟨rfl,rfl,tV⟩ rfl ⟨_,(some (({b:=I,h:=C}:PView))),0,rfl,M,⟨_,_,rfl,v _ H,f,tPView_mk (by first|assumption|exact(show PHead.ok ((({b:=I,h:=C}:PView)).h)from(by first|assumption|exact⟨(by first|omega|(simp<;>omega)|simp_all),(by first|omega|(simp<;>omega)|simp_all),(by first|omega|(simp<;>omega)|simp_all),(by first|assumption|rfl|simp_all),(by first|assumption|rfl|simp_all),(by first|assumption|rfl|simp_all),(by first|assumption|rfl|simp_all),(by first|assumption|exact nums_zero _|exact nums_set (by assumption) (by omega)|simp_all),(by first|omega|(simp<;>omega)|simp_all),(by first|omega|(simp<;>omega)|simp_all),(by first|omega|(simp<;>omega)|simp_all)⟩))) (F.sub (fun b U _=>l b U))⟩,(by first|assumption|omega|simp_all),(by rw[openF,X,if_neg D,e];simp_all)⟩

theorem leAdd_any {w:World} {Q:Nat→Prop} (uQ:Up w Q) {v0:Value} {b:Ly} (h0:Ls tB8 w Q v0 b) (n:Nat) (a1:n<9223372036854775808) (v:Nat) (a2:v<18446744073709551616) (p0:b.length≤1000000) :
    Calls Try.prog 27 #[v0,(.int .i64 n),(.int .u64 v)] w fun en w'=>∃u0:Value,∃r0:List UInt8,∃Q':Nat→Prop,en = .returned (u0)∧Md [] w w'∧NewQ w w' Q Q'∧Ow tB8 5 (Fsh [] w) w' Q' u0 r0∧addF b n v=r0:=by
  have L0:=h0.len63;have M:=Md.refl [] w;have z:=uQ;have N:∀b,Q b→Q b:=fun _ h=>h;have E:∀b,Q b→b<w.heap.size→Q b:=fun _ h _=>h;refine enter (n:=29) Try.func27 rfl rfl rfl ?_;intro B;refine ns (asg rfl (nt (ns (mv rfl (st_call fn26 rfl (bClone_any uQ h0 (by first|omega|(simp<;>omega)|(simp at *<;>omega))) ?_)))));rintro en w1 ⟨P,S,k,rfl,I,⟨c,d,L⟩,D,X⟩;refine⟨_,rfl,?_⟩;replace N:=fun b O=>N b (d b O);replace E:=fun b O Z=>c b (E b O Z) (lT Z M.size);replace D:=D.lower (Fsh.lift (S':=[]) M);replace uQ:=uQ.md I;replace M:=M.step0 I;replace uQ:=L;clear L c d;refine asg rfl (nt (c_seq (ns (mv rfl (st_call fn51 rfl (leSize_any uQ (((n:Nat):Int)) (by omega)) ?_)))));rintro en w3 ⟨u,rfl,I,Y⟩;refine⟨_,rfl,?_⟩;replace D:=D.md0 I;replace uQ:=uQ.md I;replace M:=M.step0 I;refine st _ (r_not rfl) (nt ?_);refine c_if rfl (fun F=>?_) (fun F=>?_)
  · (first|(have A:=dT F)|(have A:=dF (bnt F))|(have A:=bnt F)|(have A:=F));refine ns (mv rfl (asg rfl (nt (c_ret (r_then ?_)))));exact ret1L (v:=P) trivial rfl ⟨rfl,tV⟩ ⟨_,S,k,rfl,M,⟨E,N,uQ⟩,D,(by unfold addF;rw[if_neg (fun h=>by have:=(sizeOk_nat Y).2 h;simp_all)];exact X)⟩
  (first|(have A:=dF F)|(have A:=dT (bnf F))|(have A:=bnf F)|(have A:=F));refine c_skip (c_then (c_seq (ns ?_)));have y:=(sizeOk_nat Y).1 (by simp_all);refine mv rfl (mv rfl (nt (c_block ?_)));refine loop3 (fun(U:Value) (o:Ly) (i:Nat)=>[(7,U),(16,(.int .i64 i)),(2,(.int .u64 v)),(6,(.slice none 0 0)),(15,(.int .i64 n))]) (fun(U:Value) (o:Ly) (i:Nat) w'=>∃Q':Nat→Prop,(∀b,Q' b→Q b)∧(∀b,Q b→b<w.heap.size→Q' b)∧Up w' Q'∧Md [] w w'∧Ow tB8 5 (Fsh [] w) w' Q' U o∧i≤n∧o=b ++ low v i) (fun(U:Value) (o:Ly) (i:Nat)=>n-i) (x0:=P) (x1:=S) (x2:=0) ?_ ?_ ?_
  · exact⟨rfl,rfl,rfl,rfl,rfl,tV⟩
  · exact⟨k,N,E,uQ,M,D,(by omega),(by rw[← X];simp[low])⟩
  clear M uQ N E h0 D
  rintro U o i B w4 ⟨l,N,E,uQ,M,H,r,K⟩;refine ns (st _ (r_ltN (a:=i) (b:=n) rfl rfl) (nt (c_seq ?_)));refine c_if rfl (fun G=>?_) (fun G=>?_)
  · (first|(have C:=dT G)|(have C:=dF (bnt G))|(have C:=bnt G)|(have C:=G));refine c_skip (c_then (c_seq (c_block (ns (mv rfl (asg rfl (nt (c_region ?_))))))));have ol:o.length=b.length+i:=(by rw[K];simp[low_len]);refine mv rfl (mv rfl (mv rfl (st _ (r_mulN (a:=8) (b:=i) 9223372036854775808 rfl rfl rfl (by omega)) (st _ (r_shrN (a:=v) (b:=(8*i)) 64 rfl rfl rfl (by omega)) (st _ ((r_convW (a:=v/2 ^ (8*i)) 256 rfl rfl (by rw[u36];rfl) u5 rfl).to (b8_of _)) (st_buildSliceG [[(b8 (UInt8.ofNat (v/2 ^ (8*i))))]] u31 elT5 (by decide) (by decide) rfl rfl ⟨rfl,tV⟩ ⟨rfl,tV⟩ rfl (by decide) ?_))))));intro p w6 W t I J;have e:=uQ _ W;replace H:=H.md0 I;replace uQ:=uQ.md I;replace M:=M.step0 I;replace J:=Ls.of_blk (m:=1) (R:=l) (T:=tB8) (xs:=[UInt8.ofNat (v/2 ^ (8*i))]) J ⟨_,_,rfl,⟨rfl,tV⟩,rfl⟩ rfl (by decide) e;refine st_ap (sz:=1) (by rfl) u31 elT5 rfl rfl H J (fun _ h _=>h) uQ (Fsh.new M) (by first|omega|(simp<;>omega)|(simp at *<;>omega)) (by first|omega|(simp<;>omega)|(simp at *<;>omega)) ?_;intro v8 w9 f c d L g I x _ j;have V:=H;clear H;replace N:=fun b O=>N b (d b O);replace E:=fun b O Z=>c b (E b O Z) (lT Z M.size);replace uQ:=uQ.md I;replace M:=M.stepO I (fun b O=>(V.2 b O).1);replace uQ:=L;clear L c d x j;refine asg rfl (st_nil (n_block (c_then (c_region (st _ (r_addN (a:=i) (b:=1) 9223372036854775808 rfl rfl rfl (by omega)) (mv rfl (nt ?_)))))));refine next3 (x0:=v8) (x1:=(o ++ ([UInt8.ofNat (v/2 ^ (8*i))]))) (x2:=(i+1)) (by omega) ⟨rfl,(fitI rfl (by omega)),rfl,rfl,rfl,tV⟩ ⟨f,N,E,uQ,M,g,(by omega),(by rw[K,List.append_assoc,low_snoc])⟩
  (first|(have C:=dF G)|(have C:=dT (bnf G))|(have C:=bnf G)|(have C:=G));refine c_exit (x_then (x_then (x_hit (c_then (ns (mv rfl (asg rfl (nt (c_ret ?_)))))))));exact ret1L (v:=U) trivial rfl ⟨rfl,tV⟩ ⟨_,o,l,rfl,M,⟨E,N,uQ⟩,H,(by unfold addF;rw[if_pos y,K,show i=n by omega])⟩
theorem fn27:isFn Try.prog 27=true:=by kernel_rfl

set_option maxRecDepth 100000 in
theorem hPut_any {w:World} {Q:Nat→Prop} (uQ:Up w Q) (h:PHead) (ok:PHead.ok h) (p0:h.state<256) :
    Calls Try.prog 10 #[.agg (PHead.cells h).toArray] w fun en w'=>∃u0:Value,∃r0:List UInt8,∃Q':Nat→Prop,en = .returned (u0)∧Md [] w w'∧NewQ w w' Q Q'∧Ow tB8 5 (Fsh [] w) w' Q' u0 r0∧putH h=r0:=by
  refine enter (n:=61) Try.func10 rfl rfl rfl ?_;intro B;refine ns (st_box (cs:=PHead.cells h) rfl rfl ?_);intro K w1 g1 l1 O A;obtain⟨Q1,s1,t1,n1,H⟩:=exQ uQ g1 l1 O;have M1:=O;refine asg rfl (nt (c_seq (c_mixT [(2,true),(3,true),(4,true),(6,true),(7,true),(8,true),(0,false),(1,false),(5,false),(9,false)] [10] (fun w'=>Blk w' K (PHead.cells h) 38) mixed (by kernel_rfl) ?_)));intro w2 O;refine⟨A.md0 O,?_⟩;refine mz (fun w' D=>r_field rfl off38_0) (mz (fun w' D=>r_loadBlk rfl one33 D rfl) (mz (fun w' D=>r_convN (a:=h.compat) 18446744073709551616 rfl (by rw[u33];rfl) u36 rfl (by have:=ok.1;omega)) (mz (fun w' D=>r_field rfl off38_1) (mz (fun w' D=>r_loadBlk rfl one33 D rfl) (mz (fun w' D=>r_convN (a:=h.incompat) 18446744073709551616 rfl (by rw[u33];rfl) u36 rfl (by have:=ok.2.1;omega)) ?_)))));refine m_e ?_ rfl;refine st_buildSlice u31 elT5 (by decide) rfl rfl rfl (by simp[OneAll,Value.oneCell']) (by decide) ?_;intro x w3 gx lx Ad hB;replace hB:Blk w3 x (([76,80,75,83,72,72,82,72]:Ly).map b8) 5:=hB;refine st_nil ⟨rfl,(A.md0 O).md0 Ad,?_⟩;refine m_e ?_ rfl;refine st_mark u31 u5 rfl hB (By.of_blk hB rfl (by decide)) ?_;intro w4 A1 hY;have Az:w1.heap.size≤x:=lE O.size gx;have l:Md [] w1 w4:=(O.step0 Ad).step1 A1 Az;refine st_nil ⟨rfl,A.md0 l,?_⟩;refine m_e ?_ rfl;refine st_call fn27 rfl (leAdd_any (H.md l) (Ls.of_by hY fun b E _=>H b (by simp[vblock]at E;omega)) 4 (by decide) h.compat (by have:=ok.1;omega) (by decide)) ?_;rintro en w5 ⟨v5,o5,Q5,rfl,A2,c,k5,e5⟩;refine⟨_,rfl,?_⟩;have f:New1 tB8 w1 Q1 5 w5 Q5 v5 o5:=⟨l.step0 A2,fun b E hl=>c.1 b E (lT hl l.size),c.2.1,c.2.2,k5.lower (Fsh.lift l)⟩;rw[addF_4]at e5;refine st_nil ⟨rfl,A.md0 f.md,?_⟩;refine m_e ?_ rfl;refine st_call fn27 rfl (leAdd_any (H.md f.md) (f.lsx H) 4 (by decide) h.incompat (by have:=ok.2.1;omega) (by rw[← e5];simp[low_len])) ?_;rintro en w6 ⟨v6,o6,Q6,rfl,A3,Bb,k6,e6⟩;refine⟨_,rfl,?_⟩;have g:=f.call A3 Bb k6;refine st_nil ⟨rfl,A.md0 g.md,?_⟩;refine m_nil (asg rfl (nt ?_));rw[addF_4,← e5]at e6
  have l6:o6.length=16:=(by rw[← e6];simp[low_len]);refine ns (mv rfl (sf rfl off38_2 (st _ (r_loadBlk rfl one3 (A.md0 g.md) rfl) (st _ (r_convN (a:=h.state) 256 rfl (by rw[u3];rfl) u5 rfl p0) (st_buildSlice u31 elT5 (by decide) rfl rfl rfl (by simp[OneAll,Value.oneCell']) (by decide) ?_)))));intro y w7 gy Cb A4 Z
  replace Z:Blk w7 y (([UInt8.ofNat h.state,0,0,0,0,0,0,0]:Ly).map b8) 5:=by
    show Blk w7 y [b8 (UInt8.ofNat h.state),b8 0,b8 0,b8 0,b8 0,b8 0,b8 0,b8 0] 5;rw[b8_state p0];exact Z
  have F7:=g.md0 A4;refine st_apN (sz:=1) rfl u31 elT5 rfl rfl F7 (Ls.of_by (By.of_blk Z rfl (show(8:Nat)≤maxLen by decide)) (fun b E _=>g.up b (by simp[vblock]at E;omega))).lz (by simp[l6]) (by decide) ?_;intro v8 w8 R8 F8 m8 a8;refine asg rfl (nt ?_);have l8:(o6 ++ [UInt8.ofNat h.state,0,0,0,0,0,0,0]).length=24:=(by simp[l6])
  generalize ho8:o6 ++ [UInt8.ofNat h.state,0,0,0,0,0,0,0]=o8 at *;refine c_seq (ns (st_call fn28 rfl (hIds_any (b:=K)) ?_));rintro en w9 ⟨P,rfl,gi,A5,C⟩;refine⟨_,rfl,?_⟩;have F9:=F8.md0 A5;have d:∀b,vblock v8=some b→b≠P:=fun b E he=>by have:=F8.ow.lt b E;omega
  have p:Shp (.slice (some ⟨P,0,none⟩) 4 4) 4:=⟨_,_,rfl,Nat.le_refl _,by simp[maxLen],by simp⟩;refine sL rfl u79 p (mv rfl (nt (c_block ?_)))
  refine loop2 (fun(k:Nat) (v:Value)=>[(26,(.int .i64 k)),(3,v),(1,.pointer (some ⟨K,0,none⟩)),(24,.slice (some ⟨P,0,none⟩) 4 4),(25,.int .i64 ((4:Nat):Int))])
    (fun(k:Nat) (v:Value) w'=>(∃R,New1 tB8 w1 Q1 5 w' R v (o8 ++ ((ids4 h).take k).flatten))∧Blk w' P (ptrs K 3 16 4) 81∧(∀b,vblock v=some b→b≠P)∧k≤4) (fun(k:Nat) (_:Value)=>4-k) (x0:=0) (x1:=v8) ?_ ?_ ?_
  · exact⟨rfl,rfl,rfl,rfl,rfl,tV⟩
  · exact⟨⟨_,by simpa using F9⟩,C,d,by omega⟩
  clear f g F7 F8 F9 C d;rintro k v B Bm ⟨⟨R,F⟩,C,d,hk⟩;refine ns (st _ (r_ltN (a:=k) (b:=4) rfl rfl) (nt (c_seq ?_)));refine c_if rfl (fun X=>?_) (fun X=>?_)
  · have S:=dT X
    refine c_skip (c_then (c_seq (c_block (ns (st _ ((r_indexN (i:=k) 1 rfl rfl u79 el81 p (by omega)).to (b:=.pointer (some ⟨P,k,none⟩)) (by simp[elemp,Addr.add_mk])) (st _ (r_loadBlk (b:=P) (j:=k) (u:=.pointer (some ⟨K,3+k*16,none⟩)) rfl one81 C (ptrs_get (by omega))) (asg rfl (nt ?_))))))));obtain⟨y,hy,Ak,D⟩:=head_ids ok S;have lk:(((ids4 h).take k).flatten).length≤64:=flat_le ok k;refine c_region (mv rfl (mv rfl (sn rfl (st _ (r_sliceArr u35 el5 rfl (by decide)) (st_apN (sz:=1) rfl u31 elT5 rfl rfl F (lz_part (A.md0 F.md) Ak D) (by simp only[List.length_append,l8,Ak];omega) (by decide) ?_)))));intro Bk Cj Av Ao Be Aw;refine asg rfl (st_nil ?_);have ix:P<Bm.heap.size:=C.lt
    replace C:=C.md Be (fun E=>by
      have hb':vblock v=some P:=(by simpa using E);exact d _ hb' rfl)
    refine n_block (c_then (c_region (st _ (r_addN (a:=k) (b:=1) 9223372036854775808 rfl rfl rfl (by omega)) (mv rfl (nt ?_)))));exact next2 (x0:=k+1) (x1:=Bk) (by omega) ⟨rfl,rfl,rfl,rfl,rfl,tV⟩ ⟨⟨Av,by rw[ids_take hy,← List.append_assoc];exact Ao⟩,C,fun b E he=>(Aw b E).elim (fun hv=>d b hv he) (fun hv=>by omega),by omega⟩
  have S:=dF X;obtain rfl:k=4:=by omega
  clear C d;have e4:((ids4 h).take 4).flatten=h.file ++ (h.machine ++ (h.boot ++ h.seq)):=(by simp[ids4]);rw[e4]at F
  have l9:(o8 ++ (h.file ++ (h.machine ++ (h.boot ++ h.seq)))).length=88:=by
    have:=ok.2.2.2;simp only[List.length_append,l8,this.1,this.2.1,this.2.2.1,this.2.2.2.1]
  generalize ho9:o8 ++ (h.file ++ (h.machine ++ (h.boot ++ h.seq)))=o9 at *;refine c_exit (x_then (x_then (x_hit (c_then (c_seq (ns (st_call fn29 rfl (hLong_any (b:=K)) ?_)))))));rintro en Ck ⟨j4,rfl,gj,z,G⟩;refine⟨_,rfl,?_⟩;have e:=F.md0 z;have r:Shp (.slice (some ⟨j4,0,none⟩) 21 21) 21:=⟨_,_,rfl,Nat.le_refl _,by simp[maxLen],by simp⟩;refine sL rfl u82 r (mv rfl (nt (c_block ?_)))
  refine loop2 (fun(j:Nat) (v:Value)=>[(38,(.int .i64 j)),(3,v),(1,.pointer (some ⟨K,0,none⟩)),(36,.slice (some ⟨j4,0,none⟩) 21 21),(37,.int .i64 ((21:Nat):Int))])
    (fun(j:Nat) (v:Value) w'=>(∃R,New1 tB8 w1 Q1 5 w' R v (o9 ++ nums (h.n.take j)))∧Blk w' j4 (ptrs K 67 1 21) 84∧j≤21) (fun(j:Nat) (_:Value)=>21-j) (x0:=0) (x1:=v) ?_ ?_ ?_
  · exact⟨rfl,rfl,rfl,rfl,rfl,tV⟩
  · exact⟨⟨_,by simpa [nums]using e⟩,G,by omega⟩
  clear F e G;rintro j v B Cl ⟨⟨R,F⟩,G,hj⟩;refine ns (st _ (r_ltN (a:=j) (b:=21) rfl rfl) (nt (c_seq ?_)));refine c_if rfl (fun Y=>?_) (fun Y=>?_)
  · have T:=dT Y
    refine c_skip (c_then (c_seq (c_block (ns (st _ ((r_indexN (i:=j) 1 rfl rfl u82 el84 r (by omega)).to (b:=.pointer (some ⟨j4,j,none⟩)) (by simp[elemp,Addr.add_mk])) (st _ (r_loadBlk (b:=j4) (j:=j) (u:=.pointer (some ⟨K,67+j*1,none⟩)) rfl one84 G (ptrs_get (by omega))) (asg rfl (nt ?_))))))));obtain⟨hg,A0,A6⟩:=head_num ok T;have lj:(nums (h.n.take j)).length≤168:=(by rw[nums_len,List.length_take];omega);refine c_region (mv rfl (mv rfl (sn rfl (st _ (r_loadBlk (b:=K) (j:=67+j*1) rfl one36 (A.md0 F.md) hg) (st_call fn27 rfl (leAdd_any (H.md F.md) (F.lsx H) 8 (by decide) (h.n.getD j 0) A0 (by simp only[List.length_append,l9];omega)) ?_)))));rintro en Cm ⟨Bl,Bf,Bw,rfl,U,Af,A7,N⟩;refine⟨_,rfl,?_⟩;have Ap:=F.call U Af A7;rw[addF_8,List.append_assoc,← nums_take A6]at N;subst N;refine asg rfl (st_nil (n_block (c_then (c_region (st _ (r_addN (a:=j) (b:=1) 9223372036854775808 rfl rfl rfl (by omega)) (mv rfl (nt ?_)))))));exact next2 (x0:=j+1) (x1:=Bl) (by omega) ⟨rfl,rfl,rfl,rfl,rfl,tV⟩ ⟨⟨_,Ap⟩,G.md0 U,by omega⟩
  have T:=dF Y;obtain rfl:j=21:=by omega
  clear G;have N:h.n.take 21=h.n:=List.take_of_length_le (by rw[ok.2.2.2.2.2.2.2.1.1];omega);rw[N]at F;have Bc:(o9 ++ nums h.n).length=256:=(by rw[List.length_append,l9,nums_len,ok.2.2.2.2.2.2.2.1.1])
  generalize ho21:o9 ++ nums h.n=Bf at *;refine c_exit (x_then (x_then (x_hit (c_then (c_seq (c_mixT [(1,true),(2,true),(3,true),(5,true),(6,true),(7,true),(0,true),(4,false),(8,false)] [9] (fun w'=>Blk w' K (PHead.cells h) 38) mixed (by kernel_rfl) ?_))))));intro Cn O;have L:=F.md0 O;refine⟨A.md0 L.md,?_⟩;refine mz (fun w' D=>r_field rfl off38_28) (mz (fun w' D=>r_loadBlk rfl one33 D rfl) (mz (fun w' D=>r_convN (a:=h.tailArray) 18446744073709551616 rfl (by rw[u33];rfl) u36 rfl (by have:=ok.2.2.2.2.2.2.2.2.1;omega)) (mz (fun w' D=>r_field rfl off38_29) (mz (fun w' D=>r_loadBlk rfl one33 D rfl) (mz (fun w' D=>r_convN (a:=h.tailItems) 18446744073709551616 rfl (by rw[u33];rfl) u36 rfl (by have:=ok.2.2.2.2.2.2.2.2.2.1;omega)) (mo rfl ?_))))));refine m_e ?_ rfl;refine st_call fn27 rfl (leAdd_any (H.md L.md) (L.lsx H) 4 (by decide) h.tailArray (by have:=ok.2.2.2.2.2.2.2.2.1;omega) (by omega)) ?_;rintro en Co ⟨Cf,Bg,Bx,rfl,Aa,Ag,A8,V⟩;refine⟨_,rfl,?_⟩;have M:=L.call Aa Ag A8;rw[addF_4]at V;have Bd:Bg.length=260:=(by rw[← V,List.length_append,Bc,low_len]);refine st_nil ⟨rfl,A.md0 M.md,?_⟩;refine m_e ?_ rfl;refine st_call fn27 rfl (leAdd_any (H.md M.md) (M.lsx H) 4 (by decide) h.tailItems (by have:=ok.2.2.2.2.2.2.2.2.2.1;omega) (by omega)) ?_;rintro en Cp ⟨Cg,Bh,Bz,rfl,Ab,Ah,A9,W⟩;refine⟨_,rfl,?_⟩;have I:=M.call Ab Ah A9;rw[addF_4]at W;have Ca:Bh.length=264:=(by rw[← W,List.length_append,Bd,low_len]);refine st_nil ⟨rfl,A.md0 I.md,?_⟩;refine m_nil (asg rfl (nt (ns (mv rfl (sf rfl off38_30 (st _ (r_loadBlk rfl one36 (A.md0 I.md) rfl) (st_call fn27 rfl (leAdd_any (H.md I.md) (I.lsx H) 8 (by decide) h.tailEntry ok.2.2.2.2.2.2.2.2.2.2 (by omega)) ?_)))))));rintro en Cq ⟨Ch,Bi,Au,rfl,Ac,Ai,Ba,o⟩;refine⟨_,rfl,?_⟩;have J:=I.call Ac Ai Ba;rw[addF_8]at o;refine asg rfl (nt (c_ret ?_));refine ret1 trivial rfl rfl ⟨_,Bi,Au,rfl,M1.step0 J.md,⟨fun b E hl=>J.s b (s1 b E hl) (lT hl M1.size),fun b E=>t1 b (J.t b E),J.up⟩,J.ow.lower (Fsh.lift M1),?_⟩
  rw[← o,← W,← V,← ho21,← ho9,← ho8,← e6];unfold putH signF;simp only[List.append_assoc]
end Go.Proofs.Ytclhfnoldibapaa
