/- Part 11 of what the walk of a law stands on: HsP, HsQ, HsR, HsS, CkS, CkT, CkU, CkR, VKr, OpensS, OpensR. No statement is proved here. -/
import Derived.Test.YtmobbnpkkmeoiaaGreatSRI10
import Derived.Test.YtmobbnpkkmeoiaaGreatRows
set_option linter.unusedVariables false
set_option linter.unusedSimpArgs false
namespace Go.Wk
open Go Go.RowKit
def iq (ks:List aY) (s:Nat):List Nat:=(ks.filter fun k=>decide (k.cF=s)).map aY.b9
theorem vp (ks:List aY) (k:aY) (s:Nat):iq (ks ++ [k]) s=if k.cF=s then iq ks s ++ [k.b9]else iq ks s:=by
  unfold iq
  rw[List.filter_append,List.map_append]
  by_cases h:k.cF=s
  · rw[if_pos h];simp[h]
  rw[if_neg h];simp[h]
theorem l7 {ks:List aY} {s p:Nat} (h:p∈iq ks s):∃k∈ks,k.b9=p∧k.cF=s:=by
  obtain⟨k,hk,rfl⟩:=List.mem_map.1 h
  obtain⟨A,B⟩:=List.mem_filter.1 hk
  exact⟨k,A,q,dT B⟩
theorem RA {ks:List aY} {k:aY} (h:k∈ks):k.b9∈iq ks k.cF:=List.mem_map.2 ⟨k,List.mem_filter.2 ⟨h,decide_eq_true q⟩,q⟩
theorem yV (ks:List aY) (s:Nat):(iq ks s).Sublist (ks.map aY.b9):=List.filter_sublist.map _
theorem DI (s:Nat):∀(ks:List aY) (n q:Nat),nY s ks n q=(n+(iq ks s).length,(iq ks s).getLastD q)
  | [],_,_=>rfl
  | k :: r,n,q=>by
    rw[nY]
    unfold iq
    rw[List.filter_cons]
    by_cases h:k.cF=s
    · rw[if_pos h,if_pos (decide_eq_true h),DI s r]
      simp only[List.map_cons,List.length_cons,List.getLastD_cons]
      unfold iq
      congr 1;omega
    · rw[if_neg h,if_neg (by simpa using h),DI s r];rfl
theorem uY {l:List Nat} {p i:Nat} (h:i<l.length):(l ++ [p]).getD i 0=l.getD i 0:=by
  rw[List.getD_eq_getElem?_getD,List.getD_eq_getElem?_getD,List.getElem?_append_left h]
theorem YV (l:List Nat) (p:Nat):(l ++ [p]).getD l.length 0=p:=by
  rw[List.getD_eq_getElem?_getD,List.getElem?_append_right (Nat.le_refl _),Nat.sub_self];rfl
theorem IK {l:List Nat} {i:Nat} (h:l.length≤i):l.getD i 0=0:=by rw[List.getD_eq_getElem?_getD,List.getElem?_eq_none h];rfl
theorem yA (l:List Nat) (h:l≠[]):l[l.length-1]? = some (l.getLastD 0):=by
  rw[← List.getLast?_eq_getElem?,List.getLastD_eq_getLast?]
  cases hq:l.getLast? with
  | none=>exact absurd (List.getLast?_eq_none_iff.1 hq) h
  | some x=>rfl
theorem ZD (l:List Nat) (p:Nat):(l ++ [p]).getLastD 0=p:=by simp[List.getLastD_eq_getLast?]
structure mX (b:Ly) (tab n:Nat) (ks:List aY):Prop where
  cF:∀k∈ks,k.cF<n
  head:∀s:Nat,s<n→fA b (tab+16*s)=(iq ks s).getD 0 0
  next:∀s j p:Nat,(iq ks s)[j]? = some p→fA b (p+24)=(iq ks s).getD (j+1) 0
def aaP (tab n:Nat) (ks:List aY) (a:Nat):Prop:=(∃s:Nat,s<n∧a=tab+16*s)∨∃k∈ks,a=k.b9+24
theorem mX.keep {b c:Ly} {tab n:Nat} {ks:List aY} (h:mX b tab n ks) (hc:∀a,aaP tab n ks a→fA c a=fA b a):mX c tab n ks:=by
  refine⟨h.cF,fun s B=>(hc _ (.inl ⟨s,B,q⟩)).trans (h.head s B),fun s j p A=>?_⟩
  obtain⟨k,hk,e,_⟩:=l7 (List.mem_of_getElem? A)
  exact(hc _ (.inr ⟨k,hk,by rw[e]⟩)).trans (h.next s j p A)
def oq (k:aY):Nat × Nat × List UInt8:=(k.b9,k.cF,k.cM)
theorem KB {ks ks':List aY} (h:ks'.map oq=ks.map oq) (s:Nat):iq ks' s=iq ks s:=by
  have e:∀ks:List aY,iq ks s=((ks.map oq).filter fun q=>decide (q.2.1=s)).map Prod.fst:=fun ks=>by
    unfold iq;rw[List.filter_map,List.map_map];rfl
  rw[e,e,h]
theorem xg {ks ks':List aY} (h:ks'.map oq=ks.map oq) {k:aY} (hk:k∈ks'):∃x∈ks,x.b9=k.b9∧x.cF=k.cF∧x.cM=k.cM:=by
  have:oq k∈ks.map oq:=h ▸ List.mem_map.2 ⟨k,hk,q⟩
  obtain⟨x,D,e⟩:=List.mem_map.1 this
  obtain⟨B,A⟩:=Prod.mk.inj e
  obtain⟨A,C⟩:=Prod.mk.inj A
  exact⟨x,D,B,A,C⟩
theorem mX.key {b:Ly} {tab n:Nat} {ks ks':List aY} (h:mX b tab n ks) (hk:ks'.map oq=ks.map oq):mX b tab n ks':=by
  refine⟨fun k A=>?_,fun s C=>by rw[KB hk];exact h.head s C,fun s j p B=>by rw[KB hk]at B ⊢;exact h.next s j p B⟩
  obtain⟨x,D,_,e,_⟩:=xg hk A
  rw[← e];exact h.cF x D
def vG (b:Ly) (ks:List aY) (tab p s:Nat):List UInt8 :=
  ja (if(iq ks s).length=0 then ja b (tab+16*s) p else ja b ((iq ks s).getLastD 0+24) p) (tab+16*s+8) p
theorem acd (m:Mk) (ks:List aY) (tab p s:Nat):(m.hang ks tab p s).2.b=vG m.b ks tab p s:=by
  unfold Mk.hang
  rw[DI]
  simp only[Nat.zero_add]
  unfold vG
  split <;> rfl
theorem IQ (b:Ly) (ks:List aY) (tab p s:Nat):(vG b ks tab p s).length=b.length:=by
  unfold vG;rw[gu];split <;> rw[gu]
section
variable {b:Ly} {tab n:Nat} {ks:List aY} {k:aY}
theorem KS {l:List Nat} (h:l.Pairwise (· < ·)) {i j a c:Nat} (ha:l[i]? = some a) (hc:l[j]? = some c) (hij:i<j):a<c:=by
  obtain⟨A,rfl⟩:=List.getElem?_eq_some_iff.1 ha
  obtain⟨B,rfl⟩:=List.getElem?_eq_some_iff.1 hc
  exact List.pairwise_iff_getElem.1 h i j A B hij
theorem MQ (hn:(ks.map aY.b9).Pairwise (· < ·)) {x y:aY} (hx:x∈ks) (hy:y∈ks) (he:x.b9=y.b9):x=y:=by
  obtain⟨i,E⟩:=List.mem_iff_getElem?.1 hx
  obtain⟨j,B⟩:=List.mem_iff_getElem?.1 hy
  have C:(ks.map aY.b9)[i]? = some x.b9:=by rw[List.getElem?_map,E];rfl
  have D:(ks.map aY.b9)[j]? = some y.b9:=by rw[List.getElem?_map,B];rfl
  rcases Nat.lt_trichotomy i j with A|rfl|A
  · have:=KS hn C D A;omega
  · rw[E]at B;exact Option.some.inj B
  have:=KS hn D C A;omega
theorem CZ (hs:k.cF<n) {a p:Nat} (h1:a+8≤tab+16*k.cF∨tab+16*k.cF+16≤a) (h2:∀x∈ks,a+8≤x.b9+24∨x.b9+32≤a):fA (vG b ks tab p k.cF) a=fA b a:=by
  unfold vG
  rw[gJ Oh]
  split
  · exact gJ Oh
  rename_i hne
  have A:=yA (iq ks k.cF) (fun e=>hne (by rw[e];rfl))
  obtain⟨x,B,e,_⟩:=l7 (List.mem_of_getElem? A)
  have:=h2 x B
  exact gJ Oh
theorem mX.hang (h:mX b tab n ks) (hs:k.cF<n) (hf:∀x∈ks,tab+16*n≤x.b9) (hp:tab+16*n≤k.b9) (hsep:∀x∈ks,x.b9+40≤k.b9) (pair:∀x∈ks,∀y∈ks,x.b9=y.b9∨x.b9+40≤y.b9∨y.b9+40≤x.b9)
    (nd:(ks.map aY.b9).Pairwise (· < ·)) (hn:fA b (k.b9+24)=0) (hl:k.b9+40≤b.length) (hk:k.b9<18446744073709551616):mX (vG b ks tab k.b9 k.cF) tab n (ks ++ [k]):=by
  have R:(iq ks k.cF).Pairwise (· < ·):=nd.sublist (yV ks k.cF)
  have F:∀(c:Ly) (a:Nat),aaP tab n (ks ++ [k]) a→fA (ja c (tab+16*k.cF+8) k.b9) a=fA c a:=fun c a S=>by
    refine gJ ?_
    rcases S with⟨s,X,rfl⟩|⟨x,A,rfl⟩
    · rcases Nat.lt_or_ge k.cF s with M|M <;> omega
    · rcases List.mem_append.1 A with A|A
      · have:=hf x A;omega
      · rw[List.mem_singleton]at A;subst A;omega
  have I:∀s:Nat,s<n→aaP tab n (ks ++ [k]) (tab+16*s):=fun s hs=>.inl ⟨s,hs,rfl⟩
  have E:∀x∈ks,aaP tab n (ks ++ [k]) (x.b9+24):=fun x A=>.inr ⟨x,by simp[A],rfl⟩
  have J:aaP tab n (ks ++ [k]) (k.b9+24):=.inr ⟨k,by simp,rfl⟩
  have slot':∀x∈ks ++ [k],x.cF<n:=fun x A=>by
    rcases List.mem_append.1 A with A|A
    · exact h.cF x A
    · rw[List.mem_singleton]at A;subst A;exact hs
  unfold vG
  by_cases h0:(iq ks k.cF).length=0
  · have O:iq ks k.cF=[]:=List.eq_nil_of_length_eq_zero h0
    rw[if_pos h0]
    refine⟨slot',fun s C=>?_,fun s j p B=>?_⟩
    · rw[F _ _ (I s C),vp]
      by_cases e:k.cF=s
      · subst e
        rw[if_pos rfl,O,j9 Oh hk];rfl
      rw[if_neg e,gJ (by rcases Nat.lt_or_ge k.cF s with M|M<;>omega)];exact h.head s C
    rw[vp]at B ⊢
    by_cases e:k.cF=s
    · subst e
      rw[if_pos rfl,O]at B ⊢
      obtain rfl:j=0:=by
        have:=(List.getElem?_eq_some_iff.1 B).1;simp at this;exact this
      obtain rfl:k.b9=p:=by simpa using B
      rw[F _ _ J,gJ Oh,hn];rfl
    rw[if_neg e]at B ⊢
    obtain⟨x,A,H,_⟩:=l7 (List.mem_of_getElem? B)
    have:=hf x A
    subst H
    rw[F _ _ (E x A),gJ Oh]
    exact h.next s j _ B
  rw[if_neg h0]
  have N:iq ks k.cF≠[]:=fun e=>h0 (by rw[e];rfl)
  have K:=yA _ N
  generalize (iq ks k.cF).getLastD 0=q at K
  obtain⟨y,G,Q,L⟩:=l7 (List.mem_of_getElem? K)
  have T:=hf y G
  have V:=hsep y G
  refine⟨slot',fun s C=>?_,fun s j p B=>?_⟩
  · rw[F _ _ (I s C),gJ Oh,h.head s C,vp]
    by_cases e:k.cF=s
    · subst e;rw[if_pos rfl,uY Oh]
    rw[if_neg e]
  rw[vp]at B ⊢
  by_cases e:k.cF=s
  · subst e
    rw[if_pos rfl]at B ⊢
    rcases Nat.lt_trichotomy j ((iq ks k.cF).length-1)with D|D|D
    · rw[List.getElem?_append_left Oh]at B
      obtain⟨x,A,H,_⟩:=l7 (List.mem_of_getElem? B)
      have:=KS R B K Oh
      subst H
      have:=pair x A y G
      rw[F _ _ (E x A),gJ Oh,h.next _ j _ B,uY Oh]
    · rw[List.getElem?_append_left Oh,D,K]at B
      cases B
      rw[F _ _ (by rw[← Q];exact E y G),j9 Oh hk,D,show(iq ks k.cF).length-1+1=(iq ks k.cF).length by omega,YV]
    have:=(List.getElem?_eq_some_iff.1 B).1
    simp only[List.length_append,List.length_singleton]at this
    obtain rfl:j=(iq ks k.cF).length:=by omega
    rw[List.getElem?_append_right (Nat.le_refl _),Nat.sub_self]at B
    obtain rfl:k.b9=p:=by simpa using B
    rw[F _ _ J,gJ Oh,hn,IK Oq]
  rw[if_neg e]at B ⊢
  obtain⟨x,A,H,P⟩:=l7 (List.mem_of_getElem? B)
  have W:x.b9≠y.b9:=fun U=>e (by rw[← L,← P,MQ nd A G U])
  have:=pair x A y G
  subst H
  rw[F _ _ (E x A),gJ Oh]
  exact h.next s j _ B
end
def qG (t:Ly):List UInt8:=t.takeWhile fun c=>decide (c≠61)
theorem yH {q:Pr} (h:∀c∈q.name,c≠61):qG (ak q)=q.name:=by
  unfold qG ak
  rw[List.append_assoc,List.takeWhile_append_of_pos (fun c A=>decide_eq_true (h c A))]
  simp
def nX (ds:List aY) (t:Ly):List Nat:=(ds.filter fun k=>decide (qG k.cM=t)).map aY.b9
theorem HY (ds:List aY) (k:aY) (t:Ly):nX (ds ++ [k]) t=if qG k.cM=t then nX ds t ++ [k.b9]else nX ds t:=by
  unfold nX
  rw[List.filter_append,List.map_append]
  by_cases h:qG k.cM=t
  · rw[if_pos h];simp[h]
  rw[if_neg h];simp[h]
theorem xV {ds:List aY} {t:Ly} {p:Nat} (h:p∈nX ds t):∃k∈ds,k.b9=p∧qG k.cM=t:=by
  obtain⟨k,hk,rfl⟩:=List.mem_map.1 h
  obtain⟨A,B⟩:=List.mem_filter.1 hk
  exact⟨k,A,q,dT B⟩
theorem HZ {ks ks':List aY} (h:ks'.map oq=ks.map oq) (t:Ly):nX ks' t=nX ks t:=by
  have e:∀ks:List aY,nX ks t=((ks.map oq).filter fun q=>decide (qG q.2.2=t)).map Prod.fst:=fun ks=>by
    unfold nX;rw[List.filter_map,List.map_map];rfl
  rw[e,e,h]
structure vv (b:Ly) (ds fs:List aY):Prop where
  head:∀f∈fs,fA b (f.b9+32)=(nX ds f.cM).getLastD 0
  next:∀(t:Ly) (j p:Nat),(nX ds t)[j]? = some p→fA b (p+32)=if j=0 then 0 else(nX ds t).getD (j-1) 0
theorem vv.keep {b c:Ly} {ds fs:List aY} (h:vv b ds fs) (h1:∀k∈ds,fA c (k.b9+32)=fA b (k.b9+32)) (h2:∀f∈fs,fA c (f.b9+32)=fA b (f.b9+32)):vv c ds fs:=by
  refine⟨fun f A=>(h2 f A).trans (h.head f A),fun t j p B=>?_⟩
  obtain⟨k,hk,e,_⟩:=xV (List.mem_of_getElem? B)
  subst e
  exact(h1 k hk).trans (h.next t j _ B)
theorem vv.key {b:Ly} {ds ds' fs:List aY} (h:vv b ds fs) (hk:ds'.map oq=ds.map oq):vv b ds' fs :=
  ⟨fun f hf=>by rw[HZ hk];exact h.head f hf,fun t j p hp=>by rw[HZ hk]at hp ⊢;exact h.next t j p hp⟩
theorem vv.field {b:Ly} {ds fs:List aY} {f:aY} (h:vv b ds fs) (h0:fA b (f.b9+32)=0) (hn:∀k∈ds,qG k.cM≠f.cM):vv b ds (fs ++ [f]):=by
  refine⟨fun g A=>?_,h.next⟩
  rcases List.mem_append.1 A with A|A
  · exact h.head g A
  rw[List.mem_singleton]at A;subst A
  rw[h0]
  have:nX ds g.cM=[]:=by
    unfold nX
    rw[List.map_eq_nil_iff,List.filter_eq_nil_iff]
    intro k hk;simpa using hn k hk
  rw[this];rfl
theorem vv.put {b:Ly} {ds fs:List aY} {f k:aY} {v:Nat} (h:vv b ds fs) (hf:f∈fs) (ht:f.cM=qG k.cM) (hv:v=fA b (f.b9+32)) (one:∀x∈fs,∀y∈fs,(x.cM=y.cM↔x.b9=y.b9))
    (ap1:∀x∈ds,(x.b9+40≤k.b9∨k.b9+40≤x.b9)∧(x.b9+40≤f.b9∨f.b9+40≤x.b9)) (ap2:∀g∈fs,(g.b9+40≤k.b9∨k.b9+40≤g.b9)∧(g.b9=f.b9∨g.b9+40≤f.b9∨f.b9+40≤g.b9)) (hk:k.b9<18446744073709551616) (l1:k.b9+40≤b.length) (l2:f.b9+40≤b.length) :
    vv (ja (ja b (k.b9+32) v) (f.b9+32) k.b9) (ds ++ [k]) fs:=by
  have L:=(ap2 f hf).1
  refine⟨fun g C=>?_,fun t j p A=>?_⟩
  · rw[HY]
    by_cases e:qG k.cM=g.cM
    · rw[if_pos e,ZD,(one g C f hf).1 (by rw[ht,e]),j9 (by rw[gu];omega) hk]
    rw[if_neg e]
    have K:=ap2 g C
    have J:g.b9≠f.b9:=fun I=>e (by rw[(one g C f hf).2 I,ht])
    rw[gJ Oh,gJ Oh]
    exact h.head g C
  rw[HY]at A ⊢
  by_cases e:qG k.cM=t
  · rw[if_pos e]at A ⊢
    rcases Nat.lt_or_ge j (nX ds t).length with F|F
    · rw[List.getElem?_append_left F]at A
      obtain⟨x,E,D,_⟩:=xV (List.mem_of_getElem? A)
      have G:=ap1 x E
      subst D
      rw[gJ Oh,gJ Oh,h.next t j _ A]
      split
      · rfl
      rw[uY Oh]
    have:=(List.getElem?_eq_some_iff.1 A).1
    simp only[List.length_append,List.length_singleton]at this
    obtain rfl:j=(nX ds t).length:=by omega
    rw[List.getElem?_append_right (Nat.le_refl _),Nat.sub_self]at A
    obtain rfl:k.b9=p:=by simpa using A
    have B:=h.head f hf
    rw[ht,e]at B
    rw[gJ Oh,j9 Oh (by rw[hv];exact KT _ _),hv,B]
    split
    · rename_i h0
      rw[List.eq_nil_of_length_eq_zero h0];rfl
    rename_i h0
    have:=yA (nX ds t) (fun H=>h0 (by rw[H];rfl))
    rw[uY Oh,List.getD_eq_getElem?_getD,this];rfl
  rw[if_neg e]at A ⊢
  obtain⟨x,E,D,_⟩:=xV (List.mem_of_getElem? A)
  have G:=ap1 x E
  subst D
  rw[gJ Oh,gJ Oh]
  exact h.next t j _ A
end Go.Wk
namespace Go.Wk
open Go Go.RowKit
structure Hs (m:Mk):Prop where
  r4:mX m.b 288 m.c.ay m.ai
  r5:mX m.b (304+16*m.c.ay) m.c.aA m.aj
  rd:vv m.b m.ai m.aj
  s4:∀k∈m.ai,k.cF=eI m k.cM%m.c.ay
  s5:∀k∈m.aj,k.cF=eI m k.cM%m.c.aA
  own:∀k∈m.ai,∃f∈m.aj,f.cM=qG k.cM
  bear:∀f∈m.aj,∃k∈m.ai,qG k.cM=f.cM
  one:∀x∈m.aj,∀y∈m.aj,x.cM=y.cM→x=y
  a4:(m.ai.map aY.b9).Pairwise (· < ·)
  a5:(m.aj.map aY.b9).Pairwise (· < ·)
  n15:m.cP 15=m.ai.length
  n16:m.cP 16=m.aj.length
  c15:m.ai.length≤m.b.length
  c16:m.aj.length≤m.b.length
  h20:m.h.n.length=20
theorem VW {b:Ly} {q:Nat} (h:q+8≤b.length):(mM b (q:Nat) 8).1=fA b q:=by
  unfold mM fA
  rw[if_pos ⟨by decide,by omega,by omega⟩]
  simp
theorem Qm {m:Mk} {k v:Nat} (h:k<m.h.n.length):(m.dV k v).cP k=v:=by
  show(m.h.n.set k v).getD k 0=v
  rw[List.getD_eq_getElem?_getD,List.getElem?_set_self h];rfl
def wS (h:Nat) (t:Ly):List UInt8:=ir {cQ:=h,bT:=0,dat:=0,ak:=t}
def xX (h:Nat) (t:Ly):List UInt8:=jf {cQ:=h,bT:=0,eH:=0,entry:=0,array:=0,bQ:=0,ak:=t}
theorem afn {h:Nat} (t:Ly) (hh:h<18446744073709551616):(wS h t).length=mI (40+t.length)∧fA (wS h t) 24=0∧fA (wS h t) 32=0:=by
  have e:wS h t=qu 2 (nums [h,0,0] ++ t):=rfl
  obtain⟨_,A,B,_⟩:=acG (k:=2) Om [h,0,0] t (by intro v hv;simp at hv;omega)
  rw[← e]at A B
  simp only[List.length_cons,List.length_nil,Nat.zero_add,Nat.reduceAdd,Nat.reduceMul]at A
  exact⟨A,B 1 _ q,B 2 _ q⟩
theorem aeX {h:Nat} (t:Ly) (hh:h<18446744073709551616):(xX h t).length=mI (64+t.length)∧fA (xX h t) 24=0:=by
  have e:xX h t=qu 1 (nums [h,0,0,0,0,0] ++ t):=rfl
  obtain⟨_,A,B,_⟩:=acG (k:=1) Om [h,0,0,0,0,0] t (by intro v hv;simp at hv;omega)
  rw[← e]at A B
  simp only[List.length_cons,List.length_nil,Nat.zero_add,Nat.reduceAdd,Nat.reduceMul]at A
  exact⟨A,B 1 _ q⟩
def kn (t:Ly) (p s:Nat):aY:={cM:=t,b9:=p,cF:=s,bQ:=0,bn:=[]}
theorem LZ (m:Mk) (o:Ly) {i:Nat} (h:i≠6∧i≠7):(m.di o).2.cP i=m.cP i:=by
  simp only[Mk.di];rw[ej Oh,ej Oh];rfl
theorem acH (m:Mk) (o:Ly):(m.di o).2.h.n.length=m.h.n.length:=by simp[Mk.di,Mk.dV]
theorem YS {m:Mk} {name:Ly} (hk:p8 name m.aj=none) (h20:m.h.n.length=20) :
    ∃z,m.field name=(m.b.length,z)∧z.b=vG (m.b ++ wS (eI m name) name) m.aj (m.cP 4) m.b.length (eI m name%m.c.aA)∧z.aj=m.aj ++ [kn name m.b.length (eI m name%m.c.aA)]∧z.ai=m.ai∧z.c=m.c∧z.cP 15=m.cP 15∧z.cP 16=(m.cP 16+1)%18446744073709551616∧z.h.n.length=20:=by
  unfold Mk.field
  rw[hk]
  simp only
  have H:=iK m (wS (eI m name) name)
  have I:=fD m (wS (eI m name) name)
  have D:=fun i S=>LZ m (wS (eI m name) name) (i:=i) S
  have J:=acH m (wS (eI m name) name)
  have K:(m.di (wS (eI m name) name)).2.b=m.b ++ wS (eI m name) name:=rfl
  rw[show ir {cQ:=eu m.c.dS m.c.dh name,bT:=0,dat:=0,ak:=name}=wS (eI m name) name from rfl]
  generalize m.di (wS (eI m name) name)=r at *
  obtain⟨p,A⟩:=r
  simp only at H I D J K ⊢
  obtain⟨E,O,F,_⟩:=I
  have L:=acd A A.aj (A.cP 4) p (eu m.c.dS m.c.dh name%A.c.aA)
  have N:=iY A A.aj (A.cP 4) p (eu m.c.dS m.c.dh name%A.c.aA)
  generalize A.hang A.aj (A.cP 4) p (eu m.c.dS m.c.dh name%A.c.aA)=r at *
  obtain⟨n,B⟩:=r
  simp only at L N ⊢
  obtain⟨P,Q,R,U,V,G⟩:=N
  have M:p=m.b.length:=H.1
  have C:∀i,B.cP i=A.cP i:=fun i=>by show B.h.n.getD i 0=_;rw[G];rfl
  have T:({B with depth:=max A.depth n}:Mk).h.n.length=20:=by show B.h.n.length=20;rw[G,J,h20]
  refine⟨_,by rw[M],?_,?_,?_,?_,?_,?_,?_⟩
  · show B.b=_;rw[L,K,F,D 4 Om,M,E];rfl
  · show B.aj ++ _=_;rw[R,F,E];rfl
  · show B.ai=_;rw[Q,O]
  · show B.c=_;rw[P,E]
  · show(Mk.dV _ 16 _).cP 15=_
    rw[ej Om];show B.cP 15=_;rw[C,D 15 Om]
  · show(Mk.dV _ 16 _).cP 16=_
    rw[Qm Oh];show(B.cP 16+1)%_=_;rw[C,D 16 Om]
  show(B.h.n.set 16 _).length=20;rw[List.length_set];exact T
theorem ab4 {m:Mk} {x:Pr} (hk:nH (ak x) m.ai 0=none) (h20:m.h.n.length=20) :
    ∃z:Mk,z.b=vG (m.b ++ xX (eI m (ak x)) (ak x)) m.ai (m.cP 2) m.b.length (eI m (ak x)%m.c.ay)∧z.ai=m.ai ++ [kn (ak x) m.b.length (eI m (ak x)%m.c.ay)]∧z.aj=m.aj∧z.c=m.c∧z.cP 15=(m.cP 15+1)%18446744073709551616∧z.cP 16=m.cP 16∧z.cP 4=m.cP 4∧z.h.n.length=20 ∧
      (m.data x).2=(((z.field x.name).2.put (m.b.length+32) (mM (z.field x.name).2.b ((z.field x.name).1+32:Nat) 8).1).put ((z.field x.name).1+32) m.b.length):=by
  unfold Mk.data
  rw[hk]
  simp only
  have I:=iK m (xX (eI m (ak x)) (ak x))
  have J:=fD m (xX (eI m (ak x)) (ak x))
  have D:=fun i S=>LZ m (xX (eI m (ak x)) (ak x)) (i:=i) S
  have K:=acH m (xX (eI m (ak x)) (ak x))
  have L:(m.di (xX (eI m (ak x)) (ak x))).2.b=m.b ++ xX (eI m (ak x)) (ak x):=rfl
  rw[show jf {cQ:=eu m.c.dS m.c.dh (ak x),bT:=0,eH:=0,entry:=0,array:=0,bQ:=0,ak:=ak x}=xX (eI m (ak x)) (ak x)from rfl]
  generalize m.di (xX (eI m (ak x)) (ak x))=r at *
  obtain⟨p,B⟩:=r
  simp only at I J D K L ⊢
  obtain⟨E,G,O,_⟩:=J
  have M:=acd B B.ai (B.cP 2) p (eu m.c.dS m.c.dh (ak x)%B.c.ay)
  have N:=iY B B.ai (B.cP 2) p (eu m.c.dS m.c.dh (ak x)%B.c.ay)
  generalize B.hang B.ai (B.cP 2) p (eu m.c.dS m.c.dh (ak x)%B.c.ay)=r at *
  obtain⟨n,A⟩:=r
  simp only at M N ⊢
  obtain⟨P,Q,R,V,W,H⟩:=N
  have F:p=m.b.length:=I.1
  have C:∀i,A.cP i=B.cP i:=fun i=>by show A.h.n.getD i 0=_;rw[H];rfl
  have T:A.h.n.length=20:=by rw[H,K,h20]
  have U:(A.dV 19 (max (A.cP 19) n)).h.n.length=20:=by show(A.h.n.set 19 _).length=20;rw[List.length_set];exact T
  refine⟨({(A.dV 19 (max (A.cP 19) n)).dV 15 (((A.dV 19 (max (A.cP 19) n)).cP 15+1)%18446744073709551616)with ai:=A.ai ++ [kn (ak x) p (eu m.c.dS m.c.dh (ak x)%B.c.ay)]}:Mk),?_,?_,?_,?_,?_,?_,?_,?_,?_⟩
  · show A.b=_;rw[M,L,G,D 2 Om,F,E];rfl
  · show A.ai ++ _=_;rw[Q,G,F,E];rfl
  · show A.aj=_;rw[R,O]
  · show A.c=_;rw[P,E]
  · show(Mk.dV _ 15 _).cP 15=_
    rw[Qm Oh,ej Om,C,D 15 Om]
  · show(Mk.dV _ 15 _).cP 16=_
    rw[ej Om,ej Om,C,D 16 Om]
  · show(Mk.dV _ 15 _).cP 4=_
    rw[ej Om,ej Om,C,D 4 Om]
  · show(List.set _ 15 _).length=20;rw[List.length_set];exact U
  subst F;rfl
theorem adF (m:Mk) (p v:Nat):(m.put p v).ai=m.ai∧(m.put p v).aj=m.aj∧(m.put p v).c=m.c∧(m.put p v).h=m.h∧(m.put p v).b=ja m.b p v:=by
  unfold Mk.put;exact⟨q,q,q,q,q⟩
theorem XJ (m:Mk) (p v q u:Nat):∃R,(m.put p v).put q u=R∧R.ai=m.ai∧R.aj=m.aj∧R.c=m.c∧(∀i,R.cP i=m.cP i)∧R.h.n.length=m.h.n.length∧R.b=ja (ja m.b p v) q u:=by
  obtain⟨C,D,E,A,F⟩:=adF m p v
  obtain⟨G,H,I,B,J⟩:=adF (m.put p v) q u
  exact⟨_,rfl,G.trans C,H.trans D,I.trans E,fun i=>by unfold Mk.cP;rw[B,A],by rw[B,A],by rw[J,F]⟩
section
variable {m:Mk} {l:List Ob}
theorem Stat.far (h:Stat m l) {o:Ob} (ho:o∈l) (hk:o.kind=1∨o.kind=2):304+16*m.c.ay+16*m.c.aA≤o.b9:=by
  have B:=h.fH.mem ho
  have g:=B.ge
  have E:=eO o.size
  have C:mI (16+16*m.c.ay)=16+16*m.c.ay:=by unfold mI;omega
  have u5:mI (16+16*m.c.aA)=16+16*m.c.aA:=by unfold mI;omega
  have D:=B.size.1
  rcases h.fH.sep ho h.zV with e|e|e
  · subst e;simp at hk
  · simp only at e;omega
  simp only[C]at e
  rcases h.fH.sep ho h.GA with A|A|A
  · subst A;simp at hk
  · simp only at A;omega
  simp only[u5]at A;omega
theorem Stat.two (h:Stat m l) {o x:Ob} (ho:o∈l) (hx:x∈l) (so:40≤o.size) (sx:40≤x.size):o.b9=x.b9∨o.b9+40≤x.b9∨x.b9+40≤o.b9:=by
  have:=eO o.size
  have:=eO x.size
  rcases h.fH.sep ho hx with e|e|e
  · exact .inl (by rw[e])
  · exact .inr (.inl Oh)
  exact .inr (.inr Oh)
theorem Stat.apart (h:Stat m l) {o x:Ob} (ho:o∈l) (hx:x∈l) (so:40≤o.size) (sx:40≤x.size) (hk:o.kind≠x.kind):o.b9+40≤x.b9∨x.b9+40≤o.b9:=by
  have:=eO o.size
  have:=eO x.size
  rcases h.fH.sep ho hx with e|e|e
  · exact absurd (congrArg Ob.kind e) hk
  · exact .inl Oh
  exact .inr Oh
theorem Stat.top (h:Stat m l) {o:Ob} (ho:o∈l) (so:40≤o.size):o.b9+40≤m.b.length:=by
  have:=eO o.size
  have:=(h.fH.mem ho).le
  omega
theorem Stat.dd (h:Stat m l):(∀x∈m.ai,304+16*m.c.ay+16*m.c.aA≤x.b9∧x.b9+40≤m.b.length)∧(∀x∈m.aj,304+16*m.c.ay+16*m.c.aA≤x.b9∧x.b9+40≤m.b.length) ∧
    (∀x∈m.ai,∀y∈m.ai,x.b9=y.b9∨x.b9+40≤y.b9∨y.b9+40≤x.b9)∧(∀x∈m.aj,∀y∈m.aj,x.b9=y.b9∨x.b9+40≤y.b9∨y.b9+40≤x.b9)∧(∀x∈m.ai,∀y∈m.aj,x.b9+40≤y.b9∨y.b9+40≤x.b9):=by
  refine⟨fun x A=>?_,fun x A=>?_,fun x A y B=>?_,fun x A y B=>?_,fun x A y B=>?_⟩
  · have o:=(h.data x A).ob;exact⟨h.far o (.inl q),h.top o Lw⟩
  · have o:=(h.fld x A).ob;exact⟨h.far o (.inr q),h.top o Lw⟩
  · exact h.two (h.data x A).ob (h.data y B).ob Lw Lw
  · exact h.two (h.fld x A).ob (h.fld y B).ob Lw Lw
  exact h.apart (h.data x A).ob (h.fld y B).ob Lw Lw Oq
end
theorem Oo {ks:List aY} {k:aY} (h:(ks.map aY.b9).Pairwise (· < ·)) (hk:∀x∈ks,x.b9<k.b9):((ks ++ [k]).map aY.b9).Pairwise (· < ·):=by
  rw[List.map_append,List.pairwise_append]
  refine⟨h,by simp,fun a B b A=>?_⟩
  obtain⟨x,C,rfl⟩:=List.mem_map.1 B
  simp only[List.map_cons,List.map_nil,List.mem_singleton]at A
  subst A;exact hk x C
theorem CS:∀{l:List aY} {s:Ly},p8 s l=none→∀k∈l,k.cM≠s
  | [],_,_,_,h=>by cases h
  | x :: l,s,h,k,hk=>by
    rw[p8]at h
    split at h
    · cases h
    · rename_i hx
      rcases List.mem_cons.1 hk with rfl|hk
      · exact hx
      · exact CS h k hk
theorem mX.vH {b c:Ly} {tab n:Nat} {ks:List aY} (h:mX b tab n ks) (h1:∀s:Nat,s<n→fA c (tab+16*s)=fA b (tab+16*s)) (h2:∀k∈ks,fA c (k.b9+24)=fA b (k.b9+24)):mX c tab n ks:=h.keep fun a ha=>by
  rcases ha with⟨s,hs,rfl⟩|⟨k,hk,rfl⟩
  · exact h1 s hs
  · exact h2 k hk
set_option maxHeartbeats 2000000 in
theorem aft {m:Mk} {l:List Ob} (h:Stat m l) (H:Hs m) (x:Pr) (he:∀c∈x.name,c≠61) (hb:m.b.length<900000) (hl:(ak x).length≤1000∧x.name.length≤1000) :
    Hs (m.data x).2∧(m.data x).2.ai.map aY.cM=if ak x∈m.ai.map aY.cM then m.ai.map aY.cM else m.ai.map aY.cM ++ [ak x]:=by
  cases hk:nH (ak x) m.ai 0 with
  | some i =>
    obtain⟨k,A,L,_⟩:=yg hk
    have e:(m.data x).2=m:=by unfold Mk.data;rw[hk]
    rw[e,if_pos (List.mem_map.2 ⟨k,List.mem_of_getElem? A,L⟩)]
    exact⟨H,q⟩
  | none =>
    have Be:=wo hk
    obtain⟨z,z1,S,z3,T,z5,z6,z7,z8,z9⟩:=ab4 (m:=m) (x:=x) hk H.h20
    obtain⟨r,kp,kt,ks,ek⟩:∃r:aY,r.b9=m.b.length∧r.cM=ak x∧r.cF=eI m (ak x)%m.c.ay∧kn (ak x) m.b.length (eI m (ak x)%m.c.ay)=r:=⟨_,q,q,q,q⟩
    rw[ek]at S
    clear ek
    obtain⟨U,J,d2,f2,V⟩:=h.dd
    have B0:=h.slots
    have hh:=uc m (ak x)
    obtain⟨o1,o2⟩:=aeX (ak x) hh
    have Ax:eI m (ak x)%m.c.ay<m.c.ay:=Nat.mod_lt _ Oh
    have hu:=eO (64+(ak x).length)
    generalize ho:xX (eI m (ak x)) (ak x)=o at *
    rw[h.n2]at z1
    -- the datum stands in its chain
    have B1:(m.b ++ o).length=m.b.length+o.length:=List.length_append
    have Aj:∀a,a+8≤m.b.length→fA (m.b ++ o) a=fA m.b a:=fun a M=>uO M
    have K:mX z.b 288 m.c.ay z.ai:=by
      rw[z1,S,← kp,← ks]
      have A:mX (m.b ++ o) 288 m.c.ay m.ai:=H.r4.vH (fun s hs=>Aj _ (by have:=h.fH.mem h.zV;have:=this.le;have:=eO (16+16*m.c.ay);simp only at *;omega)) fun k hk=>Aj _ (by have:=U k hk;omega)
      have t4:=h.fH.mem h.zV
      have Bi:=t4.le
      have B9:=eO (16+16*m.c.ay)
      simp only at Bi
      exact A.hang (k:=r) (by rw[ks];exact Ax) (fun y N=>by have:=U y N;omega) Oh (fun y N=>by have:=U y N;omega) d2 H.a4 (by rw[kp,qy];exact o2) Oh Oh
    have Bo:304+16*m.c.ay+16*m.c.aA≤m.b.length:=by
      have:=h.fH.mem h.GA;have:=this.le;have:=eO (16+16*m.c.aA);simp only at *;omega
    have Ae:∀a,a+8≤m.b.length→(a+8≤288+16*(eI m (ak x)%m.c.ay)∨288+16*(eI m (ak x)%m.c.ay)+16≤a)→(∀y∈m.ai,a+8≤y.b9+24∨y.b9+32≤a)→fA z.b a=fA m.b a:=fun a M A L=>by
      rw[z1]
      rw[← ks]at A ⊢
      exact(CZ (n:=m.c.ay) (by rw[ks];exact Ax) A L).trans (Aj a M)
    have F:mX z.b (304+16*m.c.ay) m.c.aA z.aj:=by
      rw[z3]
      exact H.r5.vH (fun s hs=>Ae _ Oh Oh fun y N=>by have:=U y N;omega) fun k hk=>Ae _ (by have:=J k hk;omega) (by have:=J k hk;omega) fun y N=>by have:=V y N k hk;omega
    have D:vv z.b m.ai z.aj:=by
      rw[z3]
      exact H.rd.keep (fun k hk=>Ae _ (by have:=U k hk;omega) (by have:=U k hk;omega) fun y N=>by have:=d2 y N k hk;omega) fun f X=>Ae _ (by have:=J f X;omega) (by have:=J f X;omega) fun y N=>by have:=V y N f X;omega
    have zb:z.b.length=m.b.length+o.length:=by rw[z1,IQ,B1]
    have Bf:∀t,eI z t=eI m t:=fun t=>by unfold eI;rw[T]
    rw[z9]
    have A0:∀(w:Mk),w.ai=z.ai→w.ai.map aY.cM=if ak x∈m.ai.map aY.cM then m.ai.map aY.cM else m.ai.map aY.cM ++ [ak x]:=fun w hw=>by
      rw[hw,S,if_neg (fun hm=>by obtain⟨k,A,L⟩:=List.mem_map.1 hm;exact Be k A L),List.map_append,List.map_cons,List.map_nil,kt]
    have a4:(z.ai.map aY.b9).Pairwise (· < ·):=by rw[S];exact Oo H.a4 fun y N=>by have:=U y N;omega
    have Ay:z.cP 15=z.ai.length:=by
      have:=H.c15
      rw[z5,S,H.n15,List.length_append];exact Nat.mod_eq_of_lt Oh
    have u:qG (ak x)=x.name:=yH he
    cases X:p8 x.name z.aj with
    | some p =>
      obtain⟨f,f1,rfl,f3⟩:=yj X
      have e:z.field x.name=(f.b9,z):=by unfold Mk.field;rw[X]
      rw[e]
      simp only
      have fm:f∈m.aj:=z3 ▸ f1
      have Bw:=J f fm
      have C:(mM z.b (f.b9+32:Nat) 8).1=fA z.b (f.b9+32):=VW Oh
      have B:∀a,(a+8≤m.b.length+32∨m.b.length+40≤a)→(a+8≤f.b9+32∨f.b9+40≤a)→fA (ja (ja z.b (m.b.length+32) (mM z.b (f.b9+32:Nat) 8).1) (f.b9+32) m.b.length) a=fA z.b a:=fun a A L=>by
        rw[gJ Oh,gJ Oh]
      have mk:∀y∈z.ai,y∈m.ai∨y=r:=fun y N=>by rw[S]at N;simpa using N
      obtain⟨Z,eZ,I,E,d,Rn,Rl,Y⟩:=XJ z (m.b.length+32) (mM z.b (f.b9+32:Nat) 8).1 (f.b9+32) m.b.length
      rw[eZ]
      clear eZ
      have Q:∀t,eI Z t=eI m t:=fun t=>by unfold eI;rw[d,T]
      refine⟨⟨?_,?_,?_,?_,?_,?_,?_,?_,by rw[I];exact a4,?_,by rw[Rn,I];exact Ay,?_,?_,?_,Rl.trans z8⟩,A0 _ I⟩
      · rw[Y,d,I,T]
        refine K.vH (fun s hs=>B _ Oh Oh) fun k hk=>?_
        rcases mk k hk with A|rfl
        · have:=U k A;have:=V k A f fm;exact B _ Oh Oh
        · exact B _ Oh Oh
      · rw[Y,d,E,T]
        exact F.vH (fun s hs=>B _ Oh Oh) fun k hk=>by
          rw[z3]at hk;have:=J k hk;have:=f2 k hk f fm;exact B _ Oh Oh
      · rw[Y,I,E,S,← kp]
        refine D.put (k:=r) f1 (by rw[f3,kt];exact u.symm) C (fun a M c W=>?_) (fun y N=>?_) (fun g R=>?_) Oh Oh Oh
        · rw[z3]at M W
          exact⟨fun e=>by rw[H.one a M c W e],fun e=>by rw[MQ H.a5 M W e]⟩
        · have:=U y N;have:=V y N f fm;omega
        · rw[z3]at R;have:=J g R;have:=f2 g R f fm;omega
      · intro k hk
        rw[I]at hk
        rw[Q,d,T]
        rcases mk k hk with A|rfl
        · exact H.s4 k A
        · rw[ks,kt]
      · intro k hk
        rw[E]at hk
        rw[Q,d,T];exact H.s5 k (z3 ▸ hk)
      · intro k hk
        rw[I]at hk
        rcases mk k hk with A|rfl
        · obtain⟨g,g1,g2⟩:=H.own k A;exact⟨g,by rw[E,z3];exact g1,g2⟩
        · exact⟨f,by rw[E];exact f1,by rw[f3,kt];exact u.symm⟩
      · intro g R
        rw[E]at R
        obtain⟨k,k1,kz2⟩:=H.bear g (z3 ▸ R)
        exact⟨k,by rw[I,S];simp[k1],kz2⟩
      · intro a M c W;rw[E]at M W;exact H.one a (z3 ▸ M) c (z3 ▸ W)
      · rw[E,z3];exact H.a5
      · rw[Rn,E,z6,z3];exact H.n16
      · rw[Y,I,gu,gu,zb,S,List.length_append];have:=H.c15;simp only[List.length_singleton];omega
      · rw[Y,E,gu,gu,zb,z3];have:=H.c16;omega
    | none =>
      have P:=CS X
      obtain⟨y,y1,y2,y3,y4,y5,y6,y7,y8⟩:=YS (m:=z) (name:=x.name) X z8
      have R:=uc z x.name
      obtain⟨q1,q2,q3⟩:=afn x.name R
      have hq:=eO (40+x.name.length)
      have Al:eI z x.name%z.c.aA<m.c.aA:=by rw[T];exact Nat.mod_lt _ Oh
      generalize wS (eI z x.name) x.name=fo at *
      obtain⟨fd,fp,ft,fs,ef⟩:∃fd:aY,fd.b9=z.b.length∧fd.cM=x.name∧fd.cF=eI z x.name%z.c.aA∧kn x.name z.b.length (eI z x.name%z.c.aA)=fd:=⟨_,q,q,q,q⟩
      rw[ef]at y3
      clear ef
      rw[y1]
      simp only
      rw[z7,h.n4]at y2
      have B2:(z.b ++ fo).length=z.b.length+fo.length:=List.length_append
      have j:∀a,a+8≤z.b.length→fA (z.b ++ fo) a=fA z.b a:=fun a M=>uO M
      have yb:y.b.length=z.b.length+fo.length:=by rw[y2,IQ,B2]
      have mk:∀v∈z.ai,v∈m.ai∨v=r:=fun v C=>by rw[S]at C;simpa using C
      have G:mX y.b (304+16*m.c.ay) m.c.aA y.aj:=by
        rw[y2,y3,z3,← fp,← fs]
        have A:mX (z.b ++ fo) (304+16*m.c.ay) m.c.aA m.aj:=by
          rw[← z3]
          exact F.vH (fun s hs=>j _ Oh) fun k hk=>j _ (by rw[z3]at hk;have:=J k hk;omega)
        exact A.hang (k:=fd) (by rw[fs];exact Al) (fun v C=>by have:=J v C;omega) Oh (fun v C=>by have:=J v C;omega) f2 H.a5 (by rw[fp,qy];exact q2) Oh Oh
      have O:∀a,a+8≤z.b.length→(a+8≤304+16*m.c.ay+16*(eI z x.name%z.c.aA)∨304+16*m.c.ay+16*(eI z x.name%z.c.aA)+16≤a)→(∀v∈m.aj,a+8≤v.b9+24∨v.b9+32≤a)→fA y.b a=fA z.b a:=fun a M A L=>by
        rw[y2,z3]
        rw[← fs]at A ⊢
        exact(CZ (n:=m.c.aA) (by rw[fs];exact Al) A L).trans (j a M)
      have K2:mX y.b 288 m.c.ay z.ai:=by
        refine K.vH (fun s hs=>O _ Oh Oh fun v C=>by have:=J v C;omega) fun k hk=>?_
        rcases mk k hk with A|rfl
        · have:=U k A;exact O _ Oh Oh fun v C=>by have:=V k A v C;omega
        · exact O _ Oh Oh fun v C=>by have:=J v C;omega
      have D2:vv y.b m.ai y.aj:=by
        have A:vv y.b m.ai z.aj:=D.keep (fun k hk=>by have:=U k hk;exact O _ Oh Oh fun v C=>by have:=V k hk v C;omega) fun f X=>by
          rw[z3]at X;have:=J f X;exact O _ Oh Oh fun v C=>by have:=f2 f X v C;omega
        rw[y3]
        refine A.field (f:=fd) ?_ fun k hk e=>?_
        · rw[y2,z3,← fs]
          refine(CZ (n:=m.c.aA) (by rw[fs];exact Al) (by rw[fs];omega) (fun v C=>by have:=J v C;omega)).trans ?_
          rw[fp,qy];exact q3
        · obtain⟨g,g1,g2⟩:=H.own k hk
          exact P g (by rw[z3];exact g1) (by rw[g2,e,ft])
      have C:(mM y.b (z.b.length+32:Nat) 8).1=fA y.b (z.b.length+32):=VW Oh
      have B:∀a,(a+8≤m.b.length+32∨m.b.length+40≤a)→(a+8≤z.b.length+32∨z.b.length+40≤a)→fA (ja (ja y.b (m.b.length+32) (mM y.b (z.b.length+32:Nat) 8).1) (z.b.length+32) m.b.length) a=fA y.b a:=fun a A L=>by
        rw[gJ Oh,gJ Oh]
      have yd:y.ai=z.ai:=y4
      have B4:∀t,eI y t=eI m t:=fun t=>by unfold eI;rw[y5,T]
      have mf:∀g∈y.aj,g∈m.aj∨g=fd:=fun g R=>by rw[y3,z3]at R;simpa using R
      have f1:fd∈y.aj:=by rw[y3];simp
      obtain⟨Z,eZ,I,E,d,Rn,Rl,Y⟩:=XJ y (m.b.length+32) (mM y.b (z.b.length+32:Nat) 8).1 (z.b.length+32) m.b.length
      rw[eZ]
      clear eZ
      have Q:∀t,eI Z t=eI m t:=fun t=>by unfold eI;rw[d,y5,T]
      refine⟨⟨?_,?_,?_,?_,?_,?_,?_,?_,by rw[I,yd];exact a4,?_,by rw[Rn,I,y6,yd];exact Ay,?_,?_,?_,Rl.trans y8⟩,A0 _ (I.trans yd)⟩
      · rw[Y,d,I,y5,T,yd]
        refine K2.vH (fun s hs=>B _ Oh Oh) fun k hk=>?_
        rcases mk k hk with A|rfl
        · have:=U k A;exact B _ Oh Oh
        · exact B _ Oh Oh
      · rw[Y,d,E,y5,T]
        refine G.vH (fun s hs=>B _ Oh Oh) fun k hk=>?_
        rcases mf k hk with A|rfl
        · have:=J k A;exact B _ Oh Oh
        · exact B _ Oh Oh
      · rw[Y,I,E,yd,S,← kp,← fp]
        refine D2.put (f:=fd) (k:=r) f1 (by rw[ft,kt];exact u.symm) (by rw[fp];exact C) (fun a M c W=>?_) (fun v C=>?_) (fun g R=>?_) Oh Oh Oh
        · rcases mf a M with A|rfl
          · rcases mf c W with L|rfl
            · exact⟨fun e=>by rw[H.one a A c L e],fun e=>by rw[MQ H.a5 A L e]⟩
            · exact⟨fun e=>absurd (e.trans ft) (P a (by rw[z3];exact A)),fun e=>by have:=J a A;omega⟩
          · rcases mf c W with L|rfl
            · exact⟨fun e=>absurd (e.symm.trans ft) (P c (by rw[z3];exact L)),fun e=>by have:=J c L;omega⟩
            · exact⟨fun _=>rfl,fun _=>rfl⟩
        · have:=U v C;omega
        · rcases mf g R with A|rfl
          · have:=J g A;omega
          · omega
      · intro k hk
        rw[I]at hk
        rw[Q,d,y5,T]
        rcases mk k (yd ▸ hk)with A|rfl
        · exact H.s4 k A
        · rw[ks,kt]
      · intro k hk
        rw[E]at hk
        rw[Q,d,y5,T]
        rcases mf k hk with A|rfl
        · exact H.s5 k A
        · rw[fs,ft,Bf,T]
      · intro k hk
        rw[I]at hk
        rcases mk k (yd ▸ hk)with A|rfl
        · obtain⟨g,g1,g2⟩:=H.own k A;exact⟨g,by rw[E,y3,z3];simp[g1],g2⟩
        · exact⟨_,by rw[E];exact f1,by rw[ft,kt];exact u.symm⟩
      · intro g R
        rw[E]at R
        rcases mf g R with A|rfl
        · obtain⟨k,k1,kz2⟩:=H.bear g A
          exact⟨k,by rw[I,yd,S];simp[k1],kz2⟩
        · exact⟨r,by rw[I,yd,S];simp,by rw[kt,ft];exact u⟩
      · intro a M c W e
        rw[E]at M W
        rcases mf a M with A|rfl
        · rcases mf c W with L|rfl
          · exact H.one a A c L e
          · exact absurd (e.trans ft) (P a (by rw[z3];exact A))
        · rcases mf c W with L|rfl
          · exact absurd (e.symm.trans ft) (P c (by rw[z3];exact L))
          · rfl
      · rw[E,y3,z3];exact Oo H.a5 fun v C=>by have:=J v C;omega
      · have:=H.c16
        rw[Rn,E,y7,y3,z6,z3,H.n16,List.length_append];exact Nat.mod_eq_of_lt Oh
      · rw[Y,I,gu,gu,yb,zb,yd,S,List.length_append];have:=H.c15;simp only[List.length_singleton];omega
      · rw[Y,E,gu,gu,yb,zb,y3,z3,List.length_append];have:=H.c16;simp only[List.length_singleton];omega
end Go.Wk
namespace Go.Wk
open Go Go.RowKit
def BI (l:List Ob) (a:Nat):Prop:=∀o∈l,(o.kind=4∨o.kind=5→a+8≤o.b9∨o.b9+mI o.size≤a)∧((o.kind=1∨o.kind=2)→40≤o.size→a+8≤o.b9∨o.b9+40≤a)
theorem IG {b:Ly} {l:List Ob} {e a:Nat} (hO:gd b 272 l e) (h:a+8≤272):BI l a:=fun o ho=>by
  have:=(hO.mem ho).ge
  exact⟨fun _=>.inl Oh,fun _ _=>.inl Oh⟩
theorem VR {b:Ly} {l:List Ob} {e a:Nat} (hO:gd b 272 l e) {x:Ob} (hx:x∈l) (h1:x.b9+16≤a) (h2:a+8≤x.b9+mI x.size) (hk:x.kind=6∨x.kind=1∧x.b9+40≤a):BI l a:=fun o ho=>by
  have uo:=eO o.size
  have ux:=eO x.size
  rcases hO.sep ho hx with e1|e1|e1
  · subst e1
    exact⟨fun h=>by omega,fun h _=>by omega⟩
  · exact⟨fun _=>.inr Oh,fun _ _=>.inr Oh⟩
  · exact⟨fun _=>.inl Oh,fun _ _=>.inl Oh⟩
theorem E1 {b:Ly} {l:List Ob} {e src a:Nat} {av:List Nat} (hO:gd b 272 l e) (h:zh src av a) (hob:∀k c:Nat,av[k]? = some c→(⟨c,6,24+8*eL (k:Int)⟩:Ob)∈l) (hs:BI l src):BI l a:=by
  rcases h with h|⟨k,c,A,B,C⟩
  · rw[h];exact hs
  exact VR hO (hob k c A) Lw (by rw[jl];simp only;omega) (.inl q)
theorem BI.mono {l r:List Ob} {a:Nat} (h:BI r a) (hs:∀o∈l,o∈r):BI l a:=fun o ho=>h o (hs o ho)
structure Kept (m m':Mk):Prop where
  c:m'.c=m.c
  ds:m'.ai.map oq=m.ai.map oq
  fs:m'.aj=m.aj
  n15:m'.cP 15=m.cP 15
  n16:m'.cP 16=m.cP 16
  len:m.b.length≤m'.b.length
  at4:∀s:Nat,s<m.c.ay→fA m'.b (288+16*s)=fA m.b (288+16*s)
  at5:∀s:Nat,s<m.c.aA→fA m'.b (304+16*m.c.ay+16*s)=fA m.b (304+16*m.c.ay+16*s)
  dd:∀k∈m.ai,fA m'.b (k.b9+24)=fA m.b (k.b9+24)∧fA m'.b (k.b9+32)=fA m.b (k.b9+32)
  ff:∀k∈m.aj,fA m'.b (k.b9+24)=fA m.b (k.b9+24)∧fA m'.b (k.b9+32)=fA m.b (k.b9+32)
theorem Kept.refl (m:Mk):Kept m m:=⟨q,q,q,q,q,Nat.le_refl _,fun _ _=>rfl,fun _ _=>rfl,fun _ _=>⟨q,q⟩,fun _ _=>⟨q,q⟩⟩
theorem Kept.trans {a b c:Mk} (h:Kept a b) (k:Kept b c):Kept a c:=by
  refine⟨k.c.trans h.c,k.ds.trans h.ds,k.fs.trans h.fs,k.n15.trans h.n15,k.n16.trans h.n16,ly h.len k.len,fun s B=>(k.at4 s (by rw[h.c];exact B)).trans (h.at4 s B),fun s B=>?_,fun x A=>?_,fun x A=>?_⟩
  · have:=k.at5 s (by rw[h.c];exact B)
    rw[h.c]at this
    exact this.trans (h.at5 s B)
  · obtain⟨y,C,e,_⟩:=xg h.ds.symm A
    have:=k.dd y C
    rw[e]at this
    exact⟨this.1.trans (h.dd x A).1,this.2.trans (h.dd x A).2⟩
  have:=k.ff x (by rw[h.fs];exact A)
  exact⟨this.1.trans (h.ff x A).1,this.2.trans (h.ff x A).2⟩
theorem Kept.same {m m':Mk} (hb:m'.b=m.b) (hc:m'.c=m.c) (hd:m'.ai=m.ai) (hf:m'.aj=m.aj) (h15:m'.cP 15=m.cP 15) (h16:m'.cP 16=m.cP 16):Kept m m' :=
  ⟨hc,by rw[hd],hf,h15,h16,by rw[hb];exact Nat.le_refl _,fun _ _=>by rw[hb],fun _ _=>by rw[hb],fun _ _=>by rw[hb];exact⟨q,q⟩,fun _ _=>by rw[hb];exact⟨q,q⟩⟩
theorem Kept.mB {m m':Mk} {l:List Ob} {S:Nat→Prop} (h:Stat m l) (he:Eff S m.b m'.b) (hs:∀a,S a→BI l a) (hc:m'.c=m.c) (hd:m'.ai.map oq=m.ai.map oq) (hf:m'.aj=m.aj) (h15:m'.cP 15=m.cP 15) (h16:m'.cP 16=m.cP 16):Kept m m':=by
  have H:=h.fH.mem h.zV
  have C:=H.le
  have E:mI (16+16*m.c.ay)=16+16*m.c.ay:=by unfold mI;omega
  have u5:mI (16+16*m.c.aA)=16+16*m.c.aA:=by unfold mI;omega
  have I:=h.fH.mem h.GA
  have D:=I.le
  simp only[E]at C
  simp only[u5]at D
  obtain⟨F,G,_⟩:=h.dd
  refine⟨hc,hd,hf,h15,h16,he.len,fun s B=>he.fA Oh fun a A=>?_,fun s B=>he.fA Oh fun a A=>?_,fun k hk=>?_,fun k hk=>?_⟩
  · have:=((hs a A) _ h.zV).1 (.inl q);simp only[E]at this;omega
  · have:=((hs a A) _ h.GA).1 (.inr q);simp only[u5]at this;omega
  · have d:=F k hk
    have f:∀a,S a→a+8≤k.b9∨k.b9+40≤a:=fun a A=>((hs a A) _ (h.data k hk).ob).2 (.inl q) Lw
    exact⟨he.fA Oh fun a A=>by have:=f a A;omega,he.fA Oh fun a A=>by have:=f a A;omega⟩
  have d:=G k hk
  have f:∀a,S a→a+8≤k.b9∨k.b9+40≤a:=fun a A=>((hs a A) _ (h.fld k hk).ob).2 (.inr q) Lw
  exact⟨he.fA Oh fun a A=>by have:=f a A;omega,he.fA Oh fun a A=>by have:=f a A;omega⟩
theorem XI {ks ks':List aY} (h:ks'.map oq=ks.map oq):ks'.map aY.b9=ks.map aY.b9∧ks'.map aY.cM=ks.map aY.cM∧ks'.length=ks.length:=by
  have A:∀ks:List aY,ks.map aY.b9=(ks.map oq).map Prod.fst:=fun ks=>by rw[List.map_map];rfl
  have B:∀ks:List aY,ks.map aY.cM=(ks.map oq).map fun q=>q.2.2:=fun ks=>by rw[List.map_map];rfl
  exact⟨by rw[A,A,h],by rw[B,B,h],by simpa using congrArg List.length h⟩
theorem Hs.kept {m m':Mk} (H:Hs m) (k:Kept m m') (h20:m'.h.n.length=20):Hs m':=by
  obtain⟨K,L,E⟩:=XI k.ds
  have D:∀t,eI m' t=eI m t:=fun t=>by unfold eI;rw[k.c]
  refine⟨?_,?_,?_,fun x A=>?_,fun x A=>?_,fun x A=>?_,fun f J=>?_,?_,by rw[K];exact H.a4,by rw[k.fs];exact H.a5,by rw[k.n15,E];exact H.n15,by rw[k.n16,k.fs];exact H.n16,?_,?_,h20⟩
  · rw[k.c]
    exact(H.r4.vH k.at4 fun x A=>(k.dd x A).1).key k.ds
  · rw[k.c,k.fs]
    exact H.r5.vH k.at5 fun x A=>(k.ff x A).1
  · rw[k.fs]
    exact(H.rd.keep (fun x A=>(k.dd x A).2) fun x A=>(k.ff x A).2).key k.ds
  · obtain⟨y,C,_,F,B⟩:=xg k.ds A
    rw[D,k.c,← F,← B];exact H.s4 y C
  · rw[D,k.c];exact H.s5 x (k.fs ▸ A)
  · obtain⟨y,C,_,_,B⟩:=xg k.ds A
    obtain⟨f,G,I⟩:=H.own y C
    exact⟨f,by rw[k.fs];exact G,by rw[I,B]⟩
  · obtain⟨y,C,e⟩:=H.bear f (k.fs ▸ J)
    obtain⟨x,A,_,_,B⟩:=xg k.ds.symm C
    exact⟨x,A,by rw[B,e]⟩
  · rw[k.fs];exact H.one
  · rw[E];exact ly H.c15 k.len
  rw[k.fs];exact ly H.c16 k.len
theorem agq {ds:List aY} {i:Nat} {k k':aY} (h:ds[i]? = some k) (hk:oq k'=oq k):(ds.set i k').map oq=ds.map oq:=by
  apply List.ext_getElem?
  intro j
  rw[List.getElem?_map,List.getElem?_map]
  by_cases hj:i=j
  · subst hj
    rw[List.getElem?_set_self (List.getElem?_eq_some_iff.1 h).1,h]
    exact congrArg some hk
  rw[List.getElem?_set_ne hj]
theorem DC {es:List gG} {mp:List Nat} {e:Nat} (he:e<18446744073709551616):∀(od:List Nat) (m:Mk) (l:List Ob) (f:Nat→List Nat),mJ m l es mp f→(∀i∈od,i<m.ai.length)→od.Nodup→(∀i∈od,(f i).length<900000)→m.b.length+2100*od.length<900000→Kept m (kW e od m)
  | [],m,_,_,_,_,_,_,_=>Kept.refl m
  | i :: r,m,l,f,h,hi,hn,hl,hb=>by
    obtain⟨k,hk⟩:∃k,m.ai[i]? = some k:=⟨_,List.getElem?_eq_getElem (hi i Oq)⟩
    simp only[List.length_cons]at hb
    have hds:=h.fu.data k (List.mem_of_getElem? hk)
    obtain⟨l1,k1,H⟩:=OZ (e:=e) h.fu.fH hk hds (h.dat i k hk) Oh he (by have:=hl i Oq;omega)
    have g:=h.hang hk H
    have hd1:mr m.ai (kJ e i m).ai:=by rw[H.dat];exact mr.set hk H.b9.1 H.b9.2.1
    have P:=H.top
    obtain⟨M,N,Q,R,F⟩:=H.same
    rw[List.nodup_cons]at hn
    obtain⟨t,I,_⟩:=H.sub
    have B:∀o∈l,o∈l1:=fun o L=>by rw[I];exact List.mem_append_left _ L
    have E:=B _ hds.ob
    have u:=eO (64+k.cM.length)
    have A:∀a,k.b9+40≤a→a+8≤k.b9+64→BI l1 a:=fun a C O=>VR H.fH E Lw Lw (.inr ⟨q,C⟩)
    have G:Kept m (kJ e i m):=Kept.mB h.fu H.mB (fun a J=>by
      refine BI.mono ?_ B
      rcases sw J with C|C
      · exact A a C.1 C.2
      · exact E1 H.fH C H.more.chain.ob (A _ Oh Oh)) M (by rw[H.dat];exact agq hk (by unfold oq;rw[H.b9.1,H.b9.2.1,H.b9.2.2])) N (F 15 Om Om Om) (F 16 Om Om Om)
    rw[om]
    have K:∀j∈r,(if j=i then f i ++ [e]else f j)=f j:=fun j D=>if_neg (by rintro rfl;exact hn.1 D)
    exact G.trans (DC he r (kJ e i m) l1 _ g (fun j D=>by rw[hd1.len];exact hi j (by simp[D])) hn.2 (fun j D=>by simp only[K j D];exact hl j (by simp[D])) Oh)
def GQ:List (List UInt8)→List (List UInt8)→List (List UInt8)
  | ts,[]=>ts
  | ts,p :: r=>GQ (if p∈ts then ts else ts ++ [p]) r
theorem NU:∀(a b ts:List (List UInt8)),GQ ts (a ++ b)=GQ (GQ ts a) b
  | [],_,_=>rfl
  | p :: a,b,ts=>NU a b _
theorem IB:∀(fs:List Pr) (m:Mk) (l:List Ob) (ps:List (List UInt8)) (od:List Nat),Stat m l→(∀q∈fs,BD q)→m.b.length≤(iG fs m ps od).2.2.b.length
  | [],_,_,_,_,_,_=>Nat.le_refl _
  | x :: r,m,l,ps,od,h,hb=>by
    obtain⟨l1,d⟩:=LD h x (hb x Oq)
    exact ly d.step.mB.len (IB r (m.data x).2 l1 _ _ d.fu fun q hq=>hb q (by simp[hq]))
theorem IC:∀(fs:List Pr) (m:Mk) (l:List Ob) (ps:List (List UInt8)) (od:List Nat),Stat m l→Hs m→(∀q∈fs,BD q)→(∀q∈fs,∀c∈q.name,c≠61)→(iG fs m ps od).2.2.b.length<900000 →
    Hs (iG fs m ps od).2.2∧(iG fs m ps od).2.2.ai.map aY.cM=GQ (m.ai.map aY.cM) (fs.map ak)
  | [],_,_,_,_,_,H,_,_,_=>⟨H,rfl⟩
  | x :: r,m,l,ps,od,h,H,hb,hn,hl=>by
    have bx:=hb x Oq
    obtain⟨l1,d⟩:=LD h x bx
    have g1:=IB (x :: r) m l ps od h hb
    have hp:=kK x
    obtain⟨H1,t1⟩:=aft h H x (hn x Oq) Oh ⟨by have:=bx.1;have:=bx.2;omega,by have:=bx.1;omega⟩
    obtain⟨H2,t2⟩:=IC r (m.data x).2 l1 (ps ++ [((m.data x).2.ai.getD (m.data x).1 known0).cM]) (mW (m.data x).2.ai (m.data x).1 od) d.fu H1 (fun q hq=>hb q (by simp[hq])) (fun q hq=>hn q (by simp[hq])) hl
    exact⟨H2,by rw[List.map_cons,GQ,← t1];exact t2⟩
theorem LV {s:Ly} (h:fC s=true):∀c∈s,c≠61:=by
  intro c A e
  subst e
  unfold fC at h
  simp only[Bool.and_eq_true]at h
  have:=List.all_eq_true.1 h.2 61 A
  revert this;decide
theorem YB {m m':Mk} {l:List Ob} {es:List gG} {raw fs:List Pr} {cu mono s:Nat} {bV:Ly} (h:Img m l es) (H0:Hs m) (ok:vV m) (hb:bV.length=16) (hl:kY raw=(fs,0)) (ha:m.append raw cu mono bV=(s,0,m')) :
    Hs m'∧m'.ai.map aY.cM=GQ (m.ai.map aY.cM) (fs.map ak):=by
  by_cases h3:m.cP 9=18446744073709551615
  · have e:m.append raw cu mono bV=(0,1,m):=by unfold Mk.append;simp only[hl];rw[if_neg Oq,if_pos h3]
    rw[e]at ha
    have:=congrArg (fun x=>x.2.1) ha
    simp at this
  have j:=H0.h20
  have Q:=yJ m raw cu mono bV
  rw[ha]at Q
  obtain⟨P,A,Ag,Bg,Bh⟩:=vh hl
  obtain⟨g,_⟩:=ug hl
  have D:=uT fs m [] [] 0 (qC ok) g
  obtain⟨l1,I,W⟩:=xW fs [] m l [] [] es (es.map gG.b9) (places es) h.c (fun i K=>FN h.who i K) ⟨rfl,by simp,by simp,List.Pairwise.nil⟩ g (by rw[List.nil_append];exact zn P A)
  have T:=IC fs m l [] [] h.c.fu H0 g (fun q hq=>LV (by have:=A q hq;unfold right at this;simp only[Bool.and_eq_true]at this;exact this.1))
  rcases hd:iG fs m [] []with⟨ps,V,x⟩
  rw[hd,Nat.zero_add]at D
  rw[hd]at I W T
  rw[List.nil_append]at W
  simp only at D I W T
  have s1:=ok.small
  have s4:=ok.nb
  have d2:=D.app.le
  have d5:=D.len.1
  have M:=h.n8
  have A0:es.length≤40000:=by
    have:m.n8=es.length:=M
    omega
  obtain⟨Hx,tx⟩:=T Oh
  obtain⟨c1,c2,c3⟩:=I.same
  have n8:x.cP 8=m.cP 8:=c3 8 Om Om Om
  have u:=HK W.GN
  generalize hE:({seq:=(x.cP 9+1)%18446744073709551616,cu:=cu,mono:=mono,bV:=bV,xor:=nU 0 ps,aD:=jK x V}:gI)=E
  have eb:E.bV.length=16:=by subst hE;exact hb
  have ei:E.aD.length=V.length:=by subst hE;simp[jK]
  have G:=I.img.entry (E:=E) (who:=V) eb Oh
  have U:=(iK x (e6 E))
  have H:=fD x (e6 E)
  have X:∀i,i≠6→i≠7→(x.di (e6 E)).2.cP i=x.cP i:=fun i h6 h7=>LZ x _ ⟨h6,h7⟩
  have F:(x.di (e6 E)).2.b=x.b ++ e6 E:=rfl
  have el:=mO E eb
  rcases N:x.di (e6 E)with⟨e,B⟩
  rw[N]at G U H X F
  simp only at G U H X F
  have r:e=x.b.length:=U.1
  subst r
  have K2:Kept x B:=by
    refine Kept.mB I.img.fu (S:=fun _=>False) (by rw[F];exact Eff.app _ _ _) (fun _ hf=>hf.elim) H.1 (by rw[H.2.1]) H.2.2.1 (X 15 Om Om) (X 16 Om Om)
  have y:B.cP 8=(es.map gG.b9).length:=by rw[X 8 Om Om,n8,M,List.length_map]
  have Ba:x.b.length<100000:=by omega
  obtain⟨l3,L⟩:=LQ (x:=x.b.length) G.fu.fH G.main (ul _) (by have:=U.2.1;omega) Oh
  rw[← y]at L
  rcases hk:B.link B.main (B.cP 8) 176 x.b.length with⟨a,t,C⟩
  rw[hk]at L
  simp only at L
  have d:=kI (cu:=cu) (mono:=mono) (bV:=bV) hl Oq h3 hd (by rw[hE];exact N) hk rfl
  obtain⟨t1,t2,t3,t4,t5,t6⟩:=L.same
  have K3:Kept B C:=by
    have O:∀o∈(l1 ++ [(⟨x.b.length,3,64+16*E.aD.length⟩:Ob)]),o∈l3:=fun o N=>by
      rcases L.sub with e1|e1 <;> rw[e1]
      · exact N
      · exact List.mem_append_left _ N
    exact Kept.mB G.fu L.mB (fun a ha=>BI.mono (E1 L.fH ha L.chain.ob (IG L.fH Om)) O) t1 (by rw[t2]) t3 (t6 15 Om Om Om) (t6 16 Om Om Om)
  obtain⟨Y,Z⟩:∃Y,Y=(let m4:=({C with main:=a}:Mk).dV 11 (a.getD 0 0);({m4 with h:={m4.h with er:=jX a%4294967296,eB:=t%4294967296}}:Mk)):=⟨_,rfl⟩
  have J:∀i,i≠11→Y.cP i=C.cP i:=fun i K=>by subst Z;exact bD Oh
  have Ys:Y.b=C.b∧Y.c=C.c∧Y.ai=C.ai∧Y.aj=C.aj∧Y.main=a∧Y.h.n.length=C.h.n.length:=by subst Z;exact⟨rfl,rfl,rfl,rfl,rfl,by simp[Mk.dV]⟩
  rw[← Z]at d
  clear Z
  obtain⟨y1,y2,y3,y4,y5,y6⟩:=Ys
  have K4:Kept C Y:=Kept.same y1 y2 y3 y4 (J 15 Om) (J 16 Om)
  have I3:=G.link L y1 y2 y3 y4 y5 ⟨J 2 Om,J 4 Om⟩ (fun c=>c.to y6 fun i K=>J i Oh)
  have Ah:=L.top
  have f:Y.ai=x.ai:=by rw[y3,t2,H.2.1]
  have Ai:=U.2.1
  have K5:=DC (e:=x.b.length) Oh V Y l3 _ I3 (fun i K=>by rw[f];exact W.lt i K) u (fun i _=>by have:=FM es i;omega) (by rw[y1];omega)
  generalize kW x.b.length V Y=z at *
  replace d:m.append raw cu mono bV=if z.c.bY<z.b.length then(0,15,m)else((x.cP 9+1)%18446744073709551616,0,oh z (B.cP 8) ((x.cP 9+1)%18446744073709551616) cu mono x.b.length bV):=d
  rw[d]at ha
  split at ha
  · have:=congrArg (fun x=>x.2.1) ha;simp at this
  obtain⟨k1,kz2,kz3,kz4,_⟩:=uW z (B.cP 8) ((x.cP 9+1)%18446744073709551616) cu mono x.b.length bV
  have v:=tZ z (B.cP 8) ((x.cP 9+1)%18446744073709551616) cu mono x.b.length bV 15 Om
  have w:=tZ z (B.cP 8) ((x.cP 9+1)%18446744073709551616) cu mono x.b.length bV 16 Om
  obtain⟨_,k⟩:=Prod.mk.inj ha
  have p:=(Prod.mk.inj k).2
  generalize oh z (B.cP 8) ((x.cP 9+1)%18446744073709551616) cu mono x.b.length bV=R at *
  subst p
  have KR:Kept x R:=K2.trans (K3.trans (K4.trans (K5.trans (Kept.same k1 kz2 kz3 kz4 v w))))
  exact⟨Hx.kept KR (Q.trans j),by rw[(XI KR.ds).2.1];exact tx⟩
def NJ (rs:List Rec):List (List UInt8):=rs.flatMap fun r=>r.aj.map ak
theorem JA:∀(n:Nat) (s:Sq) (m:Mk) (l:List Ob) (es:List gG) (rs:List Rec),mh m l es rs→Hs m→m.ai.map aY.cM=GQ [] (NJ rs) →
    Hs (jL n s m rs).1∧(jL n s m rs).1.ai.map aY.cM=GQ [] (NJ (jL n s m rs).2.1)
  | 0,_,_,_,_,_,_,H,ht=>⟨H,ht⟩
  | n+1,s,m,l,es,rs,h,H,ht=>by
    unfold jL
    split
    · have hr:=FT s ((m.cP 9+1)%18446744073709551616)
      rcases hrec:s.record ((m.cP 9+1)%18446744073709551616)with⟨r,s1⟩
      rw[hrec]at hr
      have hk:=(yx m r.aj r.cu r.mono r.bV).2
      rcases ha:m.append r.aj r.cu r.mono r.bV with⟨e,c,m1⟩
      rw[ha]at hk
      simp only[ha]
      split
      · rename_i hc
        have:=hk hc
        simp only at this
        subst this
        exact⟨H,ht⟩
      · rename_i hc
        have hc0:c=0:=Classical.not_not.1 hc
        subst hc0
        obtain⟨l1,es1,g1,g2⟩:=XV h hr.1 hr.2.1 hr.2.2.1 hr.2.2.2 ha
        obtain⟨_,_,fs,hl,_⟩:=HJ h.img h.ok h.h20 hr.2.1 hr.2.2.1 ha
        have hfs:=EA hl hr.2.2.2
        obtain⟨H1,t1⟩:=YB h.img H h.ok hr.2.1 hl ha
        exact JA n s1 m1 l1 es1 _ g1 H1 (by
          rw[t1,ht,hfs];unfold NJ;rw[List.flatMap_append,NU];simp)
    · exact⟨H,ht⟩
theorem acA {c:nZ} {t:Nat} (h1:1≤c.ay∧1≤c.aA):Hs (je c t):=by
  obtain⟨_,G,H⟩:=ag4 (k:=4) (.inl q) c.ay
  obtain⟨_,J,I⟩:=ag4 (k:=5) (.inr q) c.aA
  have E:(je c t).b=List.replicate 272 0 ++ fG 4 (List.replicate c.ay {first:=0,tail:=0}) ++ fG 5 (List.replicate c.aA {first:=0,tail:=0}):=rfl
  have D:(List.replicate 272 (0:UInt8) ++ fG 4 (List.replicate c.ay {first:=0,tail:=0})).length=288+16*c.ay:=by rw[List.length_append,List.length_replicate,G];omega
  have B:(je c t).ai=[]:=rfl
  have A:(je c t).aj=[]:=rfl
  have F:(je c t).c=c:=rfl
  refine⟨⟨by rw[B];simp,fun s C=>?_,by rw[B];simp[iq]⟩,⟨by rw[A];simp,fun s C=>?_,by rw[A];simp[iq]⟩,⟨by rw[A];simp,by rw[B];simp[nX]⟩,by rw[B];simp,by rw[A];simp,by rw[B];simp,by rw[A];simp,by rw[A];simp,by rw[B];simp,by rw[A];simp,?_,?_,by rw[B];simp,by rw[A];simp,?_⟩
  · rw[F]at C
    rw[B,E,uO (by rw[D];omega),iR (by rw[List.length_replicate];omega),List.length_replicate,show 288+16*s-272=16+8*(2*s)by omega,H _ Oh];rfl
  · rw[F]at C ⊢
    rw[A,E,iR Oh,D,show 304+16*c.ay+16*s-(288+16*c.ay)=16+8*(2*s)by omega,I _ Oh];rfl
  · rw[B];show(((((((((List.replicate 20 0).set 0 272).set 2 288).set 3 _).set 4 _).set 5 _).set 6 _).set 7 2).set 9 _).getD 15 0=0;rw[bD Om,bD Om,bD Om,bD Om,bD Om,bD Om,bD Om,bD Om];rfl
  · rw[A];show(((((((((List.replicate 20 0).set 0 272).set 2 288).set 3 _).set 4 _).set 5 _).set 6 _).set 7 2).set 9 _).getD 16 0=0;rw[bD Om,bD Om,bD Om,bD Om,bD Om,bD Om,bD Om,bD Om];rfl
  show(((((((((List.replicate 20 0).set 0 272).set 2 288).set 3 _).set 4 _).set 5 _).set 6 _).set 7 2).set 9 _).length=20;simp only[List.length_set,List.length_replicate]
theorem ac0 {s s':Sq} {bY:Nat} {m:Mk} {rs:List Rec} (h:s.pY bY=(m,rs,s')):Hs m∧m.ai.map aY.cM=GQ [] (NJ rs):=by
  have A:=uS s
  rcases h1:s.config with⟨c,C⟩
  rcases h2:C.cP 6 with⟨t,F⟩
  rw[h1]at A
  have B:=C.kE 6
  rw[h2]at B
  simp only at B A
  simp only[Sq.pY,h1,h2]at h
  obtain⟨D,E,G⟩:=Qk (c:=c) (t:=t) A.1 A.2.1 Oh
  have:=JA bY F (je c t) (rH c) [] [] ⟨D,xh A.1 A.2.1 A.2.2,q,E,q,by simp,List.Pairwise.nil,by simp⟩ (acA A.2.1) q
  rw[h]at this
  exact this
end Go.Wk
namespace Go.Wk
open Go Go.RowKit
theorem acn {m:Mk} {l:List Ob} {es:List gG} {rs:List Rec} {st:Nat} (h:mh m l es rs) (hok:fP.ok m.h) (hst:st≤2) (H:Hs m):Hs {m with b:=mG m st}:=by
  obtain⟨_,_,A⟩:=zx h hok hst
  exact H.kept (Kept.mB (m':={m with b:=mG m st}) h.img.c.fu A (fun a B=>IG h.img.c.fu.fH B) q q q q q) H.h20
theorem ahR {m:Mk} {l:List Ob} (h:Stat m l) {f:aY} (hf:f∈m.aj) (ht:1≤f.cM.length):iV 272 m.b f.b9=({cQ:=eI m f.cM,bT:=fA m.b (f.b9+24),dat:=fA m.b (f.b9+32),ak:=f.cM},0):=by
  have F:=h.fH
  have B:=h.fld f hf
  have A:=F.mem B.ob
  have G:=eO (40+f.cM.length)
  have D:=A.ge
  have E:=A.le
  simp only at D E
  unfold iV
  rw[if_neg Oh]
  have C:=acI (k:=2) (n:=3) A Om Lw q Lw
  simp only at C
  rw[(wH C).2 Oq |>.2]
  rw[show f.b9+16+8*3=f.b9+40 by omega,show 40+f.cM.length-(16+8*3)=f.cM.length by omega,B.cM]
  congr 1
  have e:gX m.b (f.b9+16) 3=[fA m.b (f.b9+16),fA m.b (f.b9+24),fA m.b (f.b9+32)]:=rfl
  rw[e,B.cQ]
  rfl
theorem aax (b:Ly) (p n:Nat):jv (seg b p (16*n)) 0 n=jv b p n:=by
  unfold jv
  refine List.map_congr_left fun i A=>?_
  rw[List.mem_range]at A
  rw[kr,kr,kr,kr,ND Oh,ND Oh]
  simp only[Nat.zero_add,Nat.add_assoc]
theorem zL {b:Ly} {p n s:Nat} (h:s<n):(jv b p n)[s]? = some {first:=fA b (p+16*s),tail:=fA b (p+16*s+8)}:=by
  unfold jv;rw[List.getElem?_map,List.getElem?_range h];rfl
section
variable {m:Mk} {B:Ly} {H:bS} {l:List Ob} {es:List gG} {rs:List Rec}
theorem UO (op:ji m B H l es) {p k n:Nat} (ho:(⟨p,k,16+16*n⟩:Ob)∈l) (hk:(k:Int)=4∨(k:Int)=5) (hn:1≤n):jg B p (k:Int)=(jv B (p+16) n,0):=by
  have D:=op.img.fu.fH.mem ho
  have E:=eO (16+16*n)
  have A:=D.le
  simp only at A
  have C:=VD (k:=k) (ahead:=0) (iJ:=16) D Om (by show p+(16+16*n)≤B.length;exact ly Oh A) q Lw Lw
  simp only at C
  refine aeh hk C Oq ?_
  rw[show 16+16*n-16=16*n by omega,XQ (by exact ly Oh A),show 16*n/16=n by omega]
  exact(aax B (p+16) n).symm
theorem ahu (im:mh m l es rs) (op:ji m B H l es):nA H.n B 4=(jv B 288 m.c.ay,0):=by
  have D:=op.img.fu.slots.1
  have E:=UO op (k:=4) op.img.fu.zV (.inl q) D
  have A:H.n.getD 2 0=288:=(op.n 2 Om Om).trans im.img.c.fu.n2
  have C:H.n.getD 3 0=16*m.c.ay:=(op.n 3 Om Om).trans im.hd.n3
  unfold nA
  rw[if_pos q,if_pos q,A,C]
  have ho':jg B (288-16) 4=(jv B 288 m.c.ay,0):=E
  rw[ho']
  rw[if_neg Oq,if_neg (by simp only[me];omega)]
theorem ahv (im:mh m l es rs) (op:ji m B H l es):nA H.n B 5=(jv B (304+16*m.c.ay) m.c.aA,0):=by
  have D:=op.img.fu.slots.2
  have E:=UO op (k:=5) op.img.fu.GA (.inr q) D
  have A:H.n.getD 4 0=304+16*m.c.ay:=(op.n 4 Om Om).trans im.img.c.fu.n4
  have C:H.n.getD 5 0=16*m.c.aA:=(op.n 5 Om Om).trans im.hd.n5
  unfold nA
  rw[if_neg (show ¬(5:Int)=4 by decide),if_neg (show ¬(5:Int)=4 by decide),A,C]
  have ho':jg B (304+16*m.c.ay-16) 5=(jv B (304+16*m.c.ay) m.c.aA,0):=by
    rw[show 304+16*m.c.ay-16=288+16*m.c.ay by omega,show 304+16*m.c.ay=288+16*m.c.ay+16 by omega];exact E
  rw[ho']
  rw[if_neg Oq,if_neg (by simp only[me];omega)]
end
structure UX (nx cd:Nat→Nat) (len:Nat) (L:List Nat):Prop where
  GN:L.Pairwise (· < ·)
  ok:∀p∈L,p≠0∧p<len∧cd p=0
  nx:∀j p:Nat,L[j]? = some p→nx p=L.getD (j+1) 0
section
variable {nx cd:Nat→Nat} {is:Nat→Bool} {len:Nat} {L:List Nat}
theorem O3 (h:UX nx cd len L):∀(d j a:Nat),L.length-j=d→(∀p,L[j]? = some p→a<p)→KV nx cd len (L.getD j 0) a (L.take j)=(L,0)
  | 0,j,a,hd,_=>by
    rw[IK Oh,abh (.inl rfl),List.take_of_length_le Oh]
  | d+1,j,a,hd,ha=>by
    obtain⟨p,hp⟩:∃p,L[j]? = some p:=⟨_,List.getElem?_eq_getElem Oh⟩
    have ep:L.getD j 0=p:=by rw[List.getD_eq_getElem?_getD,hp];rfl
    obtain⟨C,D,B⟩:=h.ok p (List.mem_of_getElem? hp)
    have:=ha p hp
    rw[ep,agP Oh Oh B (h.nx j p hp),show L.take j ++ [p]=L.take (j+1)by rw[List.take_add_one,hp];rfl]
    exact O3 h d (j+1) p Oh fun q A=>KS h.GN hp A Oh
theorem abg (h:UX nx cd len L):KV nx cd len (L.getD 0 0) 0 []=(L,0) :=
  O3 h L.length 0 0 Oh fun p hp=>Nat.pos_of_ne_zero (h.ok p (List.mem_of_getElem? hp)).1
end
section
variable {m:Mk} {B:Ly} {H:bS} {l:List Ob} {es:List gG} {rs:List Rec}
theorem aiU (im:mh m l es rs) (hs:Hs m):(∀k∈m.ai,1≤k.cM.length)∧∀f∈m.aj,1≤f.cM.length:=by
  refine⟨fun k hk=>uK im.img.txt hk,fun f C=>?_⟩
  obtain⟨k,hk,e⟩:=hs.bear f C
  obtain⟨q,A,B⟩:=im.img.txt k hk
  unfold right at A
  simp only[Bool.and_eq_true]at A
  rw[← e,B,yH (LV A.1)]
  have:=A.1
  unfold fC at this
  simp only[Bool.and_eq_true,decide_eq_true_eq]at this
  exact this.1.1.1
theorem LB (im:mh m l es rs) (op:ji m B H l es) {k:aY} (hk:k∈m.ai):∃d:gQ,gB 272 B k.b9=(d,0)∧d.cQ=eI m k.cM∧d.bT=fA B (k.b9+24)∧d.eH=fA B (k.b9+32)∧d.ak=k.cM:=by
  obtain⟨i,A⟩:=List.mem_iff_getElem?.1 hk
  exact⟨_,S6 op.img A (uK im.img.txt hk),q,q,q,q⟩
theorem AH (im:mh m l es rs) (op:ji m B H l es) (hs:Hs m) {f:aY} (hf:f∈m.aj):∃d:jw,iV 272 B f.b9=(d,0)∧d.cQ=eI m f.cM∧d.bT=fA B (f.b9+24)∧d.dat=fA B (f.b9+32)∧d.ak=f.cM :=
  ⟨_,ahR (m:={m with b:=B}) op.img.fu hf ((aiU im hs).2 f hf),q,q,q,q⟩
theorem ae7 (im:mh m l es rs) (op:ji m B H l es) (hs:Hs {m with b:=B}) (s:Nat):UX (tr (H.n.getD 0 0) B 4) (uy (H.n.getD 0 0) B 4) B.length (iq m.ai s):=by
  have E:=op.img.fu.dd.1
  refine⟨hs.a4.sublist (yV m.ai s),fun p A=>?_,fun j p A=>?_⟩
  · obtain⟨k,hk,rfl,_⟩:=l7 A
    have:=E k hk
    obtain⟨d,C,_⟩:=LB im op hk
    refine⟨by omega,by have F:k.b9+40≤B.length:=this.2;omega,?_⟩
    rw[xj im op];unfold uy;rw[if_pos q,C]
  obtain⟨k,hk,rfl,_⟩:=l7 (List.mem_of_getElem? A)
  obtain⟨d,C,_,D,_⟩:=LB im op hk
  rw[xj im op];unfold tr;rw[if_pos q,C]
  exact D.trans (hs.r4.next s j _ A)
theorem ae8 (im:mh m l es rs) (op:ji m B H l es) (hs:Hs {m with b:=B}) (hm:Hs m) (s:Nat):UX (tr (H.n.getD 0 0) B 5) (uy (H.n.getD 0 0) B 5) B.length (iq m.aj s):=by
  have E:=op.img.fu.dd.2.1
  refine⟨hs.a5.sublist (yV m.aj s),fun p A=>?_,fun j p A=>?_⟩
  · obtain⟨k,hk,rfl,_⟩:=l7 A
    have:=E k hk
    obtain⟨d,C,_⟩:=AH im op hm hk
    refine⟨by omega,by have F:k.b9+40≤B.length:=this.2;omega,?_⟩
    rw[xj im op];unfold uy;rw[if_neg Om,C]
  obtain⟨k,hk,rfl,_⟩:=l7 (List.mem_of_getElem? A)
  obtain⟨d,C,_,D,_⟩:=AH im op hm hk
  rw[xj im op];unfold tr;rw[if_neg Om,C]
  exact D.trans (hs.r5.next s j _ A)
theorem ah6 (im:mh m l es rs) (op:ji m B H l es) (hs:Hs {m with b:=B}) {s:Nat} (h:s<m.c.ay):pP H.n B 4 (s:Int)=(iq m.ai s,0):=by
  have A:=abg (ae7 im op hs s)
  have C:fA B (288+16*s)=(iq m.ai s).getD 0 0:=hs.r4.head s h
  rw[← C]at A
  exact(AB (cF:=(s:Int)) (t:={first:=fA B (288+16*s),tail:=fA B (288+16*s+8)}) (ahu im op) q Oh (by rw[Int.toNat_natCast];exact zL h) A).trans (if_neg Oq)
theorem ah7 (im:mh m l es rs) (op:ji m B H l es) (hs:Hs {m with b:=B}) (hm:Hs m) {s:Nat} (h:s<m.c.aA):pP H.n B 5 (s:Int)=(iq m.aj s,0):=by
  have A:=abg (ae8 im op hs hm s)
  have C:fA B (304+16*m.c.ay+16*s)=(iq m.aj s).getD 0 0:=hs.r5.head s h
  rw[← C]at A
  exact(AB (cF:=(s:Int)) (t:={first:=fA B (304+16*m.c.ay+16*s),tail:=fA B (304+16*m.c.ay+16*s+8)}) (ahv im op) q Oh (by rw[Int.toNat_natCast];exact zL h) A).trans (if_neg Oq)
end
end Go.Wk
namespace Go.Wk
open Go Go.RowKit
theorem VH {b:Ly}:∀{l:List Ob} {p e:Nat} (o k:List Nat),gd b p l e→p%8=0→e=b.length→HV b p o k=((o ++ l.map Ob.b9,k ++ l.map Ob.kind),0)
  | [],p,e,o,k,h,_,he=>by
    have:p=e:=h
    rw[abx Oh];simp
  | x :: r,p,e,o,k,h,hp,he=>by
    have hm:=gd.mem h (List.mem_cons_self ..)
    have hle:=hm.le
    have hu:=eO x.size
    have hf:=r6 hm hp Oh
    have hx:x.b9=p:=h.1
    rw[hx]at hf
    have h16:=hm.size.1
    have h2:gd b (p+mI x.size) r e:=h.2.2.2.2.2.2
    have hu8:mI x.size=(x.size+7)/8*8:=rfl
    rw[agQ Oh hf Oq,VH _ _ h2 Oh he,List.map_cons,List.map_cons,hx]
    simp
section
variable {m:Mk} {B:Ly} {H:bS} {l:List Ob} {es:List gG} {rs:List Rec} {o:Ob} {i:Nat} {v:UInt8}
end
section
variable {x:Ly} {j:Nat} {v w:UInt8} {e:gI}
end
section
variable {m:Mk} {B:Ly} {H:bS} {l:List Ob} {es:List gG} {rs:List Rec} {o:Ob} {i:Nat} {v w:UInt8}
end
end Go.Wk
namespace Go.Proofs.YtmobbnpkkmeoiaaGreat
open Go Go.Wk Go.RowKit
theorem WI {C:Ly} {H:bS} {l:List Ob} (h:lS C=(some {b:=C,h:=H},0)) (hO:gd C 272 l C.length) (h0:H.n.getD 0 0=272) :
    ckC C=0∧oW C={b:=C,v:={b:=C,h:=H},h:=H,ats:=l.map Ob.b9,kinds:=l.map Ob.kind}:=by
  have e:=VH [] [] hO Om q
  rw[List.nil_append,List.nil_append]at e
  refine⟨?_,?_⟩
  · unfold ckC;rw[h];simp only[ne_eq,not_true_eq_false,if_false];rw[h0,e]
  unfold oW;rw[h];simp only;rw[h0,e]
section
variable {m:Mk} {B:Ly} {H:bS} {l:List Ob} {es:List gG} {rs:List Rec} {o:Ob} {i:Nat} {v w:UInt8}
theorem acJ (op:ji m B H l es):2≤l.length:=by
  have A:=op.img.fu.zV
  have C:=op.img.fu.GA
  rcases l with _|⟨x,_|⟨y,r⟩⟩
  · simp at A
  · rw[List.mem_singleton]at A C
    rw[← C]at A
    have:=congrArg Ob.kind A
    simp at this
  simp
end
end Go.Proofs.YtmobbnpkkmeoiaaGreat
namespace Go.Wk
open Go Go.RowKit
section
variable {m:Mk} {B:Ly} {H:bS} {l:List Ob} {es:List gG} {rs:List Rec} {o:Ob}
theorem aix (im:mh m l es rs) (op:ji m B H l es) (ho:o∈l) (hk:o.kind=1):HT {b:=B,h:=H} o.b9=0:=by
  obtain⟨C,A,E⟩:=op.img.fu.all o ho hk
  obtain⟨J,D⟩:=List.mem_iff_getElem?.1 A
  have F:=uK im.img.txt A
  obtain⟨q,G,I⟩:=im.img.txt C A
  have h:=TH op.img D F
  have e:vA (decide (H.bX &&& 4≠0)) H.dh (H.n.getD 0 0) B o.b9=(ak q,0):=by
    rw[wW op.key,op.dh,xj im op,← E,← I]
    unfold vA
    have h':iZ m.c.dS m.c.dh 272 B C.b9=_:=h
    rw[h'];rfl
  exact(BZ (q:=q) (d:=0) e).2 rfl (FZ G)
theorem aiz (im:mh m l es rs) (op:ji m B H l es) (hs:Hs m) (ho:o∈l) (hk:o.kind=2):zo {b:=B,h:=H} o.b9=0:=by
  obtain⟨f,D,I⟩:=op.img.fu.RS o ho hk
  obtain⟨d,E,F,_,_,C⟩:=AH im op hs D
  obtain⟨k,hk,G⟩:=hs.bear f D
  obtain⟨q,K,L⟩:=im.img.txt k hk
  have A:fC q.name=true:=by
    have:=K
    unfold right at this
    simp only[Bool.and_eq_true]at this
    exact this.1
  have J:fC f.cM=true:=by rw[← G,L,yH (LV A)];exact A
  have e:iV (H.n.getD 0 0) B o.b9=(d,0):=by rw[xj im op,← I];exact E
  refine(tL (v:={b:=B,h:=H}) e).2.2.1 rfl ?_ (by rw[C];exact J)
  show d.cQ=eu (decide (H.bX &&& 4≠0)) H.dh d.ak
  rw[wW op.key,op.dh,F,C];rfl
theorem aiy (im:mh m l es rs) (op:ji m B H l es) (ho:o∈l) (hk:o.kind=3):(iv (H.n.getD 0 0) B o.b9).2=0:=by
  have C:o.b9∈(l.filter fun o=>decide (o.kind=3)).map Ob.b9:=List.mem_map.2 ⟨o,List.mem_filter.2 ⟨ho,decide_eq_true hk⟩,q⟩
  rw[op.img.kin]at C
  obtain⟨g,A,E⟩:=List.mem_map.1 C
  have F:vu {m with b:=B} g:=(im.img.who g A).bytes q q
  have D:iv 272 B g.b9=(g.ent,0):=S7 op.img F A (by have:=im.ok.small;have:=op.len;show B.length<_;omega)
  rw[xj im op,← E,D]
theorem Si {n:List Nat} {b:Ly} {k:Int} {c:Nat→List Nat}:∀(d i:Nat) (o:List (List Nat)),(∀s,i≤s→s<i+d→pP n b k ((s:Nat):Int)=(c s,0))→OB n b k d i o=(o ++ (List.range' i d).map c,0)
  | 0,_,o,_=>by simp[OB]
  | d+1,i,o,h=>by
    rw[OB,h i (Nat.le_refl _) Oh]
    simp only[ne_eq,not_true_eq_false,if_false]
    rw[Si d (i+1) _ fun s h1 h2=>h s Oh Oh]
    simp[List.range'_succ]
theorem abw (im:mh m l es rs) (op:ji m B H l es) (hB:Hs {m with b:=B}) (hs:Hs m) :
    nD H.n B 4=((List.range m.c.ay).map (iq m.ai),0)∧nD H.n B 5=((List.range m.c.aA).map (iq m.aj),0):=by
  refine⟨?_,?_⟩
  · rw[tO (ahu im op) q,me,Si _ _ _ (c:=iq m.ai) fun s _ h=>ah6 im op hB Oh,List.nil_append,List.range_eq_range']
  rw[tO (ahv im op) q,me,Si _ _ _ (c:=iq m.aj) fun s _ h=>ah7 im op hB hs Oh,List.nil_append,List.range_eq_range']
theorem IW {n h p:Nat} {c:Nat→List Nat} (hn:1≤n) (hp:p∈c (h%n)):inF ((List.range n).map c) h p=true:=by
  unfold inF
  rw[List.length_map,List.length_range,List.getD_eq_getElem?_getD,List.getElem?_map,List.getElem?_range (Nat.mod_lt _ Oh)]
  exact decide_eq_true hp
theorem ahf (im:mh m l es rs) (op:ji m B H l es) (hs:Hs m):∀(a:List Ob),(∀o∈a,o∈l)→sj {b:=B,h:=H} ((List.range m.c.ay).map (iq m.ai)) ((List.range m.c.aA).map (iq m.aj)) (a.map Ob.b9) (a.map Ob.kind)=(0,0)
  | [],_=>rfl
  | o :: r,h=>by
    have ho:=h o Oq
    have ih:=ahf im op hs r fun x hx=>h x (by simp[hx])
    have sl:=op.img.fu.slots
    rw[List.map_cons,List.map_cons,sj]
    split
    · rename_i hk
      obtain⟨kd,hkd,hp⟩:=op.img.fu.all o ho hk
      obtain⟨d,d1,d2,_⟩:=LB im op hkd
      have e:(gB (H.n.getD 0 0) B o.b9).1.cQ=eI m kd.cM:=by rw[xj im op,← hp,d1];exact d2
      rw[if_pos (by show inF _ (gB (H.n.getD 0 0) B o.b9).1.cQ _=true;rw[e];exact IW sl.1 (by rw[← hs.s4 kd hkd,← hp];exact RA hkd))]
      exact ih
    · split
      · rename_i hk
        obtain⟨f,A,hp⟩:=op.img.fu.RS o ho hk
        obtain⟨d,d1,d2,_⟩:=AH im op hs A
        have e:(iV (H.n.getD 0 0) B o.b9).1.cQ=eI m f.cM:=by rw[xj im op,← hp,d1];exact d2
        rw[if_pos (by show inF _ (iV (H.n.getD 0 0) B o.b9).1.cQ _=true;rw[e];exact IW sl.2 (by rw[← hs.s5 f A,← hp];exact RA A))]
        exact ih
      · exact ih
theorem OI {s:Nat} {b:Ly} {p:Nat}:∀(a:List kV),(∀x∈a,(NR s b x.b9).2=0∧p∈(NR s b x.b9).1)→pR s b p a=0
  | [],_=>rfl
  | x :: r,h=>by
    obtain⟨h1,h2⟩:=h x Oq
    rw[pR,if_neg (by simp[h1]),if_pos h2]
    exact OI r fun y hy=>h y (by simp[hy])
theorem akj (im:mh m l es rs) (op:ji m B H l es) {g:gG} (hg:g∈es):KZ {b:=B,h:=H} g.b9=0:=by
  have D:vu {m with b:=B} g:=(im.img.who g hg).bytes q q
  have J:iv 272 B g.b9=(g.ent,0):=S7 op.img D hg (by have:=im.ok.small;have:=op.len;show B.length<_;omega)
  have e:iv (H.n.getD 0 0) B g.b9=(g.ent,0):=by rw[xj im op];exact J
  rw[AF (v:={b:=B,h:=H}) e]
  refine OI _ fun x I=>?_
  rw[D.aD]at I
  obtain⟨j,G,rfl⟩:=List.mem_map.1 I
  have L:j<m.ai.length:=D.lt j G
  have hk:m.ai[j]? = some m.ai[j]:=List.getElem?_eq_getElem L
  have C:=List.mem_of_getElem? hk
  have M:gZ m.ai j=(m.ai[j]).b9:=(ql hk).2
  obtain⟨i,N,K,E,_,F⟩:=ab3 im op (op.img.fu.data _ C).ob q
  simp only at E F
  have A:i=j:=op.img.fu.one i j N _ K hk (.inl E)
  subst A
  show(NR (H.n.getD 0 0) B (gZ m.ai i)).2=0∧g.b9∈(NR (H.n.getD 0 0) B (gZ m.ai i)).1
  rw[M,F]
  exact⟨q,List.mem_map.2 ⟨g,List.mem_filter.2 ⟨hg,decide_eq_true G⟩,q⟩⟩
theorem abn {v:eW}:∀(ps:List Nat) (qs:List Rec) (i f k:Nat),ps.length=qs.length→(∀(j p:Nat) (r:Rec),ps[j]? = some p→qs[j]? = some r→(zT v p).2=0∧(zT v p).1.seq=r.seq∧KZ v p=0)→(∀r∈qs,k<r.seq)→(qs.Pairwise fun a b=>a.seq<b.seq) →
    NP v ps i f k=((0,0),(if i=0 then(qs.head?.map Rec.seq).getD f else f),(qs.getLast?.map Rec.seq).getD k)
  | [],[],i,f,k,_,_,_,_=>by simp[NP]
  | [],_ :: _,_,_,_,h,_,_,_=>by simp at h
  | _ :: _,[],_,_,_,h,_,_,_=>by simp at h
  | p :: ps,r :: qs,i,f,k,hl,h,hk,hs=>by
    obtain⟨h1,h2,h3⟩:=h 0 p r q q
    have hkr:=hk r Oq
    rw[List.pairwise_cons]at hs
    rw[NP,if_neg (by simp[h1]),if_neg Oh,if_neg (by simp[h3]),h2,abn ps qs (i+1) _ _ (by simpa using hl) (fun j p' r' hp hr=>h (j+1) p' r' (by simpa using hp) (by simpa using hr)) hs.1 hs.2]
    have hlast:(qs.getLast?.map Rec.seq).getD r.seq=((r :: qs).getLast?.map Rec.seq).getD k:=by
      cases qs with
      | nil=>simp
      | cons y t=>rw[List.getLast?_cons_cons];cases hq:(y :: t).getLast? with
        | none=>simp at hq
        | some z=>rfl
    rw[hlast,if_neg Oh]
    rfl
theorem afb (im:mh m l es rs) (op:ji m B H l es) (h10:m.cP 10=(rs.head?.map Rec.seq).getD 0):tK {b:=B,h:=H} H.n=(0,0):=by
  have F:YP {b:=B,h:=H}=(es.map gG.b9,0):=abK im op
  have I:=abn (v:={b:=B,h:=H}) (es.map gG.b9) rs 0 0 0 (by rw[List.length_map];exact im.len) (fun j p r C D=>by
    obtain⟨y,J,_,K,_⟩:=agl im op C D
    have e:zT {b:=B,h:=H} p=(y,0):=J
    rw[List.getElem?_map]at C
    obtain⟨g,G,rfl⟩:=Option.map_eq_some_iff.1 C
    exact⟨by rw[e],by rw[e];exact K,akj im op (List.mem_of_getElem? G)⟩) (fun r D=>(im.top r D).1) im.rise
  rw[ni F q I]
  unfold vE
  rw[if_neg Oq,if_neg]
  simp only[if_true]
  have A:H.n.getD 10 0=m.cP 10:=op.n 10 Om Om
  have E:H.n.getD 9 0=m.cP 9:=op.n 9 Om Om
  rw[A,E,h10]
  intro h
  rcases h with h|h
  · exact h q
  cases hq:rs.getLast? with
  | none=>rw[hq]at h;simp at h
  | some z =>
    rw[hq]at h
    have:=(im.top z (List.mem_of_getLast? hq)).2
    simp only[Option.map_some,Option.getD_some]at h
    omega
end
end Go.Wk
namespace Go.Proofs.YtmobbnpkkmeoiaaGreat
open Go Go.Wk Go.RowKit
theorem JH {b:Ly}:∀{l:List Ob} {p e i:Nat} {o:Ob},gd b p l e→l[i]? = some o→(∀o',l[i+1]? = some o'→o'.b9=o.b9+mI o.size)∧(i+1=l.length→o.b9+mI o.size=e)
  | [],_,_,_,_,_,h=>by simp at h
  | x :: r,p,e,i,o,h,hi=>by
    have hx:x.b9=p:=h.1
    have h2:gd b (p+mI x.size) r e:=h.2.2.2.2.2.2
    cases i with
    | zero =>
      simp at hi;subst hi
      refine⟨fun o' ho=>?_,fun hl=>?_⟩
      · cases r with
        | nil=>simp at ho
        | cons y t =>
          simp at ho;subst ho
          rw[hx];exact h2.1
      · cases r with
        | nil=>rw[hx];exact h2
        | cons y t=>simp at hl
    | succ i =>
      obtain⟨k1,kz2⟩:=JH h2 (by simpa using hi)
      exact⟨fun o' ho=>k1 o' (by simpa using ho),fun hl=>kz2 (by simpa using hl)⟩
theorem TB {b:Ly} {l:List Ob} {p e:Nat} {o:Ob} (h:gd b p l e) (ho:l[0]? = some o):o.b9=p:=by
  cases l with
  | nil=>simp at ho
  | cons x r=>simp at ho;subst ho;exact h.1
theorem CQ {l:List Ob} {ks:List aY} {k:Nat} (h1:(l.map Ob.b9).Nodup) (h2:(ks.map aY.b9).Nodup) (h3:∀o∈l,o.kind=k→∃x∈ks,x.b9=o.b9) (h4:∀x∈ks,∃o∈l,o.kind=k∧o.b9=x.b9):(l.filter fun o=>decide (o.kind=k)).length=ks.length:=by
  have B:((l.filter fun o=>decide (o.kind=k)).map Ob.b9).Perm (ks.map aY.b9):=by
    refine(List.perm_ext_iff_of_nodup ((List.filter_sublist.map _).nodup h1) h2).2 fun p=>?_
    simp only[List.mem_map,List.mem_filter,decide_eq_true_eq]
    constructor
    · rintro⟨o,⟨A,hk⟩,rfl⟩;exact h3 o A hk
    · rintro⟨x,C,rfl⟩
      obtain⟨o,a,b,c⟩:=h4 x C
      exact⟨o,⟨a,b⟩,c⟩
  have:=B.length_eq
  simpa using this
theorem tX (k:Nat) (l:List Ob):qq k (l.map Ob.kind)=(l.filter fun o=>decide (o.kind=k)).length:=by
  unfold qq
  rw[List.filter_map,List.length_map];rfl
theorem EO {b:Ly}:∀{l:List Ob} {p e:Nat},gd b p l e→(l.map Ob.b9).Pairwise (· < ·)∧∀o∈l,p≤o.b9
  | [],_,_,_=>⟨List.Pairwise.nil,by simp⟩
  | x :: r,p,e,h=>by
    have hx:x.b9=p:=h.1
    have h2:gd b (p+mI x.size) r e:=h.2.2.2.2.2.2
    have h16:16≤x.size:=(h.mem (o:=x) Oq).size.1
    have hu:=eO x.size
    obtain⟨k1,kz2⟩:=EO h2
    refine⟨?_,fun o ho=>?_⟩
    · rw[List.map_cons,List.pairwise_cons]
      refine⟨fun q hq=>?_,k1⟩
      obtain⟨o,ho,rfl⟩:=List.mem_map.1 hq
      have:=kz2 o ho;omega
    · rcases List.mem_cons.1 ho with rfl|ho
      · omega
      · have:=kz2 o ho;omega
theorem QB {b:Ly}:∀{l:List Ob} {p e:Nat},gd b p l e→p+16*l.length≤e
  | [],p,e,h=>by have:p=e:=h;simp;omega
  | x :: r,p,e,h=>by
    have h2:gd b (p+mI x.size) r e:=h.2.2.2.2.2.2
    have h16:16≤x.size:=(h.mem (o:=x) Oq).size.1
    have hu:=eO x.size
    have:=QB h2
    simp only[List.length_cons];omega
section
variable {m:Mk} {B:Ly} {H:bS} {l:List Ob} {es:List gG} {rs:List Rec}
theorem ai0 (im:mh m l es rs) (op:ji m B H l es) (hs:Hs m) {o:Ob} (ho:o∈l):qB B {b:=B,h:=H} o.b9 o.kind=0:=by
  have hk:=op.img.fu.cn.k o ho
  have C:=op.img.fu.fH.mem ho
  have G:=C.ge
  have A:=C.le
  have J:=C.size
  have K:=eO o.size
  unfold qB
  split
  · rename_i h1;exact aix im op ho h1
  split
  · rename_i h1;exact aiz im op hs ho h1
  split
  · rename_i h1;exact aiy im op ho h1
  split
  · rename_i h1
    obtain⟨r,E,D⟩:=hk.2.1 h1
    have F:=r6 C Om (by show _≤B.length;have I:o.b9+mI o.size≤B.length:=A;omega)
    show(iQ (H.n.getD 0 0) B o.b9).2=0
    rw[xj im op]
    unfold iQ
    have I:o.b9+mI o.size≤B.length:=A
    rw[if_neg Oh]
    unfold kG
    rw[show ey B o.b9=_ from F]
    simp only
    rw[if_neg Oq,if_neg Oh,if_neg Oh]
  split
  · rename_i h1
    obtain⟨r,E,D⟩:=hk.2.2 h1
    have e:o=⟨o.b9,o.kind,16+16*r⟩:=by cases o;simp only at D;subst D;rfl
    have ho':(⟨o.b9,o.kind,16+16*r⟩:Ob)∈l:=e ▸ ho
    rw[UO op ho' Oh E]
  rfl
theorem VF (im:mh m l es rs) (op:ji m B H l es) (hs:Hs m):∀(a:List Ob),(∀o∈a,o∈l)→tN B {b:=B,h:=H} (a.map Ob.b9) (a.map Ob.kind)=(0,0)
  | [],_=>rfl
  | o :: r,h=>by
    rw[List.map_cons,List.map_cons,tN,if_neg (by simp[ai0 im op hs (h o Oq)])]
    exact VF im op hs r fun x hx=>h x (by simp[hx])
theorem ahD (im:mh m l es rs) (op:ji m B H l es) (hs:Hs m):mL H.n (l.map Ob.b9) (l.map Ob.kind)=true∧H.n.getD 7 0=l.length∧H.n.getD 6 0=wA (l.map Ob.b9):=by
  have A:=im.img.c.fu.cn
  have M:=im.img.c.fu.fH
  have Q:=im.ok.small
  have R:=QB M
  obtain⟨O,_⟩:=EO M
  have C:(l.map Ob.b9).Nodup:=O.imp fun h e=>by subst e;exact Nat.lt_irrefl _ h
  have D:∀{ks:List aY},(ks.map aY.b9).Pairwise (· < ·)→(ks.map aY.b9).Nodup:=fun h=>h.imp fun h e=>by subst e;exact Nat.lt_irrefl _ h
  have K:H.n.getD 6 0=wA (l.map Ob.b9):=(op.n 6 Om Om).trans A.n6
  have L:H.n.getD 7 0=l.length:=(op.n 7 Om Om).trans (A.n7.trans (Nat.mod_eq_of_lt Oh))
  have N:H.n.getD 8 0=qq 3 (l.map Ob.kind):=by
    have h:=congrArg List.length im.img.c.kin
    rw[List.length_map,List.length_map]at h
    rw[tX,h]
    exact(op.n 8 Om Om).trans im.img.n8
  have E:H.n.getD 15 0=qq 1 (l.map Ob.kind):=by
    rw[tX,CQ C (D hs.a4) im.img.c.fu.all fun x J=>⟨_,(im.img.c.fu.data x J).ob,q,q⟩]
    exact(op.n 15 Om Om).trans hs.n15
  have F:H.n.getD 16 0=qq 2 (l.map Ob.kind):=by
    rw[tX,CQ C (D hs.a5) im.img.c.fu.RS fun x J=>⟨_,(im.img.c.fu.fld x J).ob,q,q⟩]
    exact(op.n 16 Om Om).trans hs.n16
  have G:H.n.getD 17 0=qq 7 (l.map Ob.kind):=by
    rw[tX,List.filter_eq_nil_iff.2 fun o P=>by simpa using (A.k o P).1]
    exact(op.n 17 Om Om).trans A.n17
  have I:H.n.getD 18 0=qq 6 (l.map Ob.kind):=by
    have S:=List.length_filter_le (fun o:Ob=>decide (o.kind=6)) l
    rw[tX]
    exact(op.n 18 Om Om).trans (A.n18.trans (Nat.mod_eq_of_lt Oh))
  refine⟨?_,L,K⟩
  unfold mL
  rw[List.length_map,K,L,N,E,F,G,I]
  simp
theorem TV (im:mh m l es rs) (op:ji m B H l es) (hs:Hs m) (hB:Hs {m with b:=B}):ckF B=(0,0)∧H.n.getD 7 0=l.length∧H.n.getD 6 0=wA (l.map Ob.b9):=by
  obtain⟨A,C,D⟩:=ahD im op hs
  refine⟨?_,C,D⟩
  obtain⟨_,lk⟩:=WI op.opn op.img.fu.fH (xj im op)
  have t:=abw im op hB hs
  unfold ckF
  rw[lk]
  simp only
  rw[VF im op hs l (fun _ h=>h),A,if_neg Oq,if_neg Oq,wN (v:={b:=B,h:=H}) t.1 q t.2 q,ahf im op hs l (fun _ h=>h),if_neg Oq]
  refine afb im op ?_
  rw[im.img.n10]
  cases es with
  | nil =>
    have h:=im.len
    cases rs with
    | nil=>rfl
    | cons y t=>simp at h
  | cons x r =>
    have h:=im.len
    cases rs with
    | nil=>simp at h
    | cons y t =>
      show x.ent.seq=y.seq
      exact(im.rcd 0 x y q q).seq
end
attribute [local irreducible] wpList wpQuiet wpStill ic Code.wp Calls bodyPost
theorem fn5:dZ Zp 5=true:=Ym
set_option maxHeartbeats 16000000 in
set_option maxRecDepth 100000 in
theorem BX {w:World} {Q:Nat→Prop} (uQ:Up w Q) {v0:Value} {l:List Int} (h0:Ls qw w Q v0 l) :
  Calls Zp 3 #[v0] w fun en w'=>∃r0:Bool,en = .returned (.bool r0)∧Md [] w w'∧true=r0:=by
 have L0:=h0.gm;have M:=Md.refl [] w;have Es:=uQ;have tQ:∀b,Q b→Q b:=fun _ h=>h;have S:∀b,Q b→b<w.heap.size→Q b:=fun _ h _=>h;refine enter (n:=139) Tryz.func3 q q q fun B=>ns (an q (ns (ax fn5 q (OH uQ) ?_)));rintro en w1 ⟨c,rfl,I,Be⟩;refine rv ?_;obtain⟨h0,uQ,M⟩:=k3 I h0 uQ M;refine an q (aP (nm q (st _ (j7 q) (nt ?_))));refine cA q (fun A9=>?_) (fun A9=>?_)
 ·(have Aj:=AA A9);exfalso;(rw[← Be]at Aj;cases Aj;done)
 (have Aj:=zZ A9);refine bh (au (aP (nm q (sL q oF h0.eJ (st _ (mC (a:=l.length) (b:=200) q q) (nt ?_))))));refine cA q (fun Ba=>?_) (fun Ba=>?_)
 ·(have Bq:=dT Ba);refine nm q (ar q (aX ?_));exact dP (v:=(.bool c)) trivial q ⟨q,tV⟩ ⟨c,q,M,(by exact Be)⟩
 (have Bq:=dF Ba);refine bh (au (nm q (ax fn6 q (zB uQ h0 20 Om) ?_)));rintro en w2 ⟨u2,r2,rfl,I,D,Ea,Eo,Ep,B6,Cb,B4,D6⟩;refine rv ?_;obtain⟨uQ,M⟩:=k2 I uQ M;obtain⟨lo,es,im,D9⟩:=ac1 B6;have d:=opened im Cb.2.1 (st:=1) Om;rw[B4]at d;have Ed:=d.len;refine an q (ns ?_);obtain⟨Ci,Bh⟩:=WI d.opn d.img.fu.fH (xj im d);have Ca:=(ac0 B6).1;have B9:=acn (st:=1) im Cb.2.1 Om Ca;rw[B4]at B9;obtain⟨Dd,De,Ck⟩:=TV im d Ca B9;have Er:=acJ d;have Ec:272+lo.length≤r2.length:=QC d.img.fu.fH;have D7:=(d.n 2 Om Om).trans d.img.fu.n2;have D8:=(d.n 4 Om Om).trans d.img.fu.n4;have Df:16≤(oW r2).v.h.n.getD 2 0:=(by rw[Bh];show 16≤(iN r2).n.getD 2 0;omega);have Dg:16≤(oW r2).v.h.n.getD 4 0:=(by rw[Bh];show 16≤(iN r2).n.getD 4 0;omega);refine mv q (ax fn7 q (OE uQ D (by exact Ci) Oh (by exact Df) (by exact Dg)) ?_);rintro en w3 ⟨Cm,Co,rfl,I,Dp,Dq,Cw⟩;refine rv ?_;obtain⟨D,uQ,M⟩:=k3 I D uQ M;refine mv q (se q q (se q q (d9 q (an q (ns ?_)))));have rk:=Dd.symm.trans Cw;obtain⟨Em,En⟩:=Prod.mk.inj rk;refine mv q (ax fn8 q (vF uQ D (by exact Ci) Oh) ?_);rintro en w4 ⟨U,G,Cp,rfl,I,A,Dr,Cx⟩;refine rv ?_;obtain⟨D,uQ,M⟩:=k3 I D uQ M;refine mv q (se q q (se q q (d9 q (an q (ns ?_)))));have ob:=Cx
 rw[Bh]at ob;obtain⟨p,Eb⟩:=Prod.mk.inj ob;replace p:lo.map Ob.b9=G:=p;have C9:=congrArg List.length p;rw[List.length_map]at C9;refine mv q (ax fn9 q (IL uQ D) ?_);rintro en w5 ⟨P,Cq,rfl,I,Ac,Ds,Cy⟩;refine rv ?_;obtain⟨D,A,uQ,M⟩:=k4 I D A uQ M;refine mv q (se q q (se q q (cw z36 ?_)));intro Bo w6 Aq C8 I W;obtain⟨Q7,sQ,sT,Al,Ap⟩:=kM uQ Aq C8 I;replace tQ:=tT tQ sT;replace S:=fun b hb hl=>sQ b (S b hb hl) (lj hl M.size);replace Aq:=ly M.size Aq;replace D:=(D.sub sQ).o I;replace A:=(A.sub sQ).o I;replace M:=M.k I;replace uQ:=Ap;clear Ap sQ sT;have Bj:cr [] w Bo:=.inr Aq;replace W:ck _ _ (bS.cells (kU)) _:=W;have Do:bS.ok (kU):=(by exact⟨Om,Om,Om,q,q,q,q,(lu _),Om,Om,Om⟩);refine aZ (us:=(bS.cells P)) q q (by exact iD) (by exact fun u hu=>bH (bS.one) u hu) W (lB q) ?_
 have B7:=W;clear W;intro w9 I W;have hS:∀b∈[Bo],¬Q7 b:=(hI Al);replace D:=D.md I hS;replace A:=A.md I hS;replace uQ:=uQ.md I;replace M:=M.step I (hI Bj);clear B7 hS;replace W:ck _ _ (bS.cells P) _:=W;refine an q (aP (aP ?_));have L:=A;have k:=W;refine dX (ml 44) [] (fun w'=>Md [] w9 w') eC Ym ?_;intro Et O;refine⟨O.mono Oq,?_⟩;have MC:=O.mono (T:=[]) Oq;have re:=d.read.symm.trans Cy;obtain⟨Dc,Ek⟩:=Prod.mk.inj re;rw[Dc]at De Ck;rw[p]at Ck;refine mo q (mz (fun w' H=>eX (a:=Cm) (b:=0) q q) (mo q ?_));refine jN (t:=41) q (fun Ae=>?_) (fun Ae=>?_)
 ·(have Br:=dT Ae);exfalso;omega
 (have Br:=dF Ae);refine Go.Wk.iP _ q q q Ae (fun w' H=>bf q) (Go.Wk.iP _ q q q Ae (fun w' H=>eX (a:=Co) (b:=0) q q) (mz (fun w' H=>aS q Ae q) (mo q ?_)));refine jN (t:=45) q (fun Af=>?_) (fun Af=>?_)
 ·(have Bs:=dT Af);exfalso;omega
 (have Bs:=dF Af);refine Go.Wk.iP _ q q q Af (fun w' H=>bf q) (Go.Wk.iP _ q q q Af (fun w' H=>eX (a:=Cp) (b:=0) q q) (mz (fun w' H=>aS q Af q) (mo q ?_)));refine jN (t:=49) q (fun Ag=>?_) (fun Ag=>?_)
 ·(have Bt:=dT Ag);exfalso;omega
 (have Bt:=dF Ag);refine Go.Wk.iP _ q q q Ag (fun w' H=>bf q) (Go.Wk.iP _ q q q Ag (fun w' H=>eX (a:=Cq) (b:=0) q q) (mz (fun w' H=>aS q Ag q) (mo q ?_)));refine jN (t:=53) q (fun V=>?_) (fun V=>?_)
 ·(have Bu:=dT V);exfalso;omega
 (have Bu:=dF V);refine Go.Wk.iP _ q q q V (fun w' H=>bf q) (Go.Wk.iP _ q q q V (fun w' H=>jq q jh A.eJ) (Go.Wk.iP _ q q q V (fun w' H=>eF (a:=G.length) 18446744073709551616 q (by rw[u3];rfl) mE q Oh) (Go.Wk.iP _ q q q V (fun w' H=>aL q xD) (Go.Wk.iP _ q q q V (fun w' H=>(aC q bA (k.o H) q).to (b:=(.int .u64 ((P.n.getD 7 0:Nat):Int))) q) ?_))));have Eg:P.n.getD 7 0<18446744073709551616:=(eT Ac.2.2.2.2.2.2.2.1 7);refine Go.Wk.iP _ q q q V (fun w' H=>eX (a:=G.length) (b:=(P.n.getD 7 0)) q q) (mz (fun w' H=>aS q V q) (mo q ?_));refine jN (t:=61) q (fun j=>?_) (fun j=>?_)
 ·(have Bv:=dT j);exfalso;omega
 (have Bv:=dF j);refine Go.Wk.iP _ q q q j (fun w' H=>bf q) (Go.Wk.iP _ q q q j (fun w' H=>jq q jh A.eJ) (Go.Wk.iP _ q q q j (fun w' H=>gq (a:=G.length) (b:=2) q q) (mz (fun w' H=>aS q j q) (mo q ?_))));refine jN (t:=66) q (fun Y=>?_) (fun Y=>?_)
 ·(have Bw:=dT Y);exfalso;omega
 (have Bw:=dF Y);refine Go.Wk.iP _ q q q Y (fun w' H=>bf q) (Go.Wk.iP _ q q q Y (fun w' H=>bR (i:=0) 1 q q jh fB A.eJ Oh) ?_);obtain⟨Bk,Aw⟩:=fM (l:=G) (i:=0) Oh;obtain⟨Dw,Cc,J⟩:=L.get Aw;obtain⟨rfl,C2⟩:=Cc;replace J:At _ U (0*1) [(.int .u64 Bk)]:=J;refine Go.Wk.iP _ q q q Y (fun w' H=>(dx (kk:=0*1) 0 q q bA (J.o H) q).to (b:=(.int .u64 Bk)) q) (Go.Wk.iP _ q q q Y (fun w' H=>eX (a:=Bk) (b:=272) q q) (mz (fun w' H=>aS q Y q) (mo q ?_)));refine jN (t:=72) q (fun N=>?_) (fun N=>?_)
 ·(have Bx:=dT N);exfalso;have ez:=Aw;rw[← p,List.getElem?_map]at ez;obtain⟨z,hz,pz⟩:=Option.map_eq_some_iff.1 ez;have:=TB d.img.fu.fH hz;omega
 (have Bx:=dF N);refine Go.Wk.iP _ q q q N (fun w' H=>bf q) (Go.Wk.iP _ q q q N (fun w' H=>bf q) (Go.Wk.iP _ q q q N (fun w' H=>jq q jh A.eJ) (Go.Wk.iP _ q q q N (fun w' H=>lC (a:=((G.length:Nat):Int)) (b:=1) q q Oh) (Go.Wk.iP _ q q q N (fun w' H=>qd (i:=((G.length:Nat):Int)-1) 1 q q jh fB A.eJ Oh) ?_))));obtain⟨Bl,Ax⟩:=fM (l:=G) (i:=(((G.length:Nat):Int)-1).toNat) Oh;obtain⟨Dx,Cd,y⟩:=L.get Ax;obtain⟨rfl,C3⟩:=Cd;replace y:At _ U (((((G.length:Nat):Int)-1).toNat)*1) [(.int .u64 Bl)]:=y;refine Go.Wk.iP _ q q q N (fun w' H=>(dx (kk:=((((G.length:Nat):Int)-1).toNat)*1) 0 q q bA (y.o H) q).to (b:=(.int .u64 Bl)) q) (Go.Wk.iP _ q q q N (fun w' H=>aL q xC) (Go.Wk.iP _ q q q N (fun w' H=>(aC q bA (k.o H) q).to (b:=(.int .u64 ((P.n.getD 6 0:Nat):Int))) q) ?_));have Eh:P.n.getD 6 0<18446744073709551616:=(eT Ac.2.2.2.2.2.2.2.1 6);refine Go.Wk.iP _ q q q N (fun w' H=>eX (a:=Bl) (b:=(P.n.getD 6 0)) q q) (mz (fun w' H=>aS q N q) (ec ?_));obtain⟨D,A,uQ,M⟩:=k4 O D A uQ M;clear k L;clear MC;refine aH ?_;clear J;clear y;refine au ?_;refine cA q (fun Bb=>?_) (fun Bb=>?_)
 ·(have Bz:=dT Bb);exfalso;have e:=nu Oh Ax;omega
 (have Bz:=dF Bb);refine bh (au (aP (ns (an q (bF ?_)))));refine vI (fun(i:Nat)=>[(11,(.int .i64 i)),(3,(.bool c)),(4,u2),(7,U)]) (fun(i:Nat) w'=>∃Q':Nat→Prop,(∀b,Q' b→Q b)∧(∀b,Q b→b<w.heap.size→Q' b)∧Up w' Q'∧Md [] w w'∧Ls fI w' Q' u2 r2∧Ls dY w' Q' U G) (fun(i:Nat)=>G.length-i) (x0:=0) ?_ ?_ ?_
 ·exact⟨q,q,q,q,tV⟩
 ·exact⟨Q7,tQ,S,uQ,M,D,A⟩
 clear M uQ tQ S Al h0 D A W
 rintro i B Eu ⟨Dv,tQ,S,uQ,M,D,A⟩;refine aP (ns (m2 q q (sL q jh A.eJ (st _ (gq (a:=i) (b:=G.length) q q) (nt ?_)))));refine cA q (fun Bc=>?_) (fun Bc=>?_)
 ·(have B0:=dT Bc);refine bh (au (aP (bF (ns (m2 q q (mv q (st _ (bR (i:=i) 1 q q jh fB A.eJ Oh) ?_)))))));obtain⟨X,Ak⟩:=fM (l:=G) (i:=i) Oh;obtain⟨Dy,Ce,Aa⟩:=A.get Ak;obtain⟨rfl,C4⟩:=Ce;replace Aa:At _ U (i*1) [(.int .u64 X)]:=Aa;refine st _ ((dx (kk:=i*1) 0 q q bA Aa q).to (b:=(.int .u64 X)) q) (ax afe q (vl uQ D X Oh) ?_);rintro en Ev ⟨F,Bm,rfl,I,Am,Db,B5⟩;refine rv ?_;obtain⟨D,A,uQ,M⟩:=k4 I D A uQ M;refine mv q (se q q (se q q (cw z40 ?_)));intro Av Ew r Ch I J;obtain⟨Ai,sQ,sT,Ar,Ap⟩:=kM uQ r Ch I;replace tQ:=tT tQ sT;replace S:=fun b hb hl=>sQ b (S b hb hl) (lj hl M.size);replace r:=ly M.size r;replace D:=(D.sub sQ).o I;replace A:=(A.sub sQ).o I;replace M:=M.k I;replace uQ:=Ap;clear Ap sQ sT;have As:cr [] w Av:=.inr r;replace J:ck _ _ (jm.cells (nB)) _:=J;have Da:jm.ok (nB):=(by exact⟨Om,Om,Om⟩);refine aZ (us:=(jm.cells F)) q q (by exact lF) (by exact fun u hu=>bH (jm.one) u hu) J (lB q) ?_;have Bg:=J;clear J;intro Dh I J;have hS:∀b∈[Av],¬Ai b:=(hI Ar)
  replace D:=D.md I hS;replace A:=A.md I hS;clear Aa;replace uQ:=uQ.md I;replace M:=M.step I (hI As);clear Bg hS;replace J:ck _ _ (jm.cells F) _:=J;refine an q (aP (ns ?_));have eo:=Ak;rw[← p,List.getElem?_map]at eo;obtain⟨o,ho,po⟩:=Option.map_eq_some_iff.1 eo;have hO:=d.img.fu.fH.mem (List.mem_of_getElem? ho);have D5:=hO.ge;have C0:=hO.size;have C1:=eO o.size;have Cz:o.b9+mI o.size≤r2.length:=hO.le;have fr:=r6 hO Om (by show _≤r2.length;omega);obtain⟨Cj,Bi⟩:=JH d.img.fu.fH ho;rw[po]at fr;have fe:=fr.symm.trans B5;obtain⟨Cv,D3⟩:=Prod.mk.inj fe;have fz:o.size=F.size:=congrArg jm.size Cv;have hu:mI F.size=(F.size+7)/8*8:=rfl;rw[fz]at Cz C0 C1 Cj Bi;refine mv q (st _ (eX (a:=Bm) (b:=0) q q) (nt ?_));refine cA q (fun Bd=>?_) (fun Bd=>?_)
  ·(have B3:=dT Bd);exfalso;omega
  (have B3:=dF Bd);refine bh (au (aP ?_));have L:=A;have x:=J;refine dX (ml 9) [9,10] (fun w'=>Md [] Dh w') eC Ym ?_;intro Ex O;refine⟨O.mono Oq,?_⟩;have MC:=O.mono (T:=[]) Oq;refine mo q (mo q (mz (fun w' H=>bR (i:=i) 1 q q jh fB A.eJ Oh) ?_));obtain⟨Dz,Cf,Ab⟩:=L.get Ak;obtain⟨rfl,C5⟩:=Cf;replace Ab:At _ U (i*1) [(.int .u64 X)]:=Ab;refine mz (fun w' H=>(dx (kk:=i*1) 0 q q bA (Ab.o H) q).to (b:=(.int .u64 X)) q) (mz (fun w' H=>aL q oA) (mz (fun w' H=>(aC q bA (x.o H) q).to (b:=(.int .u64 F.size)) q) ?_));have Ei:F.size<18446744073709551616:=Am.2.2;refine mz (fun w' H=>gU (a:=F.size) (b:=7) 18446744073709551616 q q q Oh) (mz (fun w' H=>MZ (a:=(F.size+7)) (b:=8) 18446744073709551616 q q q Oh) (mz (fun w' H=>nM (a:=((F.size+7)/8)) (b:=8) 18446744073709551616 q q q Oh) (ec ?_)));obtain⟨D,A,uQ,M⟩:=k4 O D A uQ M;clear x L;clear MC;refine st _ (gU (a:=X) (b:=(((F.size+7)/8)*8)) 18446744073709551616 q q q Oh) (d9 q (aH ?_));clear Ab;refine au (nm q (st _ (rA (a:=i) (b:=1) q q Oh) (mv q (sL q jh A.eJ (st _ (gq (a:=(i+1)) (b:=G.length) q q) (mv q ?_))))));refine dR (t:=115) q (fun E=>?_) (fun E=>?_)
  ·(have A0:=dT E);refine sg E (bf q) (sg E (bf q) (sg E (bf q) (sg E (rA (a:=i) (b:=1) q q Oh) (sg E (bR (i:=i+1) 1 q q jh fB A.eJ Oh) ?_))));obtain⟨Bn,Ay⟩:=fM (l:=G) (i:=i+1) Oh;obtain⟨D0,Cg,Z⟩:=A.get Ay;obtain⟨rfl,C6⟩:=Cg;replace Z:At _ U ((i+1)*1) [(.int .u64 Bn)]:=Z;refine sg E ((dx (kk:=(i+1)*1) 0 q q bA Z q).to (b:=(.int .u64 Bn)) q) (sg E (eX (a:=(X+(((F.size+7)/8)*8))) (b:=Bn) q q) (st _ (bK q E q) (mv q ?_)));refine dR (t:=124) q (fun K=>?_) (fun K=>?_)
   ·(have A5:=dT K);exfalso;have ez:=Ay;rw[← p,List.getElem?_map]at ez;obtain⟨z,hz,pz⟩:=Option.map_eq_some_iff.1 ez;have:=Cj z hz;omega
   (have A5:=dF K);refine sg K (bf q) (sg K (rA (a:=i) (b:=1) q q Oh) (sg K (bf q) (sg K (jq q jh A.eJ) (sg K (gO (a:=(i+1)) (b:=G.length) q q) (sg K (bf q) ?_)))));refine dR (t:=130) q (fun C=>?_) (fun C=>?_)
   ·(have f:=dT C);refine sg C (bf q) (sg C (bf q) (sg C (jq q iC D.eJ) (sg C (eF (a:=r2.length) 18446744073709551616 q (by rw[u3];rfl) mE q Oh) (sg C (eX (a:=(X+(((F.size+7)/8)*8))) (b:=r2.length) q q) (sg K (bK q C q) (st _ (aS q K q) (aH ?_)))))));clear Z;refine au ?_;refine cA q (fun R=>?_) (fun R=>?_)
    ·(have g:=dT R);exfalso;have e:o.b9+_=r2.length:=Bi Oh;omega
    (have g:=dF R);refine bh (bW (au (aQ (mv q (st _ (rA (a:=i) (b:=1) q q Oh) (an q ?_))))));refine pZ (x0:=(i+1)) Oh ⟨(fq q Oh),q,q,q,tV⟩ ⟨Ai,tQ,S,uQ,M,D,A⟩
   (have f:=dF C);refine sk C (sk C (sk C (sk C (sk C (sg K (aS q C q) (st _ (aS q K q) (aH ?_)))))));clear Z;refine au (jR q q (bh (bW (au (aQ (mv q (st _ (rA (a:=i) (b:=1) q q Oh) (an q ?_))))))));refine pZ (x0:=(i+1)) Oh ⟨(fq q Oh),q,q,q,tV⟩ ⟨Ai,tQ,S,uQ,M,D,A⟩
  (have A0:=dF E);refine sk E (sk E (sk E (sk E (sk E (sk E (sk E (st _ (aS q E q) (mv q (sg q (bf q) (sg q (rA (a:=i) (b:=1) q q Oh) (sg q (bf q) (sg q (jq q jh A.eJ) (sg q (gO (a:=(i+1)) (b:=G.length) q q) ?_)))))))))))));refine sg q (bf q) ?_;refine dR (t:=130) q (fun C=>?_) (fun C=>?_)
  ·(have f:=dT C);refine sg C (bf q) (sg C (bf q) (sg C (jq q iC D.eJ) (sg C (eF (a:=r2.length) 18446744073709551616 q (by rw[u3];rfl) mE q Oh) (sg C (eX (a:=(X+(((F.size+7)/8)*8))) (b:=r2.length) q q) (sg q (bK q C q) (st _ (aS q q q) (nt ?_)))))));refine cA q (fun R=>?_) (fun R=>?_)
   ·(have g:=dT R);exfalso;have e:o.b9+_=r2.length:=Bi Oh;omega
   (have g:=dF R);refine bh (bW (au (aQ (mv q (st _ (rA (a:=i) (b:=1) q q Oh) (an q ?_))))));refine pZ (x0:=(i+1)) Oh ⟨(fq q Oh),q,q,q,tV⟩ ⟨Ai,tQ,S,uQ,M,D,A⟩
  (have f:=dF C);refine sk C (sk C (sk C (sk C (sk C (sg q (aS q C q) (st _ (aS q q q) (nt (jR q q (bh (bW (au (aQ (mv q ?_)))))))))))));refine st _ (rA (a:=i) (b:=1) q q Oh) (an q ?_);refine pZ (x0:=(i+1)) Oh ⟨(fq q Oh),q,q,q,tV⟩ ⟨Ai,tQ,S,uQ,M,D,A⟩
 (have B0:=dF Bc);refine dW (bU (bU (eS (au (nm q (ar q ?_))))));exact dP (v:=(.bool c)) trivial q ⟨q,tV⟩ ⟨c,q,M,(by exact Be)⟩
end Go.Proofs.YtmobbnpkkmeoiaaGreat
namespace Go.Wk
open Go Go.RowKit Go.ChangeShapes Go.WideShapes Go.ChangeAt Go.Deep
section
variable {H:Type} {enc:TypeId × Value→H} {P:Program} {w:World} {t f:TypeId} {v:Value} {d:DataW H} {ps:List MemPlace}
theorem ZN {spare:Nat→Bool} {base:Nat} {held:Bool} {r:Reach} {b0:Nat} {e:TypeId} {k:IntKind} (ht:P.underlying t=some (.slice e)) (he:P.underlying e=some (.int k)) (hc:P.cellsOf e=1) (hv:Value.okWide P w r b0 t v)
    (h:DataW.Trod enc P w base spare held t v d ps):∃l:List Int,Sl w v (l.map (Value.int k))∧∀z∈l,(Lit.int k z).wf=true:=by
  obtain⟨S,A,D,rfl⟩:=okWide_slice ht hv
  obtain⟨L,N⟩:=h
  rcases open_ints ht he hc N with⟨E,_⟩|⟨a,R,M,K,E,_,T,O,J,_,B,I⟩
  · simp[Value.cells]at E
    obtain⟨rfl,rfl,rfl⟩:=E
    exact⟨[],Sl.nil w,by simp⟩
  simp[Value.cells]at E
  obtain⟨rfl,rfl,rfl⟩:=E
  have G:A≤K.length:=by rw[J];split <;> omega
  refine⟨K.take A,⟨some a,D,by simp[Nat.min_eq_left G],by simp;omega,O,by simp,fun p Q j u F=>?_⟩,fun z J=>I z (List.mem_of_mem_take J)⟩
  cases Q
  have hj':=(List.getElem?_eq_some_iff.1 F).1
  simp only[List.length_map,List.length_take]at hj'
  have H:j<A:=by omega
  have C:j<K.length:=by omega
  rw[B j C]
  rw[List.getElem?_map,List.getElem?_take]at F
  rw[if_pos H]at F
  simp[C]at F
  simp[List.getD,C,F]
end
end Go.Wk
namespace Go.Wk
open Go Go.RowKit Go.ChangeShapes Go.WideShapes Go.ChangeAt Go.Deep
section
variable {H:Type} {enc:TypeId × Value→H} {P:Program} {w:World} {t e f:TypeId} {v:Value} {d:DataW H} {ps:List MemPlace} {spare:Nat→Bool} {base:Nat} {held:Bool}
theorem afv {l:List Int} (h:Sl w v (l.map (Value.int .i64))) (hw:∀z∈l,(Lit.int .i64 z).wf=true):Ls qw w (fun _=>True) v l :=
  Ls.ahk h (fun x hx=>by
    have:=hw x hx
    simp[Lit.wf,IntKind.min,IntKind.max,IntKind.signed,IntKind.bits]at this
    show -9223372036854775808≤x∧x<9223372036854775808
    omega) (fun _ _ _=>trivial)
end
end Go.Wk
