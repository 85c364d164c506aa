/- Part 11 of what the walk of a law stands on: HsP, HsQ, HsR, HsS, CkS, CkT, VKs, OpensS, OpensR. No statement is proved here. -/
import Derived.Test.YtmobbnpkkmeoiaaGreatSAI10
import Derived.Test.YtmobbnpkkmeoiaaGreatRows
set_option linter.unusedVariables false
set_option linter.unusedSimpArgs false
namespace Go.Wk
open Go Go.RowKit
def jN (ks:List aZ) (s:Nat):List Nat:=(ks.filter fun k=>decide (k.cO=s)).map aZ.bn
theorem vC (ks:List aZ) (k:aZ) (s:Nat):jN (ks ++ [k]) s=if k.cO=s then jN ks s ++ [k.bn]else jN ks s:=by
  unfold jN
  rw[List.filter_append,List.map_append]
  by_cases h:k.cO=s
  · rw[if_pos h];simp[h]
  rw[if_neg h];simp[h]
theorem pM {ks:List aZ} {s p:Nat} (h:p∈jN ks s):∃k∈ks,k.bn=p∧k.cO=s:=by
  obtain⟨k,hk,rfl⟩:=List.mem_map.1 h
  obtain⟨A,B⟩:=List.mem_filter.1 hk
  exact⟨k,A,q,dT B⟩
theorem aat (ks:List aZ) (s:Nat):(jN ks s).Sublist (ks.map aZ.bn):=List.filter_sublist.map _
theorem DG (s:Nat):∀(ks:List aZ) (n q:Nat),nU s ks n q=(n+(jN ks s).length,(jN ks s).getLastD q)
  | [],_,_=>rfl
  | k :: r,n,q=>by
    rw[nU]
    unfold jN
    rw[List.filter_cons]
    by_cases h:k.cO=s
    · rw[if_pos h,if_pos (decide_eq_true h),DG s r]
      simp only[List.map_cons,List.length_cons,List.getLastD_cons]
      unfold jN
      congr 1;omega
    · rw[if_neg h,if_neg (by simpa using h),DG s r];rfl
theorem vn {l:List Nat} {p i:Nat} (h:i<l.length):(l ++ [p]).getD i 0=l.getD i 0:=by
  rw[List.getD_eq_getElem?_getD,List.getD_eq_getElem?_getD,List.getElem?_append_left h]
theorem YM (l:List Nat) (p:Nat):(l ++ [p]).getD l.length 0=p:=by
  rw[List.getD_eq_getElem?_getD,List.getElem?_append_right (Nat.le_refl _),Nat.sub_self];rfl
theorem YN {l:List Nat} {i:Nat} (h:l.length≤i):l.getD i 0=0:=by rw[List.getD_eq_getElem?_getD,List.getElem?_eq_none h];rfl
theorem yE (l:List Nat) (h:l≠[]):l[l.length-1]? = some (l.getLastD 0):=by
  rw[← List.getLast?_eq_getElem?,List.getLastD_eq_getLast?]
  cases hq:l.getLast? with
  | none=>exact absurd (List.getLast?_eq_none_iff.1 hq) h
  | some x=>rfl
theorem YZ (l:List Nat) (p:Nat):(l ++ [p]).getLastD 0=p:=by simp[List.getLastD_eq_getLast?]
structure mU (b:Ly) (tab n:Nat) (ks:List aZ):Prop where
  cO:∀k∈ks,k.cO<n
  head:∀s:Nat,s<n→eY b (tab+16*s)=(jN ks s).getD 0 0
  next:∀s j p:Nat,(jN ks s)[j]? = some p→eY b (p+24)=(jN ks s).getD (j+1) 0
def aaN (tab n:Nat) (ks:List aZ) (a:Nat):Prop:=(∃s:Nat,s<n∧a=tab+16*s)∨∃k∈ks,a=k.bn+24
theorem mU.keep {b c:Ly} {tab n:Nat} {ks:List aZ} (h:mU b tab n ks) (hc:∀a,aaN tab n ks a→eY c a=eY b a):mU c tab n ks:=by
  refine⟨h.cO,fun s B=>(hc _ (.inl ⟨s,B,q⟩)).trans (h.head s B),fun s j p A=>?_⟩
  obtain⟨k,hk,e,_⟩:=pM (List.mem_of_getElem? A)
  exact(hc _ (.inr ⟨k,hk,by rw[e]⟩)).trans (h.next s j p A)
def oh (k:aZ):Nat × Nat × List UInt8:=(k.bn,k.cO,k.cA)
theorem JW {ks ks':List aZ} (h:ks'.map oh=ks.map oh) (s:Nat):jN ks' s=jN ks s:=by
  have e:∀ks:List aZ,jN ks s=((ks.map oh).filter fun q=>decide (q.2.1=s)).map Prod.fst:=fun ks=>by
    unfold jN;rw[List.filter_map,List.map_map];rfl
  rw[e,e,h]
theorem xA {ks ks':List aZ} (h:ks'.map oh=ks.map oh) {k:aZ} (hk:k∈ks'):∃x∈ks,x.bn=k.bn∧x.cO=k.cO∧x.cA=k.cA:=by
  have:oh k∈ks.map oh:=h ▸ List.mem_map.2 ⟨k,hk,q⟩
  obtain⟨x,D,e⟩:=List.mem_map.1 this
  obtain⟨B,A⟩:=Prod.mk.inj e
  obtain⟨A,C⟩:=Prod.mk.inj A
  exact⟨x,D,B,A,C⟩
theorem mU.key {b:Ly} {tab n:Nat} {ks ks':List aZ} (h:mU b tab n ks) (hk:ks'.map oh=ks.map oh):mU b tab n ks':=by
  refine⟨fun k A=>?_,fun s C=>by rw[JW hk];exact h.head s C,fun s j p B=>by rw[JW hk]at B ⊢;exact h.next s j p B⟩
  obtain⟨x,D,_,e,_⟩:=xA hk A
  rw[← e];exact h.cO x D
def vT (b:Ly) (ks:List aZ) (tab p s:Nat):List UInt8 :=
  iV (if(jN ks s).length=0 then iV b (tab+16*s) p else iV b ((jN ks s).getLastD 0+24) p) (tab+16*s+8) p
theorem abV (m:Mk) (ks:List aZ) (tab p s:Nat):(m.hang ks tab p s).2.b=vT m.b ks tab p s:=by
  unfold Mk.hang
  rw[DG]
  simp only[Nat.zero_add]
  unfold vT
  split <;> rfl
theorem IG (b:Ly) (ks:List aZ) (tab p s:Nat):(vT b ks tab p s).length=b.length:=by
  unfold vT;rw[gq];split <;> rw[gq]
section
variable {b:Ly} {tab n:Nat} {ks:List aZ} {k:aZ}
theorem RF {l:List Nat} (h:l.Pairwise (· < ·)) {i j a c:Nat} (ha:l[i]? = some a) (hc:l[j]? = some c) (hij:i<j):a<c:=by
  obtain⟨A,rfl⟩:=List.getElem?_eq_some_iff.1 ha
  obtain⟨B,rfl⟩:=List.getElem?_eq_some_iff.1 hc
  exact List.pairwise_iff_getElem.1 h i j A B hij
theorem MF (hn:(ks.map aZ.bn).Pairwise (· < ·)) {x y:aZ} (hx:x∈ks) (hy:y∈ks) (he:x.bn=y.bn):x=y:=by
  obtain⟨i,E⟩:=List.mem_iff_getElem?.1 hx
  obtain⟨j,B⟩:=List.mem_iff_getElem?.1 hy
  have C:(ks.map aZ.bn)[i]? = some x.bn:=by rw[List.getElem?_map,E];rfl
  have D:(ks.map aZ.bn)[j]? = some y.bn:=by rw[List.getElem?_map,B];rfl
  rcases Nat.lt_trichotomy i j with A|rfl|A
  · have:=RF hn C D A;omega
  · rw[E]at B;exact Option.some.inj B
  have:=RF hn D C A;omega
theorem CY (hs:k.cO<n) {a p:Nat} (h1:a+8≤tab+16*k.cO∨tab+16*k.cO+16≤a) (h2:∀x∈ks,a+8≤x.bn+24∨x.bn+32≤a):eY (vT b ks tab p k.cO) a=eY b a:=by
  unfold vT
  rw[gJ Oh]
  split
  · exact gJ Oh
  rename_i hne
  have A:=yE (jN ks k.cO) (fun e=>hne (by rw[e];rfl))
  obtain⟨x,B,e,_⟩:=pM (List.mem_of_getElem? A)
  have:=h2 x B
  exact gJ Oh
theorem mU.hang (h:mU b tab n ks) (hs:k.cO<n) (hf:∀x∈ks,tab+16*n≤x.bn) (hp:tab+16*n≤k.bn) (hsep:∀x∈ks,x.bn+40≤k.bn) (pair:∀x∈ks,∀y∈ks,x.bn=y.bn∨x.bn+40≤y.bn∨y.bn+40≤x.bn)
    (nd:(ks.map aZ.bn).Pairwise (· < ·)) (hn:eY b (k.bn+24)=0) (hl:k.bn+40≤b.length) (hk:k.bn<18446744073709551616):mU (vT b ks tab k.bn k.cO) tab n (ks ++ [k]):=by
  have R:(jN ks k.cO).Pairwise (· < ·):=nd.sublist (aat ks k.cO)
  have F:∀(c:Ly) (a:Nat),aaN tab n (ks ++ [k]) a→eY (iV c (tab+16*k.cO+8) k.bn) a=eY c a:=fun c a S=>by
    refine gJ ?_
    rcases S with⟨s,X,rfl⟩|⟨x,A,rfl⟩
    · rcases Nat.lt_or_ge k.cO s with M|M <;> omega
    · rcases List.mem_append.1 A with A|A
      · have:=hf x A;omega
      · rw[List.mem_singleton]at A;subst A;omega
  have I:∀s:Nat,s<n→aaN tab n (ks ++ [k]) (tab+16*s):=fun s hs=>.inl ⟨s,hs,rfl⟩
  have E:∀x∈ks,aaN tab n (ks ++ [k]) (x.bn+24):=fun x A=>.inr ⟨x,by simp[A],rfl⟩
  have J:aaN tab n (ks ++ [k]) (k.bn+24):=.inr ⟨k,by simp,rfl⟩
  have slot':∀x∈ks ++ [k],x.cO<n:=fun x A=>by
    rcases List.mem_append.1 A with A|A
    · exact h.cO x A
    · rw[List.mem_singleton]at A;subst A;exact hs
  unfold vT
  by_cases h0:(jN ks k.cO).length=0
  · have O:jN ks k.cO=[]:=List.eq_nil_of_length_eq_zero h0
    rw[if_pos h0]
    refine⟨slot',fun s C=>?_,fun s j p B=>?_⟩
    · rw[F _ _ (I s C),vC]
      by_cases e:k.cO=s
      · subst e
        rw[if_pos rfl,O,j5 Oh hk];rfl
      rw[if_neg e,gJ (by rcases Nat.lt_or_ge k.cO s with M|M<;>omega)];exact h.head s C
    rw[vC]at B ⊢
    by_cases e:k.cO=s
    · subst e
      rw[if_pos rfl,O]at B ⊢
      obtain rfl:j=0:=by
        have:=(List.getElem?_eq_some_iff.1 B).1;simp at this;exact this
      obtain rfl:k.bn=p:=by simpa using B
      rw[F _ _ J,gJ Oh,hn];rfl
    rw[if_neg e]at B ⊢
    obtain⟨x,A,H,_⟩:=pM (List.mem_of_getElem? B)
    have:=hf x A
    subst H
    rw[F _ _ (E x A),gJ Oh]
    exact h.next s j _ B
  rw[if_neg h0]
  have N:jN ks k.cO≠[]:=fun e=>h0 (by rw[e];rfl)
  have K:=yE _ N
  generalize (jN ks k.cO).getLastD 0=q at K
  obtain⟨y,G,Q,L⟩:=pM (List.mem_of_getElem? K)
  have T:=hf y G
  have V:=hsep y G
  refine⟨slot',fun s C=>?_,fun s j p B=>?_⟩
  · rw[F _ _ (I s C),gJ Oh,h.head s C,vC]
    by_cases e:k.cO=s
    · subst e;rw[if_pos rfl,vn Oh]
    rw[if_neg e]
  rw[vC]at B ⊢
  by_cases e:k.cO=s
  · subst e
    rw[if_pos rfl]at B ⊢
    rcases Nat.lt_trichotomy j ((jN ks k.cO).length-1)with D|D|D
    · rw[List.getElem?_append_left Oh]at B
      obtain⟨x,A,H,_⟩:=pM (List.mem_of_getElem? B)
      have:=RF R B K Oh
      subst H
      have:=pair x A y G
      rw[F _ _ (E x A),gJ Oh,h.next _ j _ B,vn Oh]
    · rw[List.getElem?_append_left Oh,D,K]at B
      cases B
      rw[F _ _ (by rw[← Q];exact E y G),j5 Oh hk,D,show(jN ks k.cO).length-1+1=(jN ks k.cO).length by omega,YM]
    have:=(List.getElem?_eq_some_iff.1 B).1
    simp only[List.length_append,List.length_singleton]at this
    obtain rfl:j=(jN ks k.cO).length:=by omega
    rw[List.getElem?_append_right (Nat.le_refl _),Nat.sub_self]at B
    obtain rfl:k.bn=p:=by simpa using B
    rw[F _ _ J,gJ Oh,hn,YN Oq]
  rw[if_neg e]at B ⊢
  obtain⟨x,A,H,P⟩:=pM (List.mem_of_getElem? B)
  have W:x.bn≠y.bn:=fun U=>e (by rw[← L,← P,MF nd A G U])
  have:=pair x A y G
  subst H
  rw[F _ _ (E x A),gJ Oh]
  exact h.next s j _ B
end
def qE (t:Ly):List UInt8:=t.takeWhile fun c=>decide (c≠61)
theorem JB {q:Pr} (h:∀c∈q.name,c≠61):qE (ak q)=q.name:=by
  unfold qE ak
  rw[List.append_assoc,List.takeWhile_append_of_pos (fun c A=>decide_eq_true (h c A))]
  simp
def nT (ds:List aZ) (t:Ly):List Nat:=(ds.filter fun k=>decide (qE k.cA=t)).map aZ.bn
theorem HW (ds:List aZ) (k:aZ) (t:Ly):nT (ds ++ [k]) t=if qE k.cA=t then nT ds t ++ [k.bn]else nT ds t:=by
  unfold nT
  rw[List.filter_append,List.map_append]
  by_cases h:qE k.cA=t
  · rw[if_pos h];simp[h]
  rw[if_neg h];simp[h]
theorem yc {ds:List aZ} {t:Ly} {p:Nat} (h:p∈nT ds t):∃k∈ds,k.bn=p∧qE k.cA=t:=by
  obtain⟨k,hk,rfl⟩:=List.mem_map.1 h
  obtain⟨A,B⟩:=List.mem_filter.1 hk
  exact⟨k,A,q,dT B⟩
theorem HX {ks ks':List aZ} (h:ks'.map oh=ks.map oh) (t:Ly):nT ks' t=nT ks t:=by
  have e:∀ks:List aZ,nT ks t=((ks.map oh).filter fun q=>decide (qE q.2.2=t)).map Prod.fst:=fun ks=>by
    unfold nT;rw[List.filter_map,List.map_map];rfl
  rw[e,e,h]
structure vI (b:Ly) (ds fs:List aZ):Prop where
  head:∀f∈fs,eY b (f.bn+32)=(nT ds f.cA).getLastD 0
  next:∀(t:Ly) (j p:Nat),(nT ds t)[j]? = some p→eY b (p+32)=if j=0 then 0 else(nT ds t).getD (j-1) 0
theorem vI.keep {b c:Ly} {ds fs:List aZ} (h:vI b ds fs) (h1:∀k∈ds,eY c (k.bn+32)=eY b (k.bn+32)) (h2:∀f∈fs,eY c (f.bn+32)=eY b (f.bn+32)):vI c ds fs:=by
  refine⟨fun f A=>(h2 f A).trans (h.head f A),fun t j p B=>?_⟩
  obtain⟨k,hk,e,_⟩:=yc (List.mem_of_getElem? B)
  subst e
  exact(h1 k hk).trans (h.next t j _ B)
theorem vI.key {b:Ly} {ds ds' fs:List aZ} (h:vI b ds fs) (hk:ds'.map oh=ds.map oh):vI b ds' fs :=
  ⟨fun f hf=>by rw[HX hk];exact h.head f hf,fun t j p hp=>by rw[HX hk]at hp ⊢;exact h.next t j p hp⟩
theorem vI.field {b:Ly} {ds fs:List aZ} {f:aZ} (h:vI b ds fs) (h0:eY b (f.bn+32)=0) (hn:∀k∈ds,qE k.cA≠f.cA):vI b ds (fs ++ [f]):=by
  refine⟨fun g A=>?_,h.next⟩
  rcases List.mem_append.1 A with A|A
  · exact h.head g A
  rw[List.mem_singleton]at A;subst A
  rw[h0]
  have:nT ds g.cA=[]:=by
    unfold nT
    rw[List.map_eq_nil_iff,List.filter_eq_nil_iff]
    intro k hk;simpa using hn k hk
  rw[this];rfl
theorem vI.put {b:Ly} {ds fs:List aZ} {f k:aZ} {v:Nat} (h:vI b ds fs) (hf:f∈fs) (ht:f.cA=qE k.cA) (hv:v=eY b (f.bn+32)) (one:∀x∈fs,∀y∈fs,(x.cA=y.cA↔x.bn=y.bn))
    (ap1:∀x∈ds,(x.bn+40≤k.bn∨k.bn+40≤x.bn)∧(x.bn+40≤f.bn∨f.bn+40≤x.bn)) (ap2:∀g∈fs,(g.bn+40≤k.bn∨k.bn+40≤g.bn)∧(g.bn=f.bn∨g.bn+40≤f.bn∨f.bn+40≤g.bn)) (hk:k.bn<18446744073709551616) (l1:k.bn+40≤b.length) (l2:f.bn+40≤b.length) :
    vI (iV (iV b (k.bn+32) v) (f.bn+32) k.bn) (ds ++ [k]) fs:=by
  have L:=(ap2 f hf).1
  refine⟨fun g C=>?_,fun t j p A=>?_⟩
  · rw[HW]
    by_cases e:qE k.cA=g.cA
    · rw[if_pos e,YZ,(one g C f hf).1 (by rw[ht,e]),j5 (by rw[gq];omega) hk]
    rw[if_neg e]
    have K:=ap2 g C
    have J:g.bn≠f.bn:=fun I=>e (by rw[(one g C f hf).2 I,ht])
    rw[gJ Oh,gJ Oh]
    exact h.head g C
  rw[HW]at A ⊢
  by_cases e:qE k.cA=t
  · rw[if_pos e]at A ⊢
    rcases Nat.lt_or_ge j (nT ds t).length with F|F
    · rw[List.getElem?_append_left F]at A
      obtain⟨x,E,D,_⟩:=yc (List.mem_of_getElem? A)
      have G:=ap1 x E
      subst D
      rw[gJ Oh,gJ Oh,h.next t j _ A]
      split
      · rfl
      rw[vn Oh]
    have:=(List.getElem?_eq_some_iff.1 A).1
    simp only[List.length_append,List.length_singleton]at this
    obtain rfl:j=(nT ds t).length:=by omega
    rw[List.getElem?_append_right (Nat.le_refl _),Nat.sub_self]at A
    obtain rfl:k.bn=p:=by simpa using A
    have B:=h.head f hf
    rw[ht,e]at B
    rw[gJ Oh,j5 Oh (by rw[hv];exact KI _ _),hv,B]
    split
    · rename_i h0
      rw[List.eq_nil_of_length_eq_zero h0];rfl
    rename_i h0
    have:=yE (nT ds t) (fun H=>h0 (by rw[H];rfl))
    rw[vn Oh,List.getD_eq_getElem?_getD,this];rfl
  rw[if_neg e]at A ⊢
  obtain⟨x,E,D,_⟩:=yc (List.mem_of_getElem? A)
  have G:=ap1 x E
  subst D
  rw[gJ Oh,gJ Oh]
  exact h.next t j _ A
end Go.Wk
namespace Go.Wk
open Go Go.RowKit
structure Hs (m:Mk):Prop where
  r4:mU m.b 288 m.c.ay m.ai
  r5:mU m.b (304+16*m.c.ay) m.c.aA m.aj
  rd:vI m.b m.ai m.aj
  s4:∀k∈m.ai,k.cO=eK m k.cA%m.c.ay
  s5:∀k∈m.aj,k.cO=eK m k.cA%m.c.aA
  own:∀k∈m.ai,∃f∈m.aj,f.cA=qE k.cA
  bear:∀f∈m.aj,∃k∈m.ai,qE k.cA=f.cA
  one:∀x∈m.aj,∀y∈m.aj,x.cA=y.cA→x=y
  a4:(m.ai.map aZ.bn).Pairwise (· < ·)
  a5:(m.aj.map aZ.bn).Pairwise (· < ·)
  n15:m.cT 15=m.ai.length
  n16:m.cT 16=m.aj.length
  c15:m.ai.length≤m.b.length
  c16:m.aj.length≤m.b.length
  h20:m.h.n.length=20
theorem VG {b:Ly} {q:Nat} (h:q+8≤b.length):(mE b (q:Nat) 8).1=eY b q:=by
  unfold mE eY
  rw[if_pos ⟨by decide,by omega,by omega⟩]
  simp
theorem PN {m:Mk} {k v:Nat} (h:k<m.h.n.length):(m.dX k v).cT k=v:=by
  show(m.h.n.set k v).getD k 0=v
  rw[List.getD_eq_getElem?_getD,List.getElem?_set_self h];rfl
def xe (h:Nat) (t:Ly):List UInt8:=iv {cQ:=h,bT:=0,dat:=0,ak:=t}
def yg (h:Nat) (t:Ly):List UInt8:=jc {cQ:=h,bT:=0,eH:=0,entry:=0,array:=0,bR:=0,ak:=t}
theorem afm {h:Nat} (t:Ly) (hh:h<18446744073709551616):(xe h t).length=mO (40+t.length)∧eY (xe h t) 24=0∧eY (xe h t) 32=0:=by
  have e:xe h t=qp 2 (nums [h,0,0] ++ t):=rfl
  obtain⟨_,A,B,_⟩:=acB (k:=2) Om [h,0,0] t (by intro v hv;simp at hv;omega)
  rw[← e]at A B
  simp only[List.length_cons,List.length_nil,Nat.zero_add,Nat.reduceAdd,Nat.reduceMul]at A
  exact⟨A,B 1 _ q,B 2 _ q⟩
theorem aeW {h:Nat} (t:Ly) (hh:h<18446744073709551616):(yg h t).length=mO (64+t.length)∧eY (yg h t) 24=0:=by
  have e:yg h t=qp 1 (nums [h,0,0,0,0,0] ++ t):=rfl
  obtain⟨_,A,B,_⟩:=acB (k:=1) Om [h,0,0,0,0,0] t (by intro v hv;simp at hv;omega)
  rw[← e]at A B
  simp only[List.length_cons,List.length_nil,Nat.zero_add,Nat.reduceAdd,Nat.reduceMul]at A
  exact⟨A,B 1 _ q⟩
def kn (t:Ly) (p s:Nat):aZ:={cA:=t,bn:=p,cO:=s,bR:=0,bw:=[]}
theorem LM (m:Mk) (o:Ly) {i:Nat} (h:i≠6∧i≠7):(m.di o).2.cT i=m.cT i:=by
  simp only[Mk.di];rw[er Oh,er Oh];rfl
theorem acC (m:Mk) (o:Ly):(m.di o).2.h.n.length=m.h.n.length:=by simp[Mk.di,Mk.dX]
theorem YF {m:Mk} {name:Ly} (hk:p7 name m.aj=none) (h20:m.h.n.length=20) :
    ∃z,m.field name=(m.b.length,z)∧z.b=vT (m.b ++ xe (eK m name) name) m.aj (m.cT 4) m.b.length (eK m name%m.c.aA)∧z.aj=m.aj ++ [kn name m.b.length (eK m name%m.c.aA)]∧z.ai=m.ai∧z.c=m.c∧z.cT 15=m.cT 15∧z.cT 16=(m.cT 16+1)%18446744073709551616∧z.h.n.length=20:=by
  unfold Mk.field
  rw[hk]
  simp only
  have H:=iM m (xe (eK m name) name)
  have I:=fC m (xe (eK m name) name)
  have D:=fun i S=>LM m (xe (eK m name) name) (i:=i) S
  have J:=acC m (xe (eK m name) name)
  have K:(m.di (xe (eK m name) name)).2.b=m.b ++ xe (eK m name) name:=rfl
  rw[show iv {cQ:=dW m.c.dx m.c.cG name,bT:=0,dat:=0,ak:=name}=xe (eK m name) name from rfl]
  generalize m.di (xe (eK m name) name)=r at *
  obtain⟨p,A⟩:=r
  simp only at H I D J K ⊢
  obtain⟨E,O,F,_⟩:=I
  have L:=abV A A.aj (A.cT 4) p (dW m.c.dx m.c.cG name%A.c.aA)
  have N:=iU A A.aj (A.cT 4) p (dW m.c.dx m.c.cG name%A.c.aA)
  generalize A.hang A.aj (A.cT 4) p (dW m.c.dx m.c.cG name%A.c.aA)=r at *
  obtain⟨n,B⟩:=r
  simp only at L N ⊢
  obtain⟨P,Q,R,U,V,G⟩:=N
  have M:p=m.b.length:=H.1
  have C:∀i,B.cT i=A.cT i:=fun i=>by show B.h.n.getD i 0=_;rw[G];rfl
  have T:({B with depth:=max A.depth n}:Mk).h.n.length=20:=by show B.h.n.length=20;rw[G,J,h20]
  refine⟨_,by rw[M],?_,?_,?_,?_,?_,?_,?_⟩
  · show B.b=_;rw[L,K,F,D 4 Om,M,E];rfl
  · show B.aj ++ _=_;rw[R,F,E];rfl
  · show B.ai=_;rw[Q,O]
  · show B.c=_;rw[P,E]
  · show(Mk.dX _ 16 _).cT 15=_
    rw[er Om];show B.cT 15=_;rw[C,D 15 Om]
  · show(Mk.dX _ 16 _).cT 16=_
    rw[PN Oh];show(B.cT 16+1)%_=_;rw[C,D 16 Om]
  show(B.h.n.set 16 _).length=20;rw[List.length_set];exact T
theorem abx {m:Mk} {x:Pr} (hk:nC (ak x) m.ai 0=none) (h20:m.h.n.length=20) :
    ∃z:Mk,z.b=vT (m.b ++ yg (eK m (ak x)) (ak x)) m.ai (m.cT 2) m.b.length (eK m (ak x)%m.c.ay)∧z.ai=m.ai ++ [kn (ak x) m.b.length (eK m (ak x)%m.c.ay)]∧z.aj=m.aj∧z.c=m.c∧z.cT 15=(m.cT 15+1)%18446744073709551616∧z.cT 16=m.cT 16∧z.cT 4=m.cT 4∧z.h.n.length=20 ∧
      (m.data x).2=(((z.field x.name).2.put (m.b.length+32) (mE (z.field x.name).2.b ((z.field x.name).1+32:Nat) 8).1).put ((z.field x.name).1+32) m.b.length):=by
  unfold Mk.data
  rw[hk]
  simp only
  have I:=iM m (yg (eK m (ak x)) (ak x))
  have J:=fC m (yg (eK m (ak x)) (ak x))
  have D:=fun i S=>LM m (yg (eK m (ak x)) (ak x)) (i:=i) S
  have K:=acC m (yg (eK m (ak x)) (ak x))
  have L:(m.di (yg (eK m (ak x)) (ak x))).2.b=m.b ++ yg (eK m (ak x)) (ak x):=rfl
  rw[show jc {cQ:=dW m.c.dx m.c.cG (ak x),bT:=0,eH:=0,entry:=0,array:=0,bR:=0,ak:=ak x}=yg (eK m (ak x)) (ak x)from rfl]
  generalize m.di (yg (eK m (ak x)) (ak x))=r at *
  obtain⟨p,B⟩:=r
  simp only at I J D K L ⊢
  obtain⟨E,G,O,_⟩:=J
  have M:=abV B B.ai (B.cT 2) p (dW m.c.dx m.c.cG (ak x)%B.c.ay)
  have N:=iU B B.ai (B.cT 2) p (dW m.c.dx m.c.cG (ak x)%B.c.ay)
  generalize B.hang B.ai (B.cT 2) p (dW m.c.dx m.c.cG (ak x)%B.c.ay)=r at *
  obtain⟨n,A⟩:=r
  simp only at M N ⊢
  obtain⟨P,Q,R,V,W,H⟩:=N
  have F:p=m.b.length:=I.1
  have C:∀i,A.cT i=B.cT i:=fun i=>by show A.h.n.getD i 0=_;rw[H];rfl
  have T:A.h.n.length=20:=by rw[H,K,h20]
  have U:(A.dX 19 (max (A.cT 19) n)).h.n.length=20:=by show(A.h.n.set 19 _).length=20;rw[List.length_set];exact T
  refine⟨({(A.dX 19 (max (A.cT 19) n)).dX 15 (((A.dX 19 (max (A.cT 19) n)).cT 15+1)%18446744073709551616)with ai:=A.ai ++ [kn (ak x) p (dW m.c.dx m.c.cG (ak x)%B.c.ay)]}:Mk),?_,?_,?_,?_,?_,?_,?_,?_,?_⟩
  · show A.b=_;rw[M,L,G,D 2 Om,F,E];rfl
  · show A.ai ++ _=_;rw[Q,G,F,E];rfl
  · show A.aj=_;rw[R,O]
  · show A.c=_;rw[P,E]
  · show(Mk.dX _ 15 _).cT 15=_
    rw[PN Oh,er Om,C,D 15 Om]
  · show(Mk.dX _ 15 _).cT 16=_
    rw[er Om,er Om,C,D 16 Om]
  · show(Mk.dX _ 15 _).cT 4=_
    rw[er Om,er Om,C,D 4 Om]
  · show(List.set _ 15 _).length=20;rw[List.length_set];exact U
  subst F;rfl
theorem adB (m:Mk) (p v:Nat):(m.put p v).ai=m.ai∧(m.put p v).aj=m.aj∧(m.put p v).c=m.c∧(m.put p v).h=m.h∧(m.put p v).b=iV m.b p v:=by
  unfold Mk.put;exact⟨q,q,q,q,q⟩
theorem WW (m:Mk) (p v q u:Nat):∃R,(m.put p v).put q u=R∧R.ai=m.ai∧R.aj=m.aj∧R.c=m.c∧(∀i,R.cT i=m.cT i)∧R.h.n.length=m.h.n.length∧R.b=iV (iV m.b p v) q u:=by
  obtain⟨C,D,E,A,F⟩:=adB m p v
  obtain⟨G,H,I,B,J⟩:=adB (m.put p v) q u
  exact⟨_,rfl,G.trans C,H.trans D,I.trans E,fun i=>by unfold Mk.cT;rw[B,A],by rw[B,A],by rw[J,F]⟩
section
variable {m:Mk} {l:List Ob}
theorem Stat.far (h:Stat m l) {o:Ob} (ho:o∈l) (hk:o.kind=1∨o.kind=2):304+16*m.c.ay+16*m.c.aA≤o.bn:=by
  have B:=h.eU.mem ho
  have g:=B.ge
  have E:=eF o.size
  have C:mO (16+16*m.c.ay)=16+16*m.c.ay:=by unfold mO;omega
  have u5:mO (16+16*m.c.aA)=16+16*m.c.aA:=by unfold mO;omega
  have D:=B.size.1
  rcases h.eU.sep ho h.GC with e|e|e
  · subst e;simp at hk
  · simp only at e;omega
  simp only[C]at e
  rcases h.eU.sep ho h.HC with A|A|A
  · subst A;simp at hk
  · simp only at A;omega
  simp only[u5]at A;omega
theorem Stat.two (h:Stat m l) {o x:Ob} (ho:o∈l) (hx:x∈l) (so:40≤o.size) (sx:40≤x.size):o.bn=x.bn∨o.bn+40≤x.bn∨x.bn+40≤o.bn:=by
  have:=eF o.size
  have:=eF x.size
  rcases h.eU.sep ho hx with e|e|e
  · exact .inl (by rw[e])
  · exact .inr (.inl Oh)
  exact .inr (.inr Oh)
theorem Stat.apart (h:Stat m l) {o x:Ob} (ho:o∈l) (hx:x∈l) (so:40≤o.size) (sx:40≤x.size) (hk:o.kind≠x.kind):o.bn+40≤x.bn∨x.bn+40≤o.bn:=by
  have:=eF o.size
  have:=eF x.size
  rcases h.eU.sep ho hx with e|e|e
  · exact absurd (congrArg Ob.kind e) hk
  · exact .inl Oh
  exact .inr Oh
theorem Stat.top (h:Stat m l) {o:Ob} (ho:o∈l) (so:40≤o.size):o.bn+40≤m.b.length:=by
  have:=eF o.size
  have:=(h.eU.mem ho).le
  omega
theorem Stat.dd (h:Stat m l):(∀x∈m.ai,304+16*m.c.ay+16*m.c.aA≤x.bn∧x.bn+40≤m.b.length)∧(∀x∈m.aj,304+16*m.c.ay+16*m.c.aA≤x.bn∧x.bn+40≤m.b.length) ∧
    (∀x∈m.ai,∀y∈m.ai,x.bn=y.bn∨x.bn+40≤y.bn∨y.bn+40≤x.bn)∧(∀x∈m.aj,∀y∈m.aj,x.bn=y.bn∨x.bn+40≤y.bn∨y.bn+40≤x.bn)∧(∀x∈m.ai,∀y∈m.aj,x.bn+40≤y.bn∨y.bn+40≤x.bn):=by
  refine⟨fun x A=>?_,fun x A=>?_,fun x A y B=>?_,fun x A y B=>?_,fun x A y B=>?_⟩
  · have o:=(h.data x A).ob;exact⟨h.far o (.inl q),h.top o Lw⟩
  · have o:=(h.YH x A).ob;exact⟨h.far o (.inr q),h.top o Lw⟩
  · exact h.two (h.data x A).ob (h.data y B).ob Lw Lw
  · exact h.two (h.YH x A).ob (h.YH y B).ob Lw Lw
  exact h.apart (h.data x A).ob (h.YH y B).ob Lw Lw Oq
end
theorem NP {ks:List aZ} {k:aZ} (h:(ks.map aZ.bn).Pairwise (· < ·)) (hk:∀x∈ks,x.bn<k.bn):((ks ++ [k]).map aZ.bn).Pairwise (· < ·):=by
  rw[List.map_append,List.pairwise_append]
  refine⟨h,by simp,fun a B b A=>?_⟩
  obtain⟨x,C,rfl⟩:=List.mem_map.1 B
  simp only[List.map_cons,List.map_nil,List.mem_singleton]at A
  subst A;exact hk x C
theorem CR:∀{l:List aZ} {s:Ly},p7 s l=none→∀k∈l,k.cA≠s
  | [],_,_,_,h=>by cases h
  | x :: l,s,h,k,hk=>by
    rw[p7]at h
    split at h
    · cases h
    · rename_i hx
      rcases List.mem_cons.1 hk with rfl|hk
      · exact hx
      · exact CR h k hk
theorem mU.vU {b c:Ly} {tab n:Nat} {ks:List aZ} (h:mU b tab n ks) (h1:∀s:Nat,s<n→eY c (tab+16*s)=eY b (tab+16*s)) (h2:∀k∈ks,eY c (k.bn+24)=eY b (k.bn+24)):mU c tab n ks:=h.keep fun a ha=>by
  rcases ha with⟨s,hs,rfl⟩|⟨k,hk,rfl⟩
  · exact h1 s hs
  · exact h2 k hk
set_option maxHeartbeats 2000000 in
theorem afs {m:Mk} {l:List Ob} (h:Stat m l) (H:Hs m) (x:Pr) (he:∀c∈x.name,c≠61) (hb:m.b.length<900000) (hl:(ak x).length≤1000∧x.name.length≤1000) :
    Hs (m.data x).2∧(m.data x).2.ai.map aZ.cA=if ak x∈m.ai.map aZ.cA then m.ai.map aZ.cA else m.ai.map aZ.cA ++ [ak x]:=by
  cases hk:nC (ak x) m.ai 0 with
  | some i =>
    obtain⟨k,A,L,_⟩:=yq hk
    have e:(m.data x).2=m:=by unfold Mk.data;rw[hk]
    rw[e,if_pos (List.mem_map.2 ⟨k,List.mem_of_getElem? A,L⟩)]
    exact⟨H,q⟩
  | none =>
    have Be:=wI hk
    obtain⟨z,z1,S,z3,T,z5,z6,z7,z8,z9⟩:=abx (m:=m) (x:=x) hk H.h20
    obtain⟨r,kp,kt,ks,ek⟩:∃r:aZ,r.bn=m.b.length∧r.cA=ak x∧r.cO=eK m (ak x)%m.c.ay∧kn (ak x) m.b.length (eK m (ak x)%m.c.ay)=r:=⟨_,q,q,q,q⟩
    rw[ek]at S
    clear ek
    obtain⟨U,J,d2,f2,V⟩:=h.dd
    have B0:=h.slots
    have hh:=uq m (ak x)
    obtain⟨o1,o2⟩:=aeW (ak x) hh
    have Ax:eK m (ak x)%m.c.ay<m.c.ay:=Nat.mod_lt _ Oh
    have hu:=eF (64+(ak x).length)
    generalize ho:yg (eK m (ak x)) (ak x)=o at *
    rw[h.n2]at z1
    -- the datum stands in its chain
    have B1:(m.b ++ o).length=m.b.length+o.length:=List.length_append
    have Aj:∀a,a+8≤m.b.length→eY (m.b ++ o) a=eY m.b a:=fun a M=>ve M
    have K:mU z.b 288 m.c.ay z.ai:=by
      rw[z1,S,← kp,← ks]
      have A:mU (m.b ++ o) 288 m.c.ay m.ai:=H.r4.vU (fun s hs=>Aj _ (by have:=h.eU.mem h.GC;have:=this.le;have:=eF (16+16*m.c.ay);simp only at *;omega)) fun k hk=>Aj _ (by have:=U k hk;omega)
      have t4:=h.eU.mem h.GC
      have Bi:=t4.le
      have B9:=eF (16+16*m.c.ay)
      simp only at Bi
      exact A.hang (k:=r) (by rw[ks];exact Ax) (fun y N=>by have:=U y N;omega) Oh (fun y N=>by have:=U y N;omega) d2 H.a4 (by rw[kp,qw];exact o2) Oh Oh
    have Bo:304+16*m.c.ay+16*m.c.aA≤m.b.length:=by
      have:=h.eU.mem h.HC;have:=this.le;have:=eF (16+16*m.c.aA);simp only at *;omega
    have Ae:∀a,a+8≤m.b.length→(a+8≤288+16*(eK m (ak x)%m.c.ay)∨288+16*(eK m (ak x)%m.c.ay)+16≤a)→(∀y∈m.ai,a+8≤y.bn+24∨y.bn+32≤a)→eY z.b a=eY m.b a:=fun a M A L=>by
      rw[z1]
      rw[← ks]at A ⊢
      exact(CY (n:=m.c.ay) (by rw[ks];exact Ax) A L).trans (Aj a M)
    have F:mU z.b (304+16*m.c.ay) m.c.aA z.aj:=by
      rw[z3]
      exact H.r5.vU (fun s hs=>Ae _ Oh Oh fun y N=>by have:=U y N;omega) fun k hk=>Ae _ (by have:=J k hk;omega) (by have:=J k hk;omega) fun y N=>by have:=V y N k hk;omega
    have D:vI z.b m.ai z.aj:=by
      rw[z3]
      exact H.rd.keep (fun k hk=>Ae _ (by have:=U k hk;omega) (by have:=U k hk;omega) fun y N=>by have:=d2 y N k hk;omega) fun f X=>Ae _ (by have:=J f X;omega) (by have:=J f X;omega) fun y N=>by have:=V y N f X;omega
    have zb:z.b.length=m.b.length+o.length:=by rw[z1,IG,B1]
    have Bf:∀t,eK z t=eK m t:=fun t=>by unfold eK;rw[T]
    rw[z9]
    have A0:∀(w:Mk),w.ai=z.ai→w.ai.map aZ.cA=if ak x∈m.ai.map aZ.cA then m.ai.map aZ.cA else m.ai.map aZ.cA ++ [ak x]:=fun w hw=>by
      rw[hw,S,if_neg (fun hm=>by obtain⟨k,A,L⟩:=List.mem_map.1 hm;exact Be k A L),List.map_append,List.map_cons,List.map_nil,kt]
    have a4:(z.ai.map aZ.bn).Pairwise (· < ·):=by rw[S];exact NP H.a4 fun y N=>by have:=U y N;omega
    have Ay:z.cT 15=z.ai.length:=by
      have:=H.c15
      rw[z5,S,H.n15,List.length_append];exact Nat.mod_eq_of_lt Oh
    have u:qE (ak x)=x.name:=JB he
    cases X:p7 x.name z.aj with
    | some p =>
      obtain⟨f,f1,rfl,f3⟩:=yu X
      have e:z.field x.name=(f.bn,z):=by unfold Mk.field;rw[X]
      rw[e]
      simp only
      have fm:f∈m.aj:=z3 ▸ f1
      have Bw:=J f fm
      have C:(mE z.b (f.bn+32:Nat) 8).1=eY z.b (f.bn+32):=VG Oh
      have B:∀a,(a+8≤m.b.length+32∨m.b.length+40≤a)→(a+8≤f.bn+32∨f.bn+40≤a)→eY (iV (iV z.b (m.b.length+32) (mE z.b (f.bn+32:Nat) 8).1) (f.bn+32) m.b.length) a=eY z.b a:=fun a A L=>by
        rw[gJ Oh,gJ Oh]
      have mk:∀y∈z.ai,y∈m.ai∨y=r:=fun y N=>by rw[S]at N;simpa using N
      obtain⟨Z,eZ,I,E,d,Rn,Rl,Y⟩:=WW z (m.b.length+32) (mE z.b (f.bn+32:Nat) 8).1 (f.bn+32) m.b.length
      rw[eZ]
      clear eZ
      have Q:∀t,eK Z t=eK m t:=fun t=>by unfold eK;rw[d,T]
      refine⟨⟨?_,?_,?_,?_,?_,?_,?_,?_,by rw[I];exact a4,?_,by rw[Rn,I];exact Ay,?_,?_,?_,Rl.trans z8⟩,A0 _ I⟩
      · rw[Y,d,I,T]
        refine K.vU (fun s hs=>B _ Oh Oh) fun k hk=>?_
        rcases mk k hk with A|rfl
        · have:=U k A;have:=V k A f fm;exact B _ Oh Oh
        · exact B _ Oh Oh
      · rw[Y,d,E,T]
        exact F.vU (fun s hs=>B _ Oh Oh) fun k hk=>by
          rw[z3]at hk;have:=J k hk;have:=f2 k hk f fm;exact B _ Oh Oh
      · rw[Y,I,E,S,← kp]
        refine D.put (k:=r) f1 (by rw[f3,kt];exact u.symm) C (fun a M c W=>?_) (fun y N=>?_) (fun g R=>?_) Oh Oh Oh
        · rw[z3]at M W
          exact⟨fun e=>by rw[H.one a M c W e],fun e=>by rw[MF H.a5 M W e]⟩
        · have:=U y N;have:=V y N f fm;omega
        · rw[z3]at R;have:=J g R;have:=f2 g R f fm;omega
      · intro k hk
        rw[I]at hk
        rw[Q,d,T]
        rcases mk k hk with A|rfl
        · exact H.s4 k A
        · rw[ks,kt]
      · intro k hk
        rw[E]at hk
        rw[Q,d,T];exact H.s5 k (z3 ▸ hk)
      · intro k hk
        rw[I]at hk
        rcases mk k hk with A|rfl
        · obtain⟨g,g1,g2⟩:=H.own k A;exact⟨g,by rw[E,z3];exact g1,g2⟩
        · exact⟨f,by rw[E];exact f1,by rw[f3,kt];exact u.symm⟩
      · intro g R
        rw[E]at R
        obtain⟨k,k1,kz2⟩:=H.bear g (z3 ▸ R)
        exact⟨k,by rw[I,S];simp[k1],kz2⟩
      · intro a M c W;rw[E]at M W;exact H.one a (z3 ▸ M) c (z3 ▸ W)
      · rw[E,z3];exact H.a5
      · rw[Rn,E,z6,z3];exact H.n16
      · rw[Y,I,gq,gq,zb,S,List.length_append];have:=H.c15;simp only[List.length_singleton];omega
      · rw[Y,E,gq,gq,zb,z3];have:=H.c16;omega
    | none =>
      have P:=CR X
      obtain⟨y,y1,y2,y3,y4,y5,y6,y7,y8⟩:=YF (m:=z) (name:=x.name) X z8
      have R:=uq z x.name
      obtain⟨q1,q2,q3⟩:=afm x.name R
      have hq:=eF (40+x.name.length)
      have Al:eK z x.name%z.c.aA<m.c.aA:=by rw[T];exact Nat.mod_lt _ Oh
      generalize xe (eK z x.name) x.name=fo at *
      obtain⟨fd,fp,ft,fs,ef⟩:∃fd:aZ,fd.bn=z.b.length∧fd.cA=x.name∧fd.cO=eK z x.name%z.c.aA∧kn x.name z.b.length (eK z x.name%z.c.aA)=fd:=⟨_,q,q,q,q⟩
      rw[ef]at y3
      clear ef
      rw[y1]
      simp only
      rw[z7,h.n4]at y2
      have B2:(z.b ++ fo).length=z.b.length+fo.length:=List.length_append
      have j:∀a,a+8≤z.b.length→eY (z.b ++ fo) a=eY z.b a:=fun a M=>ve M
      have yb:y.b.length=z.b.length+fo.length:=by rw[y2,IG,B2]
      have mk:∀v∈z.ai,v∈m.ai∨v=r:=fun v C=>by rw[S]at C;simpa using C
      have G:mU y.b (304+16*m.c.ay) m.c.aA y.aj:=by
        rw[y2,y3,z3,← fp,← fs]
        have A:mU (z.b ++ fo) (304+16*m.c.ay) m.c.aA m.aj:=by
          rw[← z3]
          exact F.vU (fun s hs=>j _ Oh) fun k hk=>j _ (by rw[z3]at hk;have:=J k hk;omega)
        exact A.hang (k:=fd) (by rw[fs];exact Al) (fun v C=>by have:=J v C;omega) Oh (fun v C=>by have:=J v C;omega) f2 H.a5 (by rw[fp,qw];exact q2) Oh Oh
      have O:∀a,a+8≤z.b.length→(a+8≤304+16*m.c.ay+16*(eK z x.name%z.c.aA)∨304+16*m.c.ay+16*(eK z x.name%z.c.aA)+16≤a)→(∀v∈m.aj,a+8≤v.bn+24∨v.bn+32≤a)→eY y.b a=eY z.b a:=fun a M A L=>by
        rw[y2,z3]
        rw[← fs]at A ⊢
        exact(CY (n:=m.c.aA) (by rw[fs];exact Al) A L).trans (j a M)
      have K2:mU y.b 288 m.c.ay z.ai:=by
        refine K.vU (fun s hs=>O _ Oh Oh fun v C=>by have:=J v C;omega) fun k hk=>?_
        rcases mk k hk with A|rfl
        · have:=U k A;exact O _ Oh Oh fun v C=>by have:=V k A v C;omega
        · exact O _ Oh Oh fun v C=>by have:=J v C;omega
      have D2:vI y.b m.ai y.aj:=by
        have A:vI y.b m.ai z.aj:=D.keep (fun k hk=>by have:=U k hk;exact O _ Oh Oh fun v C=>by have:=V k hk v C;omega) fun f X=>by
          rw[z3]at X;have:=J f X;exact O _ Oh Oh fun v C=>by have:=f2 f X v C;omega
        rw[y3]
        refine A.field (f:=fd) ?_ fun k hk e=>?_
        · rw[y2,z3,← fs]
          refine(CY (n:=m.c.aA) (by rw[fs];exact Al) (by rw[fs];omega) (fun v C=>by have:=J v C;omega)).trans ?_
          rw[fp,qw];exact q3
        · obtain⟨g,g1,g2⟩:=H.own k hk
          exact P g (by rw[z3];exact g1) (by rw[g2,e,ft])
      have C:(mE y.b (z.b.length+32:Nat) 8).1=eY y.b (z.b.length+32):=VG Oh
      have B:∀a,(a+8≤m.b.length+32∨m.b.length+40≤a)→(a+8≤z.b.length+32∨z.b.length+40≤a)→eY (iV (iV y.b (m.b.length+32) (mE y.b (z.b.length+32:Nat) 8).1) (z.b.length+32) m.b.length) a=eY y.b a:=fun a A L=>by
        rw[gJ Oh,gJ Oh]
      have yd:y.ai=z.ai:=y4
      have B4:∀t,eK y t=eK m t:=fun t=>by unfold eK;rw[y5,T]
      have mf:∀g∈y.aj,g∈m.aj∨g=fd:=fun g R=>by rw[y3,z3]at R;simpa using R
      have f1:fd∈y.aj:=by rw[y3];simp
      obtain⟨Z,eZ,I,E,d,Rn,Rl,Y⟩:=WW y (m.b.length+32) (mE y.b (z.b.length+32:Nat) 8).1 (z.b.length+32) m.b.length
      rw[eZ]
      clear eZ
      have Q:∀t,eK Z t=eK m t:=fun t=>by unfold eK;rw[d,y5,T]
      refine⟨⟨?_,?_,?_,?_,?_,?_,?_,?_,by rw[I,yd];exact a4,?_,by rw[Rn,I,y6,yd];exact Ay,?_,?_,?_,Rl.trans y8⟩,A0 _ (I.trans yd)⟩
      · rw[Y,d,I,y5,T,yd]
        refine K2.vU (fun s hs=>B _ Oh Oh) fun k hk=>?_
        rcases mk k hk with A|rfl
        · have:=U k A;exact B _ Oh Oh
        · exact B _ Oh Oh
      · rw[Y,d,E,y5,T]
        refine G.vU (fun s hs=>B _ Oh Oh) fun k hk=>?_
        rcases mf k hk with A|rfl
        · have:=J k A;exact B _ Oh Oh
        · exact B _ Oh Oh
      · rw[Y,I,E,yd,S,← kp,← fp]
        refine D2.put (f:=fd) (k:=r) f1 (by rw[ft,kt];exact u.symm) (by rw[fp];exact C) (fun a M c W=>?_) (fun v C=>?_) (fun g R=>?_) Oh Oh Oh
        · rcases mf a M with A|rfl
          · rcases mf c W with L|rfl
            · exact⟨fun e=>by rw[H.one a A c L e],fun e=>by rw[MF H.a5 A L e]⟩
            · exact⟨fun e=>absurd (e.trans ft) (P a (by rw[z3];exact A)),fun e=>by have:=J a A;omega⟩
          · rcases mf c W with L|rfl
            · exact⟨fun e=>absurd (e.symm.trans ft) (P c (by rw[z3];exact L)),fun e=>by have:=J c L;omega⟩
            · exact⟨fun _=>rfl,fun _=>rfl⟩
        · have:=U v C;omega
        · rcases mf g R with A|rfl
          · have:=J g A;omega
          · omega
      · intro k hk
        rw[I]at hk
        rw[Q,d,y5,T]
        rcases mk k (yd ▸ hk)with A|rfl
        · exact H.s4 k A
        · rw[ks,kt]
      · intro k hk
        rw[E]at hk
        rw[Q,d,y5,T]
        rcases mf k hk with A|rfl
        · exact H.s5 k A
        · rw[fs,ft,Bf,T]
      · intro k hk
        rw[I]at hk
        rcases mk k (yd ▸ hk)with A|rfl
        · obtain⟨g,g1,g2⟩:=H.own k A;exact⟨g,by rw[E,y3,z3];simp[g1],g2⟩
        · exact⟨_,by rw[E];exact f1,by rw[ft,kt];exact u.symm⟩
      · intro g R
        rw[E]at R
        rcases mf g R with A|rfl
        · obtain⟨k,k1,kz2⟩:=H.bear g A
          exact⟨k,by rw[I,yd,S];simp[k1],kz2⟩
        · exact⟨r,by rw[I,yd,S];simp,by rw[kt,ft];exact u⟩
      · intro a M c W e
        rw[E]at M W
        rcases mf a M with A|rfl
        · rcases mf c W with L|rfl
          · exact H.one a A c L e
          · exact absurd (e.trans ft) (P a (by rw[z3];exact A))
        · rcases mf c W with L|rfl
          · exact absurd (e.symm.trans ft) (P c (by rw[z3];exact L))
          · rfl
      · rw[E,y3,z3];exact NP H.a5 fun v C=>by have:=J v C;omega
      · have:=H.c16
        rw[Rn,E,y7,y3,z6,z3,H.n16,List.length_append];exact Nat.mod_eq_of_lt Oh
      · rw[Y,I,gq,gq,yb,zb,yd,S,List.length_append];have:=H.c15;simp only[List.length_singleton];omega
      · rw[Y,E,gq,gq,yb,zb,y3,z3,List.length_append];have:=H.c16;simp only[List.length_singleton];omega
end Go.Wk
namespace Go.Wk
open Go Go.RowKit
def BG (l:List Ob) (a:Nat):Prop:=∀o∈l,(o.kind=4∨o.kind=5→a+8≤o.bn∨o.bn+mO o.size≤a)∧((o.kind=1∨o.kind=2)→40≤o.size→a+8≤o.bn∨o.bn+40≤a)
theorem YG {b:Ly} {l:List Ob} {e a:Nat} (hO:gB b 272 l e) (h:a+8≤272):BG l a:=fun o ho=>by
  have:=(hO.mem ho).ge
  exact⟨fun _=>.inl Oh,fun _ _=>.inl Oh⟩
theorem VB {b:Ly} {l:List Ob} {e a:Nat} (hO:gB b 272 l e) {x:Ob} (hx:x∈l) (h1:x.bn+16≤a) (h2:a+8≤x.bn+mO x.size) (hk:x.kind=6∨x.kind=1∧x.bn+40≤a):BG l a:=fun o ho=>by
  have uo:=eF o.size
  have ux:=eF x.size
  rcases hO.sep ho hx with e1|e1|e1
  · subst e1
    exact⟨fun h=>by omega,fun h _=>by omega⟩
  · exact⟨fun _=>.inr Oh,fun _ _=>.inr Oh⟩
  · exact⟨fun _=>.inl Oh,fun _ _=>.inl Oh⟩
theorem DY {b:Ly} {l:List Ob} {e src a:Nat} {av:List Nat} (hO:gB b 272 l e) (h:zq src av a) (hob:∀k c:Nat,av[k]? = some c→(⟨c,6,24+8*eP (k:Int)⟩:Ob)∈l) (hs:BG l src):BG l a:=by
  rcases h with h|⟨k,c,A,B,C⟩
  · rw[h];exact hs
  exact VB hO (hob k c A) Lw (by rw[jh];simp only;omega) (.inl q)
theorem BG.mono {l r:List Ob} {a:Nat} (h:BG r a) (hs:∀o∈l,o∈r):BG l a:=fun o ho=>h o (hs o ho)
structure Kept (m m':Mk):Prop where
  c:m'.c=m.c
  ds:m'.ai.map oh=m.ai.map oh
  fs:m'.aj=m.aj
  n15:m'.cT 15=m.cT 15
  n16:m'.cT 16=m.cT 16
  len:m.b.length≤m'.b.length
  at4:∀s:Nat,s<m.c.ay→eY m'.b (288+16*s)=eY m.b (288+16*s)
  at5:∀s:Nat,s<m.c.aA→eY m'.b (304+16*m.c.ay+16*s)=eY m.b (304+16*m.c.ay+16*s)
  dd:∀k∈m.ai,eY m'.b (k.bn+24)=eY m.b (k.bn+24)∧eY m'.b (k.bn+32)=eY m.b (k.bn+32)
  ff:∀k∈m.aj,eY m'.b (k.bn+24)=eY m.b (k.bn+24)∧eY m'.b (k.bn+32)=eY m.b (k.bn+32)
theorem Kept.refl (m:Mk):Kept m m:=⟨q,q,q,q,q,Nat.le_refl _,fun _ _=>rfl,fun _ _=>rfl,fun _ _=>⟨q,q⟩,fun _ _=>⟨q,q⟩⟩
theorem Kept.trans {a b c:Mk} (h:Kept a b) (k:Kept b c):Kept a c:=by
  refine⟨k.c.trans h.c,k.ds.trans h.ds,k.fs.trans h.fs,k.n15.trans h.n15,k.n16.trans h.n16,ly h.len k.len,fun s B=>(k.at4 s (by rw[h.c];exact B)).trans (h.at4 s B),fun s B=>?_,fun x A=>?_,fun x A=>?_⟩
  · have:=k.at5 s (by rw[h.c];exact B)
    rw[h.c]at this
    exact this.trans (h.at5 s B)
  · obtain⟨y,C,e,_⟩:=xA h.ds.symm A
    have:=k.dd y C
    rw[e]at this
    exact⟨this.1.trans (h.dd x A).1,this.2.trans (h.dd x A).2⟩
  have:=k.ff x (by rw[h.fs];exact A)
  exact⟨this.1.trans (h.ff x A).1,this.2.trans (h.ff x A).2⟩
theorem Kept.same {m m':Mk} (hb:m'.b=m.b) (hc:m'.c=m.c) (hd:m'.ai=m.ai) (hf:m'.aj=m.aj) (h15:m'.cT 15=m.cT 15) (h16:m'.cT 16=m.cT 16):Kept m m' :=
  ⟨hc,by rw[hd],hf,h15,h16,by rw[hb];exact Nat.le_refl _,fun _ _=>by rw[hb],fun _ _=>by rw[hb],fun _ _=>by rw[hb];exact⟨q,q⟩,fun _ _=>by rw[hb];exact⟨q,q⟩⟩
theorem Kept.me {m m':Mk} {l:List Ob} {S:Nat→Prop} (h:Stat m l) (he:Eff S m.b m'.b) (hs:∀a,S a→BG l a) (hc:m'.c=m.c) (hd:m'.ai.map oh=m.ai.map oh) (hf:m'.aj=m.aj) (h15:m'.cT 15=m.cT 15) (h16:m'.cT 16=m.cT 16):Kept m m':=by
  have H:=h.eU.mem h.GC
  have C:=H.le
  have E:mO (16+16*m.c.ay)=16+16*m.c.ay:=by unfold mO;omega
  have u5:mO (16+16*m.c.aA)=16+16*m.c.aA:=by unfold mO;omega
  have I:=h.eU.mem h.HC
  have D:=I.le
  simp only[E]at C
  simp only[u5]at D
  obtain⟨F,G,_⟩:=h.dd
  refine⟨hc,hd,hf,h15,h16,he.len,fun s B=>he.eY Oh fun a A=>?_,fun s B=>he.eY Oh fun a A=>?_,fun k hk=>?_,fun k hk=>?_⟩
  · have:=((hs a A) _ h.GC).1 (.inl q);simp only[E]at this;omega
  · have:=((hs a A) _ h.HC).1 (.inr q);simp only[u5]at this;omega
  · have d:=F k hk
    have f:∀a,S a→a+8≤k.bn∨k.bn+40≤a:=fun a A=>((hs a A) _ (h.data k hk).ob).2 (.inl q) Lw
    exact⟨he.eY Oh fun a A=>by have:=f a A;omega,he.eY Oh fun a A=>by have:=f a A;omega⟩
  have d:=G k hk
  have f:∀a,S a→a+8≤k.bn∨k.bn+40≤a:=fun a A=>((hs a A) _ (h.YH k hk).ob).2 (.inr q) Lw
  exact⟨he.eY Oh fun a A=>by have:=f a A;omega,he.eY Oh fun a A=>by have:=f a A;omega⟩
theorem WV {ks ks':List aZ} (h:ks'.map oh=ks.map oh):ks'.map aZ.bn=ks.map aZ.bn∧ks'.map aZ.cA=ks.map aZ.cA∧ks'.length=ks.length:=by
  have A:∀ks:List aZ,ks.map aZ.bn=(ks.map oh).map Prod.fst:=fun ks=>by rw[List.map_map];rfl
  have B:∀ks:List aZ,ks.map aZ.cA=(ks.map oh).map fun q=>q.2.2:=fun ks=>by rw[List.map_map];rfl
  exact⟨by rw[A,A,h],by rw[B,B,h],by simpa using congrArg List.length h⟩
theorem Hs.kept {m m':Mk} (H:Hs m) (k:Kept m m') (h20:m'.h.n.length=20):Hs m':=by
  obtain⟨K,L,E⟩:=WV k.ds
  have D:∀t,eK m' t=eK m t:=fun t=>by unfold eK;rw[k.c]
  refine⟨?_,?_,?_,fun x A=>?_,fun x A=>?_,fun x A=>?_,fun f J=>?_,?_,by rw[K];exact H.a4,by rw[k.fs];exact H.a5,by rw[k.n15,E];exact H.n15,by rw[k.n16,k.fs];exact H.n16,?_,?_,h20⟩
  · rw[k.c]
    exact(H.r4.vU k.at4 fun x A=>(k.dd x A).1).key k.ds
  · rw[k.c,k.fs]
    exact H.r5.vU k.at5 fun x A=>(k.ff x A).1
  · rw[k.fs]
    exact(H.rd.keep (fun x A=>(k.dd x A).2) fun x A=>(k.ff x A).2).key k.ds
  · obtain⟨y,C,_,F,B⟩:=xA k.ds A
    rw[D,k.c,← F,← B];exact H.s4 y C
  · rw[D,k.c];exact H.s5 x (k.fs ▸ A)
  · obtain⟨y,C,_,_,B⟩:=xA k.ds A
    obtain⟨f,G,I⟩:=H.own y C
    exact⟨f,by rw[k.fs];exact G,by rw[I,B]⟩
  · obtain⟨y,C,e⟩:=H.bear f (k.fs ▸ J)
    obtain⟨x,A,_,_,B⟩:=xA k.ds.symm C
    exact⟨x,A,by rw[B,e]⟩
  · rw[k.fs];exact H.one
  · rw[E];exact ly H.c15 k.len
  rw[k.fs];exact ly H.c16 k.len
theorem agt {ds:List aZ} {i:Nat} {k k':aZ} (h:ds[i]? = some k) (hk:oh k'=oh k):(ds.set i k').map oh=ds.map oh:=by
  apply List.ext_getElem?
  intro j
  rw[List.getElem?_map,List.getElem?_map]
  by_cases hj:i=j
  · subst hj
    rw[List.getElem?_set_self (List.getElem?_eq_some_iff.1 h).1,h]
    exact congrArg some hk
  rw[List.getElem?_set_ne hj]
theorem CZ {es:List gR} {mp:List Nat} {e:Nat} (he:e<18446744073709551616):∀(od:List Nat) (m:Mk) (l:List Ob) (f:Nat→List Nat),mQ m l es mp f→(∀i∈od,i<m.ai.length)→od.Nodup→(∀i∈od,(f i).length<900000)→m.b.length+2100*od.length<900000→Kept m (kX e od m)
  | [],m,_,_,_,_,_,_,_=>Kept.refl m
  | i :: r,m,l,f,h,hi,hn,hl,hb=>by
    obtain⟨k,hk⟩:∃k,m.ai[i]? = some k:=⟨_,List.getElem?_eq_getElem (hi i Oq)⟩
    simp only[List.length_cons]at hb
    have hds:=h.fq.data k (List.mem_of_getElem? hk)
    obtain⟨l1,k1,H⟩:=OH (e:=e) h.fq.eU hk hds (h.dat i k hk) Oh he (by have:=hl i Oq;omega)
    have g:=h.hang hk H
    have hd1:mq m.ai (kM e i m).ai:=by rw[H.dat];exact mq.set hk H.bn.1 H.bn.2.1
    have P:=H.top
    obtain⟨M,N,Q,R,F⟩:=H.same
    rw[List.nodup_cons]at hn
    obtain⟨t,I,_⟩:=H.sub
    have B:∀o∈l,o∈l1:=fun o L=>by rw[I];exact List.mem_append_left _ L
    have E:=B _ hds.ob
    have u:=eF (64+k.cA.length)
    have A:∀a,k.bn+40≤a→a+8≤k.bn+64→BG l1 a:=fun a C O=>VB H.eU E Lw Lw (.inr ⟨q,C⟩)
    have G:Kept m (kM e i m):=Kept.me h.fq H.me (fun a J=>by
      refine BG.mono ?_ B
      rcases sE J with C|C
      · exact A a C.1 C.2
      · exact DY H.eU C H.more.chain.ob (A _ Oh Oh)) M (by rw[H.dat];exact agt hk (by unfold oh;rw[H.bn.1,H.bn.2.1,H.bn.2.2])) N (F 15 Om Om Om) (F 16 Om Om Om)
    rw[oe]
    have K:∀j∈r,(if j=i then f i ++ [e]else f j)=f j:=fun j D=>if_neg (by rintro rfl;exact hn.1 D)
    exact G.trans (CZ he r (kM e i m) l1 _ g (fun j D=>by rw[hd1.len];exact hi j (by simp[D])) hn.2 (fun j D=>by simp only[K j D];exact hl j (by simp[D])) Oh)
def GQ:List (List UInt8)→List (List UInt8)→List (List UInt8)
  | ts,[]=>ts
  | ts,p :: r=>GQ (if p∈ts then ts else ts ++ [p]) r
theorem NG:∀(a b ts:List (List UInt8)),GQ ts (a ++ b)=GQ (GQ ts a) b
  | [],_,_=>rfl
  | p :: a,b,ts=>NG a b _
theorem HZ:∀(fs:List Pr) (m:Mk) (l:List Ob) (ps:List (List UInt8)) (od:List Nat),Stat m l→(∀q∈fs,BD q)→m.b.length≤(iH fs m ps od).2.2.b.length
  | [],_,_,_,_,_,_=>Nat.le_refl _
  | x :: r,m,l,ps,od,h,hb=>by
    obtain⟨l1,d⟩:=KV h x (hb x Oq)
    exact ly d.step.me.len (HZ r (m.data x).2 l1 _ _ d.fq fun q hq=>hb q (by simp[hq]))
theorem IA:∀(fs:List Pr) (m:Mk) (l:List Ob) (ps:List (List UInt8)) (od:List Nat),Stat m l→Hs m→(∀q∈fs,BD q)→(∀q∈fs,∀c∈q.name,c≠61)→(iH fs m ps od).2.2.b.length<900000 →
    Hs (iH fs m ps od).2.2∧(iH fs m ps od).2.2.ai.map aZ.cA=GQ (m.ai.map aZ.cA) (fs.map ak)
  | [],_,_,_,_,_,H,_,_,_=>⟨H,rfl⟩
  | x :: r,m,l,ps,od,h,H,hb,hn,hl=>by
    have bx:=hb x Oq
    obtain⟨l1,d⟩:=KV h x bx
    have g1:=HZ (x :: r) m l ps od h hb
    have hp:=kP x
    obtain⟨H1,t1⟩:=afs h H x (hn x Oq) Oh ⟨by have:=bx.1;have:=bx.2;omega,by have:=bx.1;omega⟩
    obtain⟨H2,t2⟩:=IA r (m.data x).2 l1 (ps ++ [((m.data x).2.ai.getD (m.data x).1 known0).cA]) (mR (m.data x).2.ai (m.data x).1 od) d.fq H1 (fun q hq=>hb q (by simp[hq])) (fun q hq=>hn q (by simp[hq])) hl
    exact⟨H2,by rw[List.map_cons,GQ,← t1];exact t2⟩
theorem WA {s:Ly} (h:fH s=true):∀c∈s,c≠61:=by
  intro c A e
  subst e
  unfold fH at h
  simp only[Bool.and_eq_true]at h
  have:=List.all_eq_true.1 h.2 61 A
  revert this;decide
theorem XQ {m m':Mk} {l:List Ob} {es:List gR} {raw fs:List Pr} {cr mono s:Nat} {bV:Ly} (h:Img m l es) (H0:Hs m) (ok:wu m) (hb:bV.length=16) (hl:kZ raw=(fs,0)) (ha:m.append raw cr mono bV=(s,0,m')) :
    Hs m'∧m'.ai.map aZ.cA=GQ (m.ai.map aZ.cA) (fs.map ak):=by
  by_cases h3:m.cT 9=18446744073709551615
  · have e:m.append raw cr mono bV=(0,1,m):=by unfold Mk.append;simp only[hl];rw[if_neg Oq,if_pos h3]
    rw[e]at ha
    have:=congrArg (fun x=>x.2.1) ha
    simp at this
  have j:=H0.h20
  have Q:=yM m raw cr mono bV
  rw[ha]at Q
  obtain⟨P,A,Ag,Bg,Bh⟩:=vu hl
  obtain⟨g,_⟩:=uz hl
  have D:=vh fs m [] [] 0 (qx ok) g
  obtain⟨l1,I,W⟩:=ye fs [] m l [] [] es (es.map gR.bn) (places es) h.c (fun i K=>FL h.who i K) ⟨rfl,by simp,by simp,List.Pairwise.nil⟩ g (by rw[List.nil_append];exact zw P A)
  have T:=IA fs m l [] [] h.c.fq H0 g (fun q hq=>WA (by have:=A q hq;unfold right at this;simp only[Bool.and_eq_true]at this;exact this.1))
  rcases hd:iH fs m [] []with⟨ps,V,x⟩
  rw[hd,Nat.zero_add]at D
  rw[hd]at I W T
  rw[List.nil_append]at W
  simp only at D I W T
  have s1:=ok.small
  have s4:=ok.nb
  have d2:=D.app.le
  have d5:=D.len.1
  have M:=h.n8
  have A0:es.length≤40000:=by
    have:m.n8=es.length:=M
    omega
  obtain⟨Hx,tx⟩:=T Oh
  obtain⟨c1,c2,c3⟩:=I.same
  have n8:x.cT 8=m.cT 8:=c3 8 Om Om Om
  have u:=HJ W.HG
  generalize hE:({seq:=(x.cT 9+1)%18446744073709551616,cr:=cr,mono:=mono,bV:=bV,xor:=nk 0 ps,aD:=jG x V}:gH)=E
  have eb:E.bV.length=16:=by subst hE;exact hb
  have ei:E.aD.length=V.length:=by subst hE;simp[jG]
  have G:=I.img.entry (E:=E) (who:=V) eb Oh
  have U:=(iM x (eA E))
  have H:=fC x (eA E)
  have X:∀i,i≠6→i≠7→(x.di (eA E)).2.cT i=x.cT i:=fun i h6 h7=>LM x _ ⟨h6,h7⟩
  have F:(x.di (eA E)).2.b=x.b ++ eA E:=rfl
  have el:=mH E eb
  rcases N:x.di (eA E)with⟨e,B⟩
  rw[N]at G U H X F
  simp only at G U H X F
  have r:e=x.b.length:=U.1
  subst r
  have K2:Kept x B:=by
    refine Kept.me I.img.fq (S:=fun _=>False) (by rw[F];exact Eff.app _ _ _) (fun _ hf=>hf.elim) H.1 (by rw[H.2.1]) H.2.2.1 (X 15 Om Om) (X 16 Om Om)
  have y:B.cT 8=(es.map gR.bn).length:=by rw[X 8 Om Om,n8,M,List.length_map]
  have Ba:x.b.length<100000:=by omega
  obtain⟨l3,L⟩:=LF (x:=x.b.length) G.fq.eU G.main (rJ _) (by have:=U.2.1;omega) Oh
  rw[← y]at L
  rcases hk:B.link B.main (B.cT 8) 176 x.b.length with⟨a,t,C⟩
  rw[hk]at L
  simp only at L
  have d:=kL (cr:=cr) (mono:=mono) (bV:=bV) hl Oq h3 hd (by rw[hE];exact N) hk rfl
  obtain⟨t1,t2,t3,t4,t5,t6⟩:=L.same
  have K3:Kept B C:=by
    have O:∀o∈(l1 ++ [(⟨x.b.length,3,64+16*E.aD.length⟩:Ob)]),o∈l3:=fun o N=>by
      rcases L.sub with e1|e1 <;> rw[e1]
      · exact N
      · exact List.mem_append_left _ N
    exact Kept.me G.fq L.me (fun a ha=>BG.mono (DY L.eU ha L.chain.ob (YG L.eU Om)) O) t1 (by rw[t2]) t3 (t6 15 Om Om Om) (t6 16 Om Om Om)
  obtain⟨Y,Z⟩:∃Y,Y=(let m4:=({C with main:=a}:Mk).dX 11 (a.getD 0 0);({m4 with h:={m4.h with eu:=jX a%4294967296,eC:=t%4294967296}}:Mk)):=⟨_,rfl⟩
  have J:∀i,i≠11→Y.cT i=C.cT i:=fun i K=>by subst Z;exact bB Oh
  have Ys:Y.b=C.b∧Y.c=C.c∧Y.ai=C.ai∧Y.aj=C.aj∧Y.main=a∧Y.h.n.length=C.h.n.length:=by subst Z;exact⟨rfl,rfl,rfl,rfl,rfl,by simp[Mk.dX]⟩
  rw[← Z]at d
  clear Z
  obtain⟨y1,y2,y3,y4,y5,y6⟩:=Ys
  have K4:Kept C Y:=Kept.same y1 y2 y3 y4 (J 15 Om) (J 16 Om)
  have I3:=G.link L y1 y2 y3 y4 y5 ⟨J 2 Om,J 4 Om⟩ (fun c=>c.to y6 fun i K=>J i Oh)
  have Ah:=L.top
  have f:Y.ai=x.ai:=by rw[y3,t2,H.2.1]
  have Ai:=U.2.1
  have K5:=CZ (e:=x.b.length) Oh V Y l3 _ I3 (fun i K=>by rw[f];exact W.lt i K) u (fun i _=>by have:=FK es i;omega) (by rw[y1];omega)
  generalize kX x.b.length V Y=z at *
  replace d:m.append raw cr mono bV=if z.c.bY<z.b.length then(0,15,m)else((x.cT 9+1)%18446744073709551616,0,oc z (B.cT 8) ((x.cT 9+1)%18446744073709551616) cr mono x.b.length bV):=d
  rw[d]at ha
  split at ha
  · have:=congrArg (fun x=>x.2.1) ha;simp at this
  obtain⟨k1,kz2,kz3,kz4,_⟩:=vm z (B.cT 8) ((x.cT 9+1)%18446744073709551616) cr mono x.b.length bV
  have v:=um z (B.cT 8) ((x.cT 9+1)%18446744073709551616) cr mono x.b.length bV 15 Om
  have w:=um z (B.cT 8) ((x.cT 9+1)%18446744073709551616) cr mono x.b.length bV 16 Om
  obtain⟨_,k⟩:=Prod.mk.inj ha
  have p:=(Prod.mk.inj k).2
  generalize oc z (B.cT 8) ((x.cT 9+1)%18446744073709551616) cr mono x.b.length bV=R at *
  subst p
  have KR:Kept x R:=K2.trans (K3.trans (K4.trans (K5.trans (Kept.same k1 kz2 kz3 kz4 v w))))
  exact⟨Hx.kept KR (Q.trans j),by rw[(WV KR.ds).2.1];exact tx⟩
def MY (rs:List Rec):List (List UInt8):=rs.flatMap fun r=>r.aj.map ak
theorem IU:∀(n:Nat) (s:Sq) (m:Mk) (l:List Ob) (es:List gR) (rs:List Rec),pP m l es rs→Hs m→m.ai.map aZ.cA=GQ [] (MY rs) →
    Hs (jH n s m rs).1∧(jH n s m rs).1.ai.map aZ.cA=GQ [] (MY (jH n s m rs).2.1)
  | 0,_,_,_,_,_,_,H,ht=>⟨H,ht⟩
  | n+1,s,m,l,es,rs,h,H,ht=>by
    unfold jH
    split
    · have hr:=FX s ((m.cT 9+1)%18446744073709551616)
      rcases hrec:s.record ((m.cT 9+1)%18446744073709551616)with⟨r,s1⟩
      rw[hrec]at hr
      have hk:=(yD m r.aj r.cr r.mono r.bV).2
      rcases ha:m.append r.aj r.cr r.mono r.bV with⟨e,c,m1⟩
      rw[ha]at hk
      simp only[ha]
      split
      · rename_i hc
        have:=hk hc
        simp only at this
        subst this
        exact⟨H,ht⟩
      · rename_i hc
        have hc0:c=0:=Classical.not_not.1 hc
        subst hc0
        obtain⟨l1,es1,g1,g2⟩:=XG h hr.1 hr.2.1 hr.2.2.1 hr.2.2.2 ha
        obtain⟨_,_,fs,hl,_⟩:=HF h.img h.ok h.h20 hr.2.1 hr.2.2.1 ha
        have hfs:=E1 hl hr.2.2.2
        obtain⟨H1,t1⟩:=XQ h.img H h.ok hr.2.1 hl ha
        exact IU n s1 m1 l1 es1 _ g1 H1 (by
          rw[t1,ht,hfs];unfold MY;rw[List.flatMap_append,NG];simp)
    · exact⟨H,ht⟩
theorem ac4 {c:nV} {t:Nat} (h1:1≤c.ay∧1≤c.aA):Hs (ja c t):=by
  obtain⟨_,G,H⟩:=ag7 (k:=4) (.inl q) c.ay
  obtain⟨_,J,I⟩:=ag7 (k:=5) (.inr q) c.aA
  have E:(ja c t).b=List.replicate 272 0 ++ fE 4 (List.replicate c.ay {first:=0,tail:=0}) ++ fE 5 (List.replicate c.aA {first:=0,tail:=0}):=rfl
  have D:(List.replicate 272 (0:UInt8) ++ fE 4 (List.replicate c.ay {first:=0,tail:=0})).length=288+16*c.ay:=by rw[List.length_append,List.length_replicate,G];omega
  have B:(ja c t).ai=[]:=rfl
  have A:(ja c t).aj=[]:=rfl
  have F:(ja c t).c=c:=rfl
  refine⟨⟨by rw[B];simp,fun s C=>?_,by rw[B];simp[jN]⟩,⟨by rw[A];simp,fun s C=>?_,by rw[A];simp[jN]⟩,⟨by rw[A];simp,by rw[B];simp[nT]⟩,by rw[B];simp,by rw[A];simp,by rw[B];simp,by rw[A];simp,by rw[A];simp,by rw[B];simp,by rw[A];simp,?_,?_,by rw[B];simp,by rw[A];simp,?_⟩
  · rw[F]at C
    rw[B,E,ve (by rw[D];omega),iQ (by rw[List.length_replicate];omega),List.length_replicate,show 288+16*s-272=16+8*(2*s)by omega,H _ Oh];rfl
  · rw[F]at C ⊢
    rw[A,E,iQ Oh,D,show 304+16*c.ay+16*s-(288+16*c.ay)=16+8*(2*s)by omega,I _ Oh];rfl
  · rw[B];show(((((((((List.replicate 20 0).set 0 272).set 2 288).set 3 _).set 4 _).set 5 _).set 6 _).set 7 2).set 9 _).getD 15 0=0;rw[bB Om,bB Om,bB Om,bB Om,bB Om,bB Om,bB Om,bB Om];rfl
  · rw[A];show(((((((((List.replicate 20 0).set 0 272).set 2 288).set 3 _).set 4 _).set 5 _).set 6 _).set 7 2).set 9 _).getD 16 0=0;rw[bB Om,bB Om,bB Om,bB Om,bB Om,bB Om,bB Om,bB Om];rfl
  show(((((((((List.replicate 20 0).set 0 272).set 2 288).set 3 _).set 4 _).set 5 _).set 6 _).set 7 2).set 9 _).length=20;simp only[List.length_set,List.length_replicate]
theorem acs {s s':Sq} {bY:Nat} {m:Mk} {rs:List Rec} (h:s.pZ bY=(m,rs,s')):Hs m∧m.ai.map aZ.cA=GQ [] (MY rs):=by
  have A:=vg s
  rcases h1:s.config with⟨c,C⟩
  rcases h2:C.cT 6 with⟨t,F⟩
  rw[h1]at A
  have B:=C.kG 6
  rw[h2]at B
  simp only at B A
  simp only[Sq.pZ,h1,h2]at h
  obtain⟨D,E,G⟩:=PK (c:=c) (t:=t) A.1 A.2.1 Oh
  have:=IU bY F (ja c t) (rP c) [] [] ⟨D,xB A.1 A.2.1 A.2.2,q,E,q,by simp,List.Pairwise.nil,by simp⟩ (ac4 A.2.1) q
  rw[h]at this
  exact this
end Go.Wk
namespace Go.Wk
open Go Go.RowKit
section
variable {m:Mk} {B:Ly} {H:bS} {l:List Ob} {es:List gR} {rs:List Rec}
end
section
variable {nx cd:Nat→Nat} {is:Nat→Bool} {len:Nat} {L:List Nat}
end
section
variable {m:Mk} {B:Ly} {H:bS} {l:List Ob} {es:List gR} {rs:List Rec}
theorem aeg (im:pP m l es rs) (hs:Hs m):(∀k∈m.ai,1≤k.cA.length)∧∀f∈m.aj,1≤f.cA.length:=by
  refine⟨fun k hk=>uU im.img.txt hk,fun f C=>?_⟩
  obtain⟨k,hk,e⟩:=hs.bear f C
  obtain⟨q,A,B⟩:=im.img.txt k hk
  unfold right at A
  simp only[Bool.and_eq_true]at A
  rw[← e,B,JB (WA A.1)]
  have:=A.1
  unfold fH at this
  simp only[Bool.and_eq_true,decide_eq_true_eq]at this
  exact this.1.1.1
end
end Go.Wk
namespace Go.Wk
open Go Go.RowKit
theorem UQ {b:Ly}:∀{l:List Ob} {p e:Nat} (o k:List Nat),gB b p l e→p%8=0→e=b.length→HT b p o k=((o ++ l.map Ob.bn,k ++ l.map Ob.kind),0)
  | [],p,e,o,k,h,_,he=>by
    have:p=e:=h
    rw[abq Oh];simp
  | x :: r,p,e,o,k,h,hp,he=>by
    have hm:=gB.mem h (List.mem_cons_self ..)
    have hle:=hm.le
    have hu:=eF x.size
    have hf:=rC hm hp Oh
    have hx:x.bn=p:=h.1
    rw[hx]at hf
    have h16:=hm.size.1
    have h2:gB b (p+mO x.size) r e:=h.2.2.2.2.2.2
    have hu8:mO x.size=(x.size+7)/8*8:=rfl
    rw[agS Oh hf Oq,UQ _ _ h2 Oh he,List.map_cons,List.map_cons,hx]
    simp
theorem BW {b:Ly} {v:eR}:∀{l:List Ob} {o:Ob},o∈l→pS b v o.bn o.kind≠0→(tH b v (l.map Ob.bn) (l.map Ob.kind)).2≠0
 | [],_,h,_=>by simp at h
 | x :: r,o,h,hd=>by
  rw[List.map_cons,List.map_cons,tH]
  split
  ·assumption
  ·rename_i h0
   rcases List.mem_cons.1 h with rfl|h
   ·exact absurd hd h0
   ·exact BW h hd
theorem UM {v:eR}:∀{a:List Nat} {p:Nat} (i f l:Nat),p∈a→(zU v p).2≠0→(Oi v a i f l).1.2≠0
 | [],_,_,_,_,h,_=>by simp at h
 | x :: r,p,i,f,l,h,hd=>by
  rw[Oi]
  split
  ·assumption
  ·rename_i h0
   split
   ·simp
   ·split
    ·assumption
    ·rcases List.mem_cons.1 h with rfl|h
     ·exact absurd hd h0
     ·exact UM _ _ _ h hd
structure Sp (l:List Ob) (o:Ob) (i:Nat):Prop where
  mem:o∈l
  lo:o.bn+16≤i
  hi:i<o.bn+o.size
section
variable {m:Mk} {B:Ly} {H:bS} {l:List Ob} {es:List gR} {rs:List Rec} {o:Ob} {i:Nat} {v:UInt8}
theorem Sp.al8 (s:Sp l o i) (op:iD m B H l es):o.bn%8=0∧o.bn+16≤8*(i/8)∧8*(i/8)+8≤o.bn+mO o.size∧272≤o.bn:=by
  have A:=op.img.fq.eU.mem s.mem
  have C:=A.al Om
  have D:=A.ge
  have E:=s.lo
  have F:=s.hi
  refine⟨C,by omega,?_,D⟩
  have:mO o.size=(o.size+7)/8*8:=rfl
  omega
theorem Sp.off (s:Sp l o i) (op:iD m B H l es) {x:Ob} (hx:x∈l) (hn:x.bn≠o.bn):8*(i/8)+8≤x.bn∨x.bn+mO x.size≤8*(i/8):=by
  obtain⟨_,A,C,_⟩:=s.al8 op
  rcases op.img.fq.eU.sep hx s.mem with e|e|e
  · rw[e]at hn;exact absurd q hn
  · exact .inr Oh
  exact .inl Oh
theorem Sp.eU (s:Sp l o i) (op:iD m B H l es):gB (B.set i v) 272 l (B.set i v).length:=by
  rw[List.length_set]
  refine op.img.fq.eU.me (KX B i v) (Nat.le_refl _) fun x A a C=>?_
  subst C
  obtain⟨_,D,E,_⟩:=s.al8 op
  by_cases hn:x.bn=o.bn
  · exact .inr Oh
  have:=s.off op A hn
  have G:=(op.img.fq.eU.mem A).size.1
  have F:=eF x.size
  omega
theorem Sp.frame (s:Sp l o i) (op:iD m B H l es) {x:Ob} (hx:x∈l):e6 (B.set i v) x.bn=({kind:=x.kind,flags:=0,size:=x.size},0):=by
  have A:=(s.eU (v:=v) op).mem hx
  have C:=eF x.size
  exact rC A Om (by have:=A.le;omega)
theorem Sp.same (s:Sp l o i) (op:iD m B H l es) {x:Ob} (hx:x∈l) (hp:x.bn=o.bn):x=o:=by
  have C:=(op.img.fq.eU.mem hx).size.1
  have D:=(op.img.fq.eU.mem s.mem).size.1
  have E:=eF x.size
  have F:=eF o.size
  rcases op.img.fq.eU.sep hx s.mem with e|e|e
  · exact e
  · omega
  omega
theorem Sp.dat (s:Sp l o i) (im:pP m l es rs) (op:iD m B H l es) (hk:o.kind=1) (h64:o.bn+64≤i) (hne:dW m.c.dx m.c.cG (seg (B.set i v) (o.bn+64) (o.size-64))≠dW m.c.dx m.c.cG (seg B (o.bn+64) (o.size-64))):BV {b:=B.set i v,h:=H} o.bn≠0:=by
  obtain⟨C,D,N⟩:=op.img.fq.all o s.mem hk
  have F:=op.img.fq.data C D
  have L:=s.same op F.ob N
  obtain⟨Q,M⟩:=List.mem_iff_getElem?.1 D
  have O:=s.hi
  subst L
  simp only at O h64 hne
  rw[show 64+C.cA.length-64=C.cA.length by omega]at hne
  have P:seg B (C.bn+64) C.cA.length=C.cA:=F.cA
  rw[P]at hne
  have E:Spt m Q C i:=⟨M,h64,by omega⟩
  obtain⟨d,G,I,J⟩:=E.this (v:=v) op (uU im.img.txt D)
  have K:(gP m.c.dx m.c.cG 272 (B.set i v) C.bn).2=9:=ahm G q (by rw[I,J];exact fun h=>hne h.symm)
  have e:(yV (decide (H.bW &&& 4≠0)) H.cG (H.n.getD 0 0) (B.set i v) C.bn).2=9:=by
    rw[pX op.key,op.cG,ZG im op];exact K
  unfold BV
  simp only[e]
  rw[if_neg Om]
  decide
theorem Sp.YH (s:Sp l o i) (im:pP m l es rs) (op:iD m B H l es) (hs:Hs m) (hk:o.kind=2) (h40:o.bn+40≤i) (hne:dW m.c.dx m.c.cG (seg (B.set i v) (o.bn+40) (o.size-40))≠dW m.c.dx m.c.cG (seg B (o.bn+40) (o.size-40))):wT {b:=B.set i v,h:=H} o.bn≠0:=by
  obtain⟨A,C,M⟩:=op.img.fq.XO o s.mem hk
  have D:=op.img.fq.YH A C
  have J:=s.same op D.ob M
  have G:=s.frame (v:=v) op s.mem
  have I:=op.img.fq.eU.mem s.mem
  have O:=eF o.size
  have L:=s.hi
  have E:=I.ge
  have F:=I.le
  have P:=(aeg im hs).2 A C
  subst J
  simp only at L h40 hne G O E F
  rw[show 40+A.cA.length-40=A.cA.length by omega]at hne
  have N:seg B (A.bn+40) A.cA.length=A.cA:=D.cA
  rw[N]at hne
  have e:ji 272 (B.set i v) A.bn=({cQ:=eK m A.cA,bT:=eY (B.set i v) (A.bn+24),dat:=eY (B.set i v) (A.bn+32),ak:=seg (B.set i v) (A.bn+40) A.cA.length},0):=by
    unfold ji lu
    rw[if_neg (by rw[List.length_set];omega),G,if_neg Oq,if_neg Oq,if_neg Lw]
    have K:eY (B.set i v) (A.bn+16)=eK m A.cA:=by rw[jO Oh];exact D.cQ
    rw[K]
    simp only
    rw[show 40+A.cA.length-40=A.cA.length by omega]
    rfl
  unfold wT
  simp only[ZG im op,pX op.key,op.cG,e]
  rw[if_neg Oq,if_pos (fun h=>hne h.symm)]
  decide
theorem Sp.al6 (s:Sp l o i) (im:pP m l es rs) (op:iD m B H l es) (h3:o.kind=3) {k:aZ} (hk:k∈m.ai):gP m.c.dx m.c.cG 272 (B.set i v) k.bn=gP m.c.dx m.c.cG 272 B k.bn:=by
  have K:=uU im.img.txt hk
  have C:=(op.img.fq.data k hk).ob
  have F:=op.img.fq.eU.mem C
  have D:=(s.eU (v:=v) op).mem C
  have A:=F.le
  have L:=eF (64+k.cA.length)
  have E:=s.off op C (fun e=>by have:=s.same op C e;rw[← this]at h3;simp at h3)
  simp only at A E
  have hle':k.bn+(64+k.cA.length)≤B.length:=ly Oh A
  have G:=LP (k:=1) (n:=6) F Om hle' q Lw
  have I:=LP (k:=1) (n:=6) D Om (by rw[List.length_set];exact hle') q Lw
  simp only at G I
  have e:gN (B.set i v) (k.bn+16) 6=gN B (k.bn+16) 6:=by
    unfold gN
    exact List.map_congr_left fun j J=>jO (by have:=List.mem_range.1 J;omega)
  have d:gm 272 (B.set i v) k.bn=gm 272 B k.bn:=by
    unfold gm
    rw[List.length_set,(ou G).2 Oq |>.2,(ou I).2 Oq |>.2,sR Oh,e]
  unfold gP
  rw[d]
end
theorem VO:∀{a b:Ly},a.length=b.length→vM a=vM b→a=b
  | [],[],_,_=>rfl
  | [],_ :: _,h,_=>by simp at h
  | _ :: _,[],h,_=>by simp at h
  | x :: a,y :: b,h,e=>by
    rw[vM,vM]at e
    have h1:=x.toNat_lt
    have h2:=y.toNat_lt
    have hxy:x=y:=UInt8.toNat_inj.1 Oh
    subst hxy
    rw[VO (a:=a) (b:=b) (by simpa using h) Oh]
theorem adU {b:Ly} {i q n:Nat} {v:UInt8} (h:q≤i):seg (b.set i v) q n=(seg b q n).set (i-q) v:=by
  unfold seg
  rw[List.drop_set,if_neg Oh,List.take_set]
theorem aaZ {b:Ly} {i q:Nat} {v w:UInt8} (h1:q≤i) (h2:i<q+8) (hi:b[i]? = some w) (hv:v≠w):eY (b.set i v) q≠eY b q:=by
  intro e
  have e':vM (seg (b.set i v) q 8)=vM (seg b q 8):=e
  rw[adU h1]at e'
  have:=VO Oq e'
  have B:((seg b q 8).set (i-q) v)[i-q]? = (seg b q 8)[i-q]?:=by rw[this]
  have A:(seg b q 8)[i-q]? = some w:=by rw[qP Oh,show q+(i-q)=i by omega];exact hi
  rw[A,List.getElem?_set_self (by have:=(List.getElem?_eq_some_iff.1 A).1;exact this)]at B
  exact hv (by simpa using B)
theorem JM:∀{a b:List kg},a.map kg.bn=b.map kg.bn→qf a=qf b
  | [],[],_=>rfl
  | [],_ :: _,h=>by simp at h
  | _ :: _,[],h=>by simp at h
  | [x],[y],_=>rfl
  | [x],y :: z :: r,h=>by simp at h
  | x :: z :: r,[y],h=>by simp at h
  | x :: z :: r,y :: w :: t,h=>by
    simp only[List.map_cons,List.cons.injEq]at h
    rw[qf,qf,h.1,h.2.1,JM (a:=z :: r) (b:=w :: t) (by simp only[List.map_cons,List.cons.injEq];exact⟨h.2.1,h.2.2⟩)]
section
variable {x:Ly} {j:Nat} {v w:UInt8} {e:gH}
theorem abA (h:r8 x=(e,0)):eY x 0≠0∧qf (r7 x).aD=true∧r7 x=e:=by
  unfold r8 at h
  split at h
  · have:=congrArg Prod.snd h;simp at this
  rename_i h0
  split at h
  · have:=congrArg Prod.snd h;simp at this
  rename_i h1
  exact⟨h0,by simpa using h1,congrArg Prod.fst h⟩
theorem NU (h:40≤j):((x.set j v).drop 24).take 16=(x.drop 24).take 16:=sR (b:=x) (q:=24) (n:=16) Oh
theorem abB (h:r8 x=(e,0)) (h1:40≤j) (h2:j<48) (hx:x[j]? = some w) (hv:v≠w):∃z,z≠e.xor∧r8 (x.set j v)=({e with xor:=z},0):=by
  obtain⟨A,B,rfl⟩:=abA h
  have C:r7 (x.set j v)={r7 x with xor:=eY (x.set j v) 40}:=by
    unfold r7
    rw[jO Oh,jO Oh,jO Oh,NU h1,List.length_set]
    have:jg (x.set j v) 48 ((x.length-48)/16)=jg x 48 ((x.length-48)/16):=by
      unfold jg
      exact List.map_congr_left fun k _=>by rw[jO Oh,jO Oh]
    rw[this]
  refine⟨eY (x.set j v) 40,aaZ h1 Oh hx hv,?_⟩
  unfold r8
  rw[jO Oh,if_neg A,C,if_neg (by rw[B];simp)]
theorem ab9 {t:Nat} (h:r8 x=(e,0)) (h1:56+16*t≤j) (h2:j<64+16*t) (ht:t<e.aD.length) (hx:x[j]? = some w) (hv:v≠w):∃(is:List kg) (y y':kg),r8 (x.set j v)=({e with aD:=is},0)∧e.aD[t]? = some y∧is[t]? = some y'∧y'.bn=y.bn∧y'.cQ≠y.cQ∧is.length=e.aD.length:=by
  obtain⟨A,B,rfl⟩:=abA h
  have C:r7 (x.set j v)={r7 x with aD:=jg (x.set j v) 48 ((x.length-48)/16)}:=by
    unfold r7
    rw[jO Oh,jO Oh,jO Oh,jO Oh,NU Oh,List.length_set]
  have E:(r7 x).aD.length=(x.length-48)/16:=qC _ _ _
  have D:(jg (x.set j v) 48 ((x.length-48)/16)).map kg.bn=(r7 x).aD.map kg.bn:=by
    show _=(jg x 48 ((x.length-48)/16)).map kg.bn
    unfold jg
    rw[List.map_map,List.map_map]
    exact List.map_congr_left fun k _=>by show eY _ _=eY _ _;rw[jO Oh]
  refine⟨jg (x.set j v) 48 ((x.length-48)/16),{bn:=eY x (48+16*t),cQ:=eY x (48+16*t+8)},{bn:=eY (x.set j v) (48+16*t),cQ:=eY (x.set j v) (48+16*t+8)},?_,?_,?_,jO Oh,aaZ Oh Oh hx hv,by rw[qC,E]⟩
  · unfold r8
    rw[jO Oh,if_neg A,C]
    rw[if_neg (by show ¬qf (jg (x.set j v) 48 ((x.length-48)/16))=false;rw[JM D,B];simp)]
  · show(jg x 48 _)[t]? = _
    unfold jg;rw[List.getElem?_map,List.getElem?_range Oh];rfl
  unfold jg;rw[List.getElem?_map,List.getElem?_range Oh];rfl
end
theorem FV {k:Bool} {f:Ly} {s:Nat} {b:Ly}:∀{l:List kg} {x:kg} (fs:List Pr) (all:List (List UInt8)),x∈l→(gP k f s b x.bn).1.cQ≠x.cQ→(jM k f s b l fs all).2≠0
  | [],_,_,_,h,_=>by simp at h
  | y :: r,x,fs,all,h,hd=>by
    rw[jM]
    split
    · assumption
    · split
      · simp
      · rename_i h2
        split
        · assumption
        · rcases List.mem_cons.1 h with rfl|h
          · exact absurd hd h2
          · exact FV _ _ h hd
theorem FW {k:Bool} {f:Ly} {s:Nat} {b c:Ly}:∀{l:List kg} (fs:List Pr) (all:List (List UInt8)),(∀x∈l,gP k f s c x.bn=gP k f s b x.bn)→jM k f s c l fs all=jM k f s b l fs all
  | [],_,_,_=>rfl
  | y :: r,fs,all,h=>by
    rw[jM,jM,h y Oq,FW _ _ fun x hx=>h x (by simp[hx])]
theorem agk {k:Bool} {f:Ly} {s:Nat} {b:Ly} {p:Nat} {r:Rec} {e:gH} (h:mS k f s b p=(r,0)) (he:ig s b p=(e,0)):∃fs all,jM k f s b e.aD [] []=((fs,all),0)∧e.xor=nk 0 all∧e.aD.length≤16:=by
  unfold mS at h
  rw[he]at h
  simp only[ne_eq,not_true_eq_false,if_false]at h
  split at h
  · have:=congrArg Prod.snd h;simp at this
  rename_i h1
  split at h
  · rename_i h2;exact absurd (congrArg Prod.snd h) h2
  rename_i h2
  split at h
  · rename_i h3
    exact⟨_,_,Prod.ext q (Classical.not_not.1 h2),h3,by omega⟩
  have:=congrArg Prod.snd h;simp at this
section
variable {m:Mk} {B:Ly} {H:bS} {l:List Ob} {es:List gR} {rs:List Rec} {o:Ob} {i:Nat} {v w:UInt8}
theorem Sp.ent (s:Sp l o i) (im:pP m l es rs) (op:iD m B H l es) (h3:o.kind=3) (h56:o.bn+56≤i):∃g∈es,g.bn=o.bn∧o.size=64+16*g.ent.aD.length∧∃x:List UInt8,r8 x=(g.ent,0)∧ig 272 (B.set i v) o.bn=r8 (x.set (i-(o.bn+16)) v)∧x[i-(o.bn+16)]? = B[i]?:=by
  have O:o.bn∈(l.filter fun o=>decide (o.kind=3)).map Ob.bn:=List.mem_map.2 ⟨o,List.mem_filter.2 ⟨s.mem,decide_eq_true h3⟩,q⟩
  rw[op.img.kin]at O
  obtain⟨g,D,K⟩:=List.mem_map.1 O
  have Q:=op.img.ent g D
  have P:=s.same op Q.ob K
  have R:=s.hi
  have J:=s.lo
  have E:=op.img.fq.eU.mem s.mem
  have F:=(s.eU (v:=v) op).mem s.mem
  have I:=E.le
  have G:=E.ge
  have S:=eF o.size
  have L:vH {m with b:=B} g:=(im.img.who g D).bytes q q
  have T:g.ent.aD.length=g.who.length:=by rw[L.aD,List.length_map]
  have U:=L.len
  have C:ig 272 B g.bn=(g.ent,0):=RQ op.img L D (by have:=im.ok.small;have:=op.len;show B.length<_;omega)
  refine⟨g,D,K,by rw[← P],seg B (o.bn+16) (o.size-16),?_⟩
  rw[K]at C
  subst P
  simp only at R I G S h56 J C
  have M:=KL (k:=3) (ahead:=48) (iI:=16) E Om Lw q Lw Lw
  have N:=KL (k:=3) (ahead:=48) (iI:=16) F Om (by rw[List.length_set];simp only;omega) q Lw Lw
  simp only at M N
  refine⟨?_,?_,?_⟩
  · unfold ig kI at C
    rw[if_neg Oh,M]at C
    simpa using C
  · unfold ig kI
    rw[if_neg (by rw[List.length_set];omega),N]
    simp only[ne_eq,not_true_eq_false,if_false]
    rw[adU Oh]
  simp only
  rw[qP Oh]
  congr 1
  omega
theorem Sp.alE (s:Sp l o i) (im:pP m l es rs) (op:iD m B H l es) (h3:o.kind=3) (h56:o.bn+56≤i) (hx:i<o.bn+64∨8≤(i-(o.bn+64))%16) (hB:B[i]? = some w) (hv:v≠w):∃g∈es,g.bn=o.bn∧(zU {b:=B.set i v,h:=H} o.bn).2≠0:=by
  obtain⟨g,G,M,a,x,O,F,K⟩:=s.ent (v:=v) im op h3 h56
  rw[hB]at K
  have hi:=s.hi
  have E:vH {m with b:=B} g:=(im.img.who g G).bytes rfl rfl
  have hn:g.ent.aD.length=g.who.length:=by rw[E.aD,List.length_map]
  have hw:=E.len
  obtain⟨Q,D⟩:=List.mem_iff_getElem?.1 G
  obtain⟨r,Z⟩:∃r,rs[Q]? = some r:=⟨_,List.getElem?_eq_getElem (by rw[← im.len];exact(List.getElem?_eq_some_iff.1 D).1)⟩
  obtain⟨y,S,_⟩:=agm im op (i:=Q) (x:=g.bn) (by rw[List.getElem?_map,D];rfl) Z
  rw[pX op.key,op.cG,ZG im op]at S
  have U:ig 272 B g.bn=(g.ent,0):=RQ op.img E G (by have:=im.ok.small;have:=op.len;show B.length<_;omega)
  obtain⟨u,T,P,V,g3⟩:=agk S U
  have A:∀z∈g.ent.aD,gP m.c.dx m.c.cG 272 (B.set i v) z.bn=gP m.c.dx m.c.cG 272 B z.bn:=fun z I=>by
    rw[E.aD]at I
    obtain⟨j,W,rfl⟩:=List.mem_map.1 I
    have X:=E.lt j W
    have hk:m.ai[j]? = some m.ai[j]:=List.getElem?_eq_getElem X
    have M:ij m.ai j=(m.ai[j]).bn:=(qj hk).2
    show gP _ _ _ _ (ij m.ai j)=gP _ _ _ _ (ij m.ai j)
    rw[M]
    exact s.al6 im op h3 (List.mem_of_getElem? hk)
  refine⟨g,G,M,?_⟩
  show(mS (decide (H.bW &&& 4≠0)) H.cG (H.n.getD 0 0) (B.set i v) o.bn).2≠0
  rw[pX op.key,op.cG,ZG im op]
  by_cases hlt:i<o.bn+64
  · obtain⟨z,N,J⟩:=abB O Oh Oh K hv
    rw[J]at F
    have C:=FW (k:=m.c.dx) (f:=m.c.cG) (s:=272) (b:=B) (c:=B.set i v) [] [] A
    rw[adM F Lw (C.trans P) rfl (by rw[← V];exact N)]
    decide
  have h8:8≤(i-(o.bn+64))%16:=hx.resolve_left hlt
  obtain⟨d,q,R,N,J,z3,p,z5,z6⟩:=ab9 (t:=(i-(o.bn+64))/16) O Oh Oh Oh K hv
  rw[N]at F
  have Y:=A q (List.mem_of_getElem? J)
  have L:(gP m.c.dx m.c.cG 272 (B.set i v) R.bn).1.cQ≠R.cQ:=by
    rw[p,Y]
    intro h
    have I:q.cQ=(gP m.c.dx m.c.cG 272 B q.bn).1.cQ:=Classical.byContradiction fun h=>FV (k:=m.c.dx) (f:=m.c.cG) (s:=272) (b:=B) [] [] (List.mem_of_getElem? J) (fun e=>h e.symm) (by rw[P])
    exact z5 (I.trans h).symm
  have C:=FV (k:=m.c.dx) (f:=m.c.cG) (s:=272) (b:=B.set i v) [] [] (List.mem_of_getElem? z3) L
  rw[MP F Lw (Prod.ext rfl rfl:_=(_,(jM m.c.dx m.c.cG 272 (B.set i v) d [] []).2)) C]
  exact C
theorem Sp.kind (s:Sp l o i) (op:iD m B H l es) {x:Ob} (hx:x∈l) (hk:x.kind≠o.kind):x.bn≠o.bn:=fun e=>hk (by rw[s.same op hx e])
theorem Sp.chain (s:Sp l o i) (op:iD m B H l es) (h3:o.kind=3):Chain (B.set i v) l 176 m.main (es.map gR.bn):=by
  obtain⟨_,E,F,G⟩:=s.al8 op
  refine op.img.main.me op.img.fq.eU (rJ l) (Nat.le_refl _) (KX B i v) (fun _ h=>h) (fun a A=>?_) fun k x D a A=>?_
  · subst A;exact .inr Oh
  subst A
  have C:=op.img.main.ob k x D
  have:=s.off op C (s.kind op C (by rw[h3];simp))
  have I:=eF (24+8*eP (k:Int))
  simp only at this
  omega
theorem Sp.akM (s:Sp l o i) (im:pP m l es rs) (op:iD m B H l es) (h3:o.kind=3):RP {b:=B.set i v,h:=H}=(es.map gR.bn,0):=by
  show VA (H.n.getD 0 0) (B.set i v) (H.n.getD 8 0) (H.n.getD 11 0)=_
  have F:H.n.getD 0 0=272:=(op.n 0 Om Om).trans im.hd.n0
  have G:H.n.getD 8 0=es.length:=(op.n 8 Om Om).trans im.img.n8
  have A:H.n.getD 11 0=m.main.getD 0 0:=(op.n 11 Om Om).trans im.img.n11
  rw[F,G,A]
  have E:=abG op.img
  obtain⟨c,D,C⟩:=RS (bY:=es.length) (s.chain (v:=v) op h3) (s.eU (v:=v) op) ⟨by rw[List.length_set];exact E.ok,E.HG⟩
  rw[List.length_map,Nat.min_self,List.take_of_length_le (by rw[List.length_map];exact Nat.le_refl _)]at D
  rw[D]
  rcases C with⟨rfl,_⟩|⟨_,C⟩
  · rfl
  rw[List.length_map]at C;omega
end
end Go.Wk
namespace Go.Proofs.YtmobbnpkkmeoiaaGreat
open Go Go.Wk Go.RowKit
variable {w:World} {Q:Nat→Prop}
theorem VR {C:Ly} {H:bS} {l:List Ob} (h:kO C=(some {b:=C,h:=H},0)) (hO:gB C 272 l C.length) (h0:H.n.getD 0 0=272) :
    ckC C=0∧ng C={b:=C,v:={b:=C,h:=H},h:=H,ats:=l.map Ob.bn,kinds:=l.map Ob.kind}:=by
  have e:=UQ [] [] hO Om q
  rw[List.nil_append,List.nil_append]at e
  refine⟨?_,?_⟩
  · unfold ckC;rw[h];simp only[ne_eq,not_true_eq_false,if_false];rw[h0,e]
  unfold ng;rw[h];simp only;rw[h0,e]
theorem UN {C:Ly} (h:(tH (ng C).b (ng C).v (ng C).ats (ng C).kinds).2≠0):(NC C).2≠0:=by
  unfold NC;rw[if_pos h];exact h
theorem aeO {C:Ly} {a:List Nat} {p:Nat} (he:RP (ng C).v=(a,0)) (hp:p∈a) (hr:(zU (ng C).v p).2≠0):(NC C).2≠0:=by
  unfold NC
  split
  · assumption
  split
  · simp
  split
  · assumption
  unfold ug
  rw[he,if_neg Oq]
  unfold vQ
  have:=UM 0 0 0 hp hr
  rw[if_pos this];exact this
section
variable {m:Mk} {B:Ly} {H:bS} {l:List Ob} {es:List gR} {rs:List Rec} {o:Ob} {i:Nat} {v w:UInt8}
theorem sW (s:Sp l o i) (im:pP m l es rs) (op:iD m B H l es):ckC (B.set i v)=0∧ng (B.set i v)={b:=B.set i v,v:={b:=B.set i v,h:=H},h:=H,ats:=l.map Ob.bn,kinds:=l.map Ob.kind} :=
  VR (ad2 op (by have:=s.al8 op;have:=s.lo;omega)) (s.eU op) (ZG im op)
theorem aei (s:Sp l o i) (im:pP m l es rs) (op:iD m B H l es) (hk:o.kind=1) (h64:o.bn+64≤i) (hne:dW m.c.dx m.c.cG (seg (B.set i v) (o.bn+64) (o.size-64))≠dW m.c.dx m.c.cG (seg B (o.bn+64) (o.size-64))):(NC (B.set i v)).2≠0:=by
  refine UN ?_
  rw[(sW s im op).2]
  exact BW s.mem (by unfold pS;rw[if_pos hk];exact s.dat im op hk h64 hne)
theorem aek (s:Sp l o i) (im:pP m l es rs) (op:iD m B H l es) (hs:Hs m) (hk:o.kind=2) (h40:o.bn+40≤i) (hne:dW m.c.dx m.c.cG (seg (B.set i v) (o.bn+40) (o.size-40))≠dW m.c.dx m.c.cG (seg B (o.bn+40) (o.size-40))):(NC (B.set i v)).2≠0:=by
  refine UN ?_
  rw[(sW s im op).2]
  exact BW s.mem (by unfold pS;rw[if_neg (by rw[hk];decide),if_pos hk];exact s.YH im op hs hk h40 hne)
theorem aej (s:Sp l o i) (im:pP m l es rs) (op:iD m B H l es) (h3:o.kind=3) (h56:o.bn+56≤i) (hx:i<o.bn+64∨8≤(i-(o.bn+64))%16) (hB:B[i]? = some w) (hv:v≠w):(NC (B.set i v)).2≠0:=by
  obtain⟨g,A,C,D⟩:=s.alE im op h3 h56 hx hB hv
  refine aeO (a:=es.map gR.bn) (p:=o.bn) ?_ (C ▸ List.mem_map.2 ⟨g,A,q⟩) ?_
  · rw[(sW s im op).2];exact s.akM im op h3
  rw[(sW s im op).2];exact D
theorem acD (op:iD m B H l es):2≤l.length:=by
  have A:=op.img.fq.GC
  have C:=op.img.fq.HC
  rcases l with _|⟨x,_|⟨y,r⟩⟩
  · simp at A
  · rw[List.mem_singleton]at A C
    rw[← C]at A
    have:=congrArg Ob.kind A
    simp at this
  simp
theorem LK (op:iD m B H l es) {x y:Ob} (hx:x∈l) (hy:y∈l) (hp:x.bn=y.bn):x=y:=by
  have A:=(op.img.fq.eU.mem hx).size.1
  have C:=(op.img.fq.eU.mem hy).size.1
  have D:=eF x.size
  have E:=eF y.size
  rcases op.img.fq.eU.sep hx hy with e|e|e
  · exact e
  · omega
  omega
theorem acA (im:pP m l es rs) (op:iD m B H l es) (hs:Hs m) (ho:o∈l):(o.kind=1→64<o.size)∧(o.kind=2→40<o.size)∧(o.kind=3→64<o.size∧o.size%16=0):=by
  refine⟨fun hk=>?_,fun hk=>?_,fun hk=>?_⟩
  · obtain⟨D,A,C⟩:=op.img.fq.all o ho hk
    have:=LK op (op.img.fq.data D A).ob ho C
    have I:=uU im.img.txt A
    rw[← this];simp only;omega
  · obtain⟨D,A,C⟩:=op.img.fq.XO o ho hk
    have:=LK op (op.img.fq.YH D A).ob ho C
    have I:=(aeg im hs).2 D A
    rw[← this];simp only;omega
  have F:o.bn∈(l.filter fun o=>decide (o.kind=3)).map Ob.bn:=List.mem_map.2 ⟨o,List.mem_filter.2 ⟨ho,decide_eq_true hk⟩,q⟩
  rw[op.img.kin]at F
  obtain⟨g,E,C⟩:=List.mem_map.1 F
  have:=LK op (op.img.ent g E).ob ho C
  have G:=im.img.who g E
  have J:g.ent.aD.length=g.who.length:=by rw[G.aD,List.length_map]
  have K:=G.len
  rw[← this];simp only;omega
end
theorem UA {x v:UInt8} (h:¬v.toNat=0):x ^^^ v≠x:=by
  intro e
  apply h
  have A:x ^^^ (x ^^^ v)=x ^^^ x:=by rw[e]
  rw[← UInt8.xor_assoc,UInt8.xor_self,UInt8.zero_xor]at A
  rw[A];rfl
theorem AX {b:Ly} {p q:Nat} (h:p≤q):(b.take q).drop p=seg b p (q-p):=by
  rw[← aap b p (q-p),show p+(q-p)=q by omega]
attribute [local irreducible] wpList wpQuiet wpStill iq Code.wp Calls bodyPost
theorem akN:ea Zp 12=true:=Ym
theorem fn5:ea Zp 5=true:=Ym
theorem u46:Zp.underlying 46=some (.pointer 73):=Ym
theorem S6 (uQ:Up w Q) {v0:Value} {b:Ly} (h0:Ls fF w Q v0 b) (p0:b.length≤140737488355328) :
  Calls Zp 12 #[v0] w fun en w'=>∃u0:Value,∃r0:List UInt8,∃Q':Nat→Prop,en = .returned (u0)∧Md [] w w'∧rj w w' Q Q'∧Ow fF 5 (ck [] w) w' Q' u0 r0∧b=r0:=by
 have c:=h0.gd;have M:=Md.refl [] w;have Z:=uQ;have P:∀b,Q b→Q b:=fun _ h=>h;have C:∀b,Q b→b<w.heap.size→Q b:=fun _ h _=>h;refine enter (n:=6) Tryz.func12 q q q fun B=>ns (an q (ns (kJ gX ko ?_)));intro S d J V F A;have H:ck [] w S:=ck.new M _ J;obtain⟨W,I,O,G,D⟩:=kR uQ J V F;replace P:=tT P O;replace C:=fun b E N=>I b (C b E N) (lj N M.size);replace h0:=(h0.sub I).o F;replace M:=M.k F;replace uQ:=D;clear D I O;replace A:=Ow.e5 (m:=0) (lo:=ck [] w) (R:=W) (T:=fF) (xs:=([]:Ly)) A q q Om H G;refine mv q (gu (sz:=1) (by rfl) gX ko q q A h0 (fun _ h _=>h) uQ (ck.new M) Wy Wy ?_);intro a e X I O D K F Y _ U;have L:=A;clear A;replace P:=tT P O;replace C:=fun b E N=>I b (C b E N) (lj N M.size);replace uQ:=uQ.md F;replace M:=M.ez F (fun b E=>(L.2 b E).1);replace uQ:=D;clear D I O Y U;rw[List.nil_append]at K;refine ar q ?_;exact d9 (v:=a) trivial q ⟨q,tV⟩ ⟨_,b,X,q,M,⟨C,P,uQ⟩,K,(by simp(disch:=first|omega|assumption|simp) only [SS,reduceIte])⟩
set_option maxHeartbeats 16000000 in
set_option maxRecDepth 100000 in
theorem zO (uQ:Up w Q) {v0:Value} {l:List Int} (h0:Ls qq w Q v0 l) (wh:Int) (a1:(-9223372036854775808≤wh∧wh<9223372036854775808)) (ix:Int) (a2:(-9223372036854775808≤ix∧ix<9223372036854775808)) (bv:UInt8) :
  Calls Zp 4 #[v0,(.int .i64 (wh:Int)),(.int .i64 (ix:Int)),(b8 bv)] w fun en w'=>∃r0:Bool,en = .returned (.bool r0)∧Md [] w w'∧true=r0:=by
 have L0:=h0.gd;have M:=Md.refl [] w;have Gp:=uQ;refine enter (n:=181) Tryz.func4 q q q fun B=>ns (an q (ns (ax fn5 q (O1 uQ) ?_)));rintro en w1 ⟨c,rfl,E,Af⟩;refine rv ?_;obtain⟨h0,uQ,M⟩:=k3 E h0 uQ M;refine an q (aP (nm q (st _ (jw q) (nt ?_))));refine cu q (fun Cj=>?_) (fun Cj=>?_)
 ·(have Bk:=AB Cj);exfalso;(rw[← Af]at Bk;cases Bk;done)
 (have Bk:=AA Cj);refine bh (au (aP (nm q (sL q oE h0.eJ (st _ (lJ (a:=l.length) (b:=100) q q) (mv q ?_))))));refine dQ (t:=31) q (fun Ad=>?_) (fun Ad=>?_)
 ·(have C3:=dT Ad);refine sk Ad (sk Ad (st _ (bF q Ad q) (nt (iF q q (nm q (ar q (aS ?_)))))));exact d9 (v:=(.bool c)) trivial q ⟨q,tV⟩ ⟨c,q,M,(by exact Af)⟩
 (have C3:=dF Ad);refine sg Ad (bf q) (sg Ad (gw (a:=bv.toNat) (b:=0) q q) (st _ (aY q Ad q) (nt ?_)));refine cu q (fun Ck=>?_) (fun Ck=>?_)
 ·(have C4:=dT Ck);refine nm q (ar q (aS ?_));exact d9 (v:=(.bool c)) trivial q ⟨q,tV⟩ ⟨c,q,M,(by exact Af)⟩
 (have C4:=dF Ck);refine bh (au (nm q (ax fn6 q (zD uQ h0 10 Om) ?_)));rintro en w2 ⟨u2,Z,rfl,E,G,Gf,Gl,Gm,Dl,Dq,Eh,Gb⟩;refine rv ?_;obtain⟨uQ,M⟩:=k2 E uQ M;obtain⟨lo,es,im,Gd⟩:=acu Dl;have Y:=opened im Dq.2.1 (st:=1) Om;rw[Eh]at Y;have Gi:=Y.len;refine an q (ns ?_);obtain⟨Er,Es⟩:=VR Y.opn Y.img.fq.eU (ZG im Y);have Dn:=(acs Dl).1;have Gn:=acD Y;have Gh:272+lo.length≤Z.length:=PV Y.img.fq.eU;refine mv q (ax fn8 q (vR uQ G (by exact Er) Oh) ?_);rintro en w3 ⟨D5,Bc,D8,rfl,E,Ac,Fp,Ei⟩;refine rv ?_;obtain⟨G,uQ,M⟩:=k3 E G uQ M;refine mv q (se q q (se q q (dP q (an q (aP (ns ?_))))));have ob:=Ei;rw[Es]at ob;obtain⟨D3,Gg⟩:=Prod.mk.inj ob;have Et:=congrArg List.length D3;simp only[List.length_map]at Et;have Fm:=Dq;refine mv q (st _ (fw (a:=D8) (b:=0) q q) (mv q ?_));refine dQ (t:=45) q (fun Ar=>?_) (fun Ar=>?_)
 ·(have C5:=dT Ar);exfalso;omega
 (have C5:=dF Ar);refine sg Ar (bf q) (sg Ar (jK q jr Ac.eJ) (sg Ar (gy (a:=Bc.length) (b:=2) q q) (st _ (aY q Ar q) (nt ?_))));refine cu q (fun Cl=>?_) (fun Cl=>?_)
 ·(have C6:=dT Cl);exfalso;omega
 (have C6:=dF Cl);refine bh (au (ns (m2 q q (mv q (sL q jr Ac.eJ (ax YJ q (mZ uQ (wh) Oh Bc.length Oh Oh) ?_))))));rintro en w4 ⟨Am,rfl,E,Fq,Ej⟩;refine rv ?_;obtain⟨G,Ac,uQ,M⟩:=k4 E G Ac uQ M;have Cd:=sG wh Bc.length;rw[Ej]at Cd;try simp only[LL,Nat.reduceAdd,Nat.reduceMul]at Cd
 refine st _ (bQ (i:=Am) 1 q q jr fG Ac.eJ Oh) ?_;obtain⟨F,Dy⟩:=fK (l:=Bc) (i:=Am) Oh;obtain⟨c6,Eo,B9⟩:=Ac.get Dy;obtain⟨rfl,Fn⟩:=Eo;replace B9:At _ D5 (Am*1) [(.int .u64 F)]:=B9;refine st _ ((dR (kk:=Am*1) 0 q q bA B9 q).to (b:=(.int .u64 F)) q) (dP q (aI ?_));clear B9;refine au (ns ?_);have Dz:(lo.map Ob.bn)[Am]? = some F:=(by have e:=Dy;rw[← D3]at e;exact e);rw[List.getElem?_map]at Dz;obtain⟨o,ho,Cq⟩:=Option.map_eq_some_iff.1 Dz;have Bt:=List.mem_of_getElem? ho;have hO:=Y.img.fq.eU.mem Bt;have El:=hO.ge;have Em:=hO.size;have En:=eF o.size;have Dm:o.bn+mO o.size≤Z.length:=hO.le;have fr:=rC hO Om (by show _≤Z.length;omega);rw[Cq]at fr El Dm;refine m2 q q (ax afc q (vw uQ G F Oh) ?_);rintro en w7 ⟨C,D9,rfl,E,Bb,Fs,Ek⟩;refine rv ?_;obtain⟨G,uQ,M⟩:=k3 E G uQ M;refine mv q (se q q (se q q (cw z40 ?_)));intro Ce w8 Ay D0 E K;obtain⟨Q9,sQ,sT,Cb,B6⟩:=kR uQ Ay D0 E;replace Ay:=ly M.size Ay;replace G:=(G.sub sQ).o E;replace M:=M.k E;replace uQ:=B6;clear B6 sQ sT;have Cc:ck [] w Ce:=.inr Ay;replace K:cg _ _ (jf.cells (mP)) _:=K;have Eu:jf.ok (mP):=(by exact⟨Om,Om,Om⟩);refine aT (us:=(jf.cells C)) q q (by exact lF) (by exact fun u hu=>bI (jf.one) u hu) K (lB q) ?_
 have Co:=K;clear K;intro Gq E K;have hS:∀b∈[Ce],¬Q9 b:=(hI Cb);replace G:=G.md E hS;replace uQ:=uQ.md E;replace M:=M.step E (hI Cc);clear Co hS;replace K:cg _ _ (jf.cells C) _:=K;refine an q (aP (ns ?_));have fe:=fr.symm.trans Ek;obtain⟨C2,F3⟩:=Prod.mk.inj fe;have fk:o.kind=C.kind:=congrArg jf.kind C2;have fz:o.size=C.size:=congrArg jf.size C2;obtain⟨mP,nu,vG⟩:=acA im Y Dn Bt;rw[fk,fz]at mP nu vG;rw[fz]at Dm Em En;refine mv q (st _ (fw (a:=D9) (b:=0) q q) (nt ?_));refine cu q (fun Cm=>?_) (fun Cm=>?_)
 ·(have C7:=dT Cm);exfalso;omega
 (have C7:=dF Cm);refine bh (au (nm q (ax akN q (S6 uQ G Oh) ?_)));rintro en Fd ⟨p,V,Ef,rfl,E,⟨sQ,sT,B6⟩,A,Bp⟩;refine rv ?_;replace A:=A.lower (ck.lift (S':=[]) M);replace G:=(G.sub sQ).o E;obtain⟨K,M⟩:=k2 E K M;replace uQ:=B6;clear B6 sQ sT;refine an q (aP ?_);have A0:=K;refine dZ (ml 10) [10] (fun w'=>Md [] Fd w') eD Ym ?_;intro Gr L;refine⟨L.mono Oq,?_⟩;have MC:=L.mono (T:=[]) Oq;have S:=Bp;have Ga:=congrArg List.length S;refine mo q (mz (fun w' hc=>ew (a:=F) 9223372036854775808 q (by rw[lZ];rfl) u3 q Oh) (mz (fun w' hc=>rA (a:=F) (b:=40) q q Oh) (mo q (mz (fun w' hc=>ew (a:=F) 9223372036854775808 q (by rw[lZ];rfl) u3 q Oh) (mz (fun w' hc=>aM q nH) (mz (fun w' hc=>(aC q bA (A0.o hc) q).to (b:=(.int .u64 C.size)) q) ?_))))));have Gj:C.size<18446744073709551616:=Bb.2.2;refine mz (fun w' hc=>ew (a:=C.size) 9223372036854775808 q (by rw[lZ];rfl) u3 q Oh) (mz (fun w' hc=>rA (a:=F) (b:=C.size) q q Oh) (mz (fun w' hc=>eI q) ?_))
 refine ej ?_;obtain⟨G,K,A,uQ,M⟩:=k5 L G K A uQ M;clear A0;clear MC;refine an q (aP (ns (sf q qG (sl (u:=(.int .i64 C.kind)) q jl K q ?_))));have Gk:C.kind<9223372036854775808:=Bb.1;refine nt (bG (aP (ns (st _ (gw (a:=C.kind) (b:=1) q q) (an q ?_)))));refine cu q (fun B8=>?_) (fun B8=>?_)
 ·(have C8:=dT B8);refine bh (au (iF q B8 (aP (ns (sf q qG (sl (u:=(.int .i64 C.kind)) q jl K q (st _ (gw (a:=C.kind) (b:=1) q q) (nt ?_))))))));refine cu q (fun As=>?_) (fun As=>?_)
  ·(have Bm:=dT As);refine aQ (mv q (st _ (ew (a:=F) 9223372036854775808 q (by rw[lZ];rfl) u3 q Oh) (st _ (rA (a:=F) (b:=64) q q Oh) (an q (aP (ns (m2 q q (st _ (zH (a:=(F+64)) (b:=(F+C.size)) q q) (mv q ?_)))))))));refine dQ (t:=91) q (fun U=>?_) (fun U=>?_)
   ·(have Bn:=dT U);exfalso;(have:=mP Oh;omega)
   (have Bn:=dF U);refine sg U (bf q) (sg U (bf q) (sg U (jK q gX A.eJ) (sg U (lJ (a:=(F+C.size)) (b:=V.length) q q) (st _ (aY q U q) (nt ?_)))));refine cu q (fun Au=>?_) (fun Au=>?_)
   ·(have Bo:=dT Au);exfalso;have e:=congrArg List.length Bp;omega
   (have Bo:=dF Au);refine bh (au (ns (m2 q q (mv q (mv q (st _ (rS (a:=(F+C.size)) (b:=(F+64)) q q Oh) (ax YJ q (mZ uQ (ix) Oh ((F+C.size)-(F+64)) Oh Oh) ?_)))))));rintro en Gs ⟨H,rfl,E,Ev,C9⟩;refine rv ?_;obtain⟨G,A,uQ,M⟩:=k4 E G A uQ M;have Bf:=sG ix ((F+C.size)-(F+64));rw[C9]at Bf;try simp only[LL,Nat.reduceAdd,Nat.reduceMul]at Bf
   refine st _ (rA (a:=(F+64)) (b:=H) q q Oh) (an q (ns (m2 q q (mv q (mv q (st _ (bQ (i:=(F+64)+H) 1 q q gX nS A.eJ Oh) ?_))))));obtain⟨W,Bx⟩:=fK (l:=V) (i:=(F+64)+H) Oh;obtain⟨Fu,Dr,A5⟩:=A.get Bx;obtain⟨rfl,_⟩:=Dr;have Ea:=UInt8.toNat_lt W;replace A5:At _ p (((F+64)+H)*1) [(b8 W)]:=A5;refine st _ ((dR (kk:=((F+64)+H)*1) 0 q q tL A5 q).to (b:=(b8 W)) q) (mv q (st _ ((FQ (a:=W.toNat) (b:=bv.toNat) 256 q q q q (by have:=UInt8.toNat_lt W;have:=UInt8.toNat_lt bv;omega)).cast (TY W bv)) (st _ (bQ (i:=(F+64)+H) 1 q q gX nS A.eJ Oh) ?_)));obtain⟨Fv,Ds,Bq⟩:=A.get Bx;obtain⟨rfl,_⟩:=Ds;have Ea:=UInt8.toNat_lt W;replace Bq:At _ p (((F+64)+H)*1) [(b8 W)]:=Bq;refine sY (T:=fF) (z:=(W ^^^ bv)) (i:=(F+64)+H) (k:=((F+64)+H)*1) q q q tL A ⟨q,tV⟩ Oh ?_;intro Fe E hS P;have O:=A;replace A:=P;clear P;replace G:=G.md E hS;clear A5;clear Bq;replace uQ:=uQ.md E;replace M:=M.ez E (fun b hb=>(O.2 b hb).1);clear O hS;refine nt (ns ?_);have Ep:(V.set ((F+64)+H) ((W ^^^ bv))).length=_:=List.length_set;obtain⟨C0,fQ,fT,g⟩:=A.freeze;replace G:=G.sub (fun b hb _=>fQ b hb);replace uQ:Up Fe C0:=fun b hb=>fQ b (uQ b hb);clear A fQ fT;have A:=g;clear g;refine mv q ?_
   refine ax afd q (uW uQ G Oh) ?_;rintro en D6 ⟨Cs,Fg,Cu,rfl,E,Ap,Ew,Da⟩;refine rv ?_;obtain⟨G,A,uQ,M⟩:=k4 E G A uQ M;refine mv q (se q q (se q q (dP q (an q (aP (ns ?_))))));have Ah:=Y.opn.symm.trans Da;have Ab:=congrArg Prod.fst Ah;have Bu:=congrArg Prod.snd Ah;simp only at Ab Bu;refine mv q (st _ (fw (a:=Cu) (b:=0) q q) (mv q ?_));refine dQ (t:=120) q (fun R=>?_) (fun R=>?_)
   ·(have Ao:=dT R);exfalso;omega
   (have Ao:=dF R);refine sg R (bf q) (sg R (WY Ap q u46) (st _ (aY q R q) (nt ?_)));refine cu q (fun x=>?_) (fun x=>?_)
   ·(have d:=x);exfalso;(rw[← Ab]at d;simp at d;done)
   (have d:=x);refine bh (au (aP (dZ [(0,true),(1,true),(2,true),(3,true),(4,true),(6,true),(7,true),(8,true),(9,true),(10,true),(5,false)] [11,12] (fun w'=>Md [] D6 w') eD Ym ?_)));intro Gt L;refine⟨L.mono Oq,?_⟩;have MC:=L.mono (T:=[]) Oq;have j:Pt fA 73 D6 C0 Cs {b:=Z,h:=fO Z:eR}:=(by have h:=Ap;rw[← Ab]at h;exact h);clear Ap;refine mo q (mo q (mo q (mo q (mz (fun w' hc=>jy 1 (F+64) (F+C.size) gX nS q A.eJ Oh Oh ⟨_,q⟩ ⟨_,q⟩) ?_))));have Bv:=A.part (F+64) (F+C.size) Oh Oh;refine mo q (mo q (mo q (mo q (mz (fun w' hc=>jy 1 (F+64) (F+C.size) gX nS q G.eJ Oh Oh ⟨_,q⟩ ⟨_,q⟩) ?_))));have Ai:=G.part (F+64) (F+C.size) Oh Oh;obtain⟨A,j,Bv,Ai,uQ,M⟩:=k6 L A j Bv Ai uQ M;refine mF ?_ rfl;refine ax YK q (pN uQ j Bv Wy) ?_;rintro en Gu ⟨Cv,rfl,E,Ex,Db⟩;refine rv ?_;obtain⟨A,j,Ai,uQ,M,MC⟩:=k6 E A j Ai uQ M MC;refine aI ⟨q,MC,?_⟩;refine ej ?_;clear MC;refine ax YK q (pN uQ j Ai Wy) ?_
   rintro en Gv ⟨Cw,rfl,E,Ey,Dc⟩;refine rv ?_;obtain⟨A,uQ,M⟩:=k3 E A uQ M;refine st _ (gw (a:=Cv) (b:=Cw) q q) (nt ?_);refine cu q (fun y=>?_) (fun y=>?_)
   ·(have Aa:=dT y);refine nm q (ar q (bE (aS ?_)));exact d9 (v:=(.bool c)) trivial q ⟨q,tV⟩ ⟨c,q,M,(by exact Af)⟩
   (have Aa:=dF y);refine bh (bX (au (ns ?_)));have Al:Sp lo o ((F+64)+H):=⟨Bt,by omega,by omega⟩;obtain⟨B3,Ak⟩:=sW (v:=(W ^^^ bv)) Al im Y;have Do:=(Y.n 2 Om Om).trans Y.img.fq.n2;have Dp:=(Y.n 4 Om Om).trans Y.img.fq.n4;have B4:16≤(ng (Z.set ((F+64)+H) (W ^^^ bv))).v.h.n.getD 2 0:=(by rw[Ak];show 16≤(fO Z).n.getD 2 0;omega);have B5:16≤(ng (Z.set ((F+64)+H) (W ^^^ bv))).v.h.n.getD 4 0:=(by rw[Ak];show 16≤(fO Z).n.getD 4 0;omega);have Cp:Z[((F+64)+H)]? = some W:=(by rw[S];exact Bx);have Cr:(W ^^^ bv)≠W:=UA Oh;refine mv q (ax fn7 q (uf uQ A (by(rw[← S];exact B3)) Oh (by(rw[← S];exact B4)) (by(rw[← S];exact B5))) ?_);rintro en Gw ⟨Fh,Av,rfl,E,Ez,E0,Dd⟩;refine rv ?_;replace M:=M.k E;refine mv q (se q q (se q q (dP q (an q (ns ?_)))))
   have r:(NC (Z.set ((F+64)+H) (W ^^^ bv))).2≠0:=aei Al im Y Oh Oh (by
    intro e;rw[Cq,fz]at e
    apply Aa;rw[← Db,← Dc,AX Oh,AX Oh,← S];show dW (decide ((fO Z).bW &&& 4≠0)) (fO Z).cG _=dW (decide ((fO Z).bW &&& 4≠0)) (fO Z).cG _;rw[pX Y.key,Y.cG,show F+C.size-(F+64)=C.size-64 by omega];exact e)
   have tf:=Dd;rw[← S]at tf;rw[tf]at r;simp only at r;refine m2 q q ?_;refine dQ (t:=177) q (fun J=>?_) (fun J=>?_)
   ·(have N:=J);refine sg J (bf q) (sg J (fw (a:=Av) (b:=0) q q) (st _ (bF q J q) (ar q ?_)));exact d9 (v:=(.bool ((decide (Av≠0))))) trivial q ⟨q,tV⟩ ⟨(decide (Av≠0)),q,M,(by exact(decide_eq_true Vx).symm)⟩
   (have N:=J);exfalso;(rw[← Af]at N;cases N;done)
  (have Bm:=dF As);exfalso;omega
 (have C8:=dF B8);refine aQ (st _ (gw (a:=C.kind) (b:=2) q q) (an q ?_));refine cu q (fun Ae=>?_) (fun Ae=>?_)
 ·(have Bl:=dT Ae);refine aP (ns (sf q qG (sl (u:=(.int .i64 C.kind)) q jl K q (st _ (gw (a:=C.kind) (b:=1) q q) (nt ?_)))));refine cu q (fun As=>?_) (fun As=>?_)
  ·(have Bm:=dT As);exfalso;omega
  (have Bm:=dF As);refine bh (au (aP (ns (m2 q q (st _ (zH (a:=(F+40)) (b:=(F+C.size)) q q) (mv q ?_))))));refine dQ (t:=91) q (fun U=>?_) (fun U=>?_)
  ·(have Bn:=dT U);exfalso;(have:=mP Oh;omega)
  (have Bn:=dF U);refine sg U (bf q) (sg U (bf q) (sg U (jK q gX A.eJ) (sg U (lJ (a:=(F+C.size)) (b:=V.length) q q) (st _ (aY q U q) (nt ?_)))));refine cu q (fun Au=>?_) (fun Au=>?_)
  ·(have Bo:=dT Au);exfalso;have e:=congrArg List.length Bp;omega
  (have Bo:=dF Au);refine bh (au (ns (m2 q q (mv q (mv q (st _ (rS (a:=(F+C.size)) (b:=(F+40)) q q Oh) (ax YJ q (mZ uQ (ix) Oh ((F+C.size)-(F+40)) Oh Oh) ?_)))))));rintro en Gx ⟨I,rfl,E,E3,De⟩;refine rv ?_;obtain⟨G,A,uQ,M⟩:=k4 E G A uQ M;have Bg:=sG ix ((F+C.size)-(F+40));rw[De]at Bg;try simp only[LL,Nat.reduceAdd,Nat.reduceMul]at Bg
  refine st _ (rA (a:=(F+40)) (b:=I) q q Oh) (an q (ns (m2 q q (mv q (mv q (st _ (bQ (i:=(F+40)+I) 1 q q gX nS A.eJ Oh) ?_))))));obtain⟨X,Bz⟩:=fK (l:=V) (i:=(F+40)+I) Oh;obtain⟨Fw,Du,A9⟩:=A.get Bz;obtain⟨rfl,_⟩:=Du;have Eb:=UInt8.toNat_lt X;replace A9:At _ p (((F+40)+I)*1) [(b8 X)]:=A9;refine st _ ((dR (kk:=((F+40)+I)*1) 0 q q tL A9 q).to (b:=(b8 X)) q) (mv q (st _ ((FQ (a:=X.toNat) (b:=bv.toNat) 256 q q q q (by have:=UInt8.toNat_lt X;have:=UInt8.toNat_lt bv;omega)).cast (TY X bv)) (st _ (bQ (i:=(F+40)+I) 1 q q gX nS A.eJ Oh) ?_)));obtain⟨Fx,Dv,Br⟩:=A.get Bz;obtain⟨rfl,_⟩:=Dv;have Eb:=UInt8.toNat_lt X;replace Br:At _ p (((F+40)+I)*1) [(b8 X)]:=Br;refine sY (T:=fF) (z:=(X ^^^ bv)) (i:=(F+40)+I) (k:=((F+40)+I)*1) q q q tL A ⟨q,tV⟩ Oh ?_;intro Ff E hS P;have O:=A;replace A:=P;clear P;replace G:=G.md E hS;clear A9;clear Br;replace uQ:=uQ.md E;replace M:=M.ez E (fun b hb=>(O.2 b hb).1);clear O hS;refine nt (ns ?_);have Ep:(V.set ((F+40)+I) ((X ^^^ bv))).length=_:=List.length_set;obtain⟨C1,fQ,fT,g⟩:=A.freeze;replace G:=G.sub (fun b hb _=>fQ b hb);replace uQ:Up Ff C1:=fun b hb=>fQ b (uQ b hb);clear A fQ fT;have A:=g;clear g;refine mv q ?_
  refine ax afd q (uW uQ G Oh) ?_;rintro en D7 ⟨Ct,Fi,Cx,rfl,E,Aq,E4,Df⟩;refine rv ?_;obtain⟨G,A,uQ,M⟩:=k4 E G A uQ M;refine mv q (se q q (se q q (dP q (an q (aP (ns ?_))))));have Ah:=Y.opn.symm.trans Df;have Ab:=congrArg Prod.fst Ah;have Bu:=congrArg Prod.snd Ah;simp only at Ab Bu;refine mv q (st _ (fw (a:=Cx) (b:=0) q q) (mv q ?_));refine dQ (t:=120) q (fun R=>?_) (fun R=>?_)
  ·(have Ao:=dT R);exfalso;omega
  (have Ao:=dF R);refine sg R (bf q) (sg R (WY Aq q u46) (st _ (aY q R q) (nt ?_)));refine cu q (fun x=>?_) (fun x=>?_)
  ·(have d:=x);exfalso;(rw[← Ab]at d;simp at d;done)
  (have d:=x);refine bh (au (aP (dZ [(0,true),(1,true),(2,true),(3,true),(4,true),(6,true),(7,true),(8,true),(9,true),(10,true),(5,false)] [11,12] (fun w'=>Md [] D7 w') eD Ym ?_)));intro Gy L;refine⟨L.mono Oq,?_⟩;have MC:=L.mono (T:=[]) Oq;have j:Pt fA 73 D7 C1 Ct {b:=Z,h:=fO Z:eR}:=(by have h:=Aq;rw[← Ab]at h;exact h);clear Aq;refine mo q (mo q (mo q (mo q (mz (fun w' hc=>jy 1 (F+40) (F+C.size) gX nS q A.eJ Oh Oh ⟨_,q⟩ ⟨_,q⟩) ?_))));have Bw:=A.part (F+40) (F+C.size) Oh Oh;refine mo q (mo q (mo q (mo q (mz (fun w' hc=>jy 1 (F+40) (F+C.size) gX nS q G.eJ Oh Oh ⟨_,q⟩ ⟨_,q⟩) ?_))));have Aj:=G.part (F+40) (F+C.size) Oh Oh;obtain⟨A,j,Bw,Aj,uQ,M⟩:=k6 L A j Bw Aj uQ M;refine mF ?_ rfl;refine ax YK q (pN uQ j Bw Wy) ?_;rintro en Gz ⟨Cy,rfl,E,E5,Dg⟩;refine rv ?_;obtain⟨A,j,Aj,uQ,M,MC⟩:=k6 E A j Aj uQ M MC;refine aI ⟨q,MC,?_⟩;refine ej ?_;clear MC;refine ax YK q (pN uQ j Aj Wy) ?_
  rintro en G0 ⟨Cz,rfl,E,E6,Dh⟩;refine rv ?_;obtain⟨A,uQ,M⟩:=k3 E A uQ M;refine st _ (gw (a:=Cy) (b:=Cz) q q) (nt ?_);refine cu q (fun y=>?_) (fun y=>?_)
  ·(have Aa:=dT y);refine nm q (ar q (bE (aS ?_)));exact d9 (v:=(.bool c)) trivial q ⟨q,tV⟩ ⟨c,q,M,(by exact Af)⟩
  (have Aa:=dF y);refine bh (bX (au (ns ?_)));have Al:Sp lo o ((F+40)+I):=⟨Bt,by omega,by omega⟩;obtain⟨B3,Ak⟩:=sW (v:=(X ^^^ bv)) Al im Y;have Do:=(Y.n 2 Om Om).trans Y.img.fq.n2;have Dp:=(Y.n 4 Om Om).trans Y.img.fq.n4;have B4:16≤(ng (Z.set ((F+40)+I) (X ^^^ bv))).v.h.n.getD 2 0:=(by rw[Ak];show 16≤(fO Z).n.getD 2 0;omega);have B5:16≤(ng (Z.set ((F+40)+I) (X ^^^ bv))).v.h.n.getD 4 0:=(by rw[Ak];show 16≤(fO Z).n.getD 4 0;omega);have Cp:Z[((F+40)+I)]? = some X:=(by rw[S];exact Bz);have Cr:(X ^^^ bv)≠X:=UA Oh;refine mv q (ax fn7 q (uf uQ A (by(rw[← S];exact B3)) Oh (by(rw[← S];exact B4)) (by(rw[← S];exact B5))) ?_);rintro en G1 ⟨Fj,Aw,rfl,E,E7,E8,Di⟩;refine rv ?_;replace M:=M.k E;refine mv q (se q q (se q q (dP q (an q (ns ?_)))))
  have r:(NC (Z.set ((F+40)+I) (X ^^^ bv))).2≠0:=aek Al im Y Dn Oh Oh (by
   intro e;rw[Cq,fz]at e
   apply Aa;rw[← Dg,← Dh,AX Oh,AX Oh,← S];show dW (decide ((fO Z).bW &&& 4≠0)) (fO Z).cG _=dW (decide ((fO Z).bW &&& 4≠0)) (fO Z).cG _;rw[pX Y.key,Y.cG,show F+C.size-(F+40)=C.size-40 by omega];exact e)
  have tf:=Di;rw[← S]at tf;rw[tf]at r;simp only at r;refine m2 q q ?_;refine dQ (t:=177) q (fun J=>?_) (fun J=>?_)
  ·(have N:=J);refine sg J (bf q) (sg J (fw (a:=Aw) (b:=0) q q) (st _ (bF q J q) (ar q ?_)));exact d9 (v:=(.bool ((decide (Aw≠0))))) trivial q ⟨q,tV⟩ ⟨(decide (Aw≠0)),q,M,(by exact(decide_eq_true Vx).symm)⟩
  (have N:=J);exfalso;(rw[← Af]at N;cases N;done)
 (have Bl:=dF Ae);refine ns (st _ (gw (a:=C.kind) (b:=3) q q) (an q ?_));refine cu q (fun Bi=>?_) (fun Bi=>?_)
 ·(have Ch:=dT Bi);refine nm q (sf q nH (sl (u:=(.int .u64 C.size)) q bA K q (st _ (ew (a:=C.size) 9223372036854775808 q (by rw[lZ];rfl) u3 q Oh) (st _ (rS (a:=C.size) (b:=64) q q Oh) (st _ (FP (a:=(C.size-64)) (b:=2) 9223372036854775808 q q q Oh) (st _ (gW (a:=8) (b:=((C.size-64)/2)) 9223372036854775808 q q q Oh) (ax YJ q (mZ uQ (ix) Oh (8+((C.size-64)/2)) Oh Oh) ?_)))))));rintro en G2 ⟨D,rfl,E,E9,Dj⟩;refine rv ?_;obtain⟨A,uQ,M⟩:=k3 E A uQ M;have Bh:=sG ix (8+((C.size-64)/2));rw[Dj]at Bh;try simp only[LL,Nat.reduceAdd,Nat.reduceMul]at Bh
  refine an q (nm q (st _ (ew (a:=F) 9223372036854775808 q (by rw[lZ];rfl) u3 q Oh) (st _ (rA (a:=F) (b:=56) q q Oh) (mv q (st _ (pu (a:=D) (b:=8) q q Oh) (st _ (rA (a:=(F+56)) (b:=(D%8)) q q Oh) (mv q (st _ (FP (a:=D) (b:=8) 9223372036854775808 q q q Oh) (st _ (nK (a:=(D/8)) (b:=16) 9223372036854775808 q q q Oh) (st _ (gW (a:=((F+56)+(D%8))) (b:=((D/8)*16)) 9223372036854775808 q q q Oh) (dP q ?_)))))))))));refine nt (aP (ns (m2 q q (sL q gX A.eJ (st _ (zH (a:=(((F+56)+(D%8))+((D/8)*16))) (b:=V.length) q q) (nt ?_))))));refine cu q (fun Bj=>?_) (fun Bj=>?_)
  ·(have Ci:=dT Bj);exfalso;omega
  (have Ci:=dF Bj);refine bh (au (aQ (m2 q q (mv q (mv q (st _ (bQ (i:=((F+56)+(D%8))+((D/8)*16)) 1 q q gX nS A.eJ Oh) ?_))))));obtain⟨f,B0⟩:=fK (l:=V) (i:=((F+56)+(D%8))+((D/8)*16)) Oh;obtain⟨Fy,Dw,Ba⟩:=A.get B0;obtain⟨rfl,_⟩:=Dw;have Ec:=UInt8.toNat_lt f;replace Ba:At _ p ((((F+56)+(D%8))+((D/8)*16))*1) [(b8 f)]:=Ba;refine st _ ((dR (kk:=(((F+56)+(D%8))+((D/8)*16))*1) 0 q q tL Ba q).to (b:=(b8 f)) q) (mv q (st _ ((FQ (a:=f.toNat) (b:=bv.toNat) 256 q q q q (by have:=UInt8.toNat_lt f;have:=UInt8.toNat_lt bv;omega)).cast (TY f bv)) (st _ (bQ (i:=((F+56)+(D%8))+((D/8)*16)) 1 q q gX nS A.eJ Oh) ?_)));obtain⟨Fz,Dx,Bs⟩:=A.get B0;obtain⟨rfl,_⟩:=Dx;have Ec:=UInt8.toNat_lt f;replace Bs:At _ p ((((F+56)+(D%8))+((D/8)*16))*1) [(b8 f)]:=Bs;refine sY (T:=fF) (z:=(f ^^^ bv)) (i:=((F+56)+(D%8))+((D/8)*16)) (k:=(((F+56)+(D%8))+((D/8)*16))*1) q q q tL A ⟨q,tV⟩ Oh ?_;intro G3 E hS P;have O:=A;replace A:=P;clear P;clear Ba;clear Bs;replace uQ:=uQ.md E;replace M:=M.ez E (fun b hb=>(O.2 b hb).1);clear O hS;refine aI (bX (au (ns ?_)));have Al:Sp lo o (((F+56)+(D%8))+((D/8)*16)):=⟨Bt,by omega,by omega⟩;obtain⟨B3,Ak⟩:=sW (v:=(f ^^^ bv)) Al im Y;have Do:=(Y.n 2 Om Om).trans Y.img.fq.n2;have Dp:=(Y.n 4 Om Om).trans Y.img.fq.n4;have B4:16≤(ng (Z.set (((F+56)+(D%8))+((D/8)*16)) (f ^^^ bv))).v.h.n.getD 2 0:=(by rw[Ak];show 16≤(fO Z).n.getD 2 0;omega)
  have B5:16≤(ng (Z.set (((F+56)+(D%8))+((D/8)*16)) (f ^^^ bv))).v.h.n.getD 4 0:=(by rw[Ak];show 16≤(fO Z).n.getD 4 0;omega);have Cp:Z[(((F+56)+(D%8))+((D/8)*16))]? = some f:=(by rw[S];exact B0);have Cr:(f ^^^ bv)≠f:=UA Oh;refine mv q (ax fn7 q (uf (fun b hb=>Or.inl (uQ b hb)) (Q:=fun b=>Ef b∨ck [] w b) A.read (by(rw[← S];exact B3)) (by(rw[List.length_set];omega)) (by(rw[← S];exact B4)) (by(rw[← S];exact B5))) ?_);rintro en G4 ⟨Fk,Ax,rfl,E,Fa,Fb,Dk⟩;refine rv ?_;replace M:=M.k E;refine mv q (se q q (se q q (dP q (an q (ns ?_)))));have r:=aej Al im Y Oh Oh Oh Cp Cr;have tf:=Dk;rw[← S]at tf;rw[tf]at r;simp only at r;refine m2 q q ?_;refine dQ (t:=177) q (fun J=>?_) (fun J=>?_)
  ·(have N:=J);refine sg J (bf q) (sg J (fw (a:=Ax) (b:=0) q q) (st _ (bF q J q) (ar q ?_)));exact d9 (v:=(.bool ((decide (Ax≠0))))) trivial q ⟨q,tV⟩ ⟨(decide (Ax≠0)),q,M,(by exact(decide_eq_true Vx).symm)⟩
  (have N:=J);exfalso;(rw[← Af]at N;cases N;done)
 (have Ch:=dF Bi);refine nm q (ar q (bE (aS ?_)));exact d9 (v:=(.bool c)) trivial q ⟨q,tV⟩ ⟨c,q,M,(by exact Af)⟩
end Go.Proofs.YtmobbnpkkmeoiaaGreat
namespace Go.Wk
open Go Go.RowKit Go.ChangeShapes Go.WideShapes Go.ChangeAt Go.Deep
section
variable {H:Type} {enc:TypeId × Value→H} {P:Program} {w:World} {t f:TypeId} {v:Value} {d:DataW H} {ps:List MemPlace}
theorem ZJ {spare:Nat→Bool} {base:Nat} {held:Bool} {r:Reach} {b0:Nat} {e:TypeId} {k:IntKind} (ht:P.underlying t=some (.slice e)) (he:P.underlying e=some (.int k)) (hc:P.cellsOf e=1) (hv:Value.okWide P w r b0 t v)
    (h:DataW.Trod enc P w base spare held t v d ps):∃l:List Int,Sl w v (l.map (Value.int k))∧∀z∈l,(Lit.int k z).wf=true:=by
  obtain⟨S,A,D,rfl⟩:=okWide_slice ht hv
  obtain⟨L,N⟩:=h
  rcases open_ints ht he hc N with⟨E,_⟩|⟨a,R,M,K,E,_,T,O,J,_,B,I⟩
  · simp[Value.cells]at E
    obtain⟨rfl,rfl,rfl⟩:=E
    exact⟨[],Sl.nil w,by simp⟩
  simp[Value.cells]at E
  obtain⟨rfl,rfl,rfl⟩:=E
  have G:A≤K.length:=by rw[J];split <;> omega
  refine⟨K.take A,⟨some a,D,by simp[Nat.min_eq_left G],by simp;omega,O,by simp,fun p Q j u F=>?_⟩,fun z J=>I z (List.mem_of_mem_take J)⟩
  cases Q
  have hj':=(List.getElem?_eq_some_iff.1 F).1
  simp only[List.length_map,List.length_take]at hj'
  have H:j<A:=by omega
  have C:j<K.length:=by omega
  rw[B j C]
  rw[List.getElem?_map,List.getElem?_take]at F
  rw[if_pos H]at F
  simp[C]at F
  simp[List.getD,C,F]
end
end Go.Wk
namespace Go.Wk
open Go Go.RowKit Go.ChangeShapes Go.WideShapes Go.ChangeAt Go.Deep
section
variable {H:Type} {enc:TypeId × Value→H} {P:Program} {w:World} {t e f:TypeId} {v:Value} {d:DataW H} {ps:List MemPlace} {spare:Nat→Bool} {base:Nat} {held:Bool}
theorem afu {l:List Int} (h:Sl w v (l.map (Value.int .i64))) (hw:∀z∈l,(Lit.int .i64 z).wf=true):Ls qq w (fun _=>True) v l :=
  Ls.ahl h (fun x hx=>by
    have:=hw x hx
    simp[Lit.wf,IntKind.min,IntKind.max,IntKind.signed,IntKind.bits]at this
    show -9223372036854775808≤x∧x<9223372036854775808
    omega) (fun _ _ _=>trivial)
end
theorem ach {z:Int} (h:(Lit.int .i64 z).wf=true):-9223372036854775808≤z∧z<9223372036854775808:=by
  simp[Lit.wf,IntKind.min,IntKind.max,IntKind.signed,IntKind.bits]at h
  omega
end Go.Wk
