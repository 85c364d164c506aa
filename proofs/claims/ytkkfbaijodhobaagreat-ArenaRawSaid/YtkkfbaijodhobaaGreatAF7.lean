/- Part 7 of what the walk of a law stands on: VSeq3, VSeq4, VSeq5, VSeq6, VMake, VMake2, VGet, VHead, VHead2, VHead3, VHead4, VFst10, ViewP, RefV, RefV2, AtP, AtQ, AtR, RatP, LinkP, LinkQ, LinkV, LastP, RecP, AtT, RawP. No statement is proved here. -/
import Derived.Test.YtkkfbaijodhobaaGreatAF6
import Derived.Test.YtkkfbaijodhobaaGreatRows
namespace Go.Proofs.YtkkfbaijodhobaaGreat
open Go Go.Wk Go.RowKit
set_option linter.unusedVariables false
set_option linter.unusedSimpArgs false
attribute [local irreducible] wpList wpQuiet wpStill wpMix Code.wp Calls bodyPost
variable {w:World} {Q:Nat→Prop}
theorem el9:elemIs Zp 9 1=true:=by kernel_rfl
theorem fn146:isFn Zp 146=true:=by kernel_rfl
theorem fn147:isFn Zp 147=true:=by kernel_rfl
theorem fn76:isFn Zp 76=true:=by kernel_rfl
theorem kPair_any (uQ:Up w Q) {b0:Nat} {v0_0:Value} (s:Sq) (h0:Blk w b0 (Sq.cells s v0_0) 123) (n0:¬Q b0) (a0_0:Sq.ok s) (a0_1:Ls tInt w Q v0_0 s.l) :
    Calls Zp 135 #[.pointer (some ⟨b0,0,none⟩)] w fun en w'=>∃r0:Pr,∃m0:Sq,∃u50_0:Value,en = .returned (.agg (Pr.cells r0).toArray)∧Md [b0] w w'∧Blk w' b0 (Sq.cells m0 u50_0) 123∧¬Q b0∧Sq.ok m0∧Ls tInt w' Q u50_0 m0.l∧s.pair=(r0,m0):=by
  have C:=n0;have y:Fsh [b0] w b0:=.inl (by simp);have M:=Md.refl [b0] w;have Bd:=uQ;have tQ:∀b,Q b→Q b:=fun _ h=>h;refine enter (n:=14) Tryz.func135 rfl rfl rfl fun B=>ns (st_alloc z148 ?_);intro U w1 d A0 D A;have Ax:b0≠U:=(by have:=h0.lt;omega);obtain⟨Q2,sQ,sT,Ab,Aq⟩:=exQ uQ d A0 D;replace C:=nQ C sT;replace tQ:=tT tQ sT;replace d:=lj M.size d;replace a0_1:=(a0_1.sub sQ).o D;replace h0:=h0.o D;replace uQ:=uQ.md D;replace M:=M.k D;replace uQ:=Aq;clear Aq sQ sT;have Ac:Fsh [] w U:=.inr d;replace A:Blk _ _ (Pr.cells (zz4)) _:=A;refine nt (c_seq ?_);have Ai:∀b∈[b0],¬Q2 b:=all_cons C all_nil;refine c_mixT [(1,true),(6,true),(0,false),(2,false),(3,true),(4,true),(5,false),(7,false),(8,true),(9,true)] [10,11] (fun w'=>Md [b0] w1 w') mixed (by kernel_rfl) ?_;intro w3 O;refine⟨O.mono (by simp),?_⟩;have J:=O.mono (T:=[b0]) (by simp);refine mo rfl (mo rfl ?_);replace a0_1:=a0_1.o O;replace h0:=h0.o O;replace A:=A.o O;replace uQ:=uQ.md O;replace M:=M.k O;refine m_c ?_ rfl;refine st_call fn146 rfl (kNames_any uQ) ?_;rintro en w4 ⟨Ar,Au,rfl,D,L,Ad⟩;refine rv ?_;replace a0_1:=a0_1.o D;replace h0:=h0.o D;replace A:=A.o D;replace uQ:=uQ.md D;replace M:=M.k D;replace J:=J.k D;have g:=namesF_len;rw[Ad]at g;try simp only[LL,Nat.reduceAdd,Nat.reduceMul]at g
  refine st_nil ⟨rfl,J,fun w'=>Md [b0] w4 w',Md.refl _ _,fun x z=>J.trans z,?_⟩;have F:=L;replace J:=Md.refl [b0] w4;refine m_c ?_ rfl;refine st_call fn76 rfl (kN_any uQ s h0 C a0_0 a0_1 6 (by omega) (by omega)) ?_;rintro en w5 ⟨R,t,Ao,rfl,D,A3,W,Y,a,H,Ae⟩;refine rv ?_;have hP:∀i∈[b0],Fsh [b0] w i:=(hI y);have p:∀i∈[b0],¬Q2 i:=(hI C);have E:U∉[b0]:=(nin_cons (by omega) (by simp));replace A:=A.md D E;clear E;replace L:=L.md D p;replace M:=M.step D hP;replace J:=J.step D (fun i hi=>Or.inl (by simpa using hi));replace uQ:=uQ.md D;clear hP p h0 C;have h0:=W;have C:=Y;clear W Y;have j:=Sq.num_le s 6;rw[Ae]at j;try simp only[LL,Nat.reduceAdd,Nat.reduceMul]at j
  refine st_nil ⟨rfl,J,fun w'=>Md [b0] w5 w',Md.refl _ _,fun x z=>J.trans z,?_⟩;replace F:=L;replace J:=Md.refl [b0] w5;refine mz (fun w' hc=>r_indexN (i:=R) 1 rfl rfl u240 el9 L.shp (by omega)) ?_;obtain⟨f,Aa⟩:=getE (l:=Au) (i:=R) (by omega);obtain⟨c7,Az,e⟩:=F.get Aa;obtain⟨rfl,_⟩:=Az;replace e:At _ Ar (R*1) [(str f)]:=e;refine mz (fun w' hc=>(r_loadE (kk:=R*1) 0 rfl rfl one9 (e.md hc (F.offS Aa Ai)) rfl).to (b:=(str f)) rfl) ?_;refine m_c ?_ rfl;refine st_call fn147 rfl (kValues_any uQ) ?_;rintro en w8 ⟨As,Av,rfl,D,N,Af⟩;refine rv ?_;replace h0:=h0.o D;replace A:=A.o D;replace H:=H.o D;replace uQ:=uQ.md D;replace M:=M.k D;replace J:=J.k D;have k:=valuesF_len;rw[Af]at k;try simp only[LL,Nat.reduceAdd,Nat.reduceMul]at k
  refine st_nil ⟨rfl,J,fun w'=>Md [b0] w8 w',Md.refl _ _,fun x z=>J.trans z,?_⟩;clear F;have G:=N;replace J:=Md.refl [b0] w8;refine m_c ?_ rfl;refine st_call fn76 rfl (kN_any uQ t h0 C a H 10 (by omega) (by omega)) ?_;rintro en w9 ⟨S,Am,Ap,rfl,D,A4,X,Z,c,I,Ag⟩;refine rv ?_;have hP:∀i∈[b0],Fsh [b0] w i:=(hI y);have p:∀i∈[b0],¬Q2 i:=(hI C);have E:U∉[b0]:=(nin_cons (by omega) (by simp));replace A:=A.md D E;clear E;replace N:=N.md D p;replace M:=M.step D hP;replace J:=J.step D (fun i hi=>Or.inl (by simpa using hi));clear hP p h0 C;have h0:=X;have C:=Z;clear X Z;have o:=Sq.num_le t 10;rw[Ag]at o;try simp only[LL,Nat.reduceAdd,Nat.reduceMul]at o
  refine st_nil ⟨rfl,J,fun w'=>Md [b0] w9 w',Md.refl _ _,fun x z=>J.trans z,?_⟩;replace G:=N;replace J:=Md.refl [b0] w9;refine mz (fun w' hc=>r_indexN (i:=S) 1 rfl rfl u240 el9 N.shp (by omega)) ?_;obtain⟨K,V⟩:=getE (l:=Av) (i:=S) (by omega);obtain⟨Ba,Al,P⟩:=G.get V;obtain⟨rfl,_⟩:=Al;replace P:At _ As (S*1) [(str K)]:=P;refine mz (fun w' hc=>(r_loadE (kk:=S*1) 0 rfl rfl one9 (P.md hc (G.offS V Ai)) rfl).to (b:=(str K)) rfl) (m_nil ?_);clear G;clear J;refine st _ (r_buildG (us:=[[(str f)],[(str K)]]) (cs:=(Pr.cells (({name:=f,value:=K}:Pr)))) [(0,0,1),(1,1,1)] z148 pl148 rfl rfl ⟨rfl,rfl,tV⟩ ⟨rfl,rfl,tV⟩ rfl rfl) (st_storeAgg (us:=(Pr.cells (({name:=f,value:=K}:Pr)))) rfl rfl (by exact agg148) (by exact fun u hu=>one_cells (Pr.one) u hu) A (lB rfl) ?_);have Aj:=A;clear A;intro Bf D A;have p:∀b∈[U],¬Q2 b:=(hI Ab);replace h0:=h0.md D (by intro r;simp at r;omega);replace I:=I.md D p;replace M:=M.step D (hI (Fsh.wid Ac));clear Aj p;replace A:Blk _ _ (Pr.cells (({name:=f,value:=K}:Pr))) _:=A;refine st_nil ?_;clear e;clear P;refine c_then (c_ret ?_);exact ret1L (v:=(.agg (Pr.cells (({name:=f,value:=K}:Pr))).toArray)) trivial rfl ⟨⟨_,rfl,load_agg (cs:=(Pr.cells (({name:=f,value:=K}:Pr)))) (by exact agg148) A⟩,tV⟩ ⟨(({name:=f,value:=K}:Pr)),Am,_,rfl,M,h0,n0,c,(I.sub (fun b r _=>tQ b r)),(by rw[Sq.pair]<;>simp(disch:=first|omega|assumption|simp) only [List.getD_eq_getElem?_getD,SS,reduceIte,Ad,Ae,Aa,Af,Ag,V])⟩
theorem fn135:isFn Zp 135=true:=by kernel_rfl
theorem kPairs_any (uQ:Up w Q) {b0:Nat} {v0_0:Value} (s:Sq) (h0:Blk w b0 (Sq.cells s v0_0) 123) (n0:¬Q b0) (a0_0:Sq.ok s) (a0_1:Ls tInt w Q v0_0 s.l) (most:Nat) (a1:most<9223372036854775808) (p0:most≤1000000) :
    Calls Zp 108 #[.pointer (some ⟨b0,0,none⟩),(.int .i64 most)] w fun en w'=>∃u0:Value,∃r0:List Pr,∃m0:Sq,∃u50_0:Value,en = .returned (u0)∧Md [b0] w w'∧Ls tPr w' Q u0 r0∧Blk w' b0 (Sq.cells m0 u50_0) 123∧¬Q b0∧Sq.ok m0∧Ls tInt w' Q u50_0 m0.l∧s.pairs most=(r0,m0):=by
  have C:=n0;have p:Fsh [b0] w b0:=.inl (by simp);have M:=Md.refl [b0] w;have Am:=uQ;have t:∀b,Q b→Q b:=fun _ h=>h;have J:∀b,Q b→b<w.heap.size→Q b:=fun _ h _=>h;refine enter (n:=21) Tryz.func108 rfl rfl rfl fun B=>ns (an rfl (ns (asg rfl (nt (c_seq (ns (m2 rfl rfl (st_call fn76 rfl (kN_any uQ s h0 C a0_0 a0_1 most (by omega) (by omega)) ?_))))))));rintro en w1 ⟨d,k,Z,rfl,E,Av,S,V,X,F,N⟩;refine rv ?_;have hP:∀i∈[b0],Fsh [b0] w i:=(hI p);have y:∀i∈[b0],¬Q i:=(hI C);replace M:=M.step E hP;replace uQ:=uQ.md E;clear hP y h0 C;have h0:=S;have C:=V;clear S V;have f:=Sq.num_le s most;rw[N]at f;try simp only[LL,Nat.reduceAdd,Nat.reduceMul]at f
  refine st _ (rA (a:=d) (b:=1) rfl rfl (by omega)) (an rfl (c_block ?_));obtain⟨r0,H⟩:∃r,pairsL (d+1) k ([]:List Pr)=r:=⟨_,rfl⟩;have Ar:=H
  try simp only[List.nil_append,N]at H
  refine loop5 (fun(x:Sq) (G:Value) (vo:Value) (o:List Pr) (n:Nat)=>[(5,vo),(6,(.int .i64 n)),(0,(.pointer (some ⟨b0,0,none⟩))),(4,SN)]) (fun(x:Sq) (G:Value) (vo:Value) (o:List Pr) (n:Nat) w'=>∃Q':Nat→Prop,(∀b,Q' b→Q b)∧(∀b,Q b→b<w.heap.size→Q' b)∧Up w' Q'∧Md [b0] w w'∧Blk w' b0 (Sq.cells x G) 123∧Ls tInt w' Q' G x.l∧Sq.ok x∧Ow tPr 148 (Fsh [] w) w' Q' vo o∧¬Q' b0∧n+o.length≤1000001∧pairsL n x o=r0) (fun(x:Sq) (G:Value) (vo:Value) (o:List Pr) (n:Nat)=>n) (x0:=k) (x1:=Z) (x2:=SN) (x3:=([]:List Pr)) (x4:=(d+1)) ?_ ?_ ?_
  · exact⟨rfl,rfl,rfl,rfl,tV⟩
  · exact⟨Q,t,J,uQ,M,h0,F,X,(Ow.nil _ _ _ _ _),C,(by simp only[List.length_nil];omega),(by have z:=H;exact z)⟩
  clear M uQ t J C a0_1 h0 F
  rintro x G vo o n B w2 ⟨Q3,t,J,uQ,M,h0,K,j,D,C,As,Aa⟩;refine c_seq (nm rfl (st _ (r_gtN (a:=n) (b:=0) rfl rfl) (nt ?_)));refine c_if rfl (fun u=>?_) (fun u=>?_)
  · (have L:=dT u);refine c_skip (c_then (c_seq (c_block (c_region (m2 rfl rfl (st_call fn135 rfl (kPair_any uQ x h0 C j K) ?_))))));rintro en w4 ⟨e,Ae,c,rfl,E,U,W,Y,A,Ah⟩;refine rv ?_;have hP:∀i∈[b0],Fsh [b0] w i:=(hI p);have y:∀i∈[b0],¬Q3 i:=(hI C);have I:∀b,vblock vo=some b→b∉[b0]:=fun b P=>(nin_cons (D.blk_ne h0 (by decide) b P) (by simp));replace D:=D.md E I y;clear I;replace M:=M.step E hP;replace uQ:=uQ.md E;clear hP y h0 C;have h0:=U;have C:=W;clear U W;refine st_buildSliceG [(Pr.cells e)] u104 elT148 (by decide) (by decide) rfl rfl ⟨rfl,tV⟩ ⟨rfl,tV⟩ rfl (by decide) ?_;intro Ap w5 Ac Au E O;have Ag:=uQ _ Ac;replace h0:=h0.o E;replace D:=D.o E;replace A:=A.o E;replace uQ:=uQ.md E;replace M:=M.k E;replace O:=Ls.of_blk (m:=1) (R:=Q3) (T:=tPr) (xs:=[e]) O ⟨_,_,rfl,(tPr_mk),rfl⟩ rfl (by decide) Ag;refine st_ap (sz:=2) (by rfl) u104 elT148 rfl rfl D O (fun _ h _=>h) uQ (Fsh.new M) (by(simp<;>omega)) (by(simp<;>omega)) ?_;intro v7 w8 Q9 sQ sT Af Ai E y _ Aj;have g:=D;clear D;replace C:=fun z=>C (sT _ z);replace t:=tT t sT;replace J:=sS sQ J M;replace h0:=h0.md E (aW g h0);replace A:=(A.sub sQ).md E y;replace uQ:=uQ.md E;replace M:=M.stepO E (fun b P=>Fsh.wid (g.2 b P).1);replace uQ:=Af;clear Af sQ sT y Aj;refine asg rfl (st_nil (n_block (c_then (c_region (mv rfl (st _ (rS (a:=n) (b:=1) rfl rfl (by omega)) (asg rfl (st_nil ?_))))))))
    refine c_then ?_;refine next5 (x0:=Ae) (x1:=c) (x2:=v7) (x3:=(o ++ ([e]))) (x4:=(n-1)) (by omega) ⟨rfl,(fitI rfl (by omega)),rfl,rfl,tV⟩ ⟨Q9,t,J,uQ,M,h0,A,Y,Ai,C,(by simp only[List.length_append,List.length_singleton];omega),(by have z:=Aa;rw[pairs_step (by omega)]at z;simp only[N,Ah]at z;exact z)⟩
  (have L:=dF u);refine c_exit (x_then (x_then (x_hit (c_then (nm rfl (ar rfl ?_))))));exact ret1L (v:=vo) trivial rfl ⟨rfl,tV⟩ ⟨_,o,x,_,rfl,M,(D.ls (fun b P=>t b P) (Fsh.up Am)),h0,n0,j,(K.sub (fun b P _=>t b P)),(by(try (simp(disch:=first|omega|assumption|simp) only [pairs_end,SS,reduceIte,N,L]at Aa));rw[Sq.pairs]<;>simp(disch:=first|omega|assumption|simp) only [SS,reduceIte,N,H,L,← Aa])⟩
theorem agg106:isAggN Zp 106 20=true:=by kernel_rfl
theorem fn105:isFn Zp 105=true:=by kernel_rfl
theorem fn108:isFn Zp 108=true:=by kernel_rfl
theorem pl106:bplace Zp 106=some [(0,1),(1,1),(2,1),(3,16),(19,1)]:=by kernel_rfl
theorem z106:zcells Zp 106=some ([.int .u64 0,.int .u64 0,.int .u64 0] ++ (List.replicate 16 (.int .u8 0) ++ ([.slice none 0 0]))):=by kernel_rfl
set_option maxRecDepth 100000 in
abbrev zz5:Rec:={seq:=0,real:=0,mono:=0,boot:=idZ,fields:=[]}
theorem kRecord_any (uQ:Up w Q) {b0:Nat} {v0_0:Value} (s:Sq) (h0:Blk w b0 (Sq.cells s v0_0) 123) (n0:¬Q b0) (a0_0:Sq.ok s) (a0_1:Ls tInt w Q v0_0 s.l) (seq:Nat) (a1:seq<18446744073709551616) :
    Calls Zp 78 #[.pointer (some ⟨b0,0,none⟩),(.int .u64 seq)] w fun en w'=>∃u0_0:Value,∃r0:Rec,∃m0:Sq,∃u50_0:Value,en = .returned (.agg (Rec.cells r0 u0_0).toArray)∧Md [b0] w w'∧Rec.ok r0∧Ls tPr w' Q u0_0 r0.fields∧Blk w' b0 (Sq.cells m0 u50_0) 123∧¬Q b0∧Sq.ok m0∧Ls tInt w' Q u50_0 m0.l∧s.record seq=(r0,m0):=by
  have C:=n0;have R:Fsh [b0] w b0:=.inl (by simp);have M:=Md.refl [b0] w;have Bd:=uQ;have tQ:∀b,Q b→Q b:=fun _ h=>h;refine enter (n:=25) Tryz.func78 rfl rfl rfl fun B=>ns (st_alloc z106 ?_);intro O w1 r Ay F D;have Av:b0≠O:=(by have:=h0.lt;omega);obtain⟨Q2,sQ,sT,Ac,Ar⟩:=exQ uQ r Ay F;replace C:=nQ C sT;replace tQ:=tT tQ sT;replace r:=lj M.size r;replace a0_1:=(a0_1.sub sQ).o F;replace h0:=h0.o F;replace uQ:=uQ.md F;replace M:=M.k F;replace uQ:=Ar;clear Ar sQ sT;have Ad:Fsh [] w O:=.inr r;replace D:Blk _ _ (Rec.cells (zz5) SN) _:=D;have A0:Rec.ok (zz5):=(by exact⟨(by decide),(by decide),(by decide),rfl⟩);refine nt (nm rfl (st_call fn108 rfl (kPairs_any uQ s h0 C a0_0 a0_1 4 (by omega) (by omega)) ?_));rintro en w4 ⟨A7,A8,z,Am,rfl,F,Af,W,c,g,J,Ag⟩;refine rv ?_;have T:∀i∈[b0],Fsh [b0] w i:=(hI R);have P:∀i∈[b0],¬Q2 i:=(hI C);have A:O∉[b0]:=(nin_cons (by omega) (by simp));replace D:=D.md F A;clear A;replace M:=M.step F T;replace uQ:=uQ.md F;clear T P h0 C;have h0:=W;have C:=c;clear W c;have S:=pairs_bd s 4;rw[Ag]at S;try simp only[LL,Nat.reduceAdd,Nat.reduceMul]at S
  refine st_call fn107 rfl (rList_any uQ Af (by omega) (fun q hq=>by have:=S.1 q hq;omega)) ?_;rintro en w5 ⟨L,N,A9,rfl,F,E,A1,Aw⟩;refine rv ?_;replace h0:=h0.o F;replace D:=D.o F;replace J:=J.o F;replace uQ:=uQ.md F;replace M:=M.k F;refine mv rfl (se rfl rfl (se rfl rfl (asg rfl (an rfl (ns (m2 rfl rfl (st_call fn76 rfl (kN_any uQ z h0 C g J 40 (by omega) (by omega)) ?_)))))));rintro en w6 ⟨H,Aa,Ao,rfl,F,A2,X,d,j,U,Ah⟩;refine rv ?_;have T:∀i∈[b0],Fsh [b0] w i:=(hI R);have P:∀i∈[b0],¬Q2 i:=(hI C);have A:O∉[b0]:=(nin_cons (by omega) (by simp));replace D:=D.md F A;clear A;replace E:=E.md F P;replace M:=M.step F T;replace uQ:=uQ.md F;clear T P h0 C;have h0:=X;have C:=d;clear X d;have t:=Sq.num_le z 40;rw[Ah]at t;try simp only[LL,Nat.reduceAdd,Nat.reduceMul]at t
  refine st _ (r_convN (a:=H) 18446744073709551616 rfl (by rw[u3];rfl) u23 rfl (by omega)) (mv rfl (st_call fn76 rfl (kN_any uQ Aa h0 C j U 9 (by omega) (by omega)) ?_));rintro en w7 ⟨I,Ab,Ap,rfl,F,A3,Y,e,k,V,Ai⟩;refine rv ?_;have T:∀i∈[b0],Fsh [b0] w i:=(hI R);have P:∀i∈[b0],¬Q2 i:=(hI C);have A:O∉[b0]:=(nin_cons (by omega) (by simp));replace D:=D.md F A;clear A;replace E:=E.md F P;replace M:=M.step F T;replace uQ:=uQ.md F;clear T P h0 C;have h0:=Y;have C:=e;clear Y e;have x:=Sq.num_le Aa 9;rw[Ai]at x;try simp only[LL,Nat.reduceAdd,Nat.reduceMul]at x
  refine st _ (r_convN (a:=I) 18446744073709551616 rfl (by rw[u3];rfl) u23 rfl (by omega)) (mv rfl (st_call fn76 rfl (kN_any uQ Ab h0 C k V 3 (by omega) (by omega)) ?_));rintro en w8 ⟨As,Al,Aq,rfl,F,A4,Z,f,o,G,Aj⟩;refine rv ?_;have T:∀i∈[b0],Fsh [b0] w i:=(hI R);have P:∀i∈[b0],¬Q2 i:=(hI C);have A:O∉[b0]:=(nin_cons (by omega) (by simp));replace D:=D.md F A;clear A;replace E:=E.md F P;replace M:=M.step F T;replace uQ:=uQ.md F;clear T P h0 C;have h0:=Z;have C:=f;clear Z f;have y:=Sq.num_le Ab 3;rw[Aj]at y;try simp only[LL,Nat.reduceAdd,Nat.reduceMul]at y
  refine st_call fn105 rfl (kID_any uQ (((As:Nat):Int)) (by omega)) ?_;rintro en w9 ⟨K,rfl,F,A5,Ax⟩;refine rv ?_;replace h0:=h0.o F;replace D:=D.o F;replace E:=E.o F;replace G:=G.o F;replace M:=M.k F;refine mv rfl (st _ (r_buildG (us:=[[(.int .u64 seq)],[(.int .u64 H)],[(.int .u64 I)],(idc K),[L]]) (cs:=(Rec.cells (({seq:=seq,real:=H,mono:=I,boot:=K,fields:=N}:Rec)) L)) [(0,0,1),(1,1,1),(2,2,1),(3,3,16),(4,19,1)] z106 pl106 rfl rfl ⟨rfl,rfl,rfl,rfl,(cells_one E.oneCell),tV⟩ ⟨rfl,rfl,rfl,rfl,rfl,tV⟩ rfl rfl) (st_storeAgg (us:=(Rec.cells (({seq:=seq,real:=H,mono:=I,boot:=K,fields:=N}:Rec)) L)) rfl rfl (by exact agg106) (by exact fun u hu=>one_cells (Rec.one E.oneCell) u hu) D (lB rfl) ?_));have Ak:=D;clear D;intro Be F D;have P:∀b∈[O],¬Q2 b:=(hI Ac);replace h0:=h0.md F (by intro p;simp at p;omega);replace E:=E.md F P;replace G:=G.md F P;replace M:=M.step F (hI (Fsh.wid Ad));clear Ak P;replace D:Blk _ _ (Rec.cells (({seq:=seq,real:=H,mono:=I,boot:=K,fields:=N}:Rec)) L) _:=D;refine nt (c_ret ?_);exact ret1L (v:=(.agg (Rec.cells (({seq:=seq,real:=H,mono:=I,boot:=K,fields:=N}:Rec)) L).toArray)) trivial rfl ⟨⟨_,rfl,load_agg (cs:=(Rec.cells (({seq:=seq,real:=H,mono:=I,boot:=K,fields:=N}:Rec)) L)) (by exact agg106) D⟩,tV⟩ ⟨_,(({seq:=seq,real:=H,mono:=I,boot:=K,fields:=N}:Rec)),Al,_,rfl,M,(by exact⟨(by omega),(by(simp<;>omega)),(by(simp<;>omega)),(by assumption)⟩),(E.sub (fun b p _=>tQ b p)),h0,n0,o,(G.sub (fun b p _=>tQ b p)),(by rw[Sq.record]<;>simp(disch:=first|omega|assumption|simp) only [SS,reduceIte,Ag,Aw,Ah,Ai,Aj,Ax])⟩
theorem pl154:bplace Zp 154=some [(0,16),(16,16),(32,16),(48,1),(49,1),(50,1),(51,1)]:=by kernel_rfl
theorem z154:zcells Zp 154=some (List.replicate 48 (.int .u8 0) ++ ([.int .i64 0,.int .i64 0,.int .i64 0,.bool false])):=by kernel_rfl
theorem kConfig_any (uQ:Up w Q) {b0:Nat} {v0_0:Value} (s:Sq) (h0:Blk w b0 (Sq.cells s v0_0) 123) (n0:¬Q b0) (a0_0:Sq.ok s) (a0_1:Ls tInt w Q v0_0 s.l) :
    Calls Zp 74 #[.pointer (some ⟨b0,0,none⟩)] w fun en w'=>∃r0:Cfg,∃m0:Sq,∃u50_0:Value,en = .returned (.agg (Cfg.cells r0).toArray)∧Md [b0] w w'∧Cfg.ok r0∧Blk w' b0 (Sq.cells m0 u50_0) 123∧¬Q b0∧Sq.ok m0∧Ls tInt w' Q u50_0 m0.l∧s.config=(r0,m0):=by
  have C:=n0;have R:Fsh [b0] w b0:=.inl (by simp);have M:=Md.refl [b0] w;have Bv:=uQ;have tQ:∀b,Q b→Q b:=fun _ h=>h;refine enter (n:=22) Tryz.func74 rfl rfl rfl fun B=>ns (st_alloc z154 ?_);intro S w1 Ag Bf E D;have Bb:b0≠S:=(by have:=h0.lt;omega);obtain⟨Q2,sQ,sT,Av,A7⟩:=exQ uQ Ag Bf E;replace C:=nQ C sT;replace tQ:=tT tQ sT;replace Ag:=lj M.size Ag;replace a0_1:=(a0_1.sub sQ).o E;replace h0:=h0.o E;replace uQ:=uQ.md E;replace M:=M.k E;replace uQ:=A7;clear A7 sQ sT;have Aw:Fsh [] w S:=.inr Ag;replace D:Blk _ _ (Cfg.cells (({file:=idZ,machine:=idZ,seq:=idZ,dataSlots:=0,fieldSlots:=0,most:=0,keyed:=false}:Cfg))) _:=D;have Bl:Cfg.ok (({file:=idZ,machine:=idZ,seq:=idZ,dataSlots:=0,fieldSlots:=0,most:=0,keyed:=false}:Cfg)):=(by exact⟨rfl,rfl,rfl,(by decide),(by decide),(by decide)⟩);refine nt (nm rfl (st_call fn76 rfl (kN_any uQ s h0 C a0_0 a0_1 5 (by omega) (by omega)) ?_));rintro en w4 ⟨A8,Ap,A4,rfl,E,Bm,x,Aa,Ad,J,A0⟩;refine rv ?_;have T:∀i∈[b0],Fsh [b0] w i:=(hI R);have U:∀i∈[b0],¬Q2 i:=(hI C);have A:S∉[b0]:=(nin_cons (by omega) (by simp));replace D:=D.md E A;clear A;replace M:=M.step E T;replace uQ:=uQ.md E;clear T U h0 C;have h0:=x;have C:=Aa;clear x Aa;have Ah:=Sq.num_le s 5;rw[A0]at Ah;try simp only[LL,Nat.reduceAdd,Nat.reduceMul]at Ah
  refine st_call fn105 rfl (kID_any uQ (((A8:Nat):Int)) (by omega)) ?_;rintro en w5 ⟨N,rfl,E,Bn,Bc⟩;refine rv ?_;replace h0:=h0.o E;replace D:=D.o E;replace J:=J.o E;replace uQ:=uQ.md E;replace M:=M.k E;refine mv rfl (st_call fn76 rfl (kN_any uQ Ap h0 C Ad J 5 (by omega) (by omega)) ?_);rintro en w6 ⟨A9,Aq,A5,rfl,E,Bo,y,Ab,Ae,K,A1⟩;refine rv ?_;have T:∀i∈[b0],Fsh [b0] w i:=(hI R);have U:∀i∈[b0],¬Q2 i:=(hI C);have A:S∉[b0]:=(nin_cons (by omega) (by simp));replace D:=D.md E A;clear A;replace M:=M.step E T;replace uQ:=uQ.md E;clear T U h0 C;have h0:=y;have C:=Ab;clear y Ab;have Ai:=Sq.num_le Ap 5;rw[A1]at Ai;try simp only[LL,Nat.reduceAdd,Nat.reduceMul]at Ai
  refine st_call fn105 rfl (kID_any uQ (((A9:Nat):Int)) (by omega)) ?_;rintro en w7 ⟨O,rfl,E,Bp,Bd⟩;refine rv ?_;replace h0:=h0.o E;replace D:=D.o E;replace K:=K.o E;replace uQ:=uQ.md E;replace M:=M.k E;refine mv rfl (st_call fn76 rfl (kN_any uQ Aq h0 C Ae K 5 (by omega) (by omega)) ?_);rintro en w8 ⟨Ba,Ar,A6,rfl,E,Bq,z,Ac,Af,L,A2⟩;refine rv ?_;have T:∀i∈[b0],Fsh [b0] w i:=(hI R);have U:∀i∈[b0],¬Q2 i:=(hI C);have A:S∉[b0]:=(nin_cons (by omega) (by simp));replace D:=D.md E A;clear A;replace M:=M.step E T;replace uQ:=uQ.md E;clear T U h0 C;have h0:=z;have C:=Ac;clear z Ac;have Aj:=Sq.num_le Aq 5;rw[A2]at Aj;try simp only[LL,Nat.reduceAdd,Nat.reduceMul]at Aj
  refine st_call fn105 rfl (kID_any uQ (((Ba:Nat):Int)) (by omega)) ?_;rintro en w9 ⟨P,rfl,E,Br,Be⟩;refine rv ?_;replace h0:=h0.o E;replace D:=D.o E;replace L:=L.o E;replace uQ:=uQ.md E;replace M:=M.k E;refine mv rfl (st_call fn76 rfl (kN_any uQ Ar h0 C Af L 7 (by omega) (by omega)) ?_);rintro en Bw ⟨F,r,Ax,rfl,E,Bg,V,Y,f,d,Ak⟩;refine rv ?_;have T:∀i∈[b0],Fsh [b0] w i:=(hI R);have U:∀i∈[b0],¬Q2 i:=(hI C);have A:S∉[b0]:=(nin_cons (by omega) (by simp));replace D:=D.md E A;clear A;replace M:=M.step E T;replace uQ:=uQ.md E;clear T U h0 C;have h0:=V;have C:=Y;clear V Y;have k:=Sq.num_le Ar 7;rw[Ak]at k;try simp only[LL,Nat.reduceAdd,Nat.reduceMul]at k
  refine st _ (rA (a:=F) (b:=1) rfl rfl (by omega)) (mv rfl (st_call fn76 rfl (kN_any uQ r h0 C f d 4 (by omega) (by omega)) ?_));rintro en Bx ⟨G,t,Ay,rfl,E,Bh,W,Z,g,e,Al⟩;refine rv ?_;have T:∀i∈[b0],Fsh [b0] w i:=(hI R);have U:∀i∈[b0],¬Q2 i:=(hI C);have A:S∉[b0]:=(nin_cons (by omega) (by simp));replace D:=D.md E A;clear A;replace M:=M.step E T;replace uQ:=uQ.md E;clear T U h0 C;have h0:=W;have C:=Z;clear W Z;have o:=Sq.num_le r 4;rw[Al]at o;try simp only[LL,Nat.reduceAdd,Nat.reduceMul]at o
  refine st _ (rA (a:=G) (b:=1) rfl rfl (by omega)) (mv rfl (st_call fn76 rfl (kN_any uQ t h0 C g e 2 (by omega) (by omega)) ?_));rintro en B0 ⟨H,Au,Az,rfl,E,Bi,X,c,j,I,Am⟩;refine rv ?_;have T:∀i∈[b0],Fsh [b0] w i:=(hI R);have U:∀i∈[b0],¬Q2 i:=(hI C);have A:S∉[b0]:=(nin_cons (by omega) (by simp));replace D:=D.md E A;clear A;replace M:=M.step E T;clear T U h0 C;have h0:=X;have C:=c;clear X c;have p:=Sq.num_le t 2;rw[Am]at p;try simp only[LL,Nat.reduceAdd,Nat.reduceMul]at p
  refine st _ (r_eqN (a:=H) (b:=1) rfl rfl) (st _ (r_buildG (us:=[(idc N),(idc O),(idc P),[(.int .i64 ((F+1:Nat):Int))],[(.int .i64 ((G+1:Nat):Int))],[(.int .i64 ((32768:Nat):Int))],[(.bool ((decide (H=1))))]]) (cs:=(Cfg.cells (({file:=N,machine:=O,seq:=P,dataSlots:=F+1,fieldSlots:=G+1,most:=32768,keyed:=(decide (H=1))}:Cfg)))) [(0,0,16),(1,16,16),(2,32,16),(3,48,1),(4,49,1),(5,50,1),(6,51,1)] z154 pl154 rfl rfl ⟨rfl,rfl,rfl,rfl,rfl,rfl,rfl,tV⟩ ⟨rfl,rfl,rfl,rfl,rfl,rfl,rfl,tV⟩ rfl (by simp[splices,splice,idc,Cfg.cells])) (st_storeAgg (us:=(Cfg.cells (({file:=N,machine:=O,seq:=P,dataSlots:=F+1,fieldSlots:=G+1,most:=32768,keyed:=(decide (H=1))}:Cfg)))) rfl rfl (by exact agg154) (by exact fun u hu=>one_cells (Cfg.one) u hu) D (lB rfl) ?_));have A3:=D;clear D;intro B2 E D;have U:∀b∈[S],¬Q2 b:=(hI Av);replace h0:=h0.md E (by intro hb;simp at hb;omega);replace I:=I.md E U;replace M:=M.step E (hI (Fsh.wid Aw));clear A3 U;replace D:Blk _ _ (Cfg.cells (({file:=N,machine:=O,seq:=P,dataSlots:=F+1,fieldSlots:=G+1,most:=32768,keyed:=(decide (H=1))}:Cfg))) _:=D;refine nt (c_ret ?_);exact ret1L (v:=(.agg (Cfg.cells (({file:=N,machine:=O,seq:=P,dataSlots:=F+1,fieldSlots:=G+1,most:=32768,keyed:=(decide (H=1))}:Cfg))).toArray)) trivial rfl ⟨⟨_,rfl,load_agg (cs:=(Cfg.cells (({file:=N,machine:=O,seq:=P,dataSlots:=F+1,fieldSlots:=G+1,most:=32768,keyed:=(decide (H=1))}:Cfg)))) (by exact agg154) D⟩,tV⟩ ⟨(({file:=N,machine:=O,seq:=P,dataSlots:=F+1,fieldSlots:=G+1,most:=32768,keyed:=(decide (H=1))}:Cfg)),Au,_,rfl,M,(by exact⟨(by assumption),(by assumption),(by assumption),(by(simp<;>omega)),(by(simp<;>omega)),(by(simp<;>omega))⟩),h0,n0,j,(I.sub (fun b hb _=>tQ b hb)),(by rw[Sq.config]<;>simp(disch:=first|omega|assumption|simp) only [SS,reduceIte,A0,Bc,A1,Bd,A2,Be,Ak,Al,Am])⟩
theorem elT106:elT Zp 106 20 64=true:=by kernel_rfl
theorem fn74:isFn Zp 74=true:=by kernel_rfl
theorem fn75:isFn Zp 75=true:=by kernel_rfl
theorem fn77:isFn Zp 77=true:=by kernel_rfl
theorem fn78:isFn Zp 78=true:=by kernel_rfl
theorem fn80:isFn Zp 80=true:=by kernel_rfl
theorem off106_1:fieldOff Zp 106 1=some 1:=by kernel_rfl
theorem off106_2:fieldOff Zp 106 2=some 2:=by kernel_rfl
theorem off106_3:fieldOff Zp 106 3=some 3:=by kernel_rfl
theorem off106_4:fieldOff Zp 106 4=some 19:=by kernel_rfl
theorem one104:isOne Zp 104=true:=by kernel_rfl
theorem u118:Zp.underlying 118=some (.slice 106):=by kernel_rfl
set_option maxHeartbeats 16000000 in
set_option maxRecDepth 100000 in
set_option maxHeartbeats 4000000 in
theorem kMaker_any (uQ:Up w Q) {b0:Nat} {v0_0:Value} (s:Sq) (h0:Blk w b0 (Sq.cells s v0_0) 123) (n0:¬Q b0) (a0_0:Sq.ok s) (a0_1:Ls tInt w Q v0_0 s.l) (most:Nat) (a1:most<9223372036854775808) (p0:most≤100000) :
    Calls Zp 40 #[.pointer (some ⟨b0,0,none⟩),(.int .i64 most)] w fun en w'=>∃o0:Nat,∃u0_0:Value,∃u0_1:Value,∃u0_2:Value,∃u0_3:Value,∃r0:Mk,∃u1:Value,∃r1:List Rec,∃m0:Sq,∃u50_0:Value,∃Q':Nat→Prop,en = .returned (.tuple #[.pointer (some ⟨o0,0,none⟩),u1])∧Md [b0] w w'∧NewQ w w' Q Q'∧Blk w' o0 (Mk.cells r0 u0_0 u0_1 u0_2 u0_3) 163∧¬Q' o0∧w.heap.size≤o0∧Mk.ok r0∧Ow tB8 5 (Fsh [] w) w' Q' u0_0 r0.b∧Ow tKnown 196 (Fsh [] w) w' Q' u0_1 r0.datas∧Ow tKnown 196 (Fsh [] w) w' Q' u0_2 r0.fields∧Ls tU64 w' Q' u0_3 r0.main∧(∀x,vblock u0_1=some x→vblock u0_2≠some x)∧Ls tRec w' Q' u1 r1∧Blk w' b0 (Sq.cells m0 u50_0) 123∧¬Q' b0∧Sq.ok m0∧Ls tInt w' Q' u50_0 m0.l∧s.maker most=(r0,r1,m0):=by
  have N:=n0;have Br:Fsh [b0] w b0:=.inl (by simp);have M:=Md.refl [b0] w;have Dd:=uQ;have tQ:∀b,Q b→Q b:=fun _ h=>h;have p:∀b,Q b→b<w.heap.size→Q b:=fun _ h _=>h;refine enter (n:=53) Tryz.func40 rfl rfl rfl fun B=>ns (asg rfl (an rfl (nm rfl (st_call fn74 rfl (kConfig_any uQ s h0 N a0_0 a0_1) ?_))));rintro en w1 ⟨Bs,C5,D0,rfl,U,Cy,Ce,Cg,Ci,e,B6⟩;refine rv ?_;have hP:∀i∈[b0],Fsh [b0] w i:=(hI Br);have y:∀i∈[b0],¬Q i:=(hI N);replace M:=M.step U hP;replace uQ:=uQ.md U;clear hP y h0 N;have h0:=Ce;have N:=Cg;clear Ce Cg;refine st_alloc z154 ?_;intro B3 w2 Cu Ea U Ag;have D6:b0≠B3:=(by have:=h0.lt;omega);obtain⟨Q3,sQ,sT,Cl,Aq⟩:=exQ uQ Cu Ea U;replace N:=nQ N sT;replace tQ:=tT tQ sT;replace p:=sS sQ p M;replace Cu:=lj M.size Cu;replace h0:=h0.o U;replace e:=(e.sub sQ).o U;replace uQ:=uQ.md U;replace M:=M.k U;replace uQ:=Aq;clear Aq sQ sT;have Db:Fsh [] w B3:=.inr Cu;replace Ag:Blk _ _ (Cfg.cells (({file:=idZ,machine:=idZ,seq:=idZ,dataSlots:=0,fieldSlots:=0,most:=0,keyed:=false}:Cfg))) _:=Ag;have Et:Cfg.ok (({file:=idZ,machine:=idZ,seq:=idZ,dataSlots:=0,fieldSlots:=0,most:=0,keyed:=false}:Cfg)):=(by exact⟨rfl,rfl,rfl,(by decide),(by decide),(by decide)⟩);refine st_storeAgg (us:=(Cfg.cells Bs)) rfl rfl (by exact agg154) (by exact fun u hu=>one_cells (Cfg.one) u hu) Ag (lB rfl) ?_;have Dv:=Ag;clear Ag;intro w5 U Ag
  have y:∀b∈[B3],¬Q3 b:=(hI Cl);replace h0:=h0.md U (by intro X;simp at X;omega);replace e:=e.md U y;replace uQ:=uQ.md U;replace M:=M.step U (hI (Fsh.wid Db));clear Dv y;replace Ag:Blk _ _ (Cfg.cells Bs) _:=Ag;refine nt (c_seq ?_);have Ca:=Ag;have Ey:∀b∈[b0],¬Q3 b:=all_cons N all_nil;refine c_mixT [(0,true),(1,true),(2,false),(3,true)] [4,5] (fun w'=>Md [b0] w5 w') mixed (by kernel_rfl) ?_;intro w6 Bc;refine⟨Bc.mono (by simp),?_⟩;have MC:=Bc.mono (T:=[b0]) (by simp);have cs:=config_ok s;rw[B6]at cs;simp only at cs;refine mz (fun w' hc=>r_loadPart (Cfg.cells Bs) rfl (by exact agg154) (Ca.md hc (by simp;omega)) rfl) (mo rfl ?_);replace h0:=h0.o Bc;replace e:=e.o Bc;replace Ag:=Ag.o Bc;replace uQ:=uQ.md Bc;replace M:=M.k Bc;refine m_c ?_ rfl;refine st_call fn76 rfl (kN_any uQ C5 h0 N Ci e 6 (by omega) (by omega)) ?_;rintro en w7 ⟨C7,C6,Ck,rfl,U,Eu,Cf,Ch,Cj,Aa,B7⟩;refine rv ?_;have hP:∀i∈[b0],Fsh [b0] w i:=(hI Br);have y:∀i∈[b0],¬Q3 i:=(hI N);have Bp:B3∉[b0]:=(nin_cons (by omega) (by simp));replace Ag:=Ag.md U Bp;clear Bp;replace M:=M.step U hP;replace MC:=MC.step U (fun i hi=>Or.inl (by simpa using hi));replace uQ:=uQ.md U;clear hP y h0 N;have h0:=Cf;have N:=Ch;clear Cf Ch;have C0:=Sq.num_le C5 6;rw[B7]at C0;try simp only[LL,Nat.reduceAdd,Nat.reduceMul]at C0
  refine st_nil ⟨rfl,MC,fun w'=>Md [b0] w7 w',Md.refl _ _,fun x hx=>MC.trans hx,?_⟩;clear Ca;replace MC:=Md.refl [b0] w7;refine mz (fun w' hc=>r_convN (a:=C7) 18446744073709551616 rfl (by rw[u3];rfl) u23 rfl (by omega)) (m_nil ?_);clear MC;refine st_call fn75 rfl (rnewMaker_any uQ Bs Cy C7 (by omega) (by omega) (by omega)) ?_;rintro en w8 ⟨Y,Co,Cp,Cq,Cr,Ct,Q9,rfl,U,⟨sQ,sT,Aq⟩,K,G,Af,Cn,Am,Ao,Ap,A8,Ah,B8⟩;refine rv ?_;have Dg:b0≠Y:=(by have:=h0.lt;omega);have C8:B3≠Y:=(by have:=Ag.lt;omega);have Cs:Fsh [] w Y:=Fsh.new M _ Af;replace Af:=lj M.size Af;replace N:=nQ N sT;replace tQ:=tT tQ sT;replace p:=sS sQ p M;replace Am:=Am.lower (Fsh.lift (S':=[]) M);replace Ao:=Ao.lower (Fsh.lift (S':=[]) M);replace Ap:=Ap.lower (Fsh.lift (S':=[]) M);replace h0:=h0.o U;replace Aa:=(Aa.sub sQ).o U;replace uQ:=uQ.md U;replace M:=M.k U;replace uQ:=Aq;clear Aq sQ sT;refine an rfl (ns (asg rfl (nt (c_seq (c_block ?_)))));have Ec:MkOk Ct:=(by rw[← B8];exact newMk_ok cs.1 cs.2.1 cs.2.2);obtain⟨r0,Cb⟩:∃r,makerL (most-([]:List Rec).length) C6 Ct ([]:List Rec)=r:=⟨_,rfl⟩;have Cc:=Cb
  try simp only[List.nil_append,B6,B7,B8]at Cb
  refine loop9 (fun(mm:Mk) (f:Value) (S:Value) (L:Value) (Ac:Value) (sq:Sq) (A0:Value) (vo:Value) (o:List Rec)=>[(8,vo),(0,(.pointer (some ⟨b0,0,none⟩))),(1,(.int .i64 most)),(4,(.pointer none)),(5,SN),(7,(.pointer (some ⟨Y,0,none⟩)))]) (fun(mm:Mk) (f:Value) (S:Value) (L:Value) (Ac:Value) (sq:Sq) (A0:Value) (vo:Value) (o:List Rec) w'=>∃Q':Nat→Prop,(∀b,Q' b→Q b)∧(∀b,Q b→b<w.heap.size→Q' b)∧Up w' Q'∧Md [b0] w w'∧Blk w' Y (Mk.cells mm f S L Ac) 163∧Ow tB8 5 (Fsh [] w) w' Q' f mm.b∧Ow tKnown 196 (Fsh [] w) w' Q' S mm.datas∧Ow tKnown 196 (Fsh [] w) w' Q' L mm.fields∧Ls tU64 w' Q' Ac mm.main∧Mk.ok mm∧Blk w' b0 (Sq.cells sq A0) 123∧Ls tInt w' Q' A0 sq.l∧Sq.ok sq∧Ow tRec 106 (Fsh [] w) w' Q' vo o∧¬Q' Y∧¬Q' b0∧(∀x,vblock S=some x→vblock L≠some x)∧MkOk mm∧o.length≤most∧makerL (most-o.length) sq mm o=r0) (fun(mm:Mk) (f:Value) (S:Value) (L:Value) (Ac:Value) (sq:Sq) (A0:Value) (vo:Value) (o:List Rec)=>most-o.length) (x0:=Ct) (x1:=Co) (x2:=Cp) (x3:=Cq) (x4:=Cr) (x5:=C6) (x6:=Ck) (x7:=SN) (x8:=([]:List Rec)) ?_ ?_ ?_
  · exact⟨rfl,rfl,rfl,rfl,rfl,rfl,tV⟩
  · exact⟨Q9,tQ,p,uQ,M,K,Am,Ao,Ap,A8,Cn,h0,Aa,Cj,(Ow.nil _ _ _ _ _),G,N,Ah,Ec,(by simp),(by have hh:=Cb;exact hh)⟩
  clear M uQ tQ p N Cl G a0_1 h0 e Ag Aa Am Ao Ap A8 K
  rintro mm f S L Ac sq A0 vo o B Ei ⟨Dj,tQ,p,uQ,M,K,E,C,A,D,A6,h0,Aw,Cd,P,G,N,O,C4,Er,Cw⟩;refine c_seq (nm rfl (sL rfl u118 P.shp (mv rfl (st _ (r_ltN (a:=o.length) (b:=most) rfl rfl) (mv rfl ?_)))));refine part_n (t:=23) rfl (fun A5=>?_) (fun A5=>?_)
  · (have Bg:=dT A5);refine sg A5 (r_move rfl) (st_call_g rfl rfl rfl A5 fn77 rfl (kMore_any uQ sq h0 N Cd Aw) ?_);rintro en Ej ⟨El,Ay,Di,rfl,U,Bj,Bm,A3,j,C1⟩;refine rv ?_;have hP:∀i∈[b0],Fsh [b0] w i:=(hI Br);have y:∀i∈[b0],¬Dj i:=(hI N);have k:∀b,vblock f=some b→b∉[b0]:=fun b X=>(nin_cons (E.blk_ne h0 (by decide) b X) (by simp));have d:∀b,vblock S=some b→b∉[b0]:=fun b X=>(nin_cons (C.blk_ne h0 (by decide) b X) (by simp));have Z:∀b,vblock L=some b→b∉[b0]:=fun b X=>(nin_cons (A.blk_ne h0 (by decide) b X) (by simp));have Ab:Y∉[b0]:=(nin_cons (by omega) (by simp));have v:∀b,vblock vo=some b→b∉[b0]:=fun b X=>(nin_cons (P.blk_ne h0 (by decide) b X) (by simp));replace E:=E.md U k y;clear k;replace C:=C.md U d y;clear d;replace A:=A.md U Z y;clear Z;replace D:=D.md U y;replace K:=K.md U Ab;clear Ab;replace P:=P.md U v y;clear v;replace M:=M.step U hP;replace uQ:=uQ.md U;clear hP y h0 N;have h0:=Bj;have N:=Bm;clear Bj Bm;refine st _ (r_pick_t rfl A5 rfl) (nt ?_);refine c_if rfl (fun B4=>?_) (fun B4=>?_)
    · (have Dr:=B4)
      have Bt:sq=Ay∧sq.pos<sq.l.length:=by
        have h:=C1;rw[B4]at h;simp[Sq.more]at h;exact⟨h.2,by omega⟩
      refine c_skip (c_then (c_block (ns (m2 rfl rfl (st_call fn79 rfl (mtail_any uQ mm K G A6 (E.reP (fun _ _=>trivial)) (C.reP (fun _ _=>trivial)) (A.reP (fun _ _=>trivial)) D O) ?_)))));rintro en E2 ⟨Bf,rfl,U,Ee,Ds⟩;refine rv ?_;replace E:=E.o U;replace C:=C.o U;replace A:=A.o U;replace D:=D.o U;replace K:=K.o U;replace h0:=h0.o U;replace P:=P.o U;replace j:=j.o U;replace uQ:=uQ.md U;replace M:=M.k U;refine st _ (r_addW (a:=Bf) (b:=1) 18446744073709551616 rfl rfl rfl rfl) (st_call fn78 rfl (kRecord_any uQ Ay h0 N A3 j ((Bf+1)%18446744073709551616) (by omega)) ?_);rintro en E3 ⟨Ae,W,Bd,Bu,rfl,U,Ad,V,Bk,Bn,A4,F,C2⟩;refine rv ?_;have hP:∀i∈[b0],Fsh [b0] w i:=(hI Br);have y:∀i∈[b0],¬Dj i:=(hI N);have k:∀b,vblock f=some b→b∉[b0]:=fun b X=>(nin_cons (E.blk_ne h0 (by decide) b X) (by simp));have d:∀b,vblock S=some b→b∉[b0]:=fun b X=>(nin_cons (C.blk_ne h0 (by decide) b X) (by simp));have Z:∀b,vblock L=some b→b∉[b0]:=fun b X=>(nin_cons (A.blk_ne h0 (by decide) b X) (by simp));have Ab:Y∉[b0]:=(nin_cons (by omega) (by simp));have v:∀b,vblock vo=some b→b∉[b0]:=fun b X=>(nin_cons (P.blk_ne h0 (by decide) b X) (by simp));replace E:=E.md U k y;clear k;replace C:=C.md U d y;clear d;replace A:=A.md U Z y;clear Z;replace D:=D.md U y;replace K:=K.md U Ab;clear Ab;replace P:=P.md U v y;clear v;replace M:=M.step U hP;replace uQ:=uQ.md U;clear hP y h0 N;have h0:=Bk;have N:=Bn;clear Bk Bn;refine st_alloc z106 ?_;intro Bb E4 Cv Eb U z
      have Dh:Y≠Bb:=(by have:=K.lt;omega);have D7:b0≠Bb:=(by have:=h0.lt;omega);have Av:∀x,vblock vo=some x→x≠Bb:=fun x hx h=>by have h3:=P.lt x hx;omega
      obtain⟨Dk,sQ,sT,Da,Aq⟩:=exQ uQ Cv Eb U;replace G:=nQ G sT;replace N:=nQ N sT;replace tQ:=tT tQ sT;replace p:=sS sQ p M;replace Cv:=lj M.size Cv;replace E:=(E.sub sQ sT).o U;replace C:=(C.sub sQ sT).o U;replace A:=(A.sub sQ sT).o U;replace D:=(D.sub sQ).o U;replace K:=K.o U;replace h0:=h0.o U;replace P:=(P.sub sQ sT).o U;replace F:=(F.sub sQ).o U;replace V:=(V.sub sQ).o U;replace uQ:=uQ.md U;replace M:=M.k U;replace uQ:=Aq;clear Aq sQ sT;have Dc:Fsh [] w Bb:=.inr Cv;replace z:Blk _ _ (Rec.cells (zz5) SN) _:=z;have Ed:Rec.ok (zz5):=(by exact⟨(by decide),(by decide),(by decide),rfl⟩);refine st_storeAgg (us:=(Rec.cells W Ae)) rfl rfl (by exact agg106) (by exact fun u hu=>one_cells (Rec.one V.oneCell) u hu) z (lB rfl) ?_;have Bi:=z;clear z;intro E5 U z;have y:∀b∈[Bb],¬Dk b:=(hI Da);replace E:=E.md U (aB Bi E) y;replace C:=C.md U (aB Bi C) y;replace A:=A.md U (aB Bi A) y;replace D:=D.md U y;replace K:=K.md U (by intro X;simp at X;omega);replace h0:=h0.md U (by intro X;simp at X;omega);replace P:=P.md U (apart_nb2 Av) y
      replace F:=F.md U y;replace V:=V.md U y;replace uQ:=uQ.md U;replace M:=M.step U (hI (Fsh.wid Dc));clear Bi y;replace z:Blk _ _ (Rec.cells W Ae) _:=z;refine nt (c_seq (nm rfl (sf rfl off106_4 (sl (u:=Ae) rfl one104 z rfl (sf rfl off106_1 (sl (u:=(.int .u64 W.real)) rfl one23 z rfl ?_))))));have Ez:W.real<18446744073709551616:=Ad.2.1;refine sf rfl off106_2 (sl (u:=(.int .u64 W.mono)) rfl one23 z rfl ?_);have E0:W.mono<18446744073709551616:=Ad.2.2.1;refine sf rfl off106_3 (st _ (r_loadPart (idc W.boot) rfl (by exact agg50) z rfl) ?_);have E1:W.boot.length=16:=Ad.2.2.2;have Eh:(∀q∈W.fields,BD q)∧W.fields.length≤16:=(by have h:=record_ok Ay ((Bf+1)%18446744073709551616);rw[C2]at h;exact h);refine st_call fn80 rfl (mappend_any uQ mm K G A6 (E.reP (fun _ _=>trivial)) (C.reP (fun _ _=>trivial)) (A.reP (fun _ _=>trivial)) D O V W.real (by omega) W.mono (by omega) W.boot (by assumption) (by exact C4) (by exact(by omega)) (by exact(fun q hq=>by have:=(Eh.1 q hq).1;omega))) ?_;rintro en Ek ⟨Em,De,Be,Bv,Bw,Bx,B0,D3,rfl,U,⟨sQ,sT,Aq⟩,Ef,Eg,Bl,Bo,Ar,H,I,J,c,g,Bh⟩;refine rv ?_;have hP:∀i∈(vS Y f S L),Fsh [] w i:=(all_cons Cs (all_app (rF E) (all_app (rF C) (rF A))));have y:∀i∈(vS Y f S L),¬Dk i:=(all_cons G (all_app (rN E) (all_app (rN C) (rN A))))
      have Cm:b0∉(vS Y f S L):=(nin_cons (by omega) (nin_app (aW E h0) (nin_app (aW C h0) (aW A h0))));have v:∀b,vblock vo=some b→b∉(vS Y f S L):=fun b X=>(nin_cons (P.blk_ne K (by decide) b X) (nin_app ((aO E P) b X) (nin_app ((aO C P) b X) ((aO A P) b X))));have Bq:Bb∉(vS Y f S L):=(nin_cons (by omega) (nin_app (aW E z) (nin_app (aW C z) (aW A z))));replace H:=H.reP (fun x hx=>(H.2 x hx).1);replace H:=H.reP (fun x hx=>(H.2 x hx).1.elim (hP x) (Fsh.new M x));replace I:=I.reP (fun x hx=>(I.2 x hx).1);replace I:=I.reP (fun x hx=>(I.2 x hx).1.elim (hP x) (Fsh.new M x));replace J:=J.reP (fun x hx=>(J.2 x hx).1);replace J:=J.reP (fun x hx=>(J.2 x hx).1.elim (hP x) (Fsh.new M x));replace N:=nQ N sT;replace tQ:=tT tQ sT;replace p:=sS sQ p M;replace y:=fun i hi hq=>y i hi (sT i hq);replace h0:=h0.md U Cm;clear Cm;replace P:=(P.sub sQ sT).md U v y;clear v;replace F:=(F.sub sQ).md U y;replace V:=(V.sub sQ).md U y;replace z:=z.md U Bq;clear Bq;replace M:=M.step U (fun i hi=>Fsh.wid (hP i hi));replace uQ:=Aq;clear Aq sQ sT;clear hP y K G;have K:=Bl;have G:=Bo;clear Bl Bo;clear A;clear C;clear E;refine mv rfl (se rfl rfl (se rfl rfl ?_))
      refine asg rfl (an rfl (ns ?_))
      have Dz:MkOk Be:=by
        have h:=append_ok (raw:=W.fields) (real:=W.real) (mono:=W.mono) (boot:=W.boot) C4 (by exact Ad.2.2.2) (by rw[Bh];exact Ar.2.1.2.2.2.2.2.2.2.1.1);rw[Bh]at h;exact h
      have C3:sq.record ((mm.num 9+1)%18446744073709551616)=(W,Bd):=(by rw[Bt.1,Ds];exact C2);refine mv rfl (st _ (r_neN (a:=De) (b:=0) rfl rfl) (nt ?_));refine c_if rfl (fun C9=>?_) (fun C9=>?_)
      · (have B5:=dT C9);refine c_exit (x_then (x_miss rfl (x_then (x_hit (c_then (ns (m2 rfl rfl (asg rfl (ar rfl ?_)))))))));obtain⟨Dl,fQ,fT,Au⟩:=P.freeze;replace G:=fun hh=>(fT _ hh).elim G (nfz (aW P K));replace N:=fun hh=>(fT _ hh).elim N (nfz (aW P h0));replace F:=F.sub (fun b X _=>fQ b X);replace H:=H.subF fQ fT (aO P H);replace I:=I.subF fQ fT (aO P I);replace J:=J.subF fQ fT (aO P J);replace c:=c.sub (fun b X _=>fQ b X);replace tQ:=fun b X=>(fT b X).elim (tQ b) (fun hv=>Fsh.up Dd b (P.2 b hv).1);replace p:=fun b X hl=>fQ b (p b X hl);replace uQ:Up Ek Dl:=fun b X=>fQ b (uQ b X);clear P fQ fT;have P:=Au;clear Au;have e0:s.maker most=r0:=(by unfold Sq.maker;simp only[B6,B7,B8];exact Cc);exact retL (vs:=[(.pointer (some ⟨Y,0,none⟩)),vo]) trivial rfl ⟨rfl,rfl,tV⟩ rfl ⟨Y,_,_,_,_,Be,_,o,Bd,_,Dl,rfl,M,⟨p,tQ,uQ⟩,K,G,Af,Ar,H,I,J,c,g,P,h0,N,A4,F,(by rw[e0,← Cw,makerL_no Bg Bt.2 C3 Bh B5])⟩
      (have B5:=dF C9);refine c_skip (c_then (c_region (mv rfl (st _ (r_loadPart (Rec.cells W Ae) rfl (by exact agg106) z rfl) (st_buildSliceG [(Rec.cells W Ae)] u118 elT106 (by decide) (by decide) rfl rfl ⟨rfl,tV⟩ ⟨rfl,tV⟩ rfl (by decide) ?_)))));intro En E6 Dq Es U B9;have D2:=uQ _ Dq;replace K:=K.o U;replace h0:=h0.o U;replace P:=P.o U;replace F:=F.o U;replace V:=V.o U;replace z:=z.o U;replace H:=H.o U;replace I:=I.o U;replace J:=J.o U;replace c:=c.o U;replace uQ:=uQ.md U;replace M:=M.k U;replace B9:=Ls.of_blk (m:=1) (R:=D3) (T:=tRec) (xs:=[W]) B9 ⟨_,_,rfl,(tRec_mk Ad V),rfl⟩ rfl (by decide) D2;refine st_ap (sz:=20) (by rfl) u118 elT106 rfl rfl P B9 (fun _ h _=>h) uQ (Fsh.new M) (by(simp<;>omega)) (by(simp<;>omega)) ?_;intro D1 E7 D4 sQ sT Aq Du U y _ Dy;have Cx:∀x,vblock D1=some x→x≠Bb:=fun x hx h=>(Dy x hx).elim (fun h2=>Av x h2 h) (fun h2=>by have h3:=z.lt;omega);have A1:=P;clear P;replace G:=nQ G sT;replace N:=nQ N sT;replace H:=H.sub sQ sT;replace I:=I.sub sQ sT;replace J:=J.sub sQ sT;replace c:=c.sub sQ;replace tQ:=tT tQ sT;replace p:=sS sQ p M;replace K:=K.md U (aW A1 K);replace h0:=h0.md U (aW A1 h0);replace F:=(F.sub sQ).md U y
      replace H:=H.md U (aO A1 H) y;replace I:=I.md U (aO A1 I) y;replace J:=J.md U (aO A1 J) y;replace c:=c.md U y;replace uQ:=uQ.md U;replace M:=M.stepO U (fun b X=>Fsh.wid (A1.2 b X).1);replace uQ:=Aq;clear Aq sQ sT y Dy;refine asg rfl (st_nil (n_block (c_then ?_)));refine next9 (x0:=Be) (x1:=Bv) (x2:=Bw) (x3:=Bx) (x4:=B0) (x5:=Bd) (x6:=Bu) (x7:=D1) (x8:=(o ++ ([W]))) (by simp;omega) ⟨rfl,rfl,rfl,rfl,rfl,rfl,tV⟩ ⟨D4,tQ,p,uQ,M,K,H,I,J,c,Ar,h0,F,A4,Du,G,N,g,Dz,(by simp;omega),(by have hh:=Cw;rw[makerL_on Bg Bt.2 C3 Bh B5]at hh;exact hh)⟩
    (have Dr:=B4)
    have Bt:sq=Ay∧¬sq.pos<sq.l.length:=by
      have h:=C1;rw[B4]at h;simp[Sq.more]at h;exact⟨h.2,by omega⟩
    refine c_exit (x_then (x_then (x_hit (c_then (ns (m2 rfl rfl (asg rfl (ar rfl ?_))))))));obtain⟨Dm,fQ,fT,Au⟩:=P.freeze;replace E:=E.subF fQ fT (aO P E);replace C:=C.subF fQ fT (aO P C);replace A:=A.subF fQ fT (aO P A);replace D:=D.sub (fun b X _=>fQ b X);replace G:=fun hh=>(fT _ hh).elim G (nfz (aW P K));replace N:=fun hh=>(fT _ hh).elim N (nfz (aW P h0));replace j:=j.sub (fun b X _=>fQ b X);replace tQ:=fun b X=>(fT b X).elim (tQ b) (fun hv=>Fsh.up Dd b (P.2 b hv).1);replace p:=fun b X hl=>fQ b (p b X hl);replace uQ:Up Ej Dm:=fun b X=>fQ b (uQ b X);clear P fQ fT;have P:=Au;clear Au;have e0:s.maker most=r0:=(by unfold Sq.maker;simp only[B6,B7,B8];exact Cc);exact retL (vs:=[(.pointer (some ⟨Y,0,none⟩)),vo]) trivial rfl ⟨rfl,rfl,tV⟩ rfl ⟨Y,_,_,_,_,mm,_,o,Ay,_,Dm,rfl,M,⟨p,tQ,uQ⟩,K,G,Af,A6,E,C,A,D,O,P,h0,N,A3,j,(by rw[e0,← Cw,makerL_end (fun h=>Bt.2 h.2),Bt.1])⟩
  (have Bg:=dF A5);refine sk A5 (sk A5 (st _ (r_pick_f rfl A5 rfl) (nt (c_if_f rfl rfl (c_exit (x_then (x_then (x_hit (c_then (ns (m2 rfl rfl (asg rfl ?_))))))))))));refine ar rfl ?_;obtain⟨Dn,fQ,fT,Au⟩:=P.freeze;replace E:=E.subF fQ fT (aO P E);replace C:=C.subF fQ fT (aO P C);replace A:=A.subF fQ fT (aO P A);replace D:=D.sub (fun b X _=>fQ b X);replace G:=fun hh=>(fT _ hh).elim G (nfz (aW P K));replace Aw:=Aw.sub (fun b X _=>fQ b X);replace N:=fun hh=>(fT _ hh).elim N (nfz (aW P h0));replace tQ:=fun b X=>(fT b X).elim (tQ b) (fun hv=>Fsh.up Dd b (P.2 b hv).1);replace p:=fun b X hl=>fQ b (p b X hl);replace uQ:Up Ei Dn:=fun b X=>fQ b (uQ b X);clear P fQ fT;have P:=Au;clear Au;have e0:s.maker most=r0:=(by unfold Sq.maker;simp only[B6,B7,B8];exact Cc);exact retL (vs:=[(.pointer (some ⟨Y,0,none⟩)),vo]) trivial rfl ⟨rfl,rfl,tV⟩ rfl ⟨Y,_,_,_,_,mm,_,o,sq,_,Dn,rfl,M,⟨p,tQ,uQ⟩,K,G,Af,A6,E,C,A,D,O,P,h0,N,Cd,Aw,(by rw[e0,← Cw,makerL_end (fun h=>Bg h.1)])⟩
theorem fn40:isFn Zp 40=true:=by kernel_rfl
theorem fn41:isFn Zp 41=true:=by kernel_rfl
theorem pl123:bplace Zp 123=some [(0,1),(1,1)]:=by kernel_rfl
theorem z123:zcells Zp 123=some [.slice none 0 0,.int .i64 0]:=by kernel_rfl
theorem kImageM_any (uQ:Up w Q) {v0:Value} {l:List Int} (h0:Ls tInt w Q v0 l) (most:Nat) (p1:most≤100000) :
    Calls Zp 11 #[v0,.int .i64 most] w fun en w'=>∃u0:Value,∃r0:List UInt8,en = .returned u0∧Md [] w w'∧Ls tB8 w' Q u0 r0∧∃(m:Mk) (rs:List Rec) (s:Sq),(Sq.mk l 0).maker most=(m,rs,s)∧Mk.ok m∧imageM m 1=r0∧r0.length≤100000:=by
  refine enter (n:=17) Tryz.func11 rfl rfl rfl ?_;intro B;have g:=h0.len63;refine ns (an rfl (nm rfl (st (.agg (Sq.cells {l:=l,pos:=0} v0).toArray) (r_build (cs:=Sq.cells {l:=l,pos:=0} v0) (ps:=[(0,0)]) z123 pl123 rfl rfl (by simp[OneAll,h0.oneCell]) rfl rfl rfl) (st_box (cs:=Sq.cells {l:=l,pos:=0} v0) rfl rfl ?_))));intro b w1 K Y F O;obtain⟨h,d,z,Z,e⟩:=exQ uQ K Y F;replace h0:=(h0.sub d).o F;have M:=F;refine mv rfl (st_call fn40 rfl (kMaker_any e {l:=l,pos:=0} O Z (show Sq.ok _ from(by decide:(0:Nat)<9223372036854775808)) h0 most (by omega) p1) ?_);rintro en f ⟨a,x0,x1,x2,x3,m,y0,rs,y,z0,i,rfl,G,⟨v,x,u2⟩,P,t,o,C,U,V,W,I,k,X,p,u,c,T,L⟩;refine rv ?_;have J:=M.step1 G K;refine mv rfl (se rfl rfl (se rfl rfl (asg rfl (an rfl (nm rfl ?_)))));have E:=(maker_ok L).1;have D:=E.small;have A:=E.hd;have S:Pt tMk 163 f (fun _=>True) (.pointer (some ⟨a,0,none⟩)) m:=⟨_,_,rfl,trivial,P,tMk_mk C (U.ls (fun _ _=>trivial) fun _ _=>trivial) (V.ls (fun _ _=>trivial) fun _ _=>trivial) (W.ls (fun _ _=>trivial) fun _ _=>trivial) (I.sub fun _ _ _=>trivial)⟩;refine st_call fn41 rfl (mimage_any (Q:=fun _=>True) (fun _ _=>trivial) S 1 (by decide) A (by omega)) ?_;rintro en w3 ⟨u0,r0,j,rfl,H,r,R,N⟩;refine rv ?_;refine ar rfl ?_;refine ret1 trivial rfl rfl ⟨_,r0,rfl,J.k H,R.lsB (uQ.md J),_,_,_,L,C,N,?_⟩;rw[← N];exact imageM_len C.2.1 D
theorem kImageL_any (uQ:Up w Q) {v0:Value} {l:List Int} (h0:Ls tInt w Q v0 l) (most:Nat) (p1:most≤100000) :
    Calls Zp 11 #[v0,.int .i64 most] w fun en w'=>∃u0:Value,∃r0:List UInt8,en = .returned u0∧Md [] w w'∧Ls tB8 w' Q u0 r0∧imageOf l most=r0∧r0.length≤100000 :=
  (kImageM_any uQ h0 most p1).mono fun en w' ⟨u0,r0,h1,h2,h3,m,rs,s,h4,h5,h6,h7⟩=>⟨u0,r0,h1,h2,h3,by unfold imageOf;rw[h4];exact h6,h7⟩
theorem kImage_any (uQ:Up w Q) {v0:Value} {l:List Int} (h0:Ls tInt w Q v0 l) (most:Nat) (p1:most≤100000) :
    Calls Zp 11 #[v0,.int .i64 most] w fun en w'=>∃u0:Value,∃r0:List UInt8,en = .returned u0∧Md [] w w'∧Ls tB8 w' Q u0 r0∧imageOf l most=r0 :=
  (kImageL_any uQ h0 most p1).mono fun en w' ⟨u0,r0,h1,h2,h3,h4,_⟩=>⟨u0,r0,h1,h2,h3,h4⟩
theorem leGet_any (uQ:Up w Q) {v0:Value} {l:Ly} (h0:Ls tB8 w Q v0 l) (a:Int) (a1:(-9223372036854775808≤a∧a<9223372036854775808)) (n:Int) (a2:(-9223372036854775808≤n∧n<9223372036854775808)) :
    Calls Zp 93 #[v0,(.int .i64 (a:Int)),(.int .i64 (n:Int))] w fun en w'=>∃r0:Nat,∃r1:Bool,en = .returned (.tuple #[(.int .u64 r0),(.bool r1)])∧Md [] w w'∧r0<18446744073709551616∧getF l a n=(r0,r1):=by
  have p:=h0.len63;have M:=Md.refl [] w;have j:=uQ;have P:∀b,Q b→Q b:=fun _ h=>h;have F:∀b,Q b→b<w.heap.size→Q b:=fun _ h _=>h;refine enter (n:=42) Tryz.func93 rfl rfl rfl fun B=>ns (asg rfl (an rfl (c_seq (nm rfl (st_call fn129 rfl (leSize_any uQ (n) (by omega)) ?_)))));rintro en u ⟨Z,rfl,R,d⟩;refine rv ?_;replace h0:=h0.o R;replace uQ:=uQ.md R;replace M:=M.k R;refine st _ (r_not rfl) (mv rfl ?_);refine part_n (t:=13) rfl (fun C=>?_) (fun C=>?_)
  · (have J:=bnt C);refine sk C (sk C (st _ (r_pick_t rfl C rfl) (mv rfl (sk rfl (sk rfl (sk rfl (sk rfl (sk rfl (sk rfl (st _ (r_pick_t rfl rfl rfl) (nt (c_if_t rfl rfl (ns ?_)))))))))))));refine asg rfl (ar rfl (r_then ?_));exact retL (vs:=[(.int .u64 ((0:Nat):Int)),(.bool false)]) trivial rfl ⟨rfl,rfl,tV⟩ rfl ⟨0,false,rfl,M,(by omega),(getF_no (by rintro⟨U,V,W⟩;simp_all))⟩
  · (have J:=bnf C);refine sg C (r_move rfl) (sg C (r_lt (a:=a) (b:=0) rfl rfl) (st _ (r_pick_f rfl C rfl) (mv rfl ?_)));refine part_n (t:=17) rfl (fun A=>?_) (fun A=>?_)
    · (have K:=dT A);refine sk A (sk A (sk A (sk A (sk A (sk A (st _ (r_pick_t rfl A rfl) (nt (c_if_t rfl rfl (ns (asg rfl (ar rfl ?_)))))))))));refine r_then ?_;exact retL (vs:=[(.int .u64 ((0:Nat):Int)),(.bool false)]) trivial rfl ⟨rfl,rfl,tV⟩ rfl ⟨0,false,rfl,M,(by omega),(getF_no (by rintro⟨U,V,W⟩;omega))⟩
    · (have K:=dF A);have e:=sizeOk_le (n:=n) (by simp_all);refine sg A (r_move rfl) (sg A (r_move rfl) (sg A (r_len rfl u22 h0.shp) (sg A (r_move rfl) (sg A (r_subI (a:=((l.length:Nat):Int)) (b:=n) rfl rfl (by omega)) (sg A (r_gt (a:=a) (b:=((l.length:Nat):Int)-n) rfl rfl) (st _ (r_pick_f rfl A rfl) (nt ?_)))))));refine c_if rfl (fun G=>?_) (fun G=>?_)
      · (have L:=dT G);refine ns (asg rfl (ar rfl (r_then ?_)));exact retL (vs:=[(.int .u64 ((0:Nat):Int)),(.bool false)]) trivial rfl ⟨rfl,rfl,tV⟩ rfl ⟨0,false,rfl,M,(by omega),(getF_no (by rintro⟨U,V,W⟩;omega))⟩
      · (have L:=dF G);refine c_skip (c_then (c_seq ?_));have T:sizeOk n=true∧0≤a∧a+n≤l.length:=⟨by simp_all,by omega,by omega⟩;have e:=sizeOk_le T.1;refine c_region (an rfl (c_seq (nm rfl (st _ (r_subI (a:=n) (b:=1) rfl rfl (by omega)) (asg rfl (nt (c_block ?_)))))))
        refine loop2 (fun(v:Nat) (i:Int)=>[(8,(.int .u64 v)),(9,(.int .i64 (i:Int))),(0,v0),(1,(.int .i64 (a:Int))),(6,(.int .u64 ((0:Nat):Int))),(7,(.bool false))]) (fun(v:Nat) (i:Int) w'=>∃Q':Nat→Prop,(∀b,Q' b→Q b)∧(∀b,Q b→b<w.heap.size→Q' b)∧Up w' Q'∧Md [] w w'∧Ls tB8 w' Q' v0 l∧(-1≤i∧i<n)∧v=leN ((l.drop (a+(i+1)).toNat).take (n-1-i).toNat)∧v<18446744073709551616) (fun(v:Nat) (i:Int)=>(i+1).toNat) (x0:=0) (x1:=(n-1)) ?_ ?_ ?_
        · exact⟨rfl,rfl,rfl,rfl,rfl,rfl,tV⟩
        · exact⟨Q,P,F,uQ,M,h0,(by omega),(by simp[show n-1-(n-1)=0 by omega,leN]),(by omega)⟩
        · clear M uQ P F h0
          rintro v i B x ⟨c,P,F,uQ,M,h0,X,D,Y⟩;refine c_seq (nm rfl (st _ (r_ge (a:=i) (b:=0) rfl rfl) (nt ?_)));refine c_if rfl (fun H=>?_) (fun H=>?_)
          · (have N:=dT H);have f:=leN_lt_of (l:=(l.drop (a+(i+1)).toNat).take (n-1-i).toNat) (k:=7) (by simp;omega);rw[← D]at f;refine c_skip (c_then (c_seq (c_block (c_region (mv rfl (st _ (r_shlW (a:=v) (b:=8) 18446744073709551616 rfl rfl 64 rfl rfl rfl (by omega)) (m2 rfl rfl (mv rfl (st _ (r_addI (a:=a) (b:=i) rfl rfl (by omega)) (st _ (r_indexZ (i:=a+i) 1 rfl rfl u22 el5 h0.shp (by omega)) ?_))))))))));obtain⟨I,O⟩:=getE (l:=l) (i:=(a+i).toNat) (by omega);obtain⟨r,S,E⟩:=h0.get O;obtain⟨rfl,_⟩:=S;have o:=UInt8.toNat_lt I;replace E:At _ v0 (((a+i).toNat)*1) [(b8 I)]:=E;refine st _ ((r_loadE (kk:=((a+i).toNat)*1) 0 rfl rfl one5 E rfl).to (b:=(b8 I)) rfl) (st _ (r_convN (a:=I.toNat) 18446744073709551616 rfl (by rw[u5];rfl) u23 rfl (lq (UInt8.toNat_lt _) (by decide))) (st _ (r_orN (a:=(v*2 ^ 8%18446744073709551616)) (b:=I.toNat) 18446744073709551616 rfl rfl rfl rfl (by omega)) (asg rfl (st_nil ?_))));clear E;refine n_block (c_then (c_region (mv rfl (st _ (r_subI (a:=i) (b:=1) rfl rfl (by omega)) (an rfl ?_)))));refine next2 (x0:=((v*2 ^ 8%18446744073709551616) ||| I.toNat)) (x1:=(i-1)) (by omega) ⟨(fitI rfl (by rfl)),(fitI rfl (by omega)),rfl,rfl,rfl,rfl,tV⟩ ⟨c,P,F,uQ,M,h0,(by omega),(by rw[shl_or (by omega),D];have g:=leN_step (k:=(n-1-i).toNat) O;rw[show(n-1-(i-1)).toNat=(n-1-i).toNat+1 by omega,show(a+(i-1+1)).toNat=(a+i).toNat by omega,g,show(a+i).toNat+1=(a+(i+1)).toNat by omega]),(by rw[shl_or (by omega)];have:=UInt8.toNat_lt I;omega)⟩
          · (have N:=dF H);refine c_exit (x_then (x_then (x_hit (c_then (nm rfl (asg rfl (ar rfl ?_)))))));exact retL (vs:=[(.int .u64 v),(.bool true)]) trivial rfl ⟨rfl,rfl,tV⟩ rfl ⟨v,true,rfl,M,(by assumption),(by rw[getF,if_pos (by omega),D,show i = -1 by omega];simp)⟩
theorem agg52:isAggN Zp 52 91=true:=by kernel_rfl
theorem el175:elemIs Zp 175 1=true:=by kernel_rfl
theorem el178:elemIs Zp 178 1=true:=by kernel_rfl
theorem elT175:elT Zp 175 1 8=true:=by kernel_rfl
theorem elT178:elT Zp 178 1 8=true:=by kernel_rfl
theorem fn92:isFn Zp 92=true:=by kernel_rfl
theorem fn94:isFn Zp 94=true:=by kernel_rfl
theorem fn95:isFn Zp 95=true:=by kernel_rfl
theorem off52_0:fieldOff Zp 52 0=some 0:=by kernel_rfl
theorem off52_1:fieldOff Zp 52 1=some 1:=by kernel_rfl
theorem off52_10:fieldOff Zp 52 10=some 70:=by kernel_rfl
theorem off52_11:fieldOff Zp 52 11=some 71:=by kernel_rfl
theorem off52_12:fieldOff Zp 52 12=some 72:=by kernel_rfl
theorem off52_13:fieldOff Zp 52 13=some 73:=by kernel_rfl
theorem off52_14:fieldOff Zp 52 14=some 74:=by kernel_rfl
theorem off52_15:fieldOff Zp 52 15=some 75:=by kernel_rfl
theorem off52_16:fieldOff Zp 52 16=some 76:=by kernel_rfl
theorem off52_17:fieldOff Zp 52 17=some 77:=by kernel_rfl
theorem off52_18:fieldOff Zp 52 18=some 78:=by kernel_rfl
theorem off52_19:fieldOff Zp 52 19=some 79:=by kernel_rfl
theorem off52_2:fieldOff Zp 52 2=some 2:=by kernel_rfl
theorem off52_20:fieldOff Zp 52 20=some 80:=by kernel_rfl
theorem off52_21:fieldOff Zp 52 21=some 81:=by kernel_rfl
theorem off52_22:fieldOff Zp 52 22=some 82:=by kernel_rfl
theorem off52_23:fieldOff Zp 52 23=some 83:=by kernel_rfl
theorem off52_24:fieldOff Zp 52 24=some 84:=by kernel_rfl
theorem off52_25:fieldOff Zp 52 25=some 85:=by kernel_rfl
theorem off52_26:fieldOff Zp 52 26=some 86:=by kernel_rfl
theorem off52_27:fieldOff Zp 52 27=some 87:=by kernel_rfl
theorem off52_28:fieldOff Zp 52 28=some 88:=by kernel_rfl
theorem off52_29:fieldOff Zp 52 29=some 89:=by kernel_rfl
theorem off52_3:fieldOff Zp 52 3=some 3:=by kernel_rfl
theorem off52_30:fieldOff Zp 52 30=some 90:=by kernel_rfl
theorem off52_4:fieldOff Zp 52 4=some 19:=by kernel_rfl
theorem off52_5:fieldOff Zp 52 5=some 35:=by kernel_rfl
theorem off52_6:fieldOff Zp 52 6=some 51:=by kernel_rfl
theorem off52_7:fieldOff Zp 52 7=some 67:=by kernel_rfl
theorem off52_8:fieldOff Zp 52 8=some 68:=by kernel_rfl
theorem off52_9:fieldOff Zp 52 9=some 69:=by kernel_rfl
theorem one175:isOne Zp 175=true:=by kernel_rfl
theorem one178:isOne Zp 178=true:=by kernel_rfl
theorem pl52:bplace Zp 52=some [(0,1),(1,1),(2,1),(3,16),(19,16),(35,16),(51,16),(67,1),(68,1),(69,1),(70,1),(71,1),(72,1),(73,1),(74,1),(75,1),(76,1),(77,1),(78,1),(79,1),(80,1),(81,1),(82,1),(83,1),(84,1),(85,1),(86,1),(87,1),(88,1),(89,1),(90,1)]:=by kernel_rfl
theorem u173:Zp.underlying 173=some (.slice 175):=by kernel_rfl
theorem u176:Zp.underlying 176=some (.slice 178):=by kernel_rfl
theorem z52:zcells Zp 52=some ([.int .u32 0,.int .u32 0,.int .i64 0] ++ (List.replicate 64 (.int .u8 0) ++ (List.replicate 21 (.int .u64 0) ++ ([.int .u32 0,.int .u32 0,.int .u64 0])))):=by kernel_rfl
theorem hIds_any {w:World} {b:Nat}:Calls Zp 94 #[.pointer (some ⟨b,0,none⟩)] w fun en w'=>∃x,en = .returned (.slice (some ⟨x,0,none⟩) 4 4)∧w.heap.size≤x∧Md [] w w'∧Blk w' x (ptrs b 3 16 4) 175:=by
  refine enter (n:=16) Tryz.func94 rfl rfl rfl fun B=>ns (an rfl (c_seq (c_mixT (ml 12) [12,13] (fun w'=>Md [] w w') mixed (by kernel_rfl) ?_)));intro I C;refine⟨C,?_⟩;refine mo rfl (mz (fun w' A=>r_nil rfl) (mz (fun w' A=>r_field rfl off52_3) (mo rfl (mz (fun w' A=>r_nil rfl) (mz (fun w' A=>r_field rfl off52_4) (mo rfl (mz (fun w' A=>r_nil rfl) (mz (fun w' A=>r_field rfl off52_5) (mo rfl (mz (fun w' A=>r_nil rfl) (mz (fun w' A=>r_field rfl off52_6) (m_nil (st_buildSlice u173 elT175 (by decide) rfl rfl rfl (by simp[OneAll,Value.oneCell']) (by decide) ?_)))))))))))));intro x G E H D F;refine ar rfl ?_;exact ret1 trivial rfl rfl ⟨x,rfl,lj C.size E,C.k D,(show Blk G x (ptrs b 3 16 4) 175 from F)⟩
theorem hLong_any {w:World} {b:Nat}:Calls Zp 95 #[.pointer (some ⟨b,0,none⟩)] w fun en w'=>∃x,en = .returned (.slice (some ⟨x,0,none⟩) 21 21)∧w.heap.size≤x∧Md [] w w'∧Blk w' x (ptrs b 67 1 21) 178:=by
  refine enter (n:=67) Tryz.func95 rfl rfl rfl fun B=>ns (an rfl (c_seq (c_mixT (ml 63) [63,64] (fun w'=>Md [] w w') mixed (by kernel_rfl) ?_)));intro I C;refine⟨C,?_⟩;refine mo rfl (mz (fun w' A=>r_nil rfl) (mz (fun w' A=>r_field rfl off52_7) (mo rfl (mz (fun w' A=>r_nil rfl) (mz (fun w' A=>r_field rfl off52_8) (mo rfl (mz (fun w' A=>r_nil rfl) (mz (fun w' A=>r_field rfl off52_9) (mo rfl (mz (fun w' A=>r_nil rfl) (mz (fun w' A=>r_field rfl off52_10) (mo rfl (mz (fun w' A=>r_nil rfl) ?_)))))))))))));refine mz (fun w' A=>r_field rfl off52_11) (mo rfl (mz (fun w' A=>r_nil rfl) (mz (fun w' A=>r_field rfl off52_12) (mo rfl (mz (fun w' A=>r_nil rfl) (mz (fun w' A=>r_field rfl off52_13) (mo rfl (mz (fun w' A=>r_nil rfl) (mz (fun w' A=>r_field rfl off52_14) (mo rfl (mz (fun w' A=>r_nil rfl) (mz (fun w' A=>r_field rfl off52_15) (mo rfl ?_)))))))))))));refine mz (fun w' A=>r_nil rfl) (mz (fun w' A=>r_field rfl off52_16) ?_)
  refine mo rfl (mz (fun w' A=>r_nil rfl) (mz (fun w' A=>r_field rfl off52_17) (mo rfl (mz (fun w' A=>r_nil rfl) (mz (fun w' A=>r_field rfl off52_18) (mo rfl (mz (fun w' A=>r_nil rfl) (mz (fun w' A=>r_field rfl off52_19) (mo rfl (mz (fun w' A=>r_nil rfl) (mz (fun w' A=>r_field rfl off52_20) (mo rfl (mz (fun w' A=>r_nil rfl) ?_)))))))))))));refine mz (fun w' A=>r_field rfl off52_21) (mo rfl (mz (fun w' A=>r_nil rfl) (mz (fun w' A=>r_field rfl off52_22) (mo rfl (mz (fun w' A=>r_nil rfl) (mz (fun w' A=>r_field rfl off52_23) (mo rfl (mz (fun w' A=>r_nil rfl) (mz (fun w' A=>r_field rfl off52_24) (mo rfl (mz (fun w' A=>r_nil rfl) (mz (fun w' A=>r_field rfl off52_25) (mo rfl ?_)))))))))))));refine mz (fun w' A=>r_nil rfl) (mz (fun w' A=>r_field rfl off52_26) (mo rfl (mz (fun w' A=>r_nil rfl) (mz (fun w' A=>r_field rfl off52_27) (m_nil (st_buildSlice u176 elT178 (by decide) rfl rfl rfl (by simp[OneAll,Value.oneCell']) (by decide) ?_))))));intro x G E H D F;refine ar rfl ?_;exact ret1 trivial rfl rfl ⟨x,rfl,lj C.size E,C.k D,(show Blk G x (ptrs b 67 1 21) 178 from F)⟩
theorem hFour_any {w:World} {Q:Nat→Prop} {b1:Nat} {v0:Value} {l:Ly} (hB:Blk w b1 [v0] 22) (h0:Ls tB8 w Q v0 l) (a:Nat) (ha:a+4≤l.length) :
    Calls Zp 92 #[.int .i64 (a:Int),.pointer (some ⟨b1,0,none⟩)] w fun en w'=>en = .returned (.int .u32 ((at4 l a:Nat):Int))∧Md [] w w':=by
  have L:=h0.len63;refine enter (n:=14) Tryz.func92 rfl rfl rfl fun B=>ns (an rfl (ns (st _ (r_loadBlk rfl one22 hB rfl) (mv rfl (st_call fn93 rfl (leGet_any (Q:=fun _=>True) (fun _ _=>trivial) (h0.sub fun _ _ _=>trivial) (a:Int) (by omega) 4 (by omega)) ?_)))));rintro en H ⟨F,G,rfl,D,E,A⟩;refine rv ?_;have C:getF l a 4=(at4 l a,true):=getF_at (k:=4) (.inl rfl) ha;rw[C]at A;obtain⟨rfl,rfl⟩:=Prod.mk.inj A;refine mv rfl (se rfl rfl (se rfl rfl (asg rfl (an rfl (nm rfl (st _ (r_convN (a:=at4 l a) 4294967296 rfl (by rw[u23];rfl) u48 rfl (at4_lt _ _)) (ar rfl ?_)))))));exact ret1 trivial rfl rfl ⟨rfl,D⟩
set_option maxRecDepth 100000 in
theorem hParse_any (uQ:Up w Q) {v0:Value} {b:Ly} (h00:Ls tB8 w Q v0 b) (p0:272≤b.length) :
    Calls Zp 47 #[v0] w fun en w'=>∃r0:PHead,en = .returned (.agg (PHead.cells r0).toArray)∧Md [] w w'∧PHead.ok r0∧parseF b=r0:=by
  have L:=h00.len63;obtain⟨U,f,F⟩:∃U:Nat→Prop,(∀x,w.heap.size≤x→¬U x)∧Ls tB8 w U v0 b:=⟨fun x=>x<w.heap.size,fun x h k=>by omega,h00.sub fun x _ h=>h⟩;clear h00;have M:=Md.refl [] w;refine enter (n:=73) Tryz.func47 rfl rfl rfl fun B=>ns (st_box rfl (cells_one F.oneCell) ?_);intro O w1 g1 l1 C A;replace F:=F.o C;replace M:=M.k C;refine st_alloc z52 ?_;intro S w2 t l2 C E;replace F:=F.o C;obtain⟨Z,hZ,E⟩:∃Z,(PHead.cells (headUp b 0 0 0 0)).length=Z.length∧Blk w2 S Z 52:=⟨_,rfl,E⟩;have Am:O≠S:=(by have:=A.lt;omega);replace A:=A.o C;replace t:=lj M.size t;replace M:=M.k C;refine nt (ns (st _ (r_loadBlk rfl one22 A rfl) (st _ (r_indexN (i:=16) 1 rfl rfl u22 el5 F.shp (by omega)) ?_)));obtain⟨x,hx⟩:=getE (l:=b) (i:=16) (by omega);obtain⟨cx,Aa,R⟩:=F.get hx;obtain⟨rfl,_⟩:=Aa;have ex:b.getD 16 0=x:=(by simp[List.getD,hx]);have lx:=UInt8.toNat_lt x;replace R:At _ v0 (16*1) [(b8 x)]:=R;refine st _ ((r_loadE (kk:=16*1) 0 rfl rfl one5 R rfl).to (b:=(b8 x)) rfl) ?_;clear R;refine st _ (r_convN (a:=x.toNat) 9223372036854775808 rfl (by rw[u5];rfl) u3 rfl (by omega)) (st (.agg (PHead.cells (headUp b 0 0 0 0)).toArray) (by rw[show PHead.cells (headUp b 0 0 0 0)=PHead.cells {headUp b 0 0 0 0 with state:=x.toNat} by rw[← ex];rfl];exact r_build (cs:=PHead.cells {headUp b 0 0 0 0 with state:=x.toNat}) (ps:=[(2,2)]) z52 pl52 rfl rfl (by simp[OneAll,Value.oneCell']) rfl rfl rfl) (st_alloc z52 ?_));intro I w3 P l3 C D;replace F:=F.o C;have K:O≠I:=(by have:=A.lt;omega);have J:S≠I:=(by have:=E.lt;omega);replace A:=A.o C;replace E:=E.o C;replace P:=lj M.size P;replace M:=M.k C;refine st_storeAll rfl rfl (by exact agg52) (fun u hu=>one_cells PHead.one u hu) D rfl ?_;intro w4 C D;have N:∀x∈[I],¬U x:=(by intro y r;simp at r;subst r;exact f _ P);have Ao:∀x∈[S],¬U x:=(by intro y r;simp at r;subst r;exact f _ t);replace F:=F.md C N;replace A:=A.md1 C K;replace E:=E.md1 C J;replace M:=M.step1 C P;refine nt (c_seq ?_)
  refine c_region (st _ (r_makeFunc rfl) (an rfl (nm rfl (st_callV (cs:=[.pointer (some ⟨O,0,none⟩)]) rfl fn92 rfl (hFour_any A F 8 (by omega)) ?_))));rintro en w5 ⟨rfl,C⟩;refine rv ?_;replace F:=F.o C;replace A:=A.o C;replace E:=E.o C;replace D:=D.o C;replace M:=M.k C;refine mv rfl (st_callV (cs:=[.pointer (some ⟨O,0,none⟩)]) rfl fn92 rfl (hFour_any A F 12 (by omega)) ?_);rintro en w6 ⟨rfl,C⟩;refine rv ?_;replace F:=F.o C;replace A:=A.o C;replace E:=E.o C;replace D:=D.o C;replace M:=M.k C;refine sf rfl off52_0 (st_store rfl rfl one48 rfl D (by(show _<91;decide)) ?_);intro w7 C D;replace F:=F.md C N;replace A:=A.md1 C K;replace E:=E.md1 C J;replace M:=M.step1 C P;refine sf rfl off52_1 (st_store rfl rfl one48 rfl D (by(show _<91;decide)) ?_);intro w8 C D;replace F:=F.md C N;replace A:=A.md1 C K;replace E:=E.md1 C J;replace M:=M.step1 C P;replace D:Blk w8 I (PHead.cells (headUp b (at4 b 8) (at4 b 12) 0 0)) 52:=D;refine nt (ns (an rfl (c_seq (ns (st_call fn94 rfl (hIds_any (b:=I)) ?_)))));rintro en w9 ⟨Y,rfl,gi,C,G⟩;refine rv ?_;have Ac:Y≠I:=(by have:=D.lt;omega);replace F:=F.o C;replace A:=A.o C;replace E:=E.o C;replace D:=D.o C;replace gi:=lj M.size gi;replace M:=M.k C;have g:Shp (.slice (some ⟨Y,0,none⟩) 4 4) 4:=⟨_,_,rfl,Nat.le_refl _,by simp[maxLen],by simp⟩;refine sL rfl u173 g (mv rfl (nt (c_block ?_)))
  refine loop2 (fun(k:Nat) (a:Nat)=>[(24,(.int .i64 k)),(5,(.int .i64 a)),(1,.pointer (some ⟨O,0,none⟩)),(2,.pointer (some ⟨S,0,none⟩)),(3,.pointer (some ⟨I,0,none⟩)),(4,.func (.func 92) #[] #[.pointer (some ⟨O,0,none⟩)]),(22,.slice (some ⟨Y,0,none⟩) 4 4),(23,.int .i64 ((4:Nat):Int))])
    (fun(k:Nat) (a:Nat) w'=>Md [] w w'∧Ls tB8 w' U v0 b∧Blk w' O [v0] 22∧Blk w' S Z 52∧Blk w' I (PHead.cells (headUp b (at4 b 8) (at4 b 12) k 0)) 52∧Blk w' Y (ptrs I 3 16 4) 175∧k≤4∧a=24+16*k) (fun(k:Nat) (a:Nat)=>4-k) (x0:=0) (x1:=24) ?_ ?_ ?_
  · exact⟨rfl,rfl,rfl,rfl,rfl,rfl,rfl,rfl,tV⟩
  · exact⟨M,F,A,E,D,G,by omega,rfl⟩
  clear M F A E D G
  rintro k a B Aq ⟨M,F,A,E,D,G,hk,p⟩;refine ns (st _ (r_ltN (a:=k) (b:=4) rfl rfl) (nt (c_seq ?_)));refine c_if rfl (fun V=>?_) (fun V=>?_)
  · have d:=dT V
    refine c_skip (c_then (c_seq (c_block (ns (st _ ((r_indexN (i:=k) 1 rfl rfl u173 el175 g (by omega)).to (b:=.pointer (some ⟨Y,k,none⟩)) (by simp[elemp,Addr.add_mk])) (st _ (r_loadBlk (b:=Y) (j:=k) (u:=.pointer (some ⟨I,3+k*16,none⟩)) rfl one175 G (ptrs_get (by omega))) (an rfl ?_)))))));have v:=F.shp;refine c_mix [(0,true),(1,true),(2,true),(3,true),(4,true),(5,true),(6,true),(7,false),(8,true),(9,true)] (fun w'=>Blk w' O [v0] 22) mixed (by kernel_rfl) ?_;intro Ar C;replace F:=F.o C;replace A:=A.o C;replace E:=E.o C;replace D:=D.o C;replace G:=G.o C;replace M:=M.k C;refine⟨A,?_⟩;refine mo rfl (mo rfl (mz (fun w' X=>r_nil rfl) (mz (fun w' X=>r_sliceArr u50 el5 rfl (by decide)) (mz (fun w' X=>r_loadBlk rfl one22 X rfl) (mo rfl (Go.Wk.m (subv v0 a b.length) (fun w' X=>by exact r_slice a b.length u22 el5 rfl v (by omega) (by omega) ⟨_,rfl⟩ rfl) ?_))))));refine m_e ?_ rfl;have hT:=F.by.tail a (by omega);refine st_copy u22 el5 rfl rfl D hT (one_b8 _) (by have:(PHead.cells (headUp b (at4 b 8) (at4 b 12) k 0)).length=91:=rfl;simp;omega) ?_;intro As C D;clear hT;rw[← List.map_take,p,ids_step (by omega) p0]at D;replace F:=F.md C N;replace A:=A.md1 C K;replace E:=E.md1 C J;replace G:=G.md1 C Ac;replace M:=M.step1 C P;refine st_nil ⟨rfl,A,?_⟩;have Ai:min ((b.drop a).map b8).length 16=16:=(by simp;omega);refine mz (fun w' X=>r_addN (a:=a) (b:=min ((b.drop a).map b8).length 16) 9223372036854775808 rfl rfl rfl (by omega)) (mz (fun w' X=>r_assign rfl) (m_nil (n_block (c_then (c_region (st _ (rA (a:=k) (b:=1) rfl rfl (by omega)) (mv rfl (nt ?_))))))));exact next2 (x0:=k+1) (x1:=a+min ((b.drop a).map b8).length 16) (by omega) ⟨rfl,rfl,rfl,rfl,rfl,rfl,rfl,rfl,tV⟩ ⟨M,F,A,E,D,G,by omega,by omega⟩
  have d:=dF V
  obtain rfl:k=4:=by omega
  subst p;clear G;refine c_exit (x_then (x_then (x_hit (c_then (c_seq (ns (st_call fn95 rfl (hLong_any (b:=I)) ?_)))))));rintro en Au ⟨c,rfl,gj,C,H⟩;refine rv ?_;have Ad:c≠I:=(by have:=D.lt;omega);replace F:=F.o C;replace A:=A.o C;replace E:=E.o C;replace D:=D.o C;replace M:=M.k C;have o:Shp (.slice (some ⟨c,0,none⟩) 21 21) 21:=⟨_,_,rfl,Nat.le_refl _,by simp[maxLen],by simp⟩;refine sL rfl u176 o (mv rfl (nt (c_block ?_)))
  refine loop2 (fun(j:Nat) (a:Nat)=>[(40,(.int .i64 j)),(5,(.int .i64 a)),(1,.pointer (some ⟨O,0,none⟩)),(2,.pointer (some ⟨S,0,none⟩)),(3,.pointer (some ⟨I,0,none⟩)),(4,.func (.func 92) #[] #[.pointer (some ⟨O,0,none⟩)]),(38,.slice (some ⟨c,0,none⟩) 21 21),(39,.int .i64 ((21:Nat):Int))])
    (fun(j:Nat) (a:Nat) w'=>Md [] w w'∧Ls tB8 w' U v0 b∧Blk w' O [v0] 22∧Blk w' S Z 52∧Blk w' I (PHead.cells (headUp b (at4 b 8) (at4 b 12) 4 j)) 52∧Blk w' c (ptrs I 67 1 21) 178∧j≤21∧a=88+8*j) (fun(j:Nat) (a:Nat)=>21-j) (x0:=0) (x1:=24+16*4) ?_ ?_ ?_
  · exact⟨rfl,rfl,rfl,rfl,rfl,rfl,rfl,rfl,tV⟩
  · exact⟨M,F,A,E,D,H,by omega,rfl⟩
  clear M F A E D H
  rintro j a B Aw ⟨M,F,A,E,D,H,hj,p⟩;refine ns (st _ (r_ltN (a:=j) (b:=21) rfl rfl) (nt (c_seq ?_)));refine c_if rfl (fun W=>?_) (fun W=>?_)
  · have T:=dT W
    refine c_skip (c_then (c_seq (c_block (ns (st _ ((r_indexN (i:=j) 1 rfl rfl u176 el178 o (by omega)).to (b:=.pointer (some ⟨c,j,none⟩)) (by simp[elemp,Addr.add_mk])) (st _ (r_loadBlk (b:=c) (j:=j) (u:=.pointer (some ⟨I,67+j*1,none⟩)) rfl one178 H (ptrs_get (by omega))) (an rfl (nm rfl (st _ (r_loadBlk rfl one22 A rfl) (mv rfl (st_call fn93 rfl (leGet_any (Q:=fun _=>True) (fun _ _=>trivial) (F.sub fun _ _ _=>trivial) (a:Int) (by omega) 8 (by omega)) ?_)))))))))));rintro en Ax ⟨r0,r1,rfl,C,hr,e⟩;refine rv ?_;have z:getF b a 8=(at8 b a,true):=getF_at (k:=8) (.inr rfl) (by omega);rw[z]at e;obtain⟨rfl,rfl⟩:=Prod.mk.inj e;replace F:=F.o C;replace A:=A.o C;replace E:=E.o C;replace D:=D.o C;replace H:=H.o C;replace M:=M.k C;refine mv rfl (st (.int .u64 ((at8 b a:Nat):Int)) (r_extract rfl rfl) (se rfl rfl (sn rfl (st_store (b:=I) (j:=67+j*1) rfl rfl one23 rfl D (by have:(PHead.cells (headUp b (at4 b 8) (at4 b 12) 4 j)).length=91:=rfl;omega) ?_))));intro Ay C D;rw[Nat.mul_one,p,long_step T]at D;replace F:=F.md C N;replace A:=A.md1 C K;replace E:=E.md1 C J;replace H:=H.md1 C Ad;replace M:=M.step1 C P;refine nt (c_region (mv rfl (st _ (rA (a:=a) (b:=8) rfl rfl (by omega)) (asg rfl (st_nil (n_block (c_then (c_region (st _ (rA (a:=j) (b:=1) rfl rfl (by omega)) (mv rfl (nt ?_)))))))))));exact next2 (x0:=j+1) (x1:=a+8) (by omega) ⟨rfl,rfl,rfl,rfl,rfl,rfl,rfl,rfl,tV⟩ ⟨M,F,A,E,D,H,by omega,by omega⟩
  have T:=dF W
  obtain rfl:j=21:=by omega
  subst p;clear H;refine c_exit (x_then (x_then (x_hit (c_then (ns (m2 rfl rfl (st_callV (cs:=[.pointer (some ⟨O,0,none⟩)]) rfl fn92 rfl (hFour_any A F 256 (by omega)) ?_)))))));rintro en Az ⟨rfl,C⟩;refine rv ?_;replace F:=F.o C;replace A:=A.o C;replace E:=E.o C;replace D:=D.o C;replace M:=M.k C;refine m2 rfl rfl (st _ (rA (a:=256) (b:=4) rfl rfl (by omega)) (st_callV (cs:=[.pointer (some ⟨O,0,none⟩)]) rfl fn92 rfl (hFour_any A F 260 (by omega)) ?_));rintro en A0 ⟨rfl,C⟩;refine rv ?_;replace F:=F.o C;replace A:=A.o C;replace E:=E.o C;replace D:=D.o C;replace M:=M.k C;refine sf rfl off52_28 (st_store rfl rfl one48 rfl D (by(show _<91;decide)) ?_);intro A1 C D;replace F:=F.md C N;replace A:=A.md1 C K;replace E:=E.md1 C J;replace M:=M.step1 C P;refine sf rfl off52_29 (st_store rfl rfl one48 rfl D (by(show _<91;decide)) ?_);intro A2 C D;replace F:=F.md C N;replace A:=A.md1 C K;replace E:=E.md1 C J;replace M:=M.step1 C P;refine nt (ns (st _ (r_loadBlk rfl one22 A rfl) (mv rfl (st _ (rA (a:=256) (b:=8) rfl rfl (by omega)) (st_call fn93 rfl (leGet_any (Q:=fun _=>True) (fun _ _=>trivial) (F.sub fun _ _ _=>trivial) ((264:Nat):Int) (by omega) 8 (by omega)) ?_)))));rintro en A3 ⟨r0,r1,rfl,C,hr,e⟩;refine rv ?_;have z:getF b ((264:Nat):Int) 8=(at8 b 264,true):=getF_at (k:=8) (.inr rfl) (by omega);rw[z]at e;obtain⟨rfl,rfl⟩:=Prod.mk.inj e;replace E:=E.o C;replace D:=D.o C;replace M:=M.k C;refine mv rfl (st (.int .u64 ((at8 b 264:Nat):Int)) (r_extract rfl rfl) (se rfl rfl (sf rfl off52_30 (st_store rfl rfl one23 rfl D (by(show _<91;decide)) ?_))));intro Ae C D;replace E:=E.md1 C J;replace M:=M.step1 C P
  replace D:Blk Ae I (PHead.cells (parseF b)) 52:=D;refine nt (ns (st _ (r_loadAll rfl (by exact agg52) D) (st_storeAll rfl rfl (by exact agg52) (fun u hu=>one_cells PHead.one u hu) E hZ ?_)));intro A4 C E;replace M:=M.step1 C t;refine nt (c_ret ?_);exact retc trivial rfl rfl (by exact agg52) E ⟨_,rfl,M,parse_ok p0,rfl⟩
theorem fn91:isFn Zp 91=true:=by kernel_rfl
theorem hEqual_any (uQ:Up w Q) {v0:Value} {a:Ly} (h0:Ls tB8 w Q v0 a) {v1:Value} {b:Ly} (h1:Ls tB8 w Q v1 b) :
    Calls Zp 91 #[v0,v1] w fun en w'=>∃r0:Bool,en = .returned (.bool r0)∧Md [] w w'∧decide (a=b)=r0:=by
  have C:=h0.len63;have D:=h1.len63;have M:=Md.refl [] w;have A:=uQ;refine enter (n:=10) Tryz.func91 rfl rfl rfl fun B=>ns (an rfl (nm rfl (st _ (r_convBS (s:=a) u22 u5 u9 rfl h0.by) (mv rfl (st _ (r_convBS (s:=b) u22 u5 u9 rfl h1.by) (st _ (r_eqlS (a:=a) (b:=b) rfl rfl) (ar rfl ?_)))))));exact ret1L (v:=(.bool ((decide (a=b))))) trivial rfl ⟨rfl,tV⟩ ⟨(decide (a=b)),rfl,M,(by simp(disch:=first|omega|assumption|simp) only [SS,reduceIte])⟩
theorem hPref_any (uQ:Up w Q) {v0:Value} {b:Ly} (h0:Ls tB8 w Q v0 b) {v1:Value} {p:Ly} (h1:Ls tB8 w Q v1 p) :
    Calls Zp 46 #[v0,v1] w fun en w'=>∃r0:Bool,en = .returned (.bool r0)∧Md [] w w'∧prefF b p=r0:=by
  have I:=h0.len63;have J:=h1.len63;have M:=Md.refl [] w;have H:=uQ;refine enter (n:=18) Tryz.func46 rfl rfl rfl fun B=>ns (an rfl (nm rfl (sL rfl u22 h0.shp (mv rfl (sL rfl u22 h1.shp (st _ (r_geN (a:=b.length) (b:=p.length) rfl rfl) (mv rfl ?_)))))));refine part_n (t:=10) rfl (fun A=>?_) (fun A=>?_)
  · (have C:=dT A);refine sg A (r_move rfl) (sg A (r_move rfl) (sg A (r_len rfl u22 h1.shp) (sg A (r_sliceZ 1 0 p.length u22 el5 rfl h0.shp (by omega) (by omega) rfl ⟨_,rfl⟩) ?_)));have F:=h0.head (hi:=p.length) (by omega);refine sg A (r_move rfl) (st_call_g rfl rfl rfl A fn91 rfl (hEqual_any uQ F h1) ?_);rintro en K ⟨D,rfl,G,E⟩;refine rv ?_;replace M:=M.k G;refine st _ (r_pick_t rfl A rfl) (ar rfl ?_);exact ret1L (v:=(.bool D)) trivial rfl ⟨rfl,tV⟩ ⟨D,rfl,M,(by rw[prefF]<;>simp(disch:=first|omega|assumption|simp) only [SS,reduceIte,C,E])⟩
  (have C:=dF A);refine sk A (sk A (sk A (sk A (sk A (sk A (st _ (r_pick_f rfl A rfl) (ar rfl ?_)))))));exact ret1L (v:=(.bool false)) trivial rfl ⟨rfl,tV⟩ ⟨false,rfl,M,(by rw[prefF]<;>simp(disch:=first|omega|assumption|simp) only [SS,reduceIte,C])⟩
theorem hEnd_any (uQ:Up w Q) (h:PHead) (a0_0:PHead.ok h) :
    Calls Zp 18 #[.agg (PHead.cells h).toArray] w fun en w'=>∃r0:Nat,∃r1:Bool,en = .returned (.tuple #[(.int .u64 r0),(.bool r1)])∧Md [] w w'∧r0<18446744073709551616∧endF h=(r0,r1):=by
  have M:=Md.refl [] w;have J:=uQ;refine enter (n:=15) Tryz.func18 rfl rfl rfl fun B=>ns (st_box (cs:=(PHead.cells h)) rfl rfl ?_);intro G N C I H E;have F:=uQ _ C;replace C:=lj M.size C;replace M:=M.k H;refine asg rfl (an rfl (ns (sf rfl off52_7 (sl (u:=(.int .u64 ((h.n.getD 0 0:Nat):Int))) rfl one23 E rfl ?_))));have K:h.n.getD 0 0<18446744073709551616:=(nums_bd a0_0.2.2.2.2.2.2.2.1 0);refine sf rfl off52_8 (sl (u:=(.int .u64 ((h.n.getD 1 0:Nat):Int))) rfl one23 E rfl ?_);have L:h.n.getD 1 0<18446744073709551616:=(nums_bd a0_0.2.2.2.2.2.2.2.1 1);refine st _ (r_addW (a:=(h.n.getD 0 0)) (b:=(h.n.getD 1 0)) 18446744073709551616 rfl rfl rfl rfl) (an rfl (c_seq (nm rfl (sf rfl off52_7 (sl (u:=(.int .u64 ((h.n.getD 0 0:Nat):Int))) rfl one23 E rfl (st _ (r_ltN (a:=(((h.n.getD 0 0)+(h.n.getD 1 0))%18446744073709551616)) (b:=(h.n.getD 0 0)) rfl rfl) (nt ?_)))))));refine c_if rfl (fun D=>?_) (fun D=>?_)
  · (have A:=dT D);refine ns (asg rfl (ar rfl (r_then ?_)));exact retL (vs:=[(.int .u64 ((0:Nat):Int)),(.bool false)]) trivial rfl ⟨rfl,rfl,tV⟩ rfl ⟨0,false,rfl,M,(by omega),(by rw[endF]<;>simp(disch:=first|omega|assumption|simp) only [SS,reduceIte,A])⟩
  (have A:=dF D);refine c_skip (c_then (nm rfl (asg rfl (ar rfl ?_))));exact retL (vs:=[(.int .u64 ((((h.n.getD 0 0)+(h.n.getD 1 0))%18446744073709551616:Nat):Int)),(.bool true)]) trivial rfl ⟨rfl,rfl,tV⟩ rfl ⟨((h.n.getD 0 0)+(h.n.getD 1 0))%18446744073709551616,true,rfl,M,(by omega),(by rw[endF]<;>simp(disch:=first|omega|assumption|simp) only [SS,reduceIte,A])⟩
theorem hTable_any (uQ:Up w Q) (h:PHead) (a0_0:PHead.ok h) (p:Nat) (a1:p<18446744073709551616) (size:Nat) (a2:size<18446744073709551616) (e:Nat) (a3:e<18446744073709551616) :
    Calls Zp 48 #[.agg (PHead.cells h).toArray,(.int .u64 p),(.int .u64 size),(.int .u64 e)] w fun en w'=>∃r0:Nat,en = .returned (.int .i64 r0)∧Md [] w w'∧r0<9223372036854775808∧tableF h p size e=r0:=by
  have M:=Md.refl [] w;have X:=uQ;refine enter (n:=45) Tryz.func48 rfl rfl rfl fun B=>ns (st_box (cs:=(PHead.cells h)) rfl rfl ?_);intro U Z N W V R;have T:=uQ _ N;replace N:=lj M.size N;replace M:=M.k V;refine an rfl (c_seq (c_block (nm rfl (st _ (r_remN (a:=p) (b:=8) rfl rfl (by omega)) (st _ (r_neN (a:=(p%8)) (b:=0) rfl rfl) (asg rfl (nt ?_)))))));refine c_if rfl (fun S=>?_) (fun S=>?_)
  · (have I:=dT S);refine ns (ar rfl (r_block (r_then ?_)));exact ret1L (v:=(.int .i64 ((3:Nat):Int))) trivial rfl ⟨rfl,tV⟩ ⟨3,rfl,M,(by omega),(by rw[tableF]<;>simp(disch:=first|omega|assumption|simp) only [SS,reduceIte,I])⟩
  (have I:=dF S);refine nm rfl (st _ (r_eqN (a:=size) (b:=0) rfl rfl) (mv rfl ?_));refine part_n (t:=16) rfl (fun F=>?_) (fun F=>?_)
  · (have D:=dT F);refine sk F (sk F (sk F (st _ (r_pick_t rfl F rfl) (an rfl (c_if_t rfl rfl (ns (ar rfl (r_block (r_then ?_)))))))));exact ret1L (v:=(.int .i64 ((5:Nat):Int))) trivial rfl ⟨rfl,tV⟩ ⟨5,rfl,M,(by omega),(by rw[tableF]<;>simp(disch:=first|omega|assumption|simp) only [SS,reduceIte,I,D])⟩
  (have D:=dF F);refine sg F (r_move rfl) (sg F (r_remN (a:=size) (b:=16) rfl rfl (by omega)) (sg F (r_neN (a:=(size%16)) (b:=0) rfl rfl) (st _ (r_pick_f rfl F rfl) (an rfl ?_))));refine c_if rfl (fun O=>?_) (fun O=>?_)
  · (have E:=dT O);refine ns (ar rfl (r_block (r_then ?_)));exact ret1L (v:=(.int .i64 ((5:Nat):Int))) trivial rfl ⟨rfl,tV⟩ ⟨5,rfl,M,(by omega),(by rw[tableF]<;>simp(disch:=first|omega|assumption|simp) only [SS,reduceIte,I,D,E])⟩
  (have E:=dF O);refine nm rfl (sf rfl off52_7 (sl (u:=(.int .u64 ((h.n.getD 0 0:Nat):Int))) rfl one23 R rfl ?_));have Y:h.n.getD 0 0<18446744073709551616:=(nums_bd a0_0.2.2.2.2.2.2.2.1 0);refine st _ (r_ltN (a:=p) (b:=(h.n.getD 0 0)) rfl rfl) (mv rfl ?_);refine part_n (t:=26) rfl (fun A=>?_) (fun A=>?_)
  · (have H:=dT A);refine sk A (sk A (sk A (sk A (sk A (st _ (r_pick_t rfl A rfl) (mv rfl (sk rfl (sk rfl (sk rfl (st _ (r_pick_t rfl rfl rfl) (mv rfl (sk rfl (sk rfl ?_)))))))))))));refine sk rfl (sk rfl (sk rfl (st _ (r_pick_t rfl rfl rfl) (an rfl (c_if_t rfl rfl (ns (ar rfl (r_block (r_then ?_)))))))));exact ret1L (v:=(.int .i64 ((2:Nat):Int))) trivial rfl ⟨rfl,tV⟩ ⟨2,rfl,M,(by omega),(by rw[tableF]<;>simp(disch:=first|omega|assumption|simp) only [SS,reduceIte,I,D,E,H])⟩
  (have H:=dF A);refine sg A (r_move rfl) (sg A (r_field rfl off52_7) (sg A ((r_loadBlk rfl one23 R rfl).to (b:=(.int .u64 ((h.n.getD 0 0:Nat):Int))) rfl) (sg A (r_subN (a:=p) (b:=(h.n.getD 0 0)) 18446744073709551616 rfl rfl rfl (by omega)) (sg A (r_ltN (a:=(p-(h.n.getD 0 0))) (b:=16) rfl rfl) (st _ (r_pick_f rfl A rfl) (mv rfl ?_))))));refine part_n (t:=33) rfl (fun G=>?_) (fun G=>?_)
  · (have J:=dT G);refine sk G (sk G (sk G (st _ (r_pick_t rfl G rfl) (mv rfl (sk rfl (sk rfl (sk rfl (sk rfl (sk rfl (st _ (r_pick_t rfl rfl rfl) (an rfl (c_if_t rfl rfl ?_))))))))))));refine ns (ar rfl (r_block (r_then ?_)));exact ret1L (v:=(.int .i64 ((2:Nat):Int))) trivial rfl ⟨rfl,tV⟩ ⟨2,rfl,M,(by omega),(by rw[tableF]<;>simp(disch:=first|omega|assumption|simp) only [SS,reduceIte,I,D,E,H,J])⟩
  (have J:=dF G);refine sg G (r_move rfl) (sg G (r_move rfl) (sg G (r_gtN (a:=p) (b:=e) rfl rfl) (st _ (r_pick_f rfl G rfl) (mv rfl ?_))));refine part_n (t:=38) rfl (fun C=>?_) (fun C=>?_)
  · (have K:=dT C);refine sk C (sk C (sk C (sk C (sk C (st _ (r_pick_t rfl C rfl) (an rfl (c_if_t rfl rfl (ns (ar rfl (r_block ?_))))))))));refine r_then ?_;exact ret1L (v:=(.int .i64 ((2:Nat):Int))) trivial rfl ⟨rfl,tV⟩ ⟨2,rfl,M,(by omega),(by rw[tableF]<;>simp(disch:=first|omega|assumption|simp) only [SS,reduceIte,I,D,E,H,J,K])⟩
  (have K:=dF C);refine sg C (r_move rfl) (sg C (r_move rfl) (sg C (r_move rfl) (sg C (r_subN (a:=e) (b:=p) 18446744073709551616 rfl rfl rfl (by omega)) (sg C (r_gtN (a:=size) (b:=(e-p)) rfl rfl) (st _ (r_pick_f rfl C rfl) (an rfl ?_))))));refine c_if rfl (fun P=>?_) (fun P=>?_)
  · (have L:=dT P);refine ns (ar rfl (r_block (r_then ?_)));exact ret1L (v:=(.int .i64 ((2:Nat):Int))) trivial rfl ⟨rfl,tV⟩ ⟨2,rfl,M,(by omega),(by rw[tableF]<;>simp(disch:=first|omega|assumption|simp) only [SS,reduceIte,I,D,E,H,J,K,L])⟩
  (have L:=dF P);refine c_skip (n_block (c_then (ns (ar rfl ?_))));exact ret1L (v:=(.int .i64 ((0:Nat):Int))) trivial rfl ⟨rfl,tV⟩ ⟨0,rfl,M,(by omega),(by rw[tableF]<;>simp(disch:=first|omega|assumption|simp) only [SS,reduceIte,I,D,E,H,J,K,L])⟩
theorem fn18:isFn Zp 18=true:=by kernel_rfl
theorem fn46:isFn Zp 46=true:=by kernel_rfl
theorem fn47:isFn Zp 47=true:=by kernel_rfl
theorem fn48:isFn Zp 48=true:=by kernel_rfl
theorem bClone_any (uQ:Up w Q) {v0:Value} {l:Ly} (h0:Ls tB8 w Q v0 l) (p0:l.length≤140737488355328) :
    Calls Zp 19 #[v0] w fun en w'=>∃u0:Value,∃r0:List UInt8,∃Q':Nat→Prop,en = .returned (u0)∧Md [] w w'∧NewQ w w' Q Q'∧Ow tB8 5 (Fsh [] w) w' Q' u0 r0∧l=r0:=by
  obtain⟨a,A,T,R,V⟩:∃a A,v0 = .slice a l.length A∧l.length≤A∧(a=none→l=[]):=by
    obtain⟨a,A,j,e,M,k,N,_⟩:=h0;exact⟨a,A,e,M,fun h=>List.eq_nil_of_length_eq_zero (by have:=N h;omega)⟩
  refine enter (n:=8) Tryz.func19 rfl rfl rfl fun B=>ns (an rfl (c_seq (nm rfl (st (.bool a.isNone) (by exact r_eqlSN (a:=a) (m:=l.length) (c:=A) (by rw[← T];rfl) u22) (nt ?_)))));refine c_if rfl (fun H=>?_) (fun H=>?_)
  · have S:l=[]:=V (Option.isNone_iff_eq_none.1 H)
    refine ns (ar rfl (r_then ?_));exact ret1 trivial rfl rfl ⟨_,[],Q,rfl,Md.refl [] w,⟨fun x h _=>h,fun x h=>h,uQ⟩,Ow.nil _ _ _ _ _,S⟩
  refine c_skip ?_
  refine c_then (ns (st_build0 u22 elT5 ?_));intro b i D W C O;obtain⟨K,J,Z,X,f⟩:=exQ uQ D W C;have P:Ow tB8 5 (Fsh [] w) i K (.slice (some ⟨b,0,none⟩) 0 0) []:=Ow.of_blk (m:=0) O rfl rfl (by simp[maxLen]) (.inr D) X;replace h0:=(h0.sub J).o C;refine mv rfl (st_apZ (sz:=1) rfl u22 elT5 rfl rfl P h0.lz f (Fsh.new C) (by simp;omega) (by simp;omega) ?_);intro p r L Y d g E F o _ U;refine ar rfl ?_;exact ret1 trivial rfl rfl ⟨_,_,L,rfl,C.step1 F D,⟨fun x G I=>Y x (J x G I) (lq I C.size),fun x G=>Z x (d x G),g⟩,E,by simp⟩
theorem bClone_any_ls (uQ:Up w Q) {v0:Value} {l:Ly} (h0:Ls tB8 w Q v0 l) (p0:l.length≤140737488355328) :
    Calls Zp 19 #[v0] w fun en w'=>∃u0:Value,∃r0:List UInt8,en = .returned (u0)∧Md [] w w'∧Ls tB8 w' Q u0 r0∧l=r0 :=
  (bClone_any uQ h0 p0).mono fun en w' ⟨u0,r0,Q2,he,hm,kq,k0,hF⟩=>⟨u0,r0,he,hm,k0.ls kq.2.1 (Fsh.up uQ),hF⟩
set_option maxRecDepth 100000 in
abbrev zz3:PHead:={compat:=0,incompat:=0,state:=0,file:=idZ,machine:=idZ,boot:=idZ,seq:=idZ,n:=(List.replicate 21 0),tailArray:=0,tailItems:=0,tailEntry:=0}
set_option maxHeartbeats 4000000 in
theorem hRead_any (uQ:Up w Q) {v0:Value} {b:Ly} (h0:Ls tB8 w Q v0 b) :
    Calls Zp 17 #[v0] w fun en w'=>∃r0:PHead,∃r1:Nat,en = .returned (.tuple #[.agg (PHead.cells r0).toArray,(.int .i64 r1)])∧Md [] w w'∧PHead.ok r0∧r1<9223372036854775808∧readF b=(r0,r1):=by
  have L0:=h0.len63;have M:=Md.refl [] w;have Bl:=uQ;refine enter (n:=90) Tryz.func17 rfl rfl rfl fun B=>ns (st_alloc z52 ?_);intro v w1 i Az E A;obtain⟨Q2,r,sT,A1,V⟩:=exQ uQ i Az E;replace i:=lj M.size i;replace h0:=(h0.sub r).o E;replace uQ:=uQ.md E;replace M:=M.k E;replace uQ:=V;clear V r sT;have H:Fsh [] w v:=.inr i;replace A:Blk _ _ (PHead.cells (zz3)) _:=A;have A9:PHead.ok (zz3):=(by exact⟨(by decide),(by decide),(by decide),rfl,rfl,rfl,rfl,(nums_zero _),(by decide),(by decide),(by decide)⟩);refine an rfl (c_seq (c_block (nm rfl (sL rfl u22 h0.shp (st _ (r_ltN (a:=b.length) (b:=272) rfl rfl) (asg rfl (nt ?_)))))));refine c_if rfl (fun h9=>?_) (fun h9=>?_)
  · (have R:=dT h9);refine ns (st _ (r_buildG (us:=[]) (cs:=(PHead.cells (zz3))) [] z52 pl52 rfl rfl trivial trivial rfl rfl) (st_storeAgg (us:=(PHead.cells (zz3))) rfl rfl (by exact agg52) (by exact fun u S=>one_cells (PHead.one) u S) A (lB rfl) ?_));have F:=A;clear A;intro w4 E A;replace M:=M.step E (hI H);clear F;replace A:Blk _ _ (PHead.cells (zz3)) _:=A;refine ar rfl (r_block (r_then ?_));exact retL (vs:=[(.agg (PHead.cells (zz3)).toArray),(.int .i64 ((22:Nat):Int))]) trivial rfl ⟨⟨_,rfl,load_agg (cs:=(PHead.cells (zz3))) (by exact agg52) A⟩,rfl,tV⟩ rfl ⟨(zz3),22,rfl,M,(by assumption),(by omega),(readF_short R)⟩
  (have R:=dF h9);refine nm rfl (st_buildSliceG [[(b8 76)],[(b8 80)],[(b8 75)],[(b8 83)],[(b8 72)],[(b8 72)],[(b8 82)],[(b8 72)]] u22 elT5 (by decide) (by decide) rfl rfl ⟨rfl,rfl,rfl,rfl,rfl,rfl,rfl,rfl,tV⟩ ⟨rfl,rfl,rfl,rfl,rfl,rfl,rfl,rfl,tV⟩ rfl (by decide) ?_);intro e w5 l As E Z;have Aj:v≠e:=(by have:=A.lt;omega);have k:Fsh [] w e:=Fsh.new M _ l;obtain⟨Q6,r,sT,c,V⟩:=exQ uQ l As E;replace h0:=(h0.sub r).o E;replace A:=A.o E;replace uQ:=uQ.md E;replace M:=M.k E;replace uQ:=V;clear V r sT;refine st_mark u22 u5 rfl (show Blk _ _ (([76,80,75,83,72,72,82,72]:Ly).map b8) _ from Z) (By.of_blk (show Blk _ _ (([76,80,75,83,72,72,82,72]:Ly).map b8) _ from Z) rfl (by decide)) ?_;intro w7 E hY;have Af:=Z;clear Z;have hS:∀b∈[e],¬Q6 b:=(hI c);replace h0:=h0.md E hS;replace A:=A.md E (by intro d;simp at d;omega);replace uQ:=uQ.md E;replace M:=M.step E (hI k);obtain⟨Q8,fQ,fT,Ag⟩:=lit_freeze (Q:=Q6) hY;replace h0:=h0.sub (fun b d _=>fQ b d);replace uQ:Up w7 Q8:=fun b d=>fQ b (uQ b d);clear Af hS fQ fT hY c;refine st_call fn46 rfl (hPref_any uQ h0 Ag) ?_;rintro en w9 ⟨Ba,rfl,E,T⟩;refine rv ?_;replace h0:=h0.o E;replace A:=A.o E;replace uQ:=uQ.md E;replace M:=M.k E;refine st _ (r_not rfl) (an rfl ?_);refine c_if rfl (fun y=>?_) (fun y=>?_)
  · (have o:=bnt y);refine ns (st _ (r_buildG (us:=[]) (cs:=(PHead.cells (zz3))) [] z52 pl52 rfl rfl trivial trivial rfl rfl) (st_storeAgg (us:=(PHead.cells (zz3))) rfl rfl (by exact agg52) (by exact fun u S=>one_cells (PHead.one) u S) A (lB rfl) ?_));have F:=A;clear A;intro Bm E A;replace M:=M.step E (hI H);clear F;replace A:Blk _ _ (PHead.cells (zz3)) _:=A;refine ar rfl (r_block (r_then ?_));exact retL (vs:=[(.agg (PHead.cells (zz3)).toArray),(.int .i64 ((6:Nat):Int))]) trivial rfl ⟨⟨_,rfl,load_agg (cs:=(PHead.cells (zz3))) (by exact agg52) A⟩,rfl,tV⟩ rfl ⟨(zz3),6,rfl,M,(by assumption),(by omega),(readF_sign R (by rw[T];exact o))⟩
  (have o:=bnf y);refine c_skip (n_block (c_then (nm rfl (st_call fn47 rfl (hParse_any uQ h0 (by omega)) ?_))));rintro en Bn ⟨C,rfl,E,D,K⟩;refine rv ?_;replace h0:=h0.o E;replace A:=A.o E;replace uQ:=uQ.md E;replace M:=M.k E;refine st_alloc z52 ?_;intro x Bo j A0 E G;have Av:v≠x:=(by have:=A.lt;omega);obtain⟨Aw,r,sT,Ah,V⟩:=exQ uQ j A0 E;replace j:=lj M.size j;replace h0:=(h0.sub r).o E;replace A:=A.o E;replace uQ:=uQ.md E;replace M:=M.k E;replace uQ:=V;clear V r sT;have Ai:Fsh [] w x:=.inr j;replace G:Blk _ _ (PHead.cells (zz3)) _:=G;have A2:PHead.ok (zz3):=(by exact⟨(by decide),(by decide),(by decide),rfl,rfl,rfl,rfl,(nums_zero _),(by decide),(by decide),(by decide)⟩);refine st_storeAgg (us:=(PHead.cells C)) rfl rfl (by exact agg52) (by exact fun u S=>one_cells (PHead.one) u S) G (lB rfl) ?_
  have Ar:=G;clear G;intro Bp E G;have hS:∀b∈[x],¬Aw b:=(hI Ah);replace h0:=h0.md E hS;replace A:=A.md E (by intro d;simp at d;omega);replace uQ:=uQ.md E;replace M:=M.step E (hI Ai);clear Ar hS;replace G:Blk _ _ (PHead.cells C) _:=G;refine nt (ns (st _ (r_loadPart (PHead.cells C) rfl (by exact agg52) G rfl) (st_call fn18 rfl (hEnd_any uQ C D) ?_)));rintro en Bq ⟨W,A6,rfl,E,A3,L⟩;refine rv ?_;replace h0:=h0.o E;replace A:=A.o E;replace G:=G.o E;replace uQ:=uQ.md E;replace M:=M.k E;refine mv rfl (se rfl rfl (se rfl rfl (asg rfl (an rfl (c_seq (c_block (ns (sf rfl off52_1 (sl (u:=(.int .u32 C.incompat)) rfl one48 G rfl ?_)))))))));have Bd:C.incompat<4294967296:=D.2.1;refine st _ (r_andNotN (a:=C.incompat) (b:=4) 4294967296 rfl rfl rfl rfl (by omega)) (st _ (r_neN (a:=(andNot C.incompat 4)) (b:=0) rfl rfl) (an rfl ?_));refine c_if rfl (fun z=>?_) (fun z=>?_)
  · (have I:=dT z);refine ns (st _ (r_buildG (us:=[]) (cs:=(PHead.cells (zz3))) [] z52 pl52 rfl rfl trivial trivial rfl rfl) (st_storeAgg (us:=(PHead.cells (zz3))) rfl rfl (by exact agg52) (by exact fun u S=>one_cells (PHead.one) u S) A (lB rfl) ?_));have F:=A;clear A;intro Br E A;replace M:=M.step E (hI H);clear F;replace A:Blk _ _ (PHead.cells (zz3)) _:=A;refine ar rfl (r_block (r_then ?_));exact retL (vs:=[(.agg (PHead.cells (zz3)).toArray),(.int .i64 ((7:Nat):Int))]) trivial rfl ⟨⟨_,rfl,load_agg (cs:=(PHead.cells (zz3))) (by exact agg52) A⟩,rfl,tV⟩ rfl ⟨(zz3),7,rfl,M,(by assumption),(by omega),(readF_no R T (by simp_all) K (by rw[amiss_at L];rw[if_pos I]) (by decide))⟩
  (have I:=dF z);refine ns (sf rfl off52_2 (sl (u:=(.int .i64 C.state)) rfl one3 G rfl ?_));have Be:C.state<9223372036854775808:=D.2.2.1;refine st _ (r_gtN (a:=C.state) (b:=2) rfl rfl) (an rfl ?_);refine c_if rfl (fun Aa=>?_) (fun Aa=>?_)
  · (have J:=dT Aa);refine ns (st _ (r_buildG (us:=[]) (cs:=(PHead.cells (zz3))) [] z52 pl52 rfl rfl trivial trivial rfl rfl) (st_storeAgg (us:=(PHead.cells (zz3))) rfl rfl (by exact agg52) (by exact fun u S=>one_cells (PHead.one) u S) A (lB rfl) ?_));have F:=A;clear A;intro Bs E A;replace M:=M.step E (hI H);clear F;replace A:Blk _ _ (PHead.cells (zz3)) _:=A;refine ar rfl (r_block (r_then ?_));exact retL (vs:=[(.agg (PHead.cells (zz3)).toArray),(.int .i64 ((8:Nat):Int))]) trivial rfl ⟨⟨_,rfl,load_agg (cs:=(PHead.cells (zz3))) (by exact agg52) A⟩,rfl,tV⟩ rfl ⟨(zz3),8,rfl,M,(by assumption),(by omega),(readF_no R T (by simp_all) K (by rw[amiss_at L];rw[if_neg I,if_pos J]) (by decide))⟩
  (have J:=dF Aa);refine ns (sf rfl off52_7 (sl (u:=(.int .u64 ((C.n.getD 0 0:Nat):Int))) rfl one23 G rfl ?_));have Bf:C.n.getD 0 0<18446744073709551616:=(nums_bd D.2.2.2.2.2.2.2.1 0);refine st _ (r_ltN (a:=(C.n.getD 0 0)) (b:=272) rfl rfl) (mv rfl ?_);refine part_n (t:=43) rfl (fun O=>?_) (fun O=>?_)
  · (have Al:=dT O);refine sk O (sk O (sk O (sk O (st _ (r_pick_t rfl O rfl) (mv rfl (sk rfl (sk rfl (sk rfl (sk rfl (st _ (r_pick_t rfl rfl rfl) (an rfl (c_if_t rfl rfl ?_))))))))))));refine ns (st _ (r_buildG (us:=[]) (cs:=(PHead.cells (zz3))) [] z52 pl52 rfl rfl trivial trivial rfl rfl) (st_storeAgg (us:=(PHead.cells (zz3))) rfl rfl (by exact agg52) (by exact fun u S=>one_cells (PHead.one) u S) A (lB rfl) ?_));have F:=A;clear A;intro Bt E A;replace M:=M.step E (hI H);clear F;replace A:Blk _ _ (PHead.cells (zz3)) _:=A;refine ar rfl (r_block (r_then ?_));exact retL (vs:=[(.agg (PHead.cells (zz3)).toArray),(.int .i64 ((5:Nat):Int))]) trivial rfl ⟨⟨_,rfl,load_agg (cs:=(PHead.cells (zz3))) (by exact agg52) A⟩,rfl,tV⟩ rfl ⟨(zz3),5,rfl,M,(by assumption),(by omega),(readF_no R T (by simp_all) K (by rw[amiss_at L];rw[if_neg I,if_neg J,if_pos (by omega)]) (by decide))⟩
  (have Al:=dF O);refine sg O (r_field rfl off52_7) (sg O ((r_loadBlk rfl one23 G rfl).to (b:=(.int .u64 ((C.n.getD 0 0:Nat):Int))) rfl) (sg O (r_remN (a:=(C.n.getD 0 0)) (b:=8) rfl rfl (by omega)) (sg O (r_neN (a:=((C.n.getD 0 0)%8)) (b:=0) rfl rfl) (st _ (r_pick_f rfl O rfl) (mv rfl ?_)))));refine part_n (t:=49) rfl (fun P=>?_) (fun P=>?_)
  · (have Am:=dT P);refine sk P (sk P (sk P (sk P (st _ (r_pick_t rfl P rfl) (an rfl (c_if_t rfl rfl (ns (st _ (r_buildG (us:=[]) (cs:=(PHead.cells (zz3))) [] z52 pl52 rfl rfl trivial trivial rfl rfl) (st_storeAgg (us:=(PHead.cells (zz3))) rfl rfl (by exact agg52) (by exact fun u S=>one_cells (PHead.one) u S) A (lB rfl) ?_)))))))));have F:=A;clear A;intro Bu E A;replace M:=M.step E (hI H);clear F;replace A:Blk _ _ (PHead.cells (zz3)) _:=A;refine ar rfl (r_block (r_then ?_));exact retL (vs:=[(.agg (PHead.cells (zz3)).toArray),(.int .i64 ((5:Nat):Int))]) trivial rfl ⟨⟨_,rfl,load_agg (cs:=(PHead.cells (zz3))) (by exact agg52) A⟩,rfl,tV⟩ rfl ⟨(zz3),5,rfl,M,(by assumption),(by omega),(readF_no R T (by simp_all) K (by rw[amiss_at L];rw[if_neg I,if_neg J,if_pos (by omega)]) (by decide))⟩
  (have Am:=dF P);refine sg P (r_field rfl off52_8) (sg P ((r_loadBlk rfl one23 G rfl).to (b:=(.int .u64 ((C.n.getD 1 0:Nat):Int))) rfl) ?_);have Bg:C.n.getD 1 0<18446744073709551616:=(nums_bd D.2.2.2.2.2.2.2.1 1);refine sg P (r_remN (a:=(C.n.getD 1 0)) (b:=8) rfl rfl (by omega)) (sg P (r_neN (a:=((C.n.getD 1 0)%8)) (b:=0) rfl rfl) (st _ (r_pick_f rfl P rfl) (an rfl ?_)));refine c_if rfl (fun Ab=>?_) (fun Ab=>?_)
  · (have Ak:=dT Ab);refine ns (st _ (r_buildG (us:=[]) (cs:=(PHead.cells (zz3))) [] z52 pl52 rfl rfl trivial trivial rfl rfl) (st_storeAgg (us:=(PHead.cells (zz3))) rfl rfl (by exact agg52) (by exact fun u S=>one_cells (PHead.one) u S) A (lB rfl) ?_));have F:=A;clear A;intro Bv E A;replace M:=M.step E (hI H);clear F;replace A:Blk _ _ (PHead.cells (zz3)) _:=A;refine ar rfl (r_block (r_then ?_));exact retL (vs:=[(.agg (PHead.cells (zz3)).toArray),(.int .i64 ((5:Nat):Int))]) trivial rfl ⟨⟨_,rfl,load_agg (cs:=(PHead.cells (zz3))) (by exact agg52) A⟩,rfl,tV⟩ rfl ⟨(zz3),5,rfl,M,(by assumption),(by omega),(readF_no R T (by simp_all) K (by rw[amiss_at L];rw[if_neg I,if_neg J,if_pos (by omega)]) (by decide))⟩
  (have Ak:=dF Ab);refine nm rfl (st _ (r_not rfl) (mv rfl ?_));refine part_n (t:=59) rfl (fun N=>?_) (fun N=>?_)
  · (have Ap:=bnt N);refine sk N (sk N (sk N (sk N (sk N (st _ (r_pick_t rfl N rfl) (an rfl (c_if_t rfl rfl (ns (st _ (r_buildG (us:=[]) (cs:=(PHead.cells (zz3))) [] z52 pl52 rfl rfl trivial trivial rfl rfl) (st_storeAgg (us:=(PHead.cells (zz3))) rfl rfl (by exact agg52) (by exact fun u S=>one_cells (PHead.one) u S) A (lB rfl) ?_))))))))));have F:=A;clear A;intro Bw E A;replace M:=M.step E (hI H);clear F;replace A:Blk _ _ (PHead.cells (zz3)) _:=A;refine ar rfl (r_block (r_then ?_));exact retL (vs:=[(.agg (PHead.cells (zz3)).toArray),(.int .i64 ((2:Nat):Int))]) trivial rfl ⟨⟨_,rfl,load_agg (cs:=(PHead.cells (zz3))) (by exact agg52) A⟩,rfl,tV⟩ rfl ⟨(zz3),2,rfl,M,(by assumption),(by omega),(readF_no R T (by simp_all) K (by rw[amiss_at L];rw[if_neg I,if_neg J,if_neg (by omega),if_pos (by(left;simp_all))]) (by decide))⟩
  (have Ap:=bnf N);refine sg N (r_move rfl) (sg N (r_move rfl) (sg N (r_len rfl u22 h0.shp) (sg N (r_convN (a:=b.length) 18446744073709551616 rfl (by rw[u3];rfl) u23 rfl (by omega)) (sg N (r_gtN (a:=W) (b:=b.length) rfl rfl) (st _ (r_pick_f rfl N rfl) (an rfl ?_))))));refine c_if rfl (fun Ac=>?_) (fun Ac=>?_)
  · (have Ao:=dT Ac);refine ns (st _ (r_buildG (us:=[]) (cs:=(PHead.cells (zz3))) [] z52 pl52 rfl rfl trivial trivial rfl rfl) (st_storeAgg (us:=(PHead.cells (zz3))) rfl rfl (by exact agg52) (by exact fun u S=>one_cells (PHead.one) u S) A (lB rfl) ?_));have F:=A;clear A;intro Bx E A;replace M:=M.step E (hI H);clear F;replace A:Blk _ _ (PHead.cells (zz3)) _:=A;refine ar rfl (r_block (r_then ?_));exact retL (vs:=[(.agg (PHead.cells (zz3)).toArray),(.int .i64 ((2:Nat):Int))]) trivial rfl ⟨⟨_,rfl,load_agg (cs:=(PHead.cells (zz3))) (by exact agg52) A⟩,rfl,tV⟩ rfl ⟨(zz3),2,rfl,M,(by assumption),(by omega),(readF_no R T (by simp_all) K (by rw[amiss_at L];rw[if_neg I,if_neg J,if_neg (by omega),if_pos (by(right;omega))]) (by decide))⟩
  (have Ao:=dF Ac);refine c_skip (n_block (c_then (c_seq (ns (st _ (r_loadPart (PHead.cells C) rfl (by exact agg52) G rfl) (sf rfl off52_9 (sl (u:=(.int .u64 ((C.n.getD 2 0:Nat):Int))) rfl one23 G rfl ?_)))))));have Bh:C.n.getD 2 0<18446744073709551616:=(nums_bd D.2.2.2.2.2.2.2.1 2);refine sf rfl off52_10 (sl (u:=(.int .u64 ((C.n.getD 3 0:Nat):Int))) rfl one23 G rfl ?_);have Bi:C.n.getD 3 0<18446744073709551616:=(nums_bd D.2.2.2.2.2.2.2.1 3);refine mv rfl (st_call fn48 rfl (hTable_any uQ C D (C.n.getD 2 0) (by omega) (C.n.getD 3 0) (by omega) W (by omega)) ?_);rintro en B0 ⟨X,rfl,E,A4,g⟩;refine rv ?_;replace A:=A.o E;replace G:=G.o E;replace uQ:=uQ.md E;replace M:=M.k E;refine an rfl (nm rfl (st _ (r_neN (a:=X) (b:=0) rfl rfl) (nt ?_)));refine c_if rfl (fun Ad=>?_) (fun Ad=>?_)
  · (have U:=dT Ad);refine ns (st _ (r_buildG (us:=[]) (cs:=(PHead.cells (zz3))) [] z52 pl52 rfl rfl trivial trivial rfl rfl) (mv rfl (st_storeAgg (us:=(PHead.cells (zz3))) rfl rfl (by exact agg52) (by exact fun u S=>one_cells (PHead.one) u S) A (lB rfl) ?_)));have F:=A;clear A;intro B2 E A;replace M:=M.step E (hI H);clear F;replace A:Blk _ _ (PHead.cells (zz3)) _:=A;refine ar rfl (r_then ?_);exact retL (vs:=[(.agg (PHead.cells (zz3)).toArray),(.int .i64 X)]) trivial rfl ⟨⟨_,rfl,load_agg (cs:=(PHead.cells (zz3))) (by exact agg52) A⟩,rfl,tV⟩ rfl ⟨(zz3),X,rfl,M,(by assumption),(by assumption),(readF_no R T (by simp_all) K (by rw[amiss_at L];rw[if_neg I,if_neg J,if_neg (by omega),if_neg (by rintro(h|h)<;>first|omega|simp_all),g,if_pos U]) U)⟩
  (have U:=dF Ad);refine c_skip (c_then (c_seq (ns (st _ (r_loadPart (PHead.cells C) rfl (by exact agg52) G rfl) (sf rfl off52_11 (sl (u:=(.int .u64 ((C.n.getD 4 0:Nat):Int))) rfl one23 G rfl ?_))))));have Bj:C.n.getD 4 0<18446744073709551616:=(nums_bd D.2.2.2.2.2.2.2.1 4);refine sf rfl off52_12 (sl (u:=(.int .u64 ((C.n.getD 5 0:Nat):Int))) rfl one23 G rfl ?_);have Bk:C.n.getD 5 0<18446744073709551616:=(nums_bd D.2.2.2.2.2.2.2.1 5);refine mv rfl (st_call fn48 rfl (hTable_any uQ C D (C.n.getD 4 0) (by omega) (C.n.getD 5 0) (by omega) W (by omega)) ?_);rintro en B3 ⟨Y,rfl,E,A5,p⟩;refine rv ?_;replace A:=A.o E;replace G:=G.o E;replace M:=M.k E;refine an rfl (nm rfl (st _ (r_neN (a:=Y) (b:=0) rfl rfl) (nt ?_)));refine c_if rfl (fun Ae=>?_) (fun Ae=>?_)
  · (have f:=dT Ae);refine ns (st _ (r_buildG (us:=[]) (cs:=(PHead.cells (zz3))) [] z52 pl52 rfl rfl trivial trivial rfl rfl) (mv rfl (st_storeAgg (us:=(PHead.cells (zz3))) rfl rfl (by exact agg52) (by exact fun u S=>one_cells (PHead.one) u S) A (lB rfl) ?_)));have F:=A;clear A;intro B4 E A;replace M:=M.step E (hI H);clear F;replace A:Blk _ _ (PHead.cells (zz3)) _:=A;refine ar rfl (r_then ?_);exact retL (vs:=[(.agg (PHead.cells (zz3)).toArray),(.int .i64 Y)]) trivial rfl ⟨⟨_,rfl,load_agg (cs:=(PHead.cells (zz3))) (by exact agg52) A⟩,rfl,tV⟩ rfl ⟨(zz3),Y,rfl,M,(by assumption),(by assumption),(readF_no R T (by simp_all) K (by rw[amiss_at L];rw[if_neg I,if_neg J,if_neg (by omega),if_neg (by rintro(h|h)<;>first|omega|simp_all),g,if_neg U,p]) f)⟩
  (have f:=dF Ae);refine c_skip (c_then (ns (st _ (r_loadPart (PHead.cells C) rfl (by exact agg52) G rfl) (st_storeAgg (us:=(PHead.cells C)) rfl rfl (by exact agg52) (by exact fun u S=>one_cells (PHead.one) u S) A (lB rfl) ?_))));have F:=A;clear A;intro B5 E A;replace M:=M.step E (hI H);clear F;replace A:Blk _ _ (PHead.cells C) _:=A;refine ar rfl ?_;exact retL (vs:=[(.agg (PHead.cells C).toArray),(.int .i64 ((0:Nat):Int))]) trivial rfl ⟨⟨_,rfl,load_agg (cs:=(PHead.cells C)) (by exact agg52) A⟩,rfl,tV⟩ rfl ⟨C,0,rfl,M,D,(by omega),(readF_ok R T (by simp_all) K (by rw[amiss_at L];rw[if_neg I,if_neg J,if_neg (by omega),if_neg (by rintro(h|h)<;>first|omega|simp_all),g,if_neg U,p];simpa using f))⟩
theorem fn17:isFn Zp 17=true:=by kernel_rfl
theorem fn19:isFn Zp 19=true:=by kernel_rfl
theorem pl59:bplace Zp 59=some [(0,1),(1,91)]:=by kernel_rfl
theorem z59:zcells Zp 59=some ([.slice none 0 0,.int .u32 0,.int .u32 0,.int .i64 0] ++ (List.replicate 64 (.int .u8 0) ++ (List.replicate 21 (.int .u64 0) ++ ([.int .u32 0,.int .u32 0,.int .u64 0])))):=by kernel_rfl
set_option maxRecDepth 100000 in
theorem aOpen_any (uQ:Up w Q) {v0:Value} {b:Ly} (h0:Ls tB8 w Q v0 b) (p0:b.length≤140737488355328) :
    Calls Zp 6 #[v0] w fun en w'=>∃u0:Value,∃r0:Option (PView),∃r1:Nat,en = .returned (.tuple #[u0,(.int .i64 r1)])∧Md [] w w'∧Po tPView 59 w' Q u0 r0∧r1<9223372036854775808∧openF b=(r0,r1):=by
  have L0:=h0.len63;have M:=Md.refl [] w;have t:=uQ;have l:∀b,Q b→Q b:=fun _ h=>h;refine enter (n:=28) Tryz.func6 rfl rfl rfl fun B=>ns (asg rfl (an rfl (nm rfl (st_call fn17 rfl (hRead_any uQ h0) ?_))));rintro en w1 ⟨C,L,rfl,D,P,z,X⟩;refine rv ?_;replace h0:=h0.o D;replace uQ:=uQ.md D;replace M:=M.k D;refine mv rfl (se rfl rfl (se rfl rfl (st_alloc z52 ?_)));intro V w2 O r D A;obtain⟨Q3,j,k,Z,J⟩:=exQ uQ O r D;replace l:=tT l k;replace O:=lj M.size O;replace h0:=(h0.sub j).o D;replace uQ:=uQ.md D;replace M:=M.k D;replace uQ:=J;clear J j k;have c:Fsh [] w V:=.inr O;replace A:Blk _ _ (PHead.cells (zz3)) _:=A;have y:PHead.ok (zz3):=(by exact⟨(by decide),(by decide),(by decide),rfl,rfl,rfl,rfl,(nums_zero _),(by decide),(by decide),(by decide)⟩);refine st_storeAgg (us:=(PHead.cells C)) rfl rfl (by exact agg52) (by exact fun u hu=>one_cells (PHead.one) u hu) A (lB rfl) ?_
  have g:=A;clear A;intro w5 D A;have v:∀b∈[V],¬Q3 b:=(hI Z);replace h0:=h0.md D v;replace uQ:=uQ.md D;replace M:=M.step D (hI c);clear g v;replace A:Blk _ _ (PHead.cells C) _:=A;refine an rfl (c_seq (nm rfl (st _ (r_neN (a:=L) (b:=0) rfl rfl) (nt ?_))));refine c_if rfl (fun W=>?_) (fun W=>?_)
  · (have H:=dT W);refine nm rfl (asg rfl (ar rfl (r_then ?_)));exact retL (vs:=[(.pointer none),(.int .i64 L)]) trivial rfl ⟨rfl,rfl,tV⟩ rfl ⟨_,none,L,rfl,M,rfl,(by assumption),(by rw[openF,X,if_pos H])⟩
  (have H:=dF W);refine c_skip (c_then (ns (st _ (r_loadPart (PHead.cells C) rfl (by exact agg52) A rfl) (st_call fn18 rfl (hEnd_any uQ C P) ?_))));rintro en w6 ⟨U,Ab,rfl,D,Aa,e⟩;refine rv ?_;replace h0:=h0.o D;replace A:=A.o D;replace uQ:=uQ.md D;replace M:=M.k D;refine mv rfl (se rfl rfl (se rfl rfl (asg rfl (an rfl (c_seq ?_)))));have I:=A;refine c_mixT [(0,true),(1,true),(2,true),(4,true),(3,false)] [5,6,7,8] (fun w'=>Md [] w6 w') mixed (by kernel_rfl) ?_;intro w7 G;refine⟨G.mono (by simp),?_⟩;have o:=G.mono (T:=[]) (by simp);have rf:readF b=(C,0):=(by rw[X];simp only[Prod.mk.injEq,true_and];omega);have en:=read_end rf e;refine mo rfl (mo rfl (mz (fun w' x=>r_sliceZ 1 0 U u22 el5 rfl h0.shp (by omega) (by omega) rfl ⟨_,rfl⟩) ?_));have Y:=h0.head (hi:=U) (by omega);refine mz (fun w' x=>r_loadPart (PHead.cells C) rfl (by exact agg52) (I.o x) rfl) ?_;replace A:=A.o G;replace Y:=Y.o G;replace uQ:=uQ.md G;replace M:=M.k G;refine m_e ?_ rfl;refine st_call fn19 rfl (bClone_any_ls uQ Y (by(simp<;>omega))) ?_;rintro en w9 ⟨K,N,rfl,D,E,Ae⟩;refine rv ?_;replace A:=A.o D;replace uQ:=uQ.md D;replace M:=M.k D;replace o:=o.k D;refine st_nil ⟨rfl,o,?_⟩;refine m_nil ?_;clear I;clear o;refine st _ (r_buildG (us:=[[K],(PHead.cells C)]) (cs:=(PView.cells (({b:=N,h:=C}:PView)) K)) [(0,0,1),(1,1,91)] z59 pl59 rfl rfl ⟨(cells_one E.oneCell),rfl,tV⟩ ⟨rfl,rfl,tV⟩ rfl rfl) (st_box (cs:=(PView.cells (({b:=N,h:=C}:PView)) K)) rfl rfl ?_);intro R Ah F i D f;have d:V≠R:=(by have:=A.lt;omega);obtain⟨Ac,j,k,p,J⟩:=exQ uQ F i D
  replace l:=tT l k;replace F:=lj M.size F;replace E:=(E.sub j).o D;replace uQ:=uQ.md D;replace M:=M.k D;replace uQ:=J;clear J j k;refine asg rfl (ar rfl ?_);exact retL (vs:=[(.pointer (some ⟨R,0,none⟩)),(.int .i64 ((0:Nat):Int))]) trivial rfl ⟨rfl,rfl,tV⟩ rfl ⟨_,(some (({b:=N,h:=C}:PView))),0,rfl,M,⟨_,_,rfl,t _ F,f,tPView_mk (by assumption) (E.sub (fun b S _=>l b S))⟩,(by omega),(by rw[openF,X,if_neg H,e];simp_all)⟩
theorem fn11:isFn Zp 11=true:=by kernel_rfl
theorem fn6:isFn Zp 6=true:=by kernel_rfl
theorem u25:Zp.underlying 25=some (.pointer 59):=by kernel_rfl
theorem kImageB_any (uQ:Up w Q) {v0:Value} {l:List Int} (h0:Ls tInt w Q v0 l) (most:Nat) (a1:most<9223372036854775808) (p0:most≤100000) :
    Calls Zp 11 #[v0,.int .i64 most] w fun en w'=>∃u0:Value,∃r0:List UInt8,en = .returned u0∧Md [] w w'∧Ls tB8 w' Q u0 r0∧imageOf l most=r0:=kImage_any uQ h0 most p0
theorem gFirst_any (uQ:Up w Q)  :
    Calls Zp 5 #[] w fun en w'=>∃r0:Bool,en = .returned (.bool r0)∧Md [] w w'∧true=r0:=by
  have M:=Md.refl [] w;have h:=uQ;refine enter (n:=25) Tryz.func5 rfl rfl rfl fun B=>ns (an rfl (ns (st_call fn6 rfl (aOpen_any uQ (Ls.nil tB8 _ _) (by(simp<;>omega))) ?_)));rintro en l ⟨c,f,N,rfl,E,W,Y,S⟩;refine rv ?_;replace uQ:=uQ.md E;replace M:=M.k E;refine mv rfl (se rfl rfl (se rfl rfl (asg rfl (an rfl (ns (st_buildSliceG [[(.int .i64 ((1:Nat):Int))],[(.int .i64 ((2:Nat):Int))],[(.int .i64 ((3:Nat):Int))]] u34 elT3 (by decide) (by decide) rfl rfl ⟨rfl,rfl,rfl,tV⟩ ⟨rfl,rfl,rfl,tV⟩ rfl (by decide) ?_))))));intro V o G X E D;have P:=uQ _ G;replace uQ:=uQ.md E;replace M:=M.k E;replace D:=Ls.of_blk (m:=3) (R:=Q) (T:=tInt) (xs:=[((1:Nat):Int),((2:Nat):Int),((3:Nat):Int)]) D ⟨_,_,rfl,⟨rfl,(by omega)⟩,⟨_,_,rfl,⟨rfl,(by omega)⟩,⟨_,_,rfl,⟨rfl,(by omega)⟩,rfl⟩⟩⟩ rfl (by decide) P;refine st_call fn11 rfl (kImageB_any uQ D 2 (by omega) (by omega)) ?_;rintro en p ⟨d,g,rfl,E,J,L⟩;refine rv ?_;replace uQ:=uQ.md E;replace M:=M.k E;have i:=image3E L;refine st_call fn6 rfl (aOpen_any uQ J (by omega)) ?_;rintro en r ⟨e,F,O,rfl,E,K,Z,U⟩;refine rv ?_;replace M:=M.k E;refine mv rfl (se rfl rfl (se rfl rfl (asg rfl (an rfl (ns ?_)))));have j:=open_nilE S;have k:=open3E L U;refine mv rfl (st _ (r_eqN (a:=N) (b:=22) rfl rfl) (mv rfl ?_))
  refine part_n (t:=17) rfl (fun A=>?_) (fun A=>?_)
  · (have H:=dT A);refine sg A (r_move rfl) (sg A (r_eqN (a:=O) (b:=0) rfl rfl) (st _ (r_pick_t rfl A rfl) (mv rfl ?_)));refine part_n (t:=21) rfl (fun C=>?_) (fun C=>?_)
    · (have I:=dT C);refine sg C (r_move rfl) (sg C (r_neqPO K rfl u25) (st _ (r_pick_t rfl C rfl) (ar rfl ?_)));exact ret1L (v:=(.bool F.isSome)) trivial rfl ⟨rfl,tV⟩ ⟨F.isSome,rfl,M,(by simp_all)⟩
    (have I:=dF C);refine sk C (sk C (st _ (r_pick_f rfl C rfl) (ar rfl ?_)));exact ret1L (v:=(.bool false)) trivial rfl ⟨rfl,tV⟩ ⟨false,rfl,M,(by simp_all)⟩
  (have H:=dF A);refine sk A (sk A (st _ (r_pick_f rfl A rfl) (mv rfl (sk rfl (sk rfl (st _ (r_pick_f rfl rfl rfl) (ar rfl ?_)))))));exact ret1L (v:=(.bool false)) trivial rfl ⟨rfl,tV⟩ ⟨false,rfl,M,(by simp_all)⟩
end Go.Proofs.YtkkfbaijodhobaaGreat
namespace Go.Wk
open Go Go.RowKit
structure Stop where
  code:Nat
def Stop.cells (x:Stop):List Value :=
  [(.int .i64 x.code)]
structure Frm where
  kind:Nat
  flags:Nat
  size:Nat
def Frm.cells (x:Frm):List Value :=
  [(.int .i64 x.kind)] ++ ([(.int .i64 x.flags)] ++ ([(.int .u64 x.size)]))
def Frm.ok (x:Frm):Prop:=x.kind<9223372036854775808∧x.flags<9223372036854775808∧x.size<18446744073709551616
theorem Frm.one {x:Frm}:(x.cells).all (fun u=>u.oneCell')=true:=(ones_app rfl (ones_app rfl rfl))
def fr0:Frm:={kind:=0,flags:=0,size:=0}
def byteAt (b:Ly) (p:Nat):Nat:=(b.getD p 0).toNat
theorem byteAt_of {b:Ly} {p:Nat} {x:UInt8} (h:b[p]? = some x):byteAt b p=x.toNat:=by simp[byteAt,List.getD,h]
theorem at8_of {b:Ly} {p v:Nat} {s:Bool} {i:Int} (h:getF b i 8=(v,s)) (hi:i=(p:Int)) (hb:p+8≤b.length):at8 b p=v:=by
  subst hi;have A:=getF_at (k:=8) (.inr rfl) hb;rw[show((8:Nat):Int)=8 from rfl]at A;rw[A]at h;exact congrArg Prod.fst h
theorem byteAt_lt (b:Ly) (p:Nat):byteAt b p<256:=UInt8.toNat_lt _
def frameF (b:Ly) (p:Nat):Frm × Nat :=
  if p%8≠0 then(fr0,3)
  else if b.length<p∨b.length-p<16 then(fr0,2)
  else if byteAt b p<1∨7<byteAt b p then(fr0,4)
  else if byteAt b (p+1)≠0 then(fr0,7)
  else if at8 b (p+8)<16 then(fr0,5)
  else if b.length-p<at8 b (p+8)then(fr0,2)
  else({kind:=byteAt b p,flags:=0,size:=at8 b (p+8)},0)
theorem frame_al {b:Ly} {p:Nat} (h:p%8≠0):frameF b p=(fr0,3):=by unfold frameF;rw[if_pos h]
theorem frame_sh {b:Ly} {p:Nat} (h:¬p%8≠0) (h2:b.length<p∨b.length-p<16):frameF b p=(fr0,2):=by unfold frameF;rw[if_neg h,if_pos h2]
theorem frame_of {b:Ly} {p:Nat} {x y:UInt8} {z:Nat} {s:Frm} (es:s={kind:=x.toNat,flags:=y.toNat,size:=z}) (h:¬p%8≠0) (h2:¬(b.length<p∨b.length-p<16)) (e1:byteAt b p=x.toNat) (e2:byteAt b (p+1)=y.toNat) (e3:at8 b (p+8)=z) :
    frameF b p=if s.kind<1∨7<s.kind then(fr0,4)else if s.flags≠0 then(fr0,7)else if s.size<16 then(fr0,5)else if b.length-p<s.size then(fr0,2)else(s,0):=by
  subst es;unfold frameF;rw[if_neg h,if_neg h2,e1,e2,e3];by_cases hf:y.toNat=0
  · rw[hf]
  simp only[if_pos (show y.toNat≠0 from hf)]
theorem frame_fine {b:Ly} {p:Nat} {f:Frm} (h:frameF b p=(f,0)):16≤f.size∧p+f.size≤b.length∧f.kind<256∧f.flags=0:=by
  unfold frameF at h;have:=byteAt_lt b p
  repeat' split at h
  all_goals first|(have:=congrArg Prod.snd h;simp at this;done)|skip
  have:=congrArg Prod.fst h;simp only at this;subst this;refine⟨?_,?_,?_,rfl⟩ <;> (simp only;omega)
def dat0:Dat:={hash:=0,nextHash:=0,nextField:=0,entry:=0,array:=0,count:=0,payload:=[]}
def arr0:Arr:={next:=0,items:=[]}
def numsAt (b:Ly) (p n:Nat):List Nat:=(List.range n).map fun i=>at8 b (p+8*i)
theorem numsAt_len (b:Ly) (p n:Nat):(numsAt b p n).length=n:=by simp[numsAt]
theorem numsAt_succ (b:Ly) (p n:Nat):numsAt b p (n+1)=numsAt b p n ++ [at8 b (p+8*n)]:=by simp[numsAt,List.range_succ]
theorem numsAt_cons (b:Ly) (p n:Nat):numsAt b p (n+1)=at8 b p :: numsAt b (p+8) n:=by
  induction n generalizing p with
  | zero=>simp[numsAt]
  | succ n ih =>
    rw[numsAt_succ,ih,List.cons_append,numsAt_succ,show p+8*(n+1)=p+8+8*n by omega]
def readDatF (b:Ly) (p:Nat):Dat × Nat :=
  if(frameF b p).2≠0 then(dat0,(frameF b p).2)
  else if(frameF b p).1.kind≠1 then(dat0,4)
  else if(frameF b p).1.size≤64 then(dat0,5)
  else({hash:=at8 b (p+16),nextHash:=at8 b (p+24),nextField:=at8 b (p+32),entry:=at8 b (p+40),array:=at8 b (p+48),count:=at8 b (p+56),payload:=(b.drop (p+64)).take ((frameF b p).1.size-64)},0)
def readArrF (b:Ly) (p:Nat):Arr × Nat :=
  if(frameF b p).2≠0 then(arr0,(frameF b p).2)
  else if(frameF b p).1.kind≠6 then(arr0,4)
  else if(frameF b p).1.size≤24∨((frameF b p).1.size-24)%8≠0 then(arr0,5)
  else({next:=at8 b (p+16),items:=numsAt b (p+24) (((frameF b p).1.size-24)/8)},0)
def datAt (s:Nat) (b:Ly) (p:Nat):Dat × Nat:=if p<s∨b.length≤p then(dat0,2)else readDatF b p
def arrAt (s:Nat) (b:Ly) (p:Nat):Arr × Nat:=if p<s∨b.length≤p then(arr0,2)else readArrF b p
def inAt (s:Nat) (b:Ly) (p:Nat):Nat:=if p<s∨b.length≤p then 2 else 0
theorem frame_fine0 {b:Ly} {p c:Nat} {f:Frm} (h:frameF b p=(f,c)) (hc:¬c≠0):16≤f.size∧p+f.size≤b.length∧f.kind<256∧f.flags=0:=frame_fine (by rw[h,Classical.not_not.1 hc])
def bodyF (b:Ly) (p kind ahead item:Nat):List UInt8 × Nat :=
  if(frameF b p).2≠0 then([],(frameF b p).2)
  else if(frameF b p).1.kind≠kind then([],4)
  else if(frameF b p).1.size≤16+ahead∨((frameF b p).1.size-(16+ahead))%item≠0 then([],5)
  else((b.take (p+(frameF b p).1.size)).drop (p+16),0)
theorem bodyF_ok {b x:Ly} {p kind ahead item c:Nat} (h:bodyF b p kind ahead item=(x,c)) (hc:c=0):(frameF b p).2=0∧(frameF b p).1.kind=kind∧16+ahead<(frameF b p).1.size∧((frameF b p).1.size-(16+ahead))%item=0∧x=(b.take (p+(frameF b p).1.size)).drop (p+16)∧x.length=(frameF b p).1.size-16∧p+(frameF b p).1.size≤b.length:=by
  subst hc;unfold bodyF at h
  split at h
  · have:=congrArg Prod.snd h;simp at this;contradiction
  rename_i h1
  have A:16≤(frameF b p).1.size∧p+(frameF b p).1.size≤b.length∧(frameF b p).1.kind<256∧(frameF b p).1.flags=0:=frame_fine0 (f:=(frameF b p).1) (c:=(frameF b p).2) rfl h1
  split at h
  · have:=congrArg Prod.snd h;simp at this
  rename_i h2
  split at h
  · have:=congrArg Prod.snd h;simp at this
  rename_i h3
  rw[not_or]at h3;have e:=congrArg Prod.fst h;simp only at e;subst e;refine⟨by omega,by omega,by omega,by omega,rfl,?_,A.2.1⟩;simp only[List.length_drop,List.length_take];omega
theorem at8_sub {b:Ly} {o e i:Nat} (h:i+8≤e-o) (he:e≤b.length):at8 ((b.take e).drop o) i=at8 b (o+i):=by
  unfold at8
  congr 1
  apply List.ext_getElem?;intro j;simp only[List.getElem?_take,List.getElem?_drop];by_cases hj:j<8
  · rw[if_pos hj,if_pos hj,if_pos (show o+(i+j)<e by omega),Nat.add_assoc]
  rw[if_neg hj,if_neg hj]
theorem nums_sub {b:Ly} {o e n i:Nat} (h:i+8*n≤e-o) (he:e≤b.length):numsAt ((b.take e).drop o) i n=numsAt b (o+i) n:=by
  unfold numsAt
  apply List.map_congr_left;intro k A;have:=List.mem_range.1 A;rw[at8_sub (by omega) he,Nat.add_assoc]
theorem numsAt_step {b:Ly} {l:List Nat} {i v:Nat} {s:Bool} (hl:l=numsAt b 0 (i/8)) (hi:i%8=0) (hb:i+8≤b.length) (h:getF b (i:Int) 8=(v,s)):l ++ [v]=numsAt b 0 ((i+8)/8):=by
  rw[show(i+8)/8=i/8+1 by omega,numsAt_succ,hl,← at8_of h rfl hb]
  congr 3
  omega
theorem readArr_no {b x:Ly} {p c:Nat} (h:bodyF b p 6 8 8=(x,c)) (hc:c≠0):readArrF b p=(arr0,c):=by
  unfold bodyF at h;unfold readArrF
  split at h
  · rename_i h1;rw[if_pos h1,show(frameF b p).2=c from congrArg Prod.snd h]
  rename_i h1;rw[if_neg h1]
  split at h
  · rename_i h2;rw[if_pos h2,show 4=c from congrArg Prod.snd h]
  rename_i h2;rw[if_neg h2]
  split at h
  · rename_i h3;rw[if_pos (by simpa using h3),show 5=c from congrArg Prod.snd h]
  exact absurd (congrArg Prod.snd h).symm hc
theorem readArr_ok {b x:Ly} {p c:Nat} {l:List Nat} (h:bodyF b p 6 8 8=(x,c)) (hc:¬c≠0) (hl:numsAt x 0 (x.length/8)=l):l.length=x.length/8∧1<l.length∧readArrF b p=({next:=l.getD 0 0,items:=l.drop 1},0):=by
  obtain⟨E,F,G,H,A,B,C⟩:=bodyF_ok h (Classical.not_not.1 hc)
  have e:l=numsAt b (p+16) (((frameF b p).1.size-16)/8):=by
    rw[← hl,B,A,nums_sub (by omega) C]
  have D:((frameF b p).1.size-16)/8=((frameF b p).1.size-24)/8+1:=(by omega);refine⟨by rw[← hl,numsAt_len],by rw[e,numsAt_len];omega,?_⟩;unfold readArrF;rw[if_neg (by omega),if_neg (by omega),if_neg (by omega),e,D,numsAt_cons]
  rfl
theorem arr_in {s p c:Nat} {b:Ly} (h:inAt s b p=c) (hc:c≠0):(arrAt s b p).2=c:=by
  unfold inAt at h;unfold arrAt
  split at h
  · rename_i h1;rw[if_pos h1];exact h
  exact absurd h.symm hc
theorem arr_at {s p c:Nat} {b:Ly} {x:Arr} (h0:inAt s b p=0) (h:readArrF b p=(x,c)):arrAt s b p=(x,c):=by
  unfold inAt at h0;unfold arrAt
  split at h0
  · cases h0
  rename_i h1;rw[if_neg h1];exact h
theorem readArr_z (b:Ly) (p:Nat) (h:(readArrF b p).2≠0):(readArrF b p).1=arr0:=by
  unfold readArrF at h ⊢
  split
  · rfl
  split
  · rfl
  split
  · rfl
  rename_i h1 h2 h3;rw[if_neg h1,if_neg h2,if_neg h3]at h;exact absurd rfl h
theorem arr_no {s p c:Nat} {b:Ly} (h:(arrAt s b p).2=c) (hc:c≠0):arrAt s b p=(arr0,c):=by
  refine Prod.ext ?_ h;rw[← h]at hc;unfold arrAt at hc ⊢
  split
  · rfl
  rename_i h1;rw[if_neg h1]at hc;exact readArr_z b p hc
theorem dat_in {s p c:Nat} {b:Ly} (h:inAt s b p=c) (hc:c≠0):(datAt s b p).2=c:=by
  unfold inAt at h;unfold datAt
  split at h
  · rename_i h1;rw[if_pos h1];exact h
  exact absurd h.symm hc
theorem dat_at {s p c:Nat} {b:Ly} {x:Dat} (h0:inAt s b p=0) (h:readDatF b p=(x,c)):datAt s b p=(x,c):=by
  unfold inAt at h0;unfold datAt
  split at h0
  · cases h0
  rename_i h1;rw[if_neg h1];exact h
theorem readDat_z (b:Ly) (p:Nat) (h:(readDatF b p).2≠0):(readDatF b p).1=dat0:=by
  unfold readDatF at h ⊢
  split
  · rfl
  split
  · rfl
  split
  · rfl
  rename_i h1 h2 h3;rw[if_neg h1,if_neg h2,if_neg h3]at h;exact absurd rfl h
theorem dat_no {s p c:Nat} {b:Ly} (h:(datAt s b p).2=c) (hc:c≠0):datAt s b p=(dat0,c):=by
  refine Prod.ext ?_ h;rw[← h]at hc;unfold datAt at hc ⊢
  split
  · rfl
  rename_i h1;rw[if_neg h1]at hc;exact readDat_z b p hc
def readObjF (b:Ly) (p kind n:Nat):List Nat × List UInt8 × Nat :=
  if(frameF b p).2≠0 then([],[],(frameF b p).2)
  else if(frameF b p).1.kind≠kind then([],[],4)
  else if(frameF b p).1.size≤16+8*n then([],[],5)
  else(numsAt b (p+16) n,(b.drop (p+16+8*n)).take ((frameF b p).1.size-(16+8*n)),0)
theorem readObj_end {b:Ly} {p n c:Nat} {f:Frm} {l:List Nat} {kind:Nat} (h:frameF b p=(f,c)) (hc:¬c≠0) (h2:¬f.kind≠kind) (h3:¬f.size≤16+8*n) (hl:l=numsAt ((b.take (p+f.size)).drop (p+16)) 0 n):readObjF b p kind n=(l,((b.take (p+f.size)).drop (p+16)).drop (8*n),0):=by
  have A:=frame_fine0 h hc;unfold readObjF;rw[h];simp only;rw[if_neg hc,if_neg h2,if_neg h3,hl,nums_sub (by omega) A.2.1];refine Prod.ext rfl (Prod.ext ?_ rfl);simp only
  apply List.ext_getElem?;intro j;simp only[List.getElem?_take,List.getElem?_drop];by_cases hj:j<f.size-(16+8*n)
  · rw[if_pos hj,if_pos (by omega)];congr 1;omega
  rw[if_neg hj,if_neg (by omega)]
theorem numsAt_step1 {b:Ly} {l:List Nat} {i v:Nat} {s:Bool} (hl:l=numsAt b 0 i) (hb:8*i+8≤b.length) (h:getF b ((8*i:Nat):Int) 8=(v,s)):l ++ [v]=numsAt b 0 (i+1):=by
  rw[numsAt_succ,hl,← at8_of h rfl hb,Nat.zero_add]
theorem readDat_of {b x:Ly} {p c:Nat} {l:List Nat} (h:readObjF b p 1 6=(l,x,c)):(c≠0→readDatF b p=(dat0,c))∧(¬c≠0→l.length=6∧readDatF b p=({hash:=l.getD 0 0,nextHash:=l.getD 1 0,nextField:=l.getD 2 0,entry:=l.getD 3 0,array:=l.getD 4 0,count:=l.getD 5 0,payload:=x},0)):=by
  unfold readObjF at h;unfold readDatF
  split at h
  · rename_i h1
    simp only[Prod.mk.injEq]at h;refine⟨fun _=>by rw[if_pos h1,h.2.2],fun A=>absurd (h.2.2 ▸ h1) A⟩
  rename_i h1
  rw[if_neg h1]
  split at h
  · rename_i h2
    simp only[Prod.mk.injEq]at h;exact⟨fun _=>by rw[if_pos h2,h.2.2],fun A=>absurd (h.2.2 ▸ (by decide:(4:Nat)≠0)) A⟩
  rename_i h2
  rw[if_neg h2]
  split at h
  · rename_i h3
    simp only[Prod.mk.injEq]at h;exact⟨fun _=>by rw[if_pos (by omega),h.2.2],fun A=>absurd (h.2.2 ▸ (by decide:(5:Nat)≠0)) A⟩
  rename_i h3
  simp only[Prod.mk.injEq]at h;obtain⟨rfl,rfl,rfl⟩:=h;refine⟨fun A=>absurd rfl A,fun _=>⟨numsAt_len _ _ _,?_⟩⟩;rw[if_neg (by omega)];simp[numsAt,List.range_succ]
end Go.Wk
namespace Go.Wk
open Go Go.RowKit
theorem idc_set {x:Ly} {i:Nat} {c:UInt8} (h:x.length=16):(idc x).set i (b8 c)=idc (x.set i c):=by
  rw[idc_map h,idc_map (by simpa using h),List.map_set]
theorem take_set {x y:Ly} {k:Nat} {c:UInt8} (hx:x.length=16) (hk:k<16) (h:x.take k=y.take k) (hc:y[k]? = some c):(x.set k c).take (k+1)=y.take (k+1):=by
  rw[List.take_add_one,List.take_add_one,hc,← h]
  congr 1
  · apply List.ext_getElem?
    intro j
    simp only[List.getElem?_take]
    split
    · rw[List.getElem?_set_ne (by omega)]
    rfl
  simp[hx,hk]
def rhead (h:PHead):RHead:={compat:=h.compat,incompat:=h.incompat,state:=h.state,file:=h.file,machine:=h.machine,boot:=h.boot,seq:=h.seq,n:=h.n.take 20,tailArray:=h.tailArray,tailItems:=h.tailItems,tailEntry:=h.tailEntry}
def rview (v:PView):RView:={h:=rhead v.h,depth:=v.h.n.getD 20 0,b:=v.b}
theorem rhead_n {h:PHead} {i:Nat} (hi:i<20):(rhead h).n.getD i 0=h.n.getD i 0:=by
  simp only[rhead,List.getD_eq_getElem?_getD,List.getElem?_take,if_pos hi]
def rn (b:Ly) (j:Nat):List Nat:=(List.range 20).map fun q=>if q<j then at8 b (88+8*q)else 0
theorem rn_zero (b:Ly):rn b 0=List.replicate 20 0:=by
  unfold rn
  simp only[Nat.not_lt_zero,if_false]
  rfl
theorem rn_step {b:Ly} {j:Nat} (hj:j<20):(rn b j).set j (at8 b (88+8*j))=rn b (j+1):=by
  apply List.ext_getElem
  · simp[rn]
  intro q A B
  simp[rn]at A
  by_cases h:q=j
  · subst h;simp[rn]
  rw[List.getElem_set_ne (Ne.symm h)]
  simp only[rn,List.getElem_map,List.getElem_range]
  by_cases h3:q<j
  · rw[if_pos h3,if_pos (by omega)]
  rw[if_neg h3,if_neg (by omega)]
theorem rn_full (b:Ly):rn b 20=(parseF b).n.take 20:=by
  apply List.ext_getElem?
  intro i
  simp only[rn,parseF,headUp,List.getElem?_map,List.getElem?_take]
  by_cases h:i<20
  · rw[if_pos h,List.getElem?_range h,List.getElem?_range (show i<21 by omega)]
    simp[h,show i<21 by omega]
  rw[if_neg h,List.getElem?_eq_none (by simpa using h)];rfl
theorem rhead_set {h:RHead} {j v:Nat} (hn:h.n.length=20) (hj:j<20):(RHead.cells h).set (67+j) (.int .u64 v)=RHead.cells {h with n:=h.n.set j v}:=by
  have e:∀(m:List Nat) (t:RHead),t.n=m→RHead.cells t=([(.int .u32 t.compat)] ++ ([(.int .u32 t.incompat)] ++ ([(.int .i64 t.state)] ++ ((idc t.file) ++ ((idc t.machine) ++ ((idc t.boot) ++ (idc t.seq))))))) ++ (nums20 m ++ ([(.int .u32 t.tailArray)] ++ ([(.int .u32 t.tailItems)] ++ [(.int .u64 t.tailEntry)]))):=by
    intro m t C;subst C;simp only[RHead.cells,List.append_assoc]
  rw[e h.n h rfl,e (h.n.set j v) {h with n:=h.n.set j v} rfl,nums20_set hn hj]
  have B:([(.int .u32 h.compat)] ++ ([(.int .u32 h.incompat)] ++ ([(.int .i64 h.state)] ++ ((idc h.file) ++ ((idc h.machine) ++ ((idc h.boot) ++ (idc h.seq)))))):List Value).length=67:=rfl
  have A:(nums20 h.n).length=20:=rfl
  rw[List.set_append_right _ _ (by omega),B,Nat.add_sub_cancel_left,List.set_append_left _ _ (by omega)]
def rawH (b:Ly) (j:Nat):RHead :=
  {compat:=at4 b 8,incompat:=at4 b 12,state:=byteAt b 16,file:=(b.drop 24).take 16,machine:=(b.drop 40).take 16,boot:=(b.drop 56).take 16,seq:=(b.drop 72).take 16,n:=rn b j,tailArray:=0,tailItems:=0,tailEntry:=0}
def rawF (b:Ly):RHead:={rawH b 20 with tailArray:=at4 b 256,tailItems:=at4 b 260,tailEntry:=at8 b 264}
theorem rawF_eq (b:Ly):rawF b=rhead (parseF b):=by
  unfold rawF rawH rhead
  rw[rn_full]
  rfl
theorem raw_depth (b:Ly):(parseF b).n.getD 20 0=at8 b 248:=by
  simp[parseF,headUp,List.getD]
theorem at4_of {b:Ly} {p v:Nat} {s:Bool} {i:Int} (h:getF b i 4=(v,s)) (hi:i=(p:Int)) (hb:p+4≤b.length):at4 b p=v∧v<4294967296:=by
  subst hi
  have A:=getF_at (k:=4) (.inl rfl) hb
  rw[show((4:Nat):Int)=4 from rfl]at A
  rw[A]at h
  have e:at4 b p=v:=congrArg Prod.fst h
  exact⟨e,e ▸ at4_lt b p⟩
theorem rhead_ok_set {h:RHead} {j v:Nat} (ok:RHead.ok h) (hv:v<18446744073709551616):RHead.ok {h with n:=h.n.set j v} :=
  ⟨ok.1,ok.2.1,ok.2.2.1,ok.2.2.2.1,ok.2.2.2.2.1,ok.2.2.2.2.2.1,ok.2.2.2.2.2.2.1,nums_set ok.2.2.2.2.2.2.2.1 hv,ok.2.2.2.2.2.2.2.2⟩
theorem rawH_step {b:Ly} {j x:Nat} (hj:j<20) (hx:at8 b (88+8*j)=x):{rawH b j with n:=(rawH b j).n.set j x}=rawH b (j+1):=by
  subst hx
  unfold rawH
  simp only[rn_step hj]
def raw0 (b:Ly):RHead:={rawH b 0 with compat:=0,incompat:=0}
theorem raw0_of {b:Ly} {k:Nat} (h:byteAt b 16=k):raw0 b={compat:=0,incompat:=0,state:=k,file:=(b.drop 24).take 16,machine:=(b.drop 40).take 16,boot:=(b.drop 56).take 16,seq:=(b.drop 72).take 16,n:=List.replicate 20 0,tailArray:=0,tailItems:=0,tailEntry:=0}:=by
  subst h;unfold raw0 rawH;rw[rn_zero]
theorem take_len16 {b:Ly} {o:Nat} (h:o+16≤b.length):((b.drop o).take 16).length=16:=by simp;omega
theorem raw0_ok {b:Ly} (h:272≤b.length):RHead.ok (raw0 b):=by
  have:=byteAt_lt b 16
  refine⟨show(0:Nat)<_ by decide,show(0:Nat)<_ by decide,?_,take_len16 (by omega),take_len16 (by omega),take_len16 (by omega),take_len16 (by omega),?_,show(0:Nat)<_ by decide,show(0:Nat)<_ by decide,show(0:Nat)<_ by decide⟩
  · show byteAt b 16<_;omega
  show(rn b 0).length=20∧∀y∈rn b 0,y<18446744073709551616
  rw[rn_zero];exact nums_zero 20
theorem raw_up {b:Ly} {s1 s2:RHead} {x y:Nat} (e1:s1={raw0 b with compat:=x}) (e2:s2={s1 with incompat:=y}) (hx:at4 b 8=x) (hy:at4 b 12=y):s2=rawH b 0:=by
  subst hx;subst hy;subst e1;subst e2;rfl
theorem raw_end {b:Ly} {h s1 s2 s3:RHead} {i x y z:Nat} (h0:h=rawH b i) (hi:i=20) (e1:s1={h with tailArray:=x}) (e2:s2={s1 with tailItems:=y}) (e3:s3={s2 with tailEntry:=z}) (hx:at4 b 256=x) (hy:at4 b 260=y) (hz:at8 b 264=z):rawF b=s3:=by
  subst hx;subst hy;subst hz;subst hi;subst e3;subst e2;subst e1;subst h0;rfl
def rEndF (h:RHead):Nat × Bool:=if 18446744073709551615-h.n.getD 0 0<h.n.getD 1 0 then(0,false)else(h.n.getD 0 0+h.n.getD 1 0,true)
theorem rEnd_eq {h:PHead} (h0:h.n.getD 0 0<18446744073709551616) (h1:h.n.getD 1 0<18446744073709551616):rEndF (rhead h)=endF h:=by
  unfold rEndF endF
  rw[rhead_n (by omega),rhead_n (by omega)]
  by_cases hc:18446744073709551615-h.n.getD 0 0<h.n.getD 1 0
  · rw[if_pos hc,if_pos (by omega)]
  rw[if_neg hc,if_neg (by omega),Nat.mod_eq_of_lt (by omega)]
def rTabF (p size o e:Nat):Nat:=if p%8≠0 then 3 else if size=0∨size%16≠0 then 5 else if p<o∨p-o<16∨e<p∨e-p<size then 2 else 0
theorem rTab_eq (h:PHead) (p size e:Nat):rTabF p size (h.n.getD 0 0) e=tableF h p size e:=rfl
def rAmF (h:RHead) (len:Nat):Nat :=
  if andNot h.incompat 4≠0 then 7
  else if 2<h.state then 8
  else if h.n.getD 0 0<272∨h.n.getD 0 0%8≠0∨h.n.getD 1 0%8≠0 then 5
  else if(rEndF h).2=false∨len<(rEndF h).1 then 2
  else if rTabF (h.n.getD 2 0) (h.n.getD 3 0) (h.n.getD 0 0) (rEndF h).1≠0 then rTabF (h.n.getD 2 0) (h.n.getD 3 0) (h.n.getD 0 0) (rEndF h).1
  else rTabF (h.n.getD 4 0) (h.n.getD 5 0) (h.n.getD 0 0) (rEndF h).1
theorem rAm_eq {h:PHead} (ok:PHead.ok h) (len:Nat):rAmF (rhead h) len=amissF h len:=by
  have b:=nums_bd ok.2.2.2.2.2.2.2.1
  unfold rAmF amissF
  rw[rEnd_eq (b 0) (b 1)]
  simp only[rhead_n (h:=h) (show 0<20 by omega),rhead_n (h:=h) (show 1<20 by omega),rhead_n (h:=h) (show 2<20 by omega),rhead_n (h:=h) (show 3<20 by omega),rhead_n (h:=h) (show 4<20 by omega),rhead_n (h:=h) (show 5<20 by omega),rTab_eq]
  rfl
theorem rAm_at {h:RHead} {len r:Nat} {s:Bool} (he:rEndF h=(r,s)):rAmF h len=(if andNot h.incompat 4≠0 then 7 else if 2<h.state then 8 else if h.n.getD 0 0<272∨h.n.getD 0 0%8≠0∨h.n.getD 1 0%8≠0 then 5
    else if s=false∨len<r then 2 else if rTabF (h.n.getD 2 0) (h.n.getD 3 0) (h.n.getD 0 0) r≠0 then rTabF (h.n.getD 2 0) (h.n.getD 3 0) (h.n.getD 0 0) r else rTabF (h.n.getD 4 0) (h.n.getD 5 0) (h.n.getD 0 0) r):=by
  unfold rAmF;rw[he]
def rReadF (b:Ly):RHead × Nat × Nat:=(rhead (readF b).1,(readF b).1.n.getD 20 0,(readF b).2)
def rh0:RHead:={compat:=0,incompat:=0,state:=0,file:=idZ,machine:=idZ,boot:=idZ,seq:=idZ,n:=List.replicate 20 0,tailArray:=0,tailItems:=0,tailEntry:=0}
theorem rRead_short {b:Ly} (h:b.length<272):rReadF b=(rh0,0,22):=by unfold rReadF;rw[readF_short h];rfl
theorem pref_of {b:Ly} (h:¬b.length<272):prefF b signF=decide (b.take 8=signF):=by
  unfold prefF
  rw[if_pos (by show 8≤_;omega)];rfl
theorem rRead_sign {b:Ly} (h:¬b.length<272) (h2:b.take 8≠[76,80,75,83,72,72,82,72]):rReadF b=(rh0,0,6):=by
  unfold rReadF
  rw[readF_sign h (by have e:=pref_of h;rw[show signF=[76,80,75,83,72,72,82,72]from rfl]at e;rw[e];exact decide_eq_false h2)];rfl
theorem rRead_of {b:Ly} {x:RHead} {d e:Nat} (h:¬b.length<272) (h2:b.take 8=[76,80,75,83,72,72,82,72]) (hr:(rawF b,at8 b 248)=(x,d)) (he:rAmF x b.length=e):rReadF b=if e≠0 then(rh0,0,e)else(x,d,0):=by
  have A:prefF b [76,80,75,83,72,72,82,72]=true:=by have e:=pref_of h;rw[show signF=[76,80,75,83,72,72,82,72]from rfl]at e;rw[e];exact decide_eq_true h2
  simp only[Prod.mk.injEq]at hr
  have B:amissF (parseF b) b.length=e:=by rw[← rAm_eq (parse_ok (by omega)),← rawF_eq,hr.1];exact he
  by_cases hc:e≠0
  · rw[if_pos hc]
    unfold rReadF
    rw[readF_no h A (by simp) rfl B hc];rfl
  rw[if_neg hc]
  unfold rReadF
  rw[readF_ok h A (by simp) rfl (by omega),← hr.1,← hr.2,rawF_eq,raw_depth]
end Go.Wk
namespace Go.Wk
open Go Go.RowKit
def rOpenF (b:Ly):Option RView × Nat:=((openF b).1.map rview,(openF b).2)
theorem rOpen_no {b:Ly} {x:RHead} {d e:Nat} (h:rReadF b=(x,d,e)) (he:e≠0):rOpenF b=(none,e):=by
  simp only[rReadF,Prod.mk.injEq]at h
  unfold rOpenF openF
  rw[if_pos (by rw[h.2.2];exact he),h.2.2]
  rfl
theorem rOpen_ok {b:Ly} {x:RHead} {d e r:Nat} {s:Bool} (h:rReadF b=(x,d,e)) (he:¬e≠0) (h2:rEndF x=(r,s)):r≤b.length∧rOpenF b=(some {h:=x,depth:=d,b:=b.take r},0):=by
  simp only[rReadF,Prod.mk.injEq]at h
  have A:readF b=((readF b).1,0):=by rw[← Classical.not_not.1 he,← h.2.2]
  obtain⟨C,D,_⟩:=read_fine A
  have E:PHead.ok (readF b).1:=by rw[← D];exact parse_ok C
  have b':=nums_bd E.2.2.2.2.2.2.2.1
  have B:endF (readF b).1=(r,s):=by rw[← rEnd_eq (b' 0) (b' 1),h.1];exact h2
  refine⟨(read_end A B).1,?_⟩
  unfold rOpenF openF
  rw[if_neg (by rw[A];simp),B]
  simp only[Option.map_some,rview,h.1,h.2.1]
def rbodyF (b:Ly) (p kind:Nat):List UInt8 × Nat :=
  if(frameF b p).2≠0 then([],(frameF b p).2)
  else if(frameF b p).1.kind≠kind then([],4)
  else((b.take (p+(frameF b p).1.size)).drop (p+16),0)
theorem rbody_ok {b x:Ly} {p kind c:Nat} (h:rbodyF b p kind=(x,c)) (hc:¬c≠0):(frameF b p).2=0∧(frameF b p).1.kind=kind∧x=(b.take (p+(frameF b p).1.size)).drop (p+16)∧x.length=(frameF b p).1.size-16∧p+(frameF b p).1.size≤b.length∧16≤(frameF b p).1.size:=by
  unfold rbodyF at h
  split at h
  · rename_i h1;have:=congrArg Prod.snd h;simp at this;omega
  rename_i h1
  have A:16≤(frameF b p).1.size∧p+(frameF b p).1.size≤b.length∧(frameF b p).1.kind<256∧(frameF b p).1.flags=0:=frame_fine0 (f:=(frameF b p).1) (c:=(frameF b p).2) rfl h1
  split at h
  · have:=congrArg Prod.snd h;simp at this;omega
  rename_i h2
  have e:=congrArg Prod.fst h
  simp only at e
  subst e
  refine⟨by omega,by omega,rfl,?_,A.2.1,A.1⟩
  simp only[List.length_drop,List.length_take]
  omega
theorem rDat_no {b x:Ly} {p c:Nat} (h:rbodyF b p 1=(x,c)) (hc:c≠0):readDatF b p=(dat0,c):=by
  unfold rbodyF at h
  unfold readDatF
  split at h
  · rename_i h1;rw[if_pos h1,show(frameF b p).2=c from congrArg Prod.snd h]
  rename_i h1;rw[if_neg h1]
  split at h
  · rename_i h2;rw[if_pos h2,show 4=c from congrArg Prod.snd h]
  exact absurd (congrArg Prod.snd h).symm hc
theorem rDat_5 {b x:Ly} {p c:Nat} (h:rbodyF b p 1=(x,c)) (hc:¬c≠0) (hx:x.length≤48):readDatF b p=(dat0,5):=by
  obtain⟨A,B,C,D,E,F⟩:=rbody_ok h hc
  unfold readDatF
  rw[if_neg (by omega),if_neg (by omega),if_pos (by omega)]
theorem rDat_ok {b x:Ly} {p c:Nat} (h:rbodyF b p 1=(x,c)) (hc:¬c≠0) (hx:¬x.length≤48):readDatF b p=({hash:=at8 x 0,nextHash:=at8 x 8,nextField:=at8 x 16,entry:=at8 x 24,array:=at8 x 32,count:=at8 x 40,payload:=x.drop 48},0):=by
  obtain⟨C,D,A,E,B,F⟩:=rbody_ok h hc
  have e:∀i,i+8≤48→at8 x i=at8 b (p+16+i):=fun i G=>by rw[A,at8_sub (by omega) B]
  unfold readDatF
  rw[if_neg (by omega),if_neg (by omega),if_neg (by omega),e 0 (by omega),e 8 (by omega),e 16 (by omega),e 24 (by omega),e 32 (by omega),e 40 (by omega)]
  refine Prod.ext ?_ rfl
  simp only[Dat.mk.injEq,true_and]
  rw[A]
  apply List.ext_getElem?
  intro j
  simp only[List.getElem?_take,List.getElem?_drop]
  by_cases hj:j<(frameF b p).1.size-64
  · rw[if_pos hj,if_pos (by omega)];congr 1;omega
  rw[if_neg hj,if_neg (by omega)]
theorem rArr_no {b x:Ly} {p c:Nat} (h:rbodyF b p 6=(x,c)) (hc:c≠0):readArrF b p=(arr0,c):=by
  unfold rbodyF at h
  unfold readArrF
  split at h
  · rename_i h1;rw[if_pos h1,show(frameF b p).2=c from congrArg Prod.snd h]
  rename_i h1;rw[if_neg h1]
  split at h
  · rename_i h2;rw[if_pos h2,show 4=c from congrArg Prod.snd h]
  exact absurd (congrArg Prod.snd h).symm hc
theorem rArr_5 {b x:Ly} {p c:Nat} (h:rbodyF b p 6=(x,c)) (hc:¬c≠0) (hx:x.length<16∨x.length%8≠0):readArrF b p=(arr0,5):=by
  obtain⟨A,B,C,D,E,F⟩:=rbody_ok h hc
  unfold readArrF
  rw[if_neg (by omega),if_neg (by omega),if_pos (by omega)]
theorem rArr_ok {b x:Ly} {p c k:Nat} {o:Arr} (h:rbodyF b p 6=(x,c)) (hc:¬c≠0) (hx:¬x.length<16∧¬x.length%8≠0) (hn:o.next=at8 x 0) (hi:o.items=numsAt x 8 ((k-8)/8)) (hk:k=x.length):readArrF b p=(o,0):=by
  obtain⟨D,E,A,C,B,F⟩:=rbody_ok h hc
  subst hk
  unfold readArrF
  rw[if_neg (by omega),if_neg (by omega),if_neg (by omega)]
  refine Prod.ext ?_ rfl
  obtain⟨H,G⟩:=o
  simp only at hn hi
  simp only[Arr.mk.injEq]
  refine⟨?_,?_⟩
  · rw[hn,A,at8_sub (by omega) B]
  rw[hi,C,show((frameF b p).1.size-16-8)/8=((frameF b p).1.size-24)/8 by omega,A,nums_sub (by omega) B]
theorem rArr_step {x:Ly} {l:List Nat} {k v:Nat} (hl:l=numsAt x 8 ((k-8)/8)) (hk:k%8=0) (h8:8≤k) (hv:at8 x k=v):l ++ [v]=numsAt x 8 ((k+8-8)/8):=by
  rw[show(k+8-8)/8=(k-8)/8+1 by omega,numsAt_succ,hl,show 8+8*((k-8)/8)=k by omega,hv]
end Go.Wk
namespace Go.Wk
open Go Go.RowKit
def fld0:Fld:={hash:=0,nextHash:=0,dat:=0,payload:=[]}
def readFldF (b:Ly) (p:Nat):Fld × Nat :=
  if(frameF b p).2≠0 then(fld0,(frameF b p).2)
  else if(frameF b p).1.kind≠2 then(fld0,4)
  else if(frameF b p).1.size≤40 then(fld0,5)
  else({hash:=at8 b (p+16),nextHash:=at8 b (p+24),dat:=at8 b (p+32),payload:=(b.drop (p+40)).take ((frameF b p).1.size-40)},0)
def fldAt (s:Nat) (b:Ly) (p:Nat):Fld × Nat:=if p<s∨b.length≤p then(fld0,2)else readFldF b p
theorem fld_in {s p c:Nat} {b:Ly} (h:inAt s b p=c) (hc:c≠0):(fldAt s b p).2=c:=by
  unfold inAt at h
  unfold fldAt
  split at h
  · rename_i h1;rw[if_pos h1];exact h
  exact absurd h.symm hc
theorem fld_at {s p c:Nat} {b:Ly} {x:Fld} (h0:inAt s b p=0) (h:readFldF b p=(x,c)):fldAt s b p=(x,c):=by
  unfold inAt at h0
  unfold fldAt
  split at h0
  · cases h0
  rename_i h1;rw[if_neg h1];exact h
theorem readFld_z (b:Ly) (p:Nat) (h:(readFldF b p).2≠0):(readFldF b p).1=fld0:=by
  unfold readFldF at h ⊢
  split
  · rfl
  split
  · rfl
  split
  · rfl
  rename_i h1 h2 h3;rw[if_neg h1,if_neg h2,if_neg h3]at h;exact absurd rfl h
theorem fld_no {s p c:Nat} {b:Ly} (h:(fldAt s b p).2=c) (hc:c≠0):fldAt s b p=(fld0,c):=by
  refine Prod.ext ?_ h
  rw[← h]at hc
  unfold fldAt at hc ⊢
  split
  · rfl
  rename_i h1;rw[if_neg h1]at hc;exact readFld_z b p hc
theorem readFld_of {b x:Ly} {p c:Nat} {l:List Nat} (h:readObjF b p 2 3=(l,x,c)):(c≠0→readFldF b p=(fld0,c))∧(¬c≠0→l.length=3∧readFldF b p=({hash:=l.getD 0 0,nextHash:=l.getD 1 0,dat:=l.getD 2 0,payload:=x},0)):=by
  unfold readObjF at h
  unfold readFldF
  split at h
  · rename_i h1
    simp only[Prod.mk.injEq]at h
    refine⟨fun _=>by rw[if_pos h1,h.2.2],fun A=>absurd (h.2.2 ▸ h1) A⟩
  rename_i h1
  rw[if_neg h1]
  split at h
  · rename_i h2
    simp only[Prod.mk.injEq]at h
    exact⟨fun _=>by rw[if_pos h2,h.2.2],fun A=>absurd (h.2.2 ▸ (by decide:(4:Nat)≠0)) A⟩
  rename_i h2
  rw[if_neg h2]
  split at h
  · rename_i h3
    simp only[Prod.mk.injEq]at h
    exact⟨fun _=>by rw[if_pos (by omega),h.2.2],fun A=>absurd (h.2.2 ▸ (by decide:(5:Nat)≠0)) A⟩
  rename_i h3
  simp only[Prod.mk.injEq]at h
  obtain⟨rfl,rfl,rfl⟩:=h
  refine⟨fun A=>absurd rfl A,fun _=>⟨numsAt_len _ _ _,?_⟩⟩
  rw[if_neg (by omega)]
  simp[numsAt,List.range_succ]
theorem nums_get {b:Ly} {p n i v:Nat} (h:(numsAt b p n)[i]? = some v):v=at8 b (p+8*i)∧i<n:=by
  unfold numsAt at h
  rw[List.getElem?_map]at h
  by_cases hi:i<n
  · rw[List.getElem?_range hi]at h
    exact⟨(Option.some.inj h).symm,hi⟩
  rw[List.getElem?_eq_none (by simpa using hi)]at h;cases h
def itemsAt (b:Ly) (p n:Nat):List Itm:=(List.range n).map fun i=>{pos:=at8 b (p+16*i),hash:=at8 b (p+16*i+8)}
theorem itemsAt_len (b:Ly) (p n:Nat):(itemsAt b p n).length=n:=by simp[itemsAt]
theorem itemsAt_succ (b:Ly) (p n:Nat):itemsAt b p (n+1)=itemsAt b p n ++ [{pos:=at8 b (p+16*n),hash:=at8 b (p+16*n+8)}]:=by simp[itemsAt,List.range_succ]
def riseB:List Itm→Bool
  | a :: b :: r=>decide (a.pos<b.pos) && riseB (b :: r)
  | _=>true
theorem riseB_iff:∀l:List Itm,riseB l=true↔∀j x y,l[j]? = some x→l[j+1]? = some y→x.pos<y.pos
  | []=>by simp[riseB]
  | [a]=>by simp[riseB]
  | a :: b :: r=>by
    rw[riseB,Bool.and_eq_true,decide_eq_true_eq,riseB_iff (b :: r)]
    constructor
    · rintro⟨h1,h2⟩ j x y hx hy
      cases j with
      | zero=>simp at hx hy;subst hx;subst hy;exact h1
      | succ j=>exact h2 j x y (by simpa using hx) (by simpa using hy)
    · intro h
      exact⟨h 0 a b rfl rfl,fun j x y hx hy=>h (j+1) x y (by simpa using hx) (by simpa using hy)⟩
def ent0:Ent:={seq:=0,real:=0,mono:=0,boot:=idZ,xor:=0,items:=[]}
def entX (x:Ly):Ent:={seq:=at8 x 0,real:=at8 x 8,mono:=at8 x 16,boot:=(x.drop 24).take 16,xor:=at8 x 40,items:=itemsAt x 48 ((x.length-48)/16)}
def entY (x:Ly):Ent × Nat:=if at8 x 0=0 then(ent0,13)else if riseB (entX x).items=false then(ent0,11)else(entX x,0)
def readEntF (b:Ly) (p:Nat):Ent × Nat :=
  if(bodyF b p 3 48 16).2≠0 then(ent0,(bodyF b p 3 48 16).2)else entY (bodyF b p 3 48 16).1
theorem ent_no {b x:Ly} {p c:Nat} (h:bodyF b p 3 48 16=(x,c)) (hc:c≠0):readEntF b p=(ent0,c):=by
  unfold readEntF;rw[h,if_pos hc]
theorem ent_yes {b x:Ly} {p c:Nat} (h:bodyF b p 3 48 16=(x,c)) (hc:¬c≠0):readEntF b p=entY x:=by
  unfold readEntF;rw[h,if_neg hc]
structure EntOk (x:Ly) (e:Ent) (i:Nat):Prop where
  seq:e.seq=at8 x 0
  real:e.real=at8 x 8
  mono:e.mono=at8 x 16
  boot:e.boot=(x.drop 24).take 16
  xor:e.xor=at8 x 40
  items:e.items=itemsAt x 48 ((i-6)/2)
theorem EntOk.eq {x:Ly} {e:Ent} {i:Nat} (h:EntOk x e i) (hi:i=x.length/8) (h6:x.length%8=0) (h48:48≤x.length):e=entX x:=by
  obtain⟨s,r,m,G,I,H⟩:=e
  obtain⟨A,B,C,D,E,F⟩:=h
  simp only at A B C D E F
  subst hi
  unfold entX
  rw[A,B,C,D,E,F,show(x.length/8-6)/2=(x.length-48)/16 by omega]
theorem EntOk.step {x:Ly} {e e':Ent} {i n v u:Nat} {l:List Nat} (h:EntOk x e i) (hi:i%2=0) (h6:6≤i) (hl:l=numsAt x 0 n) (hv:l[i]? = some v) (hu:l[i+1]? = some u) (he:e'={e with items:=e.items ++ [{pos:=v,hash:=u}]}):EntOk x e' (i+2):=by
  subst hl;subst he
  have hv':=(nums_get hv).1
  have hu':=(nums_get hu).1
  refine⟨h.seq,h.real,h.mono,h.boot,h.xor,?_⟩
  show e.items ++ _=_
  rw[show(i+2-6)/2=(i-6)/2+1 by omega,itemsAt_succ,h.items,hv',hu',show 48+16*((i-6)/2)=0+8*i by omega,show 0+8*(i+1)=0+8*i+8 by omega]
theorem ent_13 {x:Ly} (h:at8 x 0=0):entY x=(ent0,13):=by unfold entY;rw[if_pos h]
theorem ent_11 {x:Ly} {e:Ent} {i:Nat} {y z:Itm} (he:e=entX x) (h:¬e.seq=0) (h0:1≤i) (hy:e.items[i]? = some y) (hz:e.items[i-1]? = some z) (hl:y.pos≤z.pos):entY x=(ent0,11):=by
  subst he
  unfold entY
  rw[if_neg (show ¬at8 x 0=0 from h),if_pos]
  cases hr:riseB (entX x).items with
  | false=>rfl
  | true =>
    have:=(riseB_iff _).1 hr (i-1) z y hz (by rw[Nat.sub_add_cancel h0];exact hy)
    omega
theorem ent_fine {x:Ly} {e:Ent} {i:Nat} (he:e=entX x) (h:¬e.seq=0) (hi:e.items.length≤i) (hr:∀j,1≤j→j<i→∀y z,e.items[j]? = some y→e.items[j-1]? = some z→z.pos<y.pos):entY x=(e,0):=by
  have B:riseB e.items=true:=by
    rw[riseB_iff]
    intro j a c C A
    have D:=(List.getElem?_eq_some_iff.1 A).1
    exact hr (j+1) (by omega) (by omega) c a A (by simpa using C)
  subst he
  unfold entY
  rw[if_neg (show ¬at8 x 0=0 from h),if_neg (by rw[B];simp)]
theorem ent_boot {e:Ent} {v:Value} {ys:Ly} (hy:ys.length=16):splice (Ent.cells e v) 3 (ys.map b8)=Ent.cells {e with boot:=ys} v :=
  idc_splice hy [.int .u64 e.seq,.int .u64 e.real,.int .u64 e.mono] _ e.boot
theorem boot_part {x:Ly} (h:40≤x.length):(((x.take 40).drop 24).map b8).take 16=((x.drop 24).take 16).map b8∧((x.drop 24).take 16).length=16:=by
  have e:(x.take 40).drop 24=(x.drop 24).take 16:=by rw[List.drop_take]
  have A:((x.drop 24).take 16).length=16:=by simp;omega
  refine⟨?_,A⟩
  rw[e,List.take_of_length_le (by simp;omega)]
theorem ent_start {x:Ly} {e s:Ent} {a b c d:Nat} {n:Nat} {l:List Nat} (hl:l=numsAt x 0 n) (h0:l[0]? = some a) (h1:l[1]? = some b) (h2:l[2]? = some c) (h5:l[5]? = some d) (he:e={seq:=a,real:=b,mono:=c,boot:=idZ,xor:=d,items:=[]}) (hs:s={e with boot:=(x.drop 24).take 16}):EntOk x s 6:=by
  subst hl;subst he;subst hs
  exact⟨(nums_get h0).1,(nums_get h1).1,(nums_get h2).1,rfl,(nums_get h5).1,rfl⟩
def entAt (s:Nat) (b:Ly) (p:Nat):Ent × Nat:=if p<s∨b.length≤p then(ent0,2)else readEntF b p
theorem ent_in {s p c:Nat} {b:Ly} (h:inAt s b p=c) (hc:c≠0):(entAt s b p).2=c:=by
  unfold inAt at h
  unfold entAt
  split at h
  · rename_i h1;rw[if_pos h1];exact h
  exact absurd h.symm hc
theorem ent_at {s p c:Nat} {b:Ly} {x:Ent} (h0:inAt s b p=0) (h:readEntF b p=(x,c)):entAt s b p=(x,c):=by
  unfold inAt at h0
  unfold entAt
  split at h0
  · cases h0
  rename_i h1;rw[if_neg h1];exact h
theorem readEnt_z (b:Ly) (p:Nat) (h:(readEntF b p).2≠0):(readEntF b p).1=ent0:=by
  unfold readEntF at h ⊢
  split
  · rfl
  rename_i h1
  rw[if_neg h1]at h
  unfold entY at h ⊢
  split
  · rfl
  split
  · rfl
  rename_i h2 h3;rw[if_neg h2,if_neg h3]at h;exact absurd rfl h
theorem ent_no2 {s p c:Nat} {b:Ly} (h:(entAt s b p).2=c) (hc:c≠0):entAt s b p=(ent0,c):=by
  refine Prod.ext ?_ h
  rw[← h]at hc
  unfold entAt at hc ⊢
  split
  · rfl
  rename_i h1;rw[if_neg h1]at hc;exact readEnt_z b p hc
end Go.Wk
namespace Go.Wk
open Go Go.RowKit
theorem dat_len {s p c:Nat} {b:Ly} {d:Dat} (h:datAt s b p=(d,c)):d.payload.length≤b.length:=by
  unfold datAt at h
  split at h
  · cases h;simp[dat0]
  unfold readDatF at h
  repeat' split at h
  all_goals (cases h;simp[dat0];try omega)
def payAt (k:Bool) (f:Ly) (s:Nat) (b:Ly) (p:Nat):Dat × Nat :=
  if(datAt s b p).2≠0 then(dat0,(datAt s b p).2)
  else if(datAt s b p).1.hash=hashN k f (datAt s b p).1.payload then datAt s b p
  else(dat0,9)
theorem pay_in {k:Bool} {f b:Ly} {s p c:Nat} (h:(datAt s b p).2=c) (hc:c≠0):(payAt k f s b p).2=c:=by
  unfold payAt;rw[h,if_pos hc]
theorem pay_yes {k:Bool} {f b:Ly} {s p n:Nat} {d:Dat} (h:datAt s b p=(d,0)) (hh:hashN k f d.payload=n) (e:d.hash=n):payAt k f s b p=(d,0):=by
  unfold payAt;rw[h,if_neg (by simp),if_pos (e.trans hh.symm)]
theorem pay_9 {k:Bool} {f b:Ly} {s p n:Nat} {d:Dat} (h:datAt s b p=(d,0)) (hh:hashN k f d.payload=n) (e:¬d.hash=n):(payAt k f s b p).2=9:=by
  unfold payAt;rw[h,if_neg (by simp),if_neg (fun h=>e (h.trans hh))]
theorem pay_len {k:Bool} {f b:Ly} {s p c:Nat} {d:Dat} (h:payAt k f s b p=(d,c)):d.payload.length≤b.length:=by
  unfold payAt at h
  split at h
  · cases h;simp[dat0]
  split at h
  · exact dat_len h
  cases h;simp[dat0]
theorem pay_z {k:Bool} {f b:Ly} {s p:Nat} (h:(payAt k f s b p).2≠0):(payAt k f s b p).1=dat0:=by
  unfold payAt at h ⊢
  split
  · rfl
  rename_i h1
  rw[if_neg h1]at h
  split
  · rename_i h2;rw[if_pos h2]at h;exact absurd h h1
  rfl
def payB (k:Bool) (f:Ly) (s:Nat) (b:Ly) (p:Nat):List UInt8 × Nat:=((payAt k f s b p).1.payload,(payAt k f s b p).2)
theorem payB_no {k:Bool} {f b:Ly} {s p c:Nat} (h:(payAt k f s b p).2=c) (hc:c≠0):payB k f s b p=([],c):=by
  unfold payB
  rw[pay_z (by rw[h];exact hc),h]
  rfl
def splitF (l:Ly):Pr × Nat:=({name:=(splitP l).1,value:=(splitP l).2},(splitC l).toNat)
theorem splitC_lt (l:Ly):0≤splitC l∧splitC l<100:=by
  unfold splitC
  repeat' split
  all_goals omega
theorem splitC_nat (l:Ly):splitC l=(((splitC l).toNat:Nat):Int):=(Int.toNat_of_nonneg (splitC_lt l).1).symm
theorem splitF_lt (l:Ly):(splitC l).toNat<9223372036854775808:=by have:=splitC_lt l;omega
end Go.Wk
namespace Go.Wk
open Go Go.RowKit
def rec0:Rec:={seq:=0,real:=0,mono:=0,boot:=idZ,fields:=[]}
def recGo (k:Bool) (f:Ly) (s:Nat) (b:Ly):List Itm→List Pr→List (List UInt8)→(List Pr × List (List UInt8)) × Nat
  | [],fs,all=>((fs,all),0)
  | x :: r,fs,all =>
    if(payAt k f s b x.pos).2≠0 then(([],[]),(payAt k f s b x.pos).2)
    else if(payAt k f s b x.pos).1.hash≠x.hash then(([],[]),9)
    else if(splitF (payAt k f s b x.pos).1.payload).2≠0 then(([],[]),(splitF (payAt k f s b x.pos).1.payload).2)
    else recGo k f s b r (fs ++ [(splitF (payAt k f s b x.pos).1.payload).1]) (all ++ [(payAt k f s b x.pos).1.payload])
section
variable {k:Bool} {f b:Ly} {s p i c:Nat} {l:List Itm} {x:Itm} {d:Dat} {fs:List Pr} {all:List (List UInt8)} {q:Pr} {e:Ent} {r:Rec}
theorem recGo_end (h:¬i<l.length):recGo k f s b (l.drop i) fs all=((fs,all),0):=by rw[drop_end (by omega)];rfl
theorem recGo_pay (h:l[i]? = some x) (hp:(payAt k f s b x.pos).2=c) (hc:c≠0):recGo k f s b (l.drop i) fs all=(([],[]),c):=by
  rw[drop_get h];unfold recGo;rw[hp,if_pos hc]
theorem recGo_9 (h:l[i]? = some x) (hp:payAt k f s b x.pos=(d,0)) (hn:¬d.hash=x.hash):recGo k f s b (l.drop i) fs all=(([],[]),9):=by
  rw[drop_get h];unfold recGo;rw[hp,if_neg (by simp),if_pos hn]
theorem recGo_split (h:l[i]? = some x) (hp:payAt k f s b x.pos=(d,0)) (hn:d.hash=x.hash) (hs:splitF d.payload=(q,c)) (hc:c≠0):recGo k f s b (l.drop i) fs all=(([],[]),c):=by
  rw[drop_get h];unfold recGo;rw[hp,if_neg (by simp),if_neg (by simpa using hn),hs,if_pos hc]
theorem recGo_step (h:l[i]? = some x) (hp:payAt k f s b x.pos=(d,0)) (hn:d.hash=x.hash) (hs:splitF d.payload=(q,0)):recGo k f s b (l.drop i) fs all=recGo k f s b (l.drop (i+1)) (fs ++ [q]) (all ++ [d.payload]):=by
  rw[drop_get h];conv=>lhs;unfold recGo
  rw[hp,if_neg (by simp),if_neg (by simpa using hn),hs,if_neg (by simp)]
def recF (k:Bool) (f:Ly) (s:Nat) (b:Ly) (p:Nat):Rec × Nat :=
  if(entAt s b p).2≠0 then(rec0,(entAt s b p).2)
  else if 16<(entAt s b p).1.items.length then(rec0,21)
  else if(recGo k f s b (entAt s b p).1.items [] []).2≠0 then(rec0,(recGo k f s b (entAt s b p).1.items [] []).2)
  else if(entAt s b p).1.xor=xorF 0 (recGo k f s b (entAt s b p).1.items [] []).1.2 then({seq:=(entAt s b p).1.seq,real:=(entAt s b p).1.real,mono:=(entAt s b p).1.mono,boot:=(entAt s b p).1.boot,fields:=(recGo k f s b (entAt s b p).1.items [] []).1.1},0)
  else(rec0,10)
theorem rec_in (h:(entAt s b p).2=c) (hc:c≠0):(recF k f s b p).2=c:=by unfold recF;rw[h,if_pos hc]
theorem rec_21 (h:entAt s b p=(e,0)) (hl:16<e.items.length):(recF k f s b p).2=21:=by unfold recF;rw[h,if_neg (by simp),if_pos hl]
theorem rec_go {y:List Pr × List (List UInt8)} (h:entAt s b p=(e,0)) (hl:¬16<e.items.length) (hg:recGo k f s b e.items [] []=(y,c)) (hc:c≠0):(recF k f s b p).2=c:=by
  unfold recF;rw[h,if_neg (by simp),if_neg hl,hg,if_pos hc]
theorem rec_10 {n:Nat} (h:entAt s b p=(e,0)) (hl:¬16<e.items.length) (hg:recGo k f s b e.items [] []=((fs,all),0)) (hx:xorF 0 all=n) (hn:¬e.xor=n):(recF k f s b p).2=10:=by
  unfold recF;rw[h,if_neg (by simp),if_neg hl,hg,if_neg (by simp),if_neg (by rw[hx];exact hn)]
structure RecOk (e:Ent) (r:Rec):Prop where
  seq:r.seq=e.seq
  real:r.real=e.real
  mono:r.mono=e.mono
  boot:r.boot=e.boot
theorem rec_ok {n:Nat} (h:entAt s b p=(e,0)) (hl:¬16<e.items.length) (hr:RecOk e r) (hg:recGo k f s b e.items [] []=((r.fields,all),0)) (hx:xorF 0 all=n) (hn:e.xor=n):recF k f s b p=(r,0):=by
  unfold recF;rw[h,if_neg (by simp),if_neg hl,hg,if_neg (by simp),if_pos (by rw[hx];exact hn)]
  obtain⟨E,F,G,H,I⟩:=r
  obtain⟨A,B,C,D⟩:=hr
  simp only at A B C D
  subst A;subst B;subst C;subst D
  rfl
theorem all_len {n:Nat} {y:Ly} (h:∀x∈all,x.length≤n) (hy:y.length≤n):∀x∈all ++ [y],x.length≤n:=by
  intro x B
  rcases List.mem_append.1 B with A|A
  · exact h x A
  simp at A;subst A;exact hy
theorem rec_z (h:(recF k f s b p).2≠0):(recF k f s b p).1=rec0:=by
  unfold recF at h ⊢
  split
  · rfl
  split
  · rfl
  split
  · rfl
  split
  · rename_i h1 h2 h3 h4;rw[if_neg h1,if_neg h2,if_neg h3,if_pos h4]at h;exact absurd rfl h
  rfl
theorem rec_no2 (h:(recF k f s b p).2=c) (hc:c≠0):recF k f s b p=(rec0,c):=by
  refine Prod.ext ?_ h
  exact rec_z (by rw[h];exact hc)
end
end Go.Wk
namespace Go.Wk
open Go Go.RowKit
section
variable {b x:Ly} {p c:Nat}
theorem rEnt_body (h:rbodyF b p 3=(x,c)):bodyF b p 3 48 16=if c≠0 then([],c)else if x.length<64∨x.length%16≠0 then([],5)else(x,0):=by
  by_cases hc:c≠0
  · rw[if_pos hc]
    unfold rbodyF at h
    unfold bodyF
    split at h
    · rename_i A;rw[if_pos A];cases h;rfl
    rename_i A
    rw[if_neg A]
    split at h
    · rename_i B;rw[if_pos B];cases h;rfl
    cases h;exact absurd rfl hc
  rw[if_neg hc]
  obtain⟨A,B,C,D,E,F⟩:=rbody_ok h hc
  unfold bodyF
  rw[if_neg (by omega),if_neg (by omega)]
  by_cases hx:x.length<64∨x.length%16≠0
  · rw[if_pos hx,if_pos (by omega)]
  rw[if_neg hx,if_neg (by omega),← C]
theorem rEnt_no (h:rbodyF b p 3=(x,c)) (hc:c≠0):readEntF b p=(ent0,c):=ent_no (by rw[rEnt_body h,if_pos hc]) hc
theorem rEnt_5 (h:rbodyF b p 3=(x,c)) (hc:¬c≠0) (hx:x.length<64∨x.length%16≠0):readEntF b p=(ent0,5):=ent_no (x:=[]) (by rw[rEnt_body h,if_neg hc,if_pos hx]) (by decide)
theorem rEnt_y (h:rbodyF b p 3=(x,c)) (hc:¬c≠0) (hx:¬x.length<64∧¬x.length%16≠0):readEntF b p=entY x:=ent_yes (c:=0) (by rw[rEnt_body h,if_neg hc,if_neg (by omega)]) (by simp)
theorem rEnt_13 (h:rbodyF b p 3=(x,c)) (hc:¬c≠0) (hx:¬x.length<64∧¬x.length%16≠0) (h0:at8 x 0=0):readEntF b p=(ent0,13):=by rw[rEnt_y h hc hx,entY,if_pos h0]
theorem items_get (x:Ly) (o:Nat) {n j:Nat}:(itemsAt x o n)[j]? = if j<n then some {pos:=at8 x (o+16*j),hash:=at8 x (o+16*j+8)} else none:=by
  unfold itemsAt
  rw[List.getElem?_map]
  by_cases h:j<n
  · rw[if_pos h,List.getElem?_range h];rfl
  rw[if_neg h,List.getElem?_eq_none (by simpa using h)];rfl
theorem rEnt_11 {its:List Itm} {n k:Nat} {u v:Itm} (h:rbodyF b p 3=(x,c)) (hc:¬c≠0) (hx:¬x.length<64∧¬x.length%16≠0) (h0:¬at8 x 0=0) (hi:its=itemsAt x 48 ((k+16-48)/16)) (hk:k<x.length) (h8:k%16=0∧48≤k) (hu:its[n]? = some u) (hv:its[n-1]? = some v) (hn:0<n) (hle:u.pos≤v.pos):readEntF b p=(ent0,11):=by
  rw[rEnt_y h hc hx,entY,if_neg h0,if_pos]
  cases B:riseB (entX x).items with
  | false=>rfl
  | true =>
    have hr':=(riseB_iff _).1 B (n-1) v u
    have e:∀j y,its[j]? = some y→(entX x).items[j]? = some y:=fun j y A=>by
      rw[hi,items_get]at A
      split at A
      · rename_i hl
        show(itemsAt x 48 ((x.length-48)/16))[j]? = _
        rw[items_get,if_pos (by omega)];exact A
      · cases A
    have:=hr' (e _ _ hv) (by rw[show n-1+1=n by omega];exact e _ _ hu)
    omega
theorem rEnt_ok {o:Ent} {k:Nat} (h:rbodyF b p 3=(x,c)) (hc:¬c≠0) (hx:¬x.length<64∧¬x.length%16≠0) (h0:¬at8 x 0=0) (e1:o.seq=at8 x 0) (e2:o.real=at8 x 8) (e3:o.mono=at8 x 16) (e4:o.boot=(x.drop 24).take 16) (e5:o.xor=at8 x 40) (hi:o.items=itemsAt x 48 ((k-48)/16)) (hk:k=x.length) (hr:riseB o.items=true):readEntF b p=(o,0):=by
  have A:entX x=o:=by
    obtain⟨B,C,D,E,F,G⟩:=o
    simp only at e1 e2 e3 e4 e5 hi
    subst e1;subst e2;subst e3;subst e4;subst e5;subst hi;subst hk
    rfl
  rw[rEnt_y h hc hx,entY,if_neg h0,A,if_neg (by rw[hr];simp)]
theorem rise_app1 {l:List Itm} {y:Itm} (h:riseB l=true) (hl:∀n u,n+1=l.length→l[n]? = some u→u.pos<y.pos):riseB (l ++ [y])=true:=by
  rw[riseB_iff]at h ⊢
  intro j u v B A
  rw[List.getElem?_append]at B A
  by_cases h2:j+1<l.length
  · rw[if_pos (by omega)]at B
    rw[if_pos h2]at A
    exact h j u v B A
  rw[if_neg h2]at A
  have C:j+1-l.length=0:=by
    have:=(List.getElem?_eq_some_iff.1 A).1
    simp at this;omega
  rw[C]at A
  simp at A
  subst A
  rw[if_pos (by omega)]at B
  exact hl j u (by omega) B
theorem rItems_step {l:List Itm} {k u v:Nat} (hl:l=itemsAt x 48 ((k-48)/16)) (hk:k%16=0∧48≤k) (hu:at8 x k=u) (hv:at8 x (k+8)=v):l ++ [{pos:=u,hash:=v}]=itemsAt x 48 ((k+16-48)/16):=by
  rw[show(k+16-48)/16=(k-48)/16+1 by omega,itemsAt_succ,hl,show 48+16*((k-48)/16)=k by omega,hu,hv]
theorem rise_nx {l m:List Itm} {y:Itm} (hs:m=l ++ [y]) (h:riseB l=true) (hc:l.length=0∨∃a c:Itm,m[l.length]? = some a∧m[l.length-1]? = some c∧0<l.length∧¬a.pos≤c.pos):riseB m=true:=by
  subst hs
  refine rise_app1 h fun n u F C=>?_
  rcases hc with hc|⟨a,c,A,B,D,E⟩
  · omega
  rw[List.getElem?_append_right (Nat.le_refl _),Nat.sub_self]at A
  simp at A
  subst A
  rw[List.getElem?_append_left (by omega),show l.length-1=n by omega,C]at B
  cases B
  omega
theorem boot_step {e:Ly} {i:Nat} {y:UInt8} (he:e.length=16) (hi:i<16) (ht:e.take i=(x.drop 24).take i) (hy:x[24+i]? = some y):(e.set i y).take (i+1)=(x.drop 24).take (i+1):=by
  rw[List.take_add_one,List.take_add_one,List.getElem?_set_self (by omega),List.getElem?_drop,hy,List.take_set_of_le (Nat.le_refl _),ht]
theorem ent_bset {e:Ent} {v:Value} {i:Nat} {y:UInt8} (he:e.boot.length=16) (hi:i<16):(Ent.cells e v).set (3+i) (b8 y)=Ent.cells {e with boot:=e.boot.set i y} v:=by
  have A:idc (e.boot.set i y)=(idc e.boot).set i (b8 y):=by rw[idc_map he,idc_map (by simpa using he),List.map_set]
  unfold Ent.cells
  have B:(idc e.boot).length=16:=rfl
  rw[A,List.set_append_right _ _ (by simp<;>omega),List.set_append_right _ _ (by simp<;>omega),List.set_append_right _ _ (by simp<;>omega),List.set_append_left _ _ (by simp only[List.length_singleton,B];omega)]
  simp only[List.length_singleton,show 3+i-1-1-1=i by omega]
end
section
variable {k:Bool} {f b:Ly} {s p c n:Nat} {d:Dat}
def rpayF (k:Bool) (f:Ly) (s:Nat) (b:Ly) (p:Nat):List UInt8 × Nat × Nat:=((payAt k f s b p).1.payload,(payAt k f s b p).1.hash,(payAt k f s b p).2)
theorem rpay_no (h:datAt s b p=(d,c)) (hc:c≠0):rpayF k f s b p=([],0,c):=by
  unfold rpayF payAt;rw[h];simp only;rw[if_pos hc];rfl
theorem rpay_9 (h:datAt s b p=(d,c)) (hc:¬c≠0) (hh:hashN k f d.payload=n) (e:¬d.hash=n):rpayF k f s b p=([],0,9):=by
  have A:c=0:=Classical.not_not.1 hc
  subst A;subst hh
  unfold rpayF payAt;rw[h];simp only;rw[if_neg (by simp),if_neg e];rfl
theorem rpay_yes (h:datAt s b p=(d,c)) (hc:¬c≠0) (hh:hashN k f d.payload=n) (e:d.hash=n):rpayF k f s b p=(d.payload,d.hash,0):=by
  have A:c=0:=Classical.not_not.1 hc
  subst A;subst hh
  unfold rpayF payAt;rw[h];simp only;rw[if_neg (by simp),if_pos e]
theorem rpay_at {q:Ly} {h:Nat} (e:rpayF k f s b p=(q,h,c)):(payAt k f s b p).1.payload=q∧(payAt k f s b p).1.hash=h∧(payAt k f s b p).2=c:=by
  unfold rpayF at e
  simp only[Prod.mk.injEq]at e
  exact e
end
section
variable {k:Bool} {f b:Ly} {s p i c n m:Nat} {l:List Itm} {x:Itm} {fs:List Pr} {all:List (List UInt8)} {q:Ly} {w:Pr}
theorem cz {α:Type} {x:α × Nat} {a:α} {c:Nat} (h:x=(a,c)) (hc:¬c≠0):x=(a,0):=by rw[h,Classical.not_not.1 hc]
theorem rpay_z (e:rpayF k f s b p=(q,n,c)) (hc:¬c≠0):∃d:Dat,payAt k f s b p=(d,0)∧d.payload=q∧d.hash=n:=by
  obtain⟨A,B,C⟩:=rpay_at e
  exact⟨(payAt k f s b p).1,Prod.ext rfl (C.trans (Classical.not_not.1 hc)),A,B⟩
theorem rgo_9 (h:l[i]? = some x) (e:rpayF k f s b x.pos=(q,n,c)) (hc:¬c≠0) (hn:n≠x.hash):recGo k f s b (l.drop i) fs all=(([],[]),9):=by
  obtain⟨d,A,C,B⟩:=rpay_z e hc
  exact recGo_9 h A (by rw[B];exact hn)
theorem rgo_split (h:l[i]? = some x) (e:rpayF k f s b x.pos=(q,n,c)) (hc:¬c≠0) (hn:¬n≠x.hash) (hs:splitF q=(w,m)) (hm:m≠0):recGo k f s b (l.drop i) fs all=(([],[]),m):=by
  obtain⟨d,A,B,C⟩:=rpay_z e hc
  subst B
  exact recGo_split h A (by rw[C];exact Classical.not_not.1 hn) hs hm
theorem rgo_step (h:l[i]? = some x) (e:rpayF k f s b x.pos=(q,n,c)) (hc:¬c≠0) (hn:¬n≠x.hash) (hs:splitF q=(w,m)) (hm:¬m≠0):recGo k f s b (l.drop i) fs all=recGo k f s b (l.drop (i+1)) (fs ++ [w]) (all ++ [q]):=by
  obtain⟨d,A,B,C⟩:=rpay_z e hc
  subst B
  exact recGo_step h A (by rw[C];exact Classical.not_not.1 hn) (cz hs hm)
theorem rpay_len (e:rpayF k f s b p=(q,n,c)):q.length≤b.length:=by
  rw[← (rpay_at e).1];exact pay_len (d:=(payAt k f s b p).1) (c:=(payAt k f s b p).2) rfl
theorem rFld_no {b x:Ly} {p c:Nat} (h:rbodyF b p 2=(x,c)) (hc:c≠0):readFldF b p=(fld0,c):=by
  unfold rbodyF at h
  unfold readFldF
  split at h
  · rename_i h1;rw[if_pos h1,show(frameF b p).2=c from congrArg Prod.snd h]
  rename_i h1;rw[if_neg h1]
  split at h
  · rename_i h2;rw[if_pos h2,show 4=c from congrArg Prod.snd h]
  exact absurd (congrArg Prod.snd h).symm hc
theorem rFld_5 {b x:Ly} {p c:Nat} (h:rbodyF b p 2=(x,c)) (hc:¬c≠0) (hx:x.length≤24):readFldF b p=(fld0,5):=by
  obtain⟨A,B,C,D,E,F⟩:=rbody_ok h hc
  unfold readFldF
  rw[if_neg (by omega),if_neg (by omega),if_pos (by omega)]
theorem rFld_ok {b x:Ly} {p c:Nat} (h:rbodyF b p 2=(x,c)) (hc:¬c≠0) (hx:¬x.length≤24):readFldF b p=({hash:=at8 x 0,nextHash:=at8 x 8,dat:=at8 x 16,payload:=x.drop 24},0):=by
  obtain⟨C,D,A,E,B,F⟩:=rbody_ok h hc
  have e:∀i,i+8≤24→at8 x i=at8 b (p+16+i):=fun i G=>by rw[A,at8_sub (by omega) B]
  unfold readFldF
  rw[if_neg (by omega),if_neg (by omega),if_neg (by omega),e 0 (by omega),e 8 (by omega),e 16 (by omega)]
  refine Prod.ext ?_ rfl
  simp only[Fld.mk.injEq,true_and]
  rw[A]
  apply List.ext_getElem?
  intro j
  simp only[List.getElem?_take,List.getElem?_drop]
  by_cases hj:j<(frameF b p).1.size-40
  · rw[if_pos hj,if_pos (by omega)];congr 1;omega
  rw[if_neg hj,if_neg (by omega)]
end
end Go.Wk
namespace Go.Wk
open Go Go.RowKit
def fieldOne (P:Program) (s:TypeId) (f:Nat):Option Nat :=
  match P.underlying s with
  | some (.struct fs)=>match fs[f]? with
    | some x=>cond (isOne P x.type) (some x.offset) none
    | none=>none
  | _=>none
section
variable {P:Program} {n:Nat} {A:Fr n} {D:List Deferred} {l:List (Nat × Value)} {w:World} {d:Option Tmp} {ty:TypeId} {ps:String} {af:Array Edge} {g:Option (Nat × Bool)}
theorem r_fieldV {x:Operand} {s:TypeId} {f off:Nat} {cs:List Value} {u:Value} (hf:fieldOne P s f=some off) (hx:ev n l x=some (.agg cs.toArray)) (hc:cs[off]? = some u) :
    RunV P ⟨d,.field s x f,ty,ps,af,g⟩ (over A D l).eval w u:=by
  unfold fieldOne at hf
  split at hf
  · rename_i fs hu
    split at hf
    · rename_i y hy
      cases h1:isOne P y.type with
      | false=>rw[h1]at hf;cases hf
      | true =>
        rw[h1]at hf
        simp only[cond_true,Option.some.injEq]at hf
        subst hf
        simp[RunV,execOp,ev_eval hx,Instr.field,run_underlying hu,hy,part,run_isAgg_one h1,asAgg,hc]
    cases hf
  cases hf
end
section
variable {P:Program} {n:Nat} {A:Fr n} {D:List Deferred} {l:List (Nat × Value)} {w:World} {d:Option Tmp} {ty:TypeId} {ps:String} {af:Array Edge} {g:Option (Nat × Bool)}
end
end Go.Wk
namespace Go.Wk
open Go Go.RowKit
end Go.Wk
namespace Go.Wk
open Go Go.RowKit
theorem same_len {a b:List Nat} (h:a.length≠b.length):decide (a=b)=false:=decide_eq_false (fun e=>h (by rw[e]))
theorem same_no {a b:List Nat} {i x y:Nat} (h:a[i]? = some x) (h2:b[i]? = some y) (hn:x≠y):decide (a=b)=false:=decide_eq_false (fun e=>hn (by subst e;rw[h]at h2;exact Option.some.inj h2))
theorem same_yes {a b:List Nat} {i:Nat} (h:a.take i=b.take i) (h1:a.length≤i) (h2:a.length=b.length):decide (a=b)=true:=decide_eq_true (by rw[← List.take_of_length_le h1,h,List.take_of_length_le (by omega)])
theorem same_step {a b:List Nat} {i x y:Nat} (h:a.take i=b.take i) (h1:a[i]? = some x) (h2:b[i]? = some y) (he:x=y):a.take (i+1)=b.take (i+1):=by rw[List.take_add_one,List.take_add_one,h,h1,h2,he]
end Go.Wk
namespace Go.Wk
open Go Go.RowKit
section
variable {P:Program} {n:Nat} {A:Fr n} {D:List Deferred} {l:List (Nat × Value)} {w:World} {d:Option Tmp} {ty:TypeId} {ps:String} {af:Array Edge} {g:Option (Nat × Bool)}
theorem r_neqBool {x y:Operand} {t u:TypeId} {a b:Bool} (hT:P.underlying t=some .bool) (hx:ev n l x=some (.bool a)) (hy:ev n l y=some (.bool b)) :
    RunV P ⟨d,.binOp .neq t x y u,ty,ps,af,g⟩ (over A D l).eval w (.bool (a != b)):=by
  have B:(binOp .neq t (.bool a) (.bool b)).run P w = .ok (.bool (a != b)) w:=by
    simp only[binOp,Op.equal,Op.maxDepth,Sem.run_bind,run_equalIn_bool' w 9999 t a b hT,Result.andThen_ok,Sem.run_pure]
    rfl
  have C:(eqGuard .neq t x y (.bool a) (.bool b)).run P w = .ok () w:=by unfold eqGuard;simp
  simp[RunV,execOp,ev_eval hx,ev_eval hy,C,B]
end
theorem open_same {b:Ly} {x:Option PView} {z:Option RView} {c d:Nat} (h:openF b=(x,c)) (h2:rOpenF b=(z,d)):d=c∧z=x.map rview:=by
  unfold rOpenF at h2
  rw[h]at h2
  simp only[Prod.mk.injEq]at h2
  exact⟨h2.2.symm,h2.1.symm⟩
theorem open_fine {b:Ly} {x:Option PView} {z:Option RView} {c d:Nat} (h:openF b=(x,c)) (h2:rOpenF b=(z,d)) (hc:c=0):∃y q,x=some y∧z=some q∧q=rview y∧y.b.length≤b.length:=by
  subst hc
  obtain⟨y,A,_,B⟩:=open_some h
  obtain⟨_,C⟩:=open_same h h2
  exact⟨y,rview y,A,by rw[C,A];rfl,rfl,B⟩
theorem u64_of {z:Int} (h:(Lit.int .u64 z).wf=true):Value.int .u64 z = .int .u64 z.toNat∧z.toNat<18446744073709551616:=by
  simp[Lit.wf,IntKind.min,IntKind.max,IntKind.signed,IntKind.bits]at h
  exact⟨by rw[Int.toNat_of_nonneg (by omega)],by omega⟩
end Go.Wk
namespace Go.Wk
open Go Go.RowKit
def sameRecF (a b:Rec):Bool:=decide (a.seq=b.seq) && (decide (a.real=b.real) && (decide (a.mono=b.mono) && (decide (a.boot=b.boot) && samePairsF a.fields b.fields)))
theorem sameRec_self (a:Rec):sameRecF a a=true:=by
  unfold sameRecF samePairsF;rw[if_pos rfl,eqL_self];simp
end Go.Wk
namespace Go.Wk
open Go Go.RowKit
end Go.Wk
namespace Go.Wk
open Go Go.RowKit
def sameDatF (a b:Dat):Bool:=decide (a.hash=b.hash) && (decide (a.nextHash=b.nextHash) && (decide (a.nextField=b.nextField) && (decide (a.entry=b.entry) && (decide (a.array=b.array) && (decide (a.count=b.count) && decide (a.payload=b.payload))))))
theorem sameDat_self (a:Dat):sameDatF a a=true:=by unfold sameDatF;simp
theorem rv_all {v:PView} {q:RView} (h:q=rview v):q.b=v.b∧q.h.n.getD 0 0=v.h.n.getD 0 0∧q.h.incompat=v.h.incompat∧q.h.file=v.h.file:=by
  subst h
  exact⟨rfl,rhead_n (by omega),rfl,rfl⟩
theorem pr_eq {α β:Type} {x:α × β} {a c:α} {b d:β} (h:x=(a,b)) (h2:x=(c,d)):a=c∧b=d:=by
  rw[h]at h2;cases h2;exact⟨rfl,rfl⟩
theorem pay_eq {k:Bool} {f b:Ly} {s p c m n:Nat} {x y:Ly} (h:payB k f s b p=(x,c)) (h2:rpayF k f s b p=(y,n,m)):x=y∧c=m:=by
  obtain⟨A,_,B⟩:=rpay_at h2
  unfold payB at h
  rw[A,B]at h
  cases h;exact⟨rfl,rfl⟩
end Go.Wk
