/- Part 8 of what the walk of a law stands on: VSeq2, VSeq3, VSeq4, VSeq5, VSeq6, VMake, VMake2, VSpo, VCf, VWi, VArr1, VArray, VLsay, VEnt, LdP, HsP, HsQ, HsR, HsS, HsU, InsP, VCy, OpensS, OpensR. No statement is proved here. -/
import Derived.Test.YtllaambooilnlaaGreatCYH7
import Derived.Test.YtllaambooilnlaaGreatRows
namespace Go.Proofs.YtllaambooilnlaaGreat
open Go Go.Wk Go.RowKit
set_option linter.unusedVariables false
set_option linter.unusedSimpArgs false
attribute [local irreducible] wpList wpQuiet wpStill wpMix Code.wp Calls bodyPost
variable {w:World} {Q:Nat→Prop}
theorem elT9:elT Zp 9 1 16=true:=by kernel_rfl
theorem u36:Zp.underlying 36=some (.slice 9):=by kernel_rfl
theorem z44:zcells Zp 44=some (List.replicate 16 (.int .u8 0)):=by kernel_rfl
theorem kNames_any (uQ:Up w Q)  :
  Calls Zp 11 #[] w fun en w'=>∃u0:Value,∃r0:List (List UInt8),en = .returned (u0)∧Md [] w w'∧Ls tStr w' Q u0 r0∧namesF=r0:=by
 have M:=Md.refl [] w;have J:=uQ;have I:∀b,Q b→Q b:=fun _ h=>h;refine enter (n:=2) Tryz.func11 q q q fun B=>ns (an q (ns (st_buildSliceG [[(str (([65]:Ly)))],[(str (([66]:Ly)))],[(str (([77,69,83,83,65,71,69]:Ly)))],[(str (([95,80,73,68]:Ly)))],[(str (([88,95,49]:Ly)))],[(str (([80,82,73,79,82,73,84,89]:Ly)))]] u36 elT9 (by decide) (by decide) q q ⟨q,q,q,q,q,q,tV⟩ ⟨q,q,q,q,q,q,tV⟩ q (by decide) ?_)));intro C K D H G A;have E:=uQ _ D;replace M:=M.k G;replace A:=Ls.of_blk (m:=6) (R:=Q) (T:=tStr) (xs:=[([65]:Ly),([66]:Ly),([77,69,83,83,65,71,69]:Ly),([95,80,73,68]:Ly),([88,95,49]:Ly),([80,82,73,79,82,73,84,89]:Ly)]) A ⟨_,_,q,⟨q,tV⟩,⟨_,_,q,⟨q,tV⟩,⟨_,_,q,⟨q,tV⟩,⟨_,_,q,⟨q,tV⟩,⟨_,_,q,⟨q,tV⟩,⟨_,_,q,⟨q,tV⟩,q⟩⟩⟩⟩⟩⟩ q (by decide) E;refine ar q ?_;exact ret1L (v:=(.slice (some ⟨C,0,none⟩) 6 6)) trivial q ⟨q,tV⟩ ⟨_,([([65]:Ly),([66]:Ly),([77,69,83,83,65,71,69]:Ly),([95,80,73,68]:Ly),([88,95,49]:Ly),([80,82,73,79,82,73,84,89]:Ly)]),q,M,(A.sub (fun b F _=>I b F)),(by rw[namesF]<;>simp(disch:=first|omega|assumption|simp) only [SS,reduceIte])⟩
theorem kValues_any (uQ:Up w Q)  :
  Calls Zp 12 #[] w fun en w'=>∃u0:Value,∃r0:List (List UInt8),en = .returned (u0)∧Md [] w w'∧Ls tStr w' Q u0 r0∧valuesF=r0:=by
 have M:=Md.refl [] w;have J:=uQ;have I:∀b,Q b→Q b:=fun _ h=>h;refine enter (n:=2) Tryz.func12 q q q fun B=>ns (an q (ns (st_buildSliceG [[(str (([]:Ly)))],[(str (([48]:Ly)))],[(str (([49]:Ly)))],[(str (([50,50]:Ly)))],[(str (([97,61,98]:Ly)))],[(str (([111,110,101,10,116,119,111]:Ly)))],[(str (([0,255]:Ly)))],[(str (([116,97,98,9,104,101,114,101]:Ly)))],[(str (([108,111,110,103,32,108,111,110,103,32,108,111,110,103,32,108,111,110,103,32,108,111,110,103,32,108,111,110,103,32,108,111,110,103]:Ly)))],[(str (([126,127,128]:Ly)))]] u36 elT9 (by decide) (by decide) q q ⟨q,q,q,q,q,q,q,q,q,q,tV⟩ ⟨q,q,q,q,q,q,q,q,q,q,tV⟩ q (by decide) ?_)));intro C K D H G A;have E:=uQ _ D;replace M:=M.k G;replace A:=Ls.of_blk (m:=10) (R:=Q) (T:=tStr) (xs:=[([]:Ly),([48]:Ly),([49]:Ly),([50,50]:Ly),([97,61,98]:Ly),([111,110,101,10,116,119,111]:Ly),([0,255]:Ly),([116,97,98,9,104,101,114,101]:Ly),([108,111,110,103,32,108,111,110,103,32,108,111,110,103,32,108,111,110,103,32,108,111,110,103,32,108,111,110,103,32,108,111,110,103]:Ly),([126,127,128]:Ly)]) A ⟨_,_,q,⟨q,tV⟩,⟨_,_,q,⟨q,tV⟩,⟨_,_,q,⟨q,tV⟩,⟨_,_,q,⟨q,tV⟩,⟨_,_,q,⟨q,tV⟩,⟨_,_,q,⟨q,tV⟩,⟨_,_,q,⟨q,tV⟩,⟨_,_,q,⟨q,tV⟩,⟨_,_,q,⟨q,tV⟩,⟨_,_,q,⟨q,tV⟩,q⟩⟩⟩⟩⟩⟩⟩⟩⟩⟩ q (by decide) E;refine ar q ?_;exact ret1L (v:=(.slice (some ⟨C,0,none⟩) 10 10)) trivial q ⟨q,tV⟩ ⟨_,([([]:Ly),([48]:Ly),([49]:Ly),([50,50]:Ly),([97,61,98]:Ly),([111,110,101,10,116,119,111]:Ly),([0,255]:Ly),([116,97,98,9,104,101,114,101]:Ly),([108,111,110,103,32,108,111,110,103,32,108,111,110,103,32,108,111,110,103,32,108,111,110,103,32,108,111,110,103,32,108,111,110,103]:Ly),([126,127,128]:Ly)]),q,M,(A.sub (fun b F _=>I b F)),(by rw[valuesF]<;>simp(disch:=first|omega|assumption|simp) only [SS,reduceIte])⟩
theorem kID_any (uQ:Up w Q) (k:Int) (a0:(-9223372036854775808≤k∧k<9223372036854775808)) :
  Calls Zp 63 #[(.int .i64 (k:Int))] w fun en w'=>∃r0:List UInt8,en = .returned (.agg (idc r0).toArray)∧Md [] w w'∧r0.length=16∧idF k=r0:=by
 have M:=Md.refl [] w;have c:=uQ;refine enter (n:=10) Tryz.func63 q q q fun B=>ns (st_alloc z44 ?_);intro N f I U E A;obtain⟨d,Y,Z,W,H⟩:=exQ uQ I U E;replace I:=ly M.size I;replace M:=M.k E;replace uQ:=H;clear H Y Z;have L:Fsh [] w N:=.inr I;replace A:Blk _ _ (idc idZ) _:=A;refine nt (ns (st_alloc z44 ?_));intro O g J V E C;have S:N≠O:=(by have:=A.lt;omega);obtain⟨e,Y,Z,X,H⟩:=exQ uQ J V E;replace J:=ly M.size J;obtain⟨A,M⟩:=k2 E A M;replace uQ:=H;clear H Y Z;have G:Fsh [] w O:=.inr J;replace C:Blk _ _ (idc idZ) _:=C;refine nt (nm q (st_call fn55 q (kNumber_any uQ (k) (by omega) 5 (by omega) (by omega)) ?_));rintro en h ⟨D,rfl,E,b,P⟩;refine rv ?_;obtain⟨A,C,M⟩:=k3 E A C M;have K:=numF_lt k 5;rw[P]at K;try simp only[LL,Nat.reduceAdd,Nat.reduceMul]at K
 refine st _ ((r_convW (a:=D) 256 q q (by rw[u3];rfl) u5 q).to (b8_of _)) (st _ ((r_indexArrN (i:=0) 1 q q u44 el5 (by decide))) (st_store q q one5 q C (lB q) ?_));have F:=C;clear C;intro j E C;replace A:=A.md E (by intro T;simp at T;omega);replace M:=M.step E (hI G);clear F;replace C:Blk _ _ (idc (idZ.set 0 94)) _:=C;refine st _ ((r_indexArrN (i:=15) 1 q q u44 el5 (by decide))) (st_store q q one5 q C (lB q) ?_);have F:=C;clear C;intro l E C;replace A:=A.md E (by intro T;simp at T;omega);replace M:=M.step E (hI G);clear F;replace C:Blk _ _ (idc ((idZ.set 0 94).set 15 (UInt8.ofNat D))) _:=C;refine nt (ns (st _ (r_loadPart (idc ((idZ.set 0 94).set 15 (UInt8.ofNat D))) q (by exact agg44) C q) (st_storeAgg (us:=(idc ((idZ.set 0 94).set 15 (UInt8.ofNat D)))) q q (by exact agg44) (by exact one_idc _) A (lB q) ?_)));have R:=A;clear A;intro o E A;replace M:=M.step E (hI L);clear R;replace A:Blk _ _ (idc ((idZ.set 0 94).set 15 (UInt8.ofNat D))) _:=A;refine nt (c_ret ?_);exact ret1L (v:=(.agg (idc ((idZ.set 0 94).set 15 (UInt8.ofNat D))).toArray)) trivial q ⟨⟨_,q,load_agg (cs:=(idc ((idZ.set 0 94).set 15 (UInt8.ofNat D)))) (by exact agg44) A⟩,tV⟩ ⟨(idZ.set 0 94).set 15 (UInt8.ofNat D),q,M,(by rfl),(by rw[idF]<;>simp(disch:=first|omega|assumption|simp) only [idZ,SS,reduceIte,P])⟩
theorem el9:elemIs Zp 9 1=true:=by kernel_rfl
theorem fn11:isFn Zp 11=true:=by kernel_rfl
theorem fn12:isFn Zp 12=true:=by kernel_rfl
theorem fn33:isFn Zp 33=true:=by kernel_rfl
theorem kPair_any (uQ:Up w Q) {b0:Nat} {v0_0:Value} (s:Sq) (h0:Blk w b0 (Sq.cells s v0_0) 30) (n0:¬Q b0) (a0_0:Sq.ok s) (a0_1:Ls tInt w Q v0_0 s.l) :
  Calls Zp 102 #[.pointer (some ⟨b0,0,none⟩)] w fun en w'=>∃r0:Pr,∃m0:Sq,∃u50_0:Value,en = .returned (.agg (Pr.cells r0).toArray)∧Md [b0] w w'∧Blk w' b0 (Sq.cells m0 u50_0) 30∧¬Q b0∧Sq.ok m0∧Ls tInt w' Q u50_0 m0.l∧s.pair=(r0,m0):=by
 have C:=n0;have y:Fsh [b0] w b0:=.inl (by simp);have M:=Md.refl [b0] w;have Bd:=uQ;have tQ:∀b,Q b→Q b:=fun _ h=>h;refine enter (n:=14) Tryz.func102 q q q fun B=>ns (st_alloc z39 ?_);intro U w1 d A0 D A;have Ax:b0≠U:=(by have:=h0.lt;omega);obtain⟨Q2,sQ,sT,Ab,Aq⟩:=exQ uQ d A0 D;replace C:=nQ C sT;replace tQ:=tT tQ sT;replace d:=ly M.size d;replace a0_1:=(a0_1.sub sQ).o D;obtain⟨h0,M⟩:=k2 D h0 M;replace uQ:=Aq;clear Aq sQ sT;have Ac:Fsh [] w U:=.inr d;replace A:Blk _ _ (Pr.cells (zz1)) _:=A;refine nt (c_seq ?_);have Ai:∀b∈[b0],¬Q2 b:=all_cons C all_nil;refine c_mixT [(1,true),(6,true),(0,false),(2,false),(3,true),(4,true),(5,false),(7,false),(8,true),(9,true)] [10,11] (fun w'=>Md [b0] w1 w') mixed (by kernel_rfl) ?_;intro w3 O;refine⟨O.mono (by simp),?_⟩;have J:=O.mono (T:=[b0]) (by simp);refine mo q (mo q ?_);obtain⟨a0_1,h0,A,uQ,M⟩:=k5 O a0_1 h0 A uQ M;refine m_c ?_ rfl;refine st_call fn11 q (kNames_any uQ) ?_;rintro en w4 ⟨Ar,Au,rfl,D,L,Ad⟩;refine rv ?_;obtain⟨a0_1,h0,A,uQ,M,J⟩:=k6 D a0_1 h0 A uQ M J;have g:=namesF_len;rw[Ad]at g;try simp only[LL,Nat.reduceAdd,Nat.reduceMul]at g
 refine st_nil ⟨q,J,fun w'=>Md [b0] w4 w',Md.refl _ _,fun x z=>J.trans z,?_⟩;have F:=L;replace J:=Md.refl [b0] w4;refine m_c ?_ rfl;refine st_call fn33 q (kN_any uQ s h0 C a0_0 a0_1 6 (by omega) (by omega)) ?_;rintro en w5 ⟨R,t,Ao,rfl,D,A3,W,Y,a,H,Ae⟩;refine rv ?_;have hP:∀i∈[b0],Fsh [b0] w i:=(hI y);have p:∀i∈[b0],¬Q2 i:=(hI C);have E:U∉[b0]:=(nin_cons (by omega) (by simp));replace A:=A.md D E;clear E;replace L:=L.md D p;replace M:=M.step D hP;replace J:=J.step D (fun i hi=>Or.inl (by simpa using hi));replace uQ:=uQ.md D;clear hP p h0 C;have h0:=W;have C:=Y;clear W Y;have j:=Sq.num_le s 6;rw[Ae]at j;try simp only[LL,Nat.reduceAdd,Nat.reduceMul]at j
 refine st_nil ⟨q,J,fun w'=>Md [b0] w5 w',Md.refl _ _,fun x z=>J.trans z,?_⟩;replace F:=L;replace J:=Md.refl [b0] w5;refine mz (fun w' hc=>r_indexN (i:=R) 1 q q u36 el9 L.shp (by omega)) ?_;obtain⟨f,Aa⟩:=getE (l:=Au) (i:=R) (by omega);obtain⟨c7,Az,e⟩:=F.get Aa;obtain⟨rfl,_⟩:=Az;replace e:At _ Ar (R*1) [(str f)]:=e;refine mz (fun w' hc=>(r_loadE (kk:=R*1) 0 q q one9 (e.md hc (F.offS Aa Ai)) q).to (b:=(str f)) q) ?_;refine m_c ?_ rfl;refine st_call fn12 q (kValues_any uQ) ?_;rintro en w8 ⟨As,Av,rfl,D,N,Af⟩;refine rv ?_;obtain⟨h0,A,H,uQ,M,J⟩:=k6 D h0 A H uQ M J;have k:=valuesF_len;rw[Af]at k;try simp only[LL,Nat.reduceAdd,Nat.reduceMul]at k
 refine st_nil ⟨q,J,fun w'=>Md [b0] w8 w',Md.refl _ _,fun x z=>J.trans z,?_⟩;clear F;have G:=N;replace J:=Md.refl [b0] w8;refine m_c ?_ rfl;refine st_call fn33 q (kN_any uQ t h0 C a H 10 (by omega) (by omega)) ?_;rintro en w9 ⟨S,Am,Ap,rfl,D,A4,X,Z,c,I,Ag⟩;refine rv ?_;have hP:∀i∈[b0],Fsh [b0] w i:=(hI y);have p:∀i∈[b0],¬Q2 i:=(hI C);have E:U∉[b0]:=(nin_cons (by omega) (by simp));replace A:=A.md D E;clear E;replace N:=N.md D p;replace M:=M.step D hP;replace J:=J.step D (fun i hi=>Or.inl (by simpa using hi));clear hP p h0 C;have h0:=X;have C:=Z;clear X Z;have o:=Sq.num_le t 10;rw[Ag]at o;try simp only[LL,Nat.reduceAdd,Nat.reduceMul]at o
 refine st_nil ⟨q,J,fun w'=>Md [b0] w9 w',Md.refl _ _,fun x z=>J.trans z,?_⟩;replace G:=N;replace J:=Md.refl [b0] w9;refine mz (fun w' hc=>r_indexN (i:=S) 1 q q u36 el9 N.shp (by omega)) ?_;obtain⟨K,V⟩:=getE (l:=Av) (i:=S) (by omega);obtain⟨Ba,Al,P⟩:=G.get V;obtain⟨rfl,_⟩:=Al;replace P:At _ As (S*1) [(str K)]:=P;refine mz (fun w' hc=>(r_loadE (kk:=S*1) 0 q q one9 (P.md hc (G.offS V Ai)) q).to (b:=(str K)) q) (m_nil ?_);clear G;clear J;refine st _ (r_buildG (us:=[[(str f)],[(str K)]]) (cs:=(Pr.cells (({name:=f,value:=K}:Pr)))) [(0,0,1),(1,1,1)] z39 pl39 q q ⟨q,q,tV⟩ ⟨q,q,tV⟩ q q) (st_storeAgg (us:=(Pr.cells (({name:=f,value:=K}:Pr)))) q q (by exact agg39) (by exact fun u hu=>one_cells (Pr.one) u hu) A (lB q) ?_);have Aj:=A;clear A;intro Bf D A;have p:∀b∈[U],¬Q2 b:=(hI Ab);replace h0:=h0.md D (by intro r;simp at r;omega);replace I:=I.md D p;replace M:=M.step D (hI (Fsh.wid Ac));clear Aj p;replace A:Blk _ _ (Pr.cells (({name:=f,value:=K}:Pr))) _:=A;refine st_nil ?_;clear e;clear P;refine c_then (c_ret ?_);exact ret1L (v:=(.agg (Pr.cells (({name:=f,value:=K}:Pr))).toArray)) trivial q ⟨⟨_,q,load_agg (cs:=(Pr.cells (({name:=f,value:=K}:Pr)))) (by exact agg39) A⟩,tV⟩ ⟨(({name:=f,value:=K}:Pr)),Am,_,q,M,h0,n0,c,(I.sub (fun b r _=>tQ b r)),(by rw[Sq.pair]<;>simp(disch:=first|omega|assumption|simp) only [List.getD_eq_getElem?_getD,SS,reduceIte,Ad,Ae,Aa,Af,Ag,V])⟩
theorem fn102:isFn Zp 102=true:=by kernel_rfl
theorem kPairs_any (uQ:Up w Q) {b0:Nat} {v0_0:Value} (s:Sq) (h0:Blk w b0 (Sq.cells s v0_0) 30) (n0:¬Q b0) (a0_0:Sq.ok s) (a0_1:Ls tInt w Q v0_0 s.l) (most:Nat) (a1:most<9223372036854775808) (p0:most≤1000000) :
  Calls Zp 66 #[.pointer (some ⟨b0,0,none⟩),(.int .i64 most)] w fun en w'=>∃u0:Value,∃r0:List Pr,∃m0:Sq,∃u50_0:Value,en = .returned (u0)∧Md [b0] w w'∧Ls tPr w' Q u0 r0∧Blk w' b0 (Sq.cells m0 u50_0) 30∧¬Q b0∧Sq.ok m0∧Ls tInt w' Q u50_0 m0.l∧s.pairs most=(r0,m0):=by
 have C:=n0;have p:Fsh [b0] w b0:=.inl (by simp);have M:=Md.refl [b0] w;have Am:=uQ;have t:∀b,Q b→Q b:=fun _ h=>h;have J:∀b,Q b→b<w.heap.size→Q b:=fun _ h _=>h;refine enter (n:=21) Tryz.func66 q q q fun B=>ns (an q (ns (asg q (nt (c_seq (ns (m2 q q (st_call fn33 q (kN_any uQ s h0 C a0_0 a0_1 most (by omega) (by omega)) ?_))))))));rintro en w1 ⟨d,k,Z,rfl,E,Av,S,V,X,F,N⟩;refine rv ?_;have hP:∀i∈[b0],Fsh [b0] w i:=(hI p);have y:∀i∈[b0],¬Q i:=(hI C);replace M:=M.step E hP;replace uQ:=uQ.md E;clear hP y h0 C;have h0:=S;have C:=V;clear S V;have f:=Sq.num_le s most;rw[N]at f;try simp only[LL,Nat.reduceAdd,Nat.reduceMul]at f
 refine st _ (rA (a:=d) (b:=1) q q (by omega)) (an q (c_block ?_));obtain⟨r0,H⟩:∃r,pairsL (d+1) k ([]:List Pr)=r:=⟨_,q⟩;have Ar:=H
 try simp only[List.nil_append,N]at H
 refine loop5 (fun(x:Sq) (G:Value) (vo:Value) (o:List Pr) (n:Nat)=>[(5,vo),(6,(.int .i64 n)),(0,(.pointer (some ⟨b0,0,none⟩))),(4,SN)]) (fun(x:Sq) (G:Value) (vo:Value) (o:List Pr) (n:Nat) w'=>∃Q':Nat→Prop,(∀b,Q' b→Q b)∧(∀b,Q b→b<w.heap.size→Q' b)∧Up w' Q'∧Md [b0] w w'∧Blk w' b0 (Sq.cells x G) 30∧Ls tInt w' Q' G x.l∧Sq.ok x∧Ow tPr 39 (Fsh [] w) w' Q' vo o∧¬Q' b0∧n+o.length≤1000001∧pairsL n x o=r0) (fun(x:Sq) (G:Value) (vo:Value) (o:List Pr) (n:Nat)=>n) (x0:=k) (x1:=Z) (x2:=SN) (x3:=([]:List Pr)) (x4:=(d+1)) ?_ ?_ ?_
 ·exact⟨q,q,q,q,tV⟩
 ·exact⟨Q,t,J,uQ,M,h0,F,X,(Ow.nil _ _ _ _ _),C,(by simp only[List.length_nil];omega),(by have z:=H;exact z)⟩
 clear M uQ t J C a0_1 h0 F
 rintro x G vo o n B w2 ⟨Q3,t,J,uQ,M,h0,K,j,D,C,As,Aa⟩;refine c_seq (nm q (st _ (r_gtN (a:=n) (b:=0) q q) (nt ?_)));refine c_if q (fun u=>?_) (fun u=>?_)
 ·(have L:=dT u);refine c_skip (c_then (c_seq (c_block (c_region (m2 q q (st_call fn102 q (kPair_any uQ x h0 C j K) ?_))))));rintro en w4 ⟨e,Ae,c,rfl,E,U,W,Y,A,Ah⟩;refine rv ?_;have hP:∀i∈[b0],Fsh [b0] w i:=(hI p);have y:∀i∈[b0],¬Q3 i:=(hI C);have I:∀b,vblock vo=some b→b∉[b0]:=fun b P=>(nin_cons (D.blk_ne h0 (by decide) b P) (by simp));replace D:=D.md E I y;clear I;replace M:=M.step E hP;replace uQ:=uQ.md E;clear hP y h0 C;have h0:=U;have C:=W;clear U W;refine st_buildSliceG [(Pr.cells e)] u41 elT39 (by decide) (by decide) q q ⟨q,tV⟩ ⟨q,tV⟩ q (by decide) ?_;intro Ap w5 Ac Au E O;have Ag:=uQ _ Ac;obtain⟨h0,D,A,uQ,M⟩:=k5 E h0 D A uQ M;replace O:=Ls.of_blk (m:=1) (R:=Q3) (T:=tPr) (xs:=[e]) O ⟨_,_,q,(tPr_mk),q⟩ q (by decide) Ag;refine st_ap (sz:=2) (by rfl) u41 elT39 q q D O (fun _ h _=>h) uQ (Fsh.new M) (by(simp<;>omega)) (by(simp<;>omega)) ?_;intro v7 w8 Q9 sQ sT Af Ai E y _ Aj;have g:=D;clear D;replace C:=fun z=>C (sT _ z);replace t:=tT t sT;replace J:=fun b P hl=>sQ b (J b P hl) (lj hl M.size);replace h0:=h0.md E (aW g h0);replace A:=(A.sub sQ).md E y;replace uQ:=uQ.md E;replace M:=M.stepO E (fun b P=>Fsh.wid (g.2 b P).1);replace uQ:=Af;clear Af sQ sT y Aj;refine asg q (st_nil (n_block (c_then (c_region (mv q (st _ (rS (a:=n) (b:=1) q q (by omega)) (asg q (st_nil ?_))))))))
  refine c_then ?_;refine next5 (x0:=Ae) (x1:=c) (x2:=v7) (x3:=(o ++ ([e]))) (x4:=(n-1)) (by omega) ⟨q,(fitI q (by omega)),q,q,tV⟩ ⟨Q9,t,J,uQ,M,h0,A,Y,Ai,C,(by simp only[List.length_append,List.length_singleton];omega),(by have z:=Aa;rw[pairs_step (by omega)]at z;simp only[N,Ah]at z;exact z)⟩
 (have L:=dF u);refine c_exit (x_then (x_then (x_hit (c_then (nm q (ar q ?_))))));exact ret1L (v:=vo) trivial q ⟨q,tV⟩ ⟨_,o,x,_,q,M,(D.ls (fun b P=>t b P) (Fsh.up Am)),h0,n0,j,(K.sub (fun b P _=>t b P)),(by(try (simp(disch:=first|omega|assumption|simp) only [pairs_end,SS,reduceIte,N,L]at Aa));rw[Sq.pairs]<;>simp(disch:=first|omega|assumption|simp) only [SS,reduceIte,N,H,L,← Aa])⟩
theorem agg46:isAggN Zp 46 20=true:=by kernel_rfl
theorem fn63:isFn Zp 63=true:=by kernel_rfl
theorem fn66:isFn Zp 66=true:=by kernel_rfl
theorem pl46:bplace Zp 46=some [(0,1),(1,1),(2,1),(3,16),(19,1)]:=by kernel_rfl
theorem z46:zcells Zp 46=some ([.int .u64 0,.int .u64 0,.int .u64 0] ++ (List.replicate 16 (.int .u8 0) ++ ([.slice none 0 0]))):=by kernel_rfl
set_option maxRecDepth 100000 in
theorem kRecord_any (uQ:Up w Q) {b0:Nat} {v0_0:Value} (s:Sq) (h0:Blk w b0 (Sq.cells s v0_0) 30) (n0:¬Q b0) (a0_0:Sq.ok s) (a0_1:Ls tInt w Q v0_0 s.l) (seq:Nat) (a1:seq<18446744073709551616) :
  Calls Zp 35 #[.pointer (some ⟨b0,0,none⟩),(.int .u64 seq)] w fun en w'=>∃u0_0:Value,∃r0:Rec,∃m0:Sq,∃u50_0:Value,en = .returned (.agg (Rec.cells r0 u0_0).toArray)∧Md [b0] w w'∧Rec.ok r0∧Ls tPr w' Q u0_0 r0.fields∧Blk w' b0 (Sq.cells m0 u50_0) 30∧¬Q b0∧Sq.ok m0∧Ls tInt w' Q u50_0 m0.l∧s.record seq=(r0,m0):=by
 have C:=n0;have R:Fsh [b0] w b0:=.inl (by simp);have M:=Md.refl [b0] w;have Bd:=uQ;have tQ:∀b,Q b→Q b:=fun _ h=>h;refine enter (n:=25) Tryz.func35 rfl rfl rfl fun B=>ns (st_alloc z46 ?_);intro O w1 r Ay F D;have Av:b0≠O:=(by have:=h0.lt;omega);obtain⟨Q2,sQ,sT,Ac,Ar⟩:=exQ uQ r Ay F;replace C:=nQ C sT;replace tQ:=tT tQ sT;replace r:=ly M.size r;replace a0_1:=(a0_1.sub sQ).o F;obtain⟨h0,M⟩:=k2 F h0 M;replace uQ:=Ar;clear Ar sQ sT;have Ad:Fsh [] w O:=.inr r;replace D:Blk _ _ (Rec.cells (({seq:=0,real:=0,mono:=0,boot:=idZ,fields:=[]}:Rec)) SN) _:=D;have A0:Rec.ok (({seq:=0,real:=0,mono:=0,boot:=idZ,fields:=[]}:Rec)):=(by exact⟨(by decide),(by decide),(by decide),rfl⟩);refine nt (nm rfl (st_call fn66 rfl (kPairs_any uQ s h0 C a0_0 a0_1 4 (by omega) (by omega)) ?_));rintro en w4 ⟨A7,A8,z,Am,rfl,F,Af,W,c,g,J,Ag⟩;refine rv ?_;have T:∀i∈[b0],Fsh [b0] w i:=(hI R);have P:∀i∈[b0],¬Q2 i:=(hI C);have A:O∉[b0]:=(nin_cons (by omega) (by simp));replace D:=D.md F A;clear A;replace M:=M.step F T;replace uQ:=uQ.md F;clear T P h0 C;have h0:=W;have C:=c;clear W c;have S:=pairs_bd s 4;rw[Ag]at S;try simp only[LL,Nat.reduceAdd,Nat.reduceMul]at S
 refine st_call fn65 rfl (rList_any uQ Af (by omega) (fun q hq=>by have:=S.1 q hq;omega)) ?_;rintro en w5 ⟨L,N,A9,rfl,F,E,A1,Aw⟩;refine rv ?_;obtain⟨h0,D,J,uQ,M⟩:=k5 F h0 D J uQ M;refine mv rfl (se rfl rfl (se rfl rfl (asg rfl (an rfl (ns (m2 rfl rfl (st_call fn33 rfl (kN_any uQ z h0 C g J 40 (by omega) (by omega)) ?_)))))));rintro en w6 ⟨H,Aa,Ao,rfl,F,A2,X,d,j,U,Ah⟩;refine rv ?_;have T:∀i∈[b0],Fsh [b0] w i:=(hI R);have P:∀i∈[b0],¬Q2 i:=(hI C);have A:O∉[b0]:=(nin_cons (by omega) (by simp));replace D:=D.md F A;clear A;replace E:=E.md F P;replace M:=M.step F T;replace uQ:=uQ.md F;clear T P h0 C;have h0:=X;have C:=d;clear X d;have t:=Sq.num_le z 40;rw[Ah]at t;try simp only[LL,Nat.reduceAdd,Nat.reduceMul]at t
 refine st _ (r_convN (a:=H) 18446744073709551616 rfl (by rw[u3];rfl) u42 rfl (by omega)) (mv rfl (st_call fn33 rfl (kN_any uQ Aa h0 C j U 9 (by omega) (by omega)) ?_));rintro en w7 ⟨I,Ab,Ap,rfl,F,A3,Y,e,k,V,Ai⟩;refine rv ?_;have T:∀i∈[b0],Fsh [b0] w i:=(hI R);have P:∀i∈[b0],¬Q2 i:=(hI C);have A:O∉[b0]:=(nin_cons (by omega) (by simp));replace D:=D.md F A;clear A;replace E:=E.md F P;replace M:=M.step F T;replace uQ:=uQ.md F;clear T P h0 C;have h0:=Y;have C:=e;clear Y e;have x:=Sq.num_le Aa 9;rw[Ai]at x;try simp only[LL,Nat.reduceAdd,Nat.reduceMul]at x
 refine st _ (r_convN (a:=I) 18446744073709551616 rfl (by rw[u3];rfl) u42 rfl (by omega)) (mv rfl (st_call fn33 rfl (kN_any uQ Ab h0 C k V 3 (by omega) (by omega)) ?_));rintro en w8 ⟨As,Al,Aq,rfl,F,A4,Z,f,o,G,Aj⟩;refine rv ?_;have T:∀i∈[b0],Fsh [b0] w i:=(hI R);have P:∀i∈[b0],¬Q2 i:=(hI C);have A:O∉[b0]:=(nin_cons (by omega) (by simp));replace D:=D.md F A;clear A;replace E:=E.md F P;replace M:=M.step F T;replace uQ:=uQ.md F;clear T P h0 C;have h0:=Z;have C:=f;clear Z f;have y:=Sq.num_le Ab 3;rw[Aj]at y;try simp only[LL,Nat.reduceAdd,Nat.reduceMul]at y
 refine st_call fn63 rfl (kID_any uQ (((As:Nat):Int)) (by omega)) ?_;rintro en w9 ⟨K,rfl,F,A5,Ax⟩;refine rv ?_;obtain⟨h0,D,E,G,M⟩:=k5 F h0 D E G M;refine mv rfl (st _ (r_buildG (us:=[[(.int .u64 seq)],[(.int .u64 H)],[(.int .u64 I)],(idc K),[L]]) (cs:=(Rec.cells (({seq:=seq,real:=H,mono:=I,boot:=K,fields:=N}:Rec)) L)) [(0,0,1),(1,1,1),(2,2,1),(3,3,16),(4,19,1)] z46 pl46 rfl rfl ⟨rfl,rfl,rfl,rfl,(cells_one E.oneCell),tV⟩ ⟨rfl,rfl,rfl,rfl,rfl,tV⟩ rfl rfl) (st_storeAgg (us:=(Rec.cells (({seq:=seq,real:=H,mono:=I,boot:=K,fields:=N}:Rec)) L)) rfl rfl (by exact agg46) (by exact fun u hu=>one_cells (Rec.one E.oneCell) u hu) D (lB rfl) ?_));have Ak:=D;clear D;intro Be F D;have P:∀b∈[O],¬Q2 b:=(hI Ac);replace h0:=h0.md F (by intro p;simp at p;omega);replace E:=E.md F P;replace G:=G.md F P;replace M:=M.step F (hI (Fsh.wid Ad));clear Ak P;replace D:Blk _ _ (Rec.cells (({seq:=seq,real:=H,mono:=I,boot:=K,fields:=N}:Rec)) L) _:=D;refine nt (c_ret ?_);exact ret1L (v:=(.agg (Rec.cells (({seq:=seq,real:=H,mono:=I,boot:=K,fields:=N}:Rec)) L).toArray)) trivial rfl ⟨⟨_,rfl,load_agg (cs:=(Rec.cells (({seq:=seq,real:=H,mono:=I,boot:=K,fields:=N}:Rec)) L)) (by exact agg46) D⟩,tV⟩ ⟨_,(({seq:=seq,real:=H,mono:=I,boot:=K,fields:=N}:Rec)),Al,_,rfl,M,(by exact⟨(by omega),(by(simp<;>omega)),(by(simp<;>omega)),(by assumption)⟩),(E.sub (fun b p _=>tQ b p)),h0,n0,o,(G.sub (fun b p _=>tQ b p)),(by rw[Sq.record]<;>simp(disch:=first|omega|assumption|simp) only [SS,reduceIte,Ag,Aw,Ah,Ai,Aj,Ax])⟩
theorem pl83:bplace Zp 83=some [(0,16),(16,16),(32,16),(48,1),(49,1),(50,1),(51,1)]:=by kernel_rfl
theorem z83:zcells Zp 83=some (List.replicate 48 (.int .u8 0) ++ ([.int .i64 0,.int .i64 0,.int .i64 0,.bool false])):=by kernel_rfl
theorem kConfig_any (uQ:Up w Q) {b0:Nat} {v0_0:Value} (s:Sq) (h0:Blk w b0 (Sq.cells s v0_0) 30) (n0:¬Q b0) (a0_0:Sq.ok s) (a0_1:Ls tInt w Q v0_0 s.l) :
  Calls Zp 31 #[.pointer (some ⟨b0,0,none⟩)] w fun en w'=>∃r0:Cfg,∃m0:Sq,∃u50_0:Value,en = .returned (.agg (Cfg.cells r0).toArray)∧Md [b0] w w'∧Cfg.ok r0∧Blk w' b0 (Sq.cells m0 u50_0) 30∧¬Q b0∧Sq.ok m0∧Ls tInt w' Q u50_0 m0.l∧s.config=(r0,m0):=by
 have C:=n0;have R:Fsh [b0] w b0:=.inl (by simp);have M:=Md.refl [b0] w;have Bv:=uQ;have tQ:∀b,Q b→Q b:=fun _ h=>h;refine enter (n:=22) Tryz.func31 q q q fun B=>ns (st_alloc z83 ?_);intro S w1 Ag Bf E D;have Bb:b0≠S:=(by have:=h0.lt;omega);obtain⟨Q2,sQ,sT,Av,A7⟩:=exQ uQ Ag Bf E;replace C:=nQ C sT;replace tQ:=tT tQ sT;replace Ag:=ly M.size Ag;replace a0_1:=(a0_1.sub sQ).o E;obtain⟨h0,M⟩:=k2 E h0 M;replace uQ:=A7;clear A7 sQ sT;have Aw:Fsh [] w S:=.inr Ag;replace D:Blk _ _ (Cfg.cells (Zc)) _:=D;have Bl:Cfg.ok (Zc):=(by exact⟨q,q,q,(by decide),(by decide),(by decide)⟩);refine nt (nm q (st_call fn33 q (kN_any uQ s h0 C a0_0 a0_1 5 (by omega) (by omega)) ?_));rintro en w4 ⟨A8,Ap,A4,rfl,E,Bm,x,Aa,Ad,J,A0⟩;refine rv ?_;have T:∀i∈[b0],Fsh [b0] w i:=(hI R);have U:∀i∈[b0],¬Q2 i:=(hI C);have A:S∉[b0]:=(nin_cons (by omega) (by simp));replace D:=D.md E A;clear A;replace M:=M.step E T;replace uQ:=uQ.md E;clear T U h0 C;have h0:=x;have C:=Aa;clear x Aa;have Ah:=Sq.num_le s 5;rw[A0]at Ah;try simp only[LL,Nat.reduceAdd,Nat.reduceMul]at Ah
 refine st_call fn63 q (kID_any uQ (((A8:Nat):Int)) (by omega)) ?_;rintro en w5 ⟨N,rfl,E,Bn,Bc⟩;refine rv ?_;obtain⟨h0,D,J,uQ,M⟩:=k5 E h0 D J uQ M;refine mv q (st_call fn33 q (kN_any uQ Ap h0 C Ad J 5 (by omega) (by omega)) ?_);rintro en w6 ⟨A9,Aq,A5,rfl,E,Bo,y,Ab,Ae,K,A1⟩;refine rv ?_;have T:∀i∈[b0],Fsh [b0] w i:=(hI R);have U:∀i∈[b0],¬Q2 i:=(hI C);have A:S∉[b0]:=(nin_cons (by omega) (by simp));replace D:=D.md E A;clear A;replace M:=M.step E T;replace uQ:=uQ.md E;clear T U h0 C;have h0:=y;have C:=Ab;clear y Ab;have Ai:=Sq.num_le Ap 5;rw[A1]at Ai;try simp only[LL,Nat.reduceAdd,Nat.reduceMul]at Ai
 refine st_call fn63 q (kID_any uQ (((A9:Nat):Int)) (by omega)) ?_;rintro en w7 ⟨O,rfl,E,Bp,Bd⟩;refine rv ?_;obtain⟨h0,D,K,uQ,M⟩:=k5 E h0 D K uQ M;refine mv q (st_call fn33 q (kN_any uQ Aq h0 C Ae K 5 (by omega) (by omega)) ?_);rintro en w8 ⟨Ba,Ar,A6,rfl,E,Bq,z,Ac,Af,L,A2⟩;refine rv ?_;have T:∀i∈[b0],Fsh [b0] w i:=(hI R);have U:∀i∈[b0],¬Q2 i:=(hI C);have A:S∉[b0]:=(nin_cons (by omega) (by simp));replace D:=D.md E A;clear A;replace M:=M.step E T;replace uQ:=uQ.md E;clear T U h0 C;have h0:=z;have C:=Ac;clear z Ac;have Aj:=Sq.num_le Aq 5;rw[A2]at Aj;try simp only[LL,Nat.reduceAdd,Nat.reduceMul]at Aj
 refine st_call fn63 q (kID_any uQ (((Ba:Nat):Int)) (by omega)) ?_;rintro en w9 ⟨P,rfl,E,Br,Be⟩;refine rv ?_;obtain⟨h0,D,L,uQ,M⟩:=k5 E h0 D L uQ M;refine mv q (st_call fn33 q (kN_any uQ Ar h0 C Af L 7 (by omega) (by omega)) ?_);rintro en Bw ⟨F,r,Ax,rfl,E,Bg,V,Y,f,d,Ak⟩;refine rv ?_;have T:∀i∈[b0],Fsh [b0] w i:=(hI R);have U:∀i∈[b0],¬Q2 i:=(hI C);have A:S∉[b0]:=(nin_cons (by omega) (by simp));replace D:=D.md E A;clear A;replace M:=M.step E T;replace uQ:=uQ.md E;clear T U h0 C;have h0:=V;have C:=Y;clear V Y;have k:=Sq.num_le Ar 7;rw[Ak]at k;try simp only[LL,Nat.reduceAdd,Nat.reduceMul]at k
 refine st _ (rA (a:=F) (b:=1) q q (by omega)) (mv q (st_call fn33 q (kN_any uQ r h0 C f d 4 (by omega) (by omega)) ?_));rintro en Bx ⟨G,t,Ay,rfl,E,Bh,W,Z,g,e,Al⟩;refine rv ?_;have T:∀i∈[b0],Fsh [b0] w i:=(hI R);have U:∀i∈[b0],¬Q2 i:=(hI C);have A:S∉[b0]:=(nin_cons (by omega) (by simp));replace D:=D.md E A;clear A;replace M:=M.step E T;replace uQ:=uQ.md E;clear T U h0 C;have h0:=W;have C:=Z;clear W Z;have o:=Sq.num_le r 4;rw[Al]at o;try simp only[LL,Nat.reduceAdd,Nat.reduceMul]at o
 refine st _ (rA (a:=G) (b:=1) q q (by omega)) (mv q (st_call fn33 q (kN_any uQ t h0 C g e 2 (by omega) (by omega)) ?_));rintro en Bz ⟨H,Au,Az,rfl,E,Bi,X,c,j,I,Am⟩;refine rv ?_;have T:∀i∈[b0],Fsh [b0] w i:=(hI R);have U:∀i∈[b0],¬Q2 i:=(hI C);have A:S∉[b0]:=(nin_cons (by omega) (by simp));replace D:=D.md E A;clear A;replace M:=M.step E T;clear T U h0 C;have h0:=X;have C:=c;clear X c;have p:=Sq.num_le t 2;rw[Am]at p;try simp only[LL,Nat.reduceAdd,Nat.reduceMul]at p
 refine st _ (r_eqN (a:=H) (b:=1) q q) (st _ (r_buildG (us:=[(idc N),(idc O),(idc P),[(.int .i64 ((F+1:Nat):Int))],[(.int .i64 ((G+1:Nat):Int))],[(.int .i64 ((32768:Nat):Int))],[(.bool ((decide (H=1))))]]) (cs:=(Cfg.cells (({file:=N,machine:=O,seq:=P,dataSlots:=F+1,fieldSlots:=G+1,most:=32768,keyed:=(decide (H=1))}:Cfg)))) [(0,0,16),(1,16,16),(2,32,16),(3,48,1),(4,49,1),(5,50,1),(6,51,1)] z83 pl83 q q ⟨q,q,q,q,q,q,q,tV⟩ ⟨q,q,q,q,q,q,q,tV⟩ q (by simp[splices,splice,idc,Cfg.cells])) (st_storeAgg (us:=(Cfg.cells (({file:=N,machine:=O,seq:=P,dataSlots:=F+1,fieldSlots:=G+1,most:=32768,keyed:=(decide (H=1))}:Cfg)))) q q (by exact agg83) (by exact fun u hu=>one_cells (Cfg.one) u hu) D (lB q) ?_));have A3:=D;clear D;intro B0 E D;have U:∀b∈[S],¬Q2 b:=(hI Av);replace h0:=h0.md E (by intro hb;simp at hb;omega);replace I:=I.md E U;replace M:=M.step E (hI (Fsh.wid Aw));clear A3 U;replace D:Blk _ _ (Cfg.cells (({file:=N,machine:=O,seq:=P,dataSlots:=F+1,fieldSlots:=G+1,most:=32768,keyed:=(decide (H=1))}:Cfg))) _:=D;refine nt (c_ret ?_);exact ret1L (v:=(.agg (Cfg.cells (({file:=N,machine:=O,seq:=P,dataSlots:=F+1,fieldSlots:=G+1,most:=32768,keyed:=(decide (H=1))}:Cfg))).toArray)) trivial q ⟨⟨_,q,load_agg (cs:=(Cfg.cells (({file:=N,machine:=O,seq:=P,dataSlots:=F+1,fieldSlots:=G+1,most:=32768,keyed:=(decide (H=1))}:Cfg)))) (by exact agg83) D⟩,tV⟩ ⟨(({file:=N,machine:=O,seq:=P,dataSlots:=F+1,fieldSlots:=G+1,most:=32768,keyed:=(decide (H=1))}:Cfg)),Au,_,q,M,(by exact⟨(by assumption),(by assumption),(by assumption),(by(simp<;>omega)),(by(simp<;>omega)),(by(simp<;>omega))⟩),h0,n0,j,(I.sub (fun b hb _=>tQ b hb)),(by rw[Sq.config]<;>simp(disch:=first|omega|assumption|simp) only [SS,reduceIte,A0,Bc,A1,Bd,A2,Be,Ak,Al,Am])⟩
theorem elT46:elT Zp 46 20 64=true:=by kernel_rfl
theorem fn31:isFn Zp 31=true:=by kernel_rfl
theorem fn32:isFn Zp 32=true:=by kernel_rfl
theorem fn34:isFn Zp 34=true:=by kernel_rfl
theorem fn35:isFn Zp 35=true:=by kernel_rfl
theorem fn37:isFn Zp 37=true:=by kernel_rfl
theorem off46_1:fieldOff Zp 46 1=some 1:=by kernel_rfl
theorem off46_2:fieldOff Zp 46 2=some 2:=by kernel_rfl
theorem off46_3:fieldOff Zp 46 3=some 3:=by kernel_rfl
theorem off46_4:fieldOff Zp 46 4=some 19:=by kernel_rfl
theorem one41:isOne Zp 41=true:=by kernel_rfl
theorem u25:Zp.underlying 25=some (.slice 46):=by kernel_rfl
set_option maxHeartbeats 16000000 in
set_option maxRecDepth 100000 in
set_option maxHeartbeats 4000000 in
theorem kMaker_any (uQ:Up w Q) {b0:Nat} {v0_0:Value} (s:Sq) (h0:Blk w b0 (Sq.cells s v0_0) 30) (n0:¬Q b0) (a0_0:Sq.ok s) (a0_1:Ls tInt w Q v0_0 s.l) (most:Nat) (a1:most<9223372036854775808) (p0:most≤100000) :
  Calls Zp 8 #[.pointer (some ⟨b0,0,none⟩),(.int .i64 most)] w fun en w'=>∃o0:Nat,∃u0_0:Value,∃u0_1:Value,∃u0_2:Value,∃u0_3:Value,∃r0:Mk,∃u1:Value,∃r1:List Rec,∃m0:Sq,∃u50_0:Value,∃Q':Nat→Prop,en = .returned (.tuple #[.pointer (some ⟨o0,0,none⟩),u1])∧Md [b0] w w'∧NewQ w w' Q Q'∧Blk w' o0 (Mk.cells r0 u0_0 u0_1 u0_2 u0_3) 102∧¬Q' o0∧w.heap.size≤o0∧Mk.ok r0∧Ow tB8 5 (Fsh [] w) w' Q' u0_0 r0.b∧Ow tKnown 146 (Fsh [] w) w' Q' u0_1 r0.datas∧Ow tKnown 146 (Fsh [] w) w' Q' u0_2 r0.fields∧Ls tU64 w' Q' u0_3 r0.main∧(∀x,vblock u0_1=some x→vblock u0_2≠some x)∧Ls tRec w' Q' u1 r1∧Blk w' b0 (Sq.cells m0 u50_0) 30∧¬Q' b0∧Sq.ok m0∧Ls tInt w' Q' u50_0 m0.l∧s.maker most=(r0,r1,m0):=by
 have N:=n0;have Br:Fsh [b0] w b0:=.inl (by simp);have M:=Md.refl [b0] w;have Dc:=uQ;have tQ:∀b,Q b→Q b:=fun _ h=>h;have p:∀b,Q b→b<w.heap.size→Q b:=fun _ h _=>h;refine enter (n:=53) Tryz.func8 rfl rfl rfl fun B=>ns (asg rfl (an rfl (nm rfl (st_call fn31 rfl (kConfig_any uQ s h0 N a0_0 a0_1) ?_))));rintro en w1 ⟨Bs,C4,Dz,rfl,U,Cy,Ce,Cg,Ci,e,B6⟩;refine rv ?_;have hP:∀i∈[b0],Fsh [b0] w i:=(hI Br);have y:∀i∈[b0],¬Q i:=(hI N);replace M:=M.step U hP;replace uQ:=uQ.md U;clear hP y h0 N;have h0:=Ce;have N:=Cg;clear Ce Cg;refine st_alloc z83 ?_;intro B3 w2 Cu Ea U Ag;have D6:b0≠B3:=(by have:=h0.lt;omega);obtain⟨Q3,sQ,sT,Cl,Aq⟩:=exQ uQ Cu Ea U;replace N:=nQ N sT;replace tQ:=tT tQ sT;replace p:=fun b X hl=>sQ b (p b X hl) (lj hl M.size);replace Cu:=ly M.size Cu;replace h0:=h0.o U;replace e:=(e.sub sQ).o U;replace M:=M.k U;replace uQ:=Aq;clear Aq sQ sT;have Da:Fsh [] w B3:=.inr Cu;replace Ag:Blk _ _ (Cfg.cells (Zc)) _:=Ag;have Et:Cfg.ok (Zc):=(by exact⟨rfl,rfl,rfl,(by decide),(by decide),(by decide)⟩);refine st_storeAgg (us:=(Cfg.cells Bs)) rfl rfl (by exact agg83) (by exact fun u hu=>one_cells (Cfg.one) u hu) Ag (lB rfl) ?_;have Du:=Ag;clear Ag;intro w5 U Ag
 have y:∀b∈[B3],¬Q3 b:=(hI Cl);replace h0:=h0.md U (by intro X;simp at X;omega);replace e:=e.md U y;replace uQ:=uQ.md U;replace M:=M.step U (hI (Fsh.wid Da));clear Du y;replace Ag:Blk _ _ (Cfg.cells Bs) _:=Ag;refine nt (c_seq ?_);have Ca:=Ag;have Ey:∀b∈[b0],¬Q3 b:=all_cons N all_nil;refine c_mixT [(0,true),(1,true),(2,false),(3,true)] [4,5] (fun w'=>Md [b0] w5 w') mixed (by kernel_rfl) ?_;intro w6 Bc;refine⟨Bc.mono (by simp),?_⟩;have MC:=Bc.mono (T:=[b0]) (by simp);have cs:=config_ok s;rw[B6]at cs;simp only at cs;refine mz (fun w' hc=>r_loadPart (Cfg.cells Bs) rfl (by exact agg83) (Ca.md hc (by simp;omega)) rfl) (mo rfl ?_);obtain⟨h0,e,Ag,uQ,M⟩:=k5 Bc h0 e Ag uQ M;refine m_c ?_ rfl;refine st_call fn33 rfl (kN_any uQ C4 h0 N Ci e 6 (by omega) (by omega)) ?_;rintro en w7 ⟨C6,C5,Ck,rfl,U,Eu,Cf,Ch,Cj,Aa,B7⟩;refine rv ?_;have hP:∀i∈[b0],Fsh [b0] w i:=(hI Br);have y:∀i∈[b0],¬Q3 i:=(hI N);have Bp:B3∉[b0]:=(nin_cons (by omega) (by simp));replace Ag:=Ag.md U Bp;clear Bp;replace M:=M.step U hP;replace MC:=MC.step U (fun i hi=>Or.inl (by simpa using hi));replace uQ:=uQ.md U;clear hP y h0 N;have h0:=Cf;have N:=Ch;clear Cf Ch;have Cz:=Sq.num_le C4 6;rw[B7]at Cz;try simp only[LL,Nat.reduceAdd,Nat.reduceMul]at Cz
 refine st_nil ⟨rfl,MC,fun w'=>Md [b0] w7 w',Md.refl _ _,fun x hx=>MC.trans hx,?_⟩;clear Ca;replace MC:=Md.refl [b0] w7;refine mz (fun w' hc=>r_convN (a:=C6) 18446744073709551616 rfl (by rw[u3];rfl) u42 rfl (by omega)) (m_nil ?_);clear MC;refine st_call fn32 rfl (rnewMaker_any uQ Bs Cy C6 (by omega) (by omega) (by omega)) ?_;rintro en w8 ⟨Y,Co,Cp,Cq,Cr,Ct,Q9,rfl,U,⟨sQ,sT,Aq⟩,K,G,Af,Cn,Am,Ao,Ap,A8,Ah,B8⟩;refine rv ?_;have Df:b0≠Y:=(by have:=h0.lt;omega);have C7:B3≠Y:=(by have:=Ag.lt;omega);have Cs:Fsh [] w Y:=Fsh.new M _ Af;replace Af:=ly M.size Af;replace N:=nQ N sT;replace tQ:=tT tQ sT;replace p:=fun b X hl=>sQ b (p b X hl) (lj hl M.size);replace Am:=Am.lower (Fsh.lift (S':=[]) M);replace Ao:=Ao.lower (Fsh.lift (S':=[]) M);replace Ap:=Ap.lower (Fsh.lift (S':=[]) M);replace h0:=h0.o U;replace Aa:=(Aa.sub sQ).o U;replace M:=M.k U;replace uQ:=Aq;clear Aq sQ sT;refine an rfl (ns (asg rfl (nt (c_seq (c_block ?_)))));have Ec:MkOk Ct:=(by rw[← B8];exact newMk_ok cs.1 cs.2.1 cs.2.2);obtain⟨r0,Cb⟩:∃r,makerL (most-([]:List Rec).length) C5 Ct ([]:List Rec)=r:=⟨_,rfl⟩;have Cc:=Cb
 try simp only[List.nil_append,B6,B7,B8]at Cb
 refine loop9 (fun(mm:Mk) (f:Value) (S:Value) (L:Value) (Ac:Value) (sq:Sq) (A0:Value) (vo:Value) (o:List Rec)=>[(8,vo),(0,(.pointer (some ⟨b0,0,none⟩))),(1,(.int .i64 most)),(4,(.pointer none)),(5,SN),(7,(.pointer (some ⟨Y,0,none⟩)))]) (fun(mm:Mk) (f:Value) (S:Value) (L:Value) (Ac:Value) (sq:Sq) (A0:Value) (vo:Value) (o:List Rec) w'=>∃Q':Nat→Prop,(∀b,Q' b→Q b)∧(∀b,Q b→b<w.heap.size→Q' b)∧Up w' Q'∧Md [b0] w w'∧Blk w' Y (Mk.cells mm f S L Ac) 102∧Ow tB8 5 (Fsh [] w) w' Q' f mm.b∧Ow tKnown 146 (Fsh [] w) w' Q' S mm.datas∧Ow tKnown 146 (Fsh [] w) w' Q' L mm.fields∧Ls tU64 w' Q' Ac mm.main∧Mk.ok mm∧Blk w' b0 (Sq.cells sq A0) 30∧Ls tInt w' Q' A0 sq.l∧Sq.ok sq∧Ow tRec 46 (Fsh [] w) w' Q' vo o∧¬Q' Y∧¬Q' b0∧(∀x,vblock S=some x→vblock L≠some x)∧MkOk mm∧o.length≤most∧makerL (most-o.length) sq mm o=r0) (fun(mm:Mk) (f:Value) (S:Value) (L:Value) (Ac:Value) (sq:Sq) (A0:Value) (vo:Value) (o:List Rec)=>most-o.length) (x0:=Ct) (x1:=Co) (x2:=Cp) (x3:=Cq) (x4:=Cr) (x5:=C5) (x6:=Ck) (x7:=SN) (x8:=([]:List Rec)) ?_ ?_ ?_
 ·exact⟨rfl,rfl,rfl,rfl,rfl,rfl,tV⟩
 ·exact⟨Q9,tQ,p,uQ,M,K,Am,Ao,Ap,A8,Cn,h0,Aa,Cj,(Ow.nil _ _ _ _ _),G,N,Ah,Ec,(by simp),(by have hh:=Cb;exact hh)⟩
 clear M uQ tQ p N Cl G a0_1 h0 e Ag Aa Am Ao Ap A8 K
 rintro mm f S L Ac sq A0 vo o B Ei ⟨Di,tQ,p,uQ,M,K,E,C,A,D,A6,h0,Aw,Cd,P,G,N,O,C3,Er,Cw⟩;refine c_seq (nm rfl (sL rfl u25 P.shp (mv rfl (st _ (r_ltN (a:=o.length) (b:=most) rfl rfl) (mv rfl ?_)))));refine part_n (t:=23) rfl (fun A5=>?_) (fun A5=>?_)
 ·(have Bg:=dT A5);refine sg A5 (r_move rfl) (st_call_g rfl rfl rfl A5 fn34 rfl (kMore_any uQ sq h0 N Cd Aw) ?_);rintro en Ej ⟨El,Ay,Dh,rfl,U,Bj,Bm,A3,j,C0⟩;refine rv ?_;have hP:∀i∈[b0],Fsh [b0] w i:=(hI Br);have y:∀i∈[b0],¬Di i:=(hI N);have k:∀b,vblock f=some b→b∉[b0]:=fun b X=>(nin_cons (E.blk_ne h0 (by decide) b X) (by simp));have d:∀b,vblock S=some b→b∉[b0]:=fun b X=>(nin_cons (C.blk_ne h0 (by decide) b X) (by simp));have Z:∀b,vblock L=some b→b∉[b0]:=fun b X=>(nin_cons (A.blk_ne h0 (by decide) b X) (by simp));have Ab:Y∉[b0]:=(nin_cons (by omega) (by simp));have v:∀b,vblock vo=some b→b∉[b0]:=fun b X=>(nin_cons (P.blk_ne h0 (by decide) b X) (by simp));replace E:=E.md U k y;clear k;replace C:=C.md U d y;clear d;replace A:=A.md U Z y;clear Z;replace D:=D.md U y;replace K:=K.md U Ab;clear Ab;replace P:=P.md U v y;clear v;replace M:=M.step U hP;replace uQ:=uQ.md U;clear hP y h0 N;have h0:=Bj;have N:=Bm;clear Bj Bm;refine st _ (r_pick_t rfl A5 rfl) (nt ?_);refine c_if rfl (fun B4=>?_) (fun B4=>?_)
  ·(have Dq:=B4)
   have Bt:sq=Ay∧sq.pos<sq.l.length:=by
    have h:=C0;rw[B4]at h;simp[Sq.more]at h;exact⟨h.2,by omega⟩
   refine c_skip (c_then (c_block (ns (m2 rfl rfl (st_call fn36 rfl (mtail_any uQ mm K G A6 (E.reP (fun _ _=>trivial)) (C.reP (fun _ _=>trivial)) (A.reP (fun _ _=>trivial)) D O) ?_)))));rintro en E4 ⟨Bf,rfl,U,Ee,Dr⟩;refine rv ?_;obtain⟨E,C,A,D,K,h0,P,j⟩:=k8 U E C A D K h0 P j;obtain⟨uQ,M⟩:=k2 U uQ M;refine st _ (r_addW (a:=Bf) (b:=1) 18446744073709551616 rfl rfl rfl rfl) (st_call fn35 rfl (kRecord_any uQ Ay h0 N A3 j ((Bf+1)%18446744073709551616) (by omega)) ?_);rintro en E5 ⟨Ae,W,Bd,Bu,rfl,U,Ad,V,Bk,Bn,A4,F,C1⟩;refine rv ?_;have hP:∀i∈[b0],Fsh [b0] w i:=(hI Br);have y:∀i∈[b0],¬Di i:=(hI N);have k:∀b,vblock f=some b→b∉[b0]:=fun b X=>(nin_cons (E.blk_ne h0 (by decide) b X) (by simp));have d:∀b,vblock S=some b→b∉[b0]:=fun b X=>(nin_cons (C.blk_ne h0 (by decide) b X) (by simp));have Z:∀b,vblock L=some b→b∉[b0]:=fun b X=>(nin_cons (A.blk_ne h0 (by decide) b X) (by simp));have Ab:Y∉[b0]:=(nin_cons (by omega) (by simp));have v:∀b,vblock vo=some b→b∉[b0]:=fun b X=>(nin_cons (P.blk_ne h0 (by decide) b X) (by simp));replace E:=E.md U k y;clear k;replace C:=C.md U d y;clear d;replace A:=A.md U Z y;clear Z;replace D:=D.md U y;replace K:=K.md U Ab;clear Ab;replace P:=P.md U v y;clear v;replace M:=M.step U hP;replace uQ:=uQ.md U;clear hP y h0 N;have h0:=Bk;have N:=Bn;clear Bk Bn;refine st_alloc z46 ?_;intro Bb E6 Cv Eb U z
   have Dg:Y≠Bb:=(by have:=K.lt;omega);have D7:b0≠Bb:=(by have:=h0.lt;omega);have Av:∀x,vblock vo=some x→x≠Bb:=fun x hx h=>by have h3:=P.lt x hx;omega
   obtain⟨Dj,sQ,sT,C9,Aq⟩:=exQ uQ Cv Eb U;replace G:=nQ G sT;replace N:=nQ N sT;replace tQ:=tT tQ sT;replace p:=fun b X hl=>sQ b (p b X hl) (lj hl M.size);replace Cv:=ly M.size Cv;replace E:=(E.sub sQ sT).o U;replace C:=(C.sub sQ sT).o U;replace A:=(A.sub sQ sT).o U;replace D:=(D.sub sQ).o U;obtain⟨K,h0⟩:=k2 U K h0;replace P:=(P.sub sQ sT).o U;replace F:=(F.sub sQ).o U;replace V:=(V.sub sQ).o U;replace M:=M.k U;replace uQ:=Aq;clear Aq sQ sT;have Db:Fsh [] w Bb:=.inr Cv;replace z:Blk _ _ (Rec.cells (({seq:=0,real:=0,mono:=0,boot:=idZ,fields:=[]}:Rec)) SN) _:=z;have Ed:Rec.ok (({seq:=0,real:=0,mono:=0,boot:=idZ,fields:=[]}:Rec)):=(by exact⟨(by decide),(by decide),(by decide),rfl⟩);refine st_storeAgg (us:=(Rec.cells W Ae)) rfl rfl (by exact agg46) (by exact fun u hu=>one_cells (Rec.one V.oneCell) u hu) z (lB rfl) ?_;have Bi:=z;clear z;intro E7 U z;have y:∀b∈[Bb],¬Dj b:=(hI C9);replace E:=E.md U (aB Bi E) y;replace C:=C.md U (aB Bi C) y;replace A:=A.md U (aB Bi A) y;replace D:=D.md U y;replace K:=K.md U (by intro X;simp at X;omega);replace h0:=h0.md U (by intro X;simp at X;omega);replace P:=P.md U (apart_nb2 Av) y
   replace F:=F.md U y;replace V:=V.md U y;replace uQ:=uQ.md U;replace M:=M.step U (hI (Fsh.wid Db));clear Bi y;replace z:Blk _ _ (Rec.cells W Ae) _:=z;refine nt (c_seq (nm rfl (sf rfl off46_4 (sl (u:=Ae) rfl one41 z rfl (sf rfl off46_1 (sl (u:=(.int .u64 W.real)) rfl one42 z rfl ?_))))));have Ez:W.real<18446744073709551616:=Ad.2.1;refine sf rfl off46_2 (sl (u:=(.int .u64 W.mono)) rfl one42 z rfl ?_);have E0:W.mono<18446744073709551616:=Ad.2.2.1;refine sf rfl off46_3 (st _ (r_loadPart (idc W.boot) rfl (by exact agg44) z rfl) ?_);have E3:W.boot.length=16:=Ad.2.2.2;have Eh:(∀q∈W.fields,BD q)∧W.fields.length≤16:=(by have h:=record_ok Ay ((Bf+1)%18446744073709551616);rw[C1]at h;exact h);refine st_call fn37 rfl (mappend_any uQ mm K G A6 (E.reP (fun _ _=>trivial)) (C.reP (fun _ _=>trivial)) (A.reP (fun _ _=>trivial)) D O V W.real (by omega) W.mono (by omega) W.boot (by assumption) (by exact C3) (by exact(by omega)) (by exact(fun q hq=>by have:=(Eh.1 q hq).1;omega))) ?_;rintro en Ek ⟨Em,Dd,Be,Bv,Bw,Bx,Bz,D3,rfl,U,⟨sQ,sT,Aq⟩,Ef,Eg,Bl,Bo,Ar,H,I,J,c,g,Bh⟩;refine rv ?_;have hP:∀i∈(vS Y f S L),Fsh [] w i:=(all_cons Cs (all_app (rF E) (all_app (rF C) (rF A))));have y:∀i∈(vS Y f S L),¬Dj i:=(all_cons G (all_app (rN E) (all_app (rN C) (rN A))))
   have Cm:b0∉(vS Y f S L):=(nin_cons (by omega) (nin_app (aW E h0) (nin_app (aW C h0) (aW A h0))));have v:∀b,vblock vo=some b→b∉(vS Y f S L):=fun b X=>(nin_cons (P.blk_ne K (by decide) b X) (nin_app ((aO E P) b X) (nin_app ((aO C P) b X) ((aO A P) b X))));have Bq:Bb∉(vS Y f S L):=(nin_cons (by omega) (nin_app (aW E z) (nin_app (aW C z) (aW A z))));replace H:=H.reP (fun x hx=>(H.2 x hx).1);replace H:=H.reP (fun x hx=>(H.2 x hx).1.elim (hP x) (Fsh.new M x));replace I:=I.reP (fun x hx=>(I.2 x hx).1);replace I:=I.reP (fun x hx=>(I.2 x hx).1.elim (hP x) (Fsh.new M x));replace J:=J.reP (fun x hx=>(J.2 x hx).1);replace J:=J.reP (fun x hx=>(J.2 x hx).1.elim (hP x) (Fsh.new M x));replace N:=nQ N sT;replace tQ:=tT tQ sT;replace p:=fun b X hl=>sQ b (p b X hl) (lj hl M.size);replace y:=fun i hi hq=>y i hi (sT i hq);replace h0:=h0.md U Cm;clear Cm;replace P:=(P.sub sQ sT).md U v y;clear v;replace F:=(F.sub sQ).md U y;replace V:=(V.sub sQ).md U y;replace z:=z.md U Bq;clear Bq;replace M:=M.step U (fun i hi=>Fsh.wid (hP i hi));replace uQ:=Aq;clear Aq sQ sT;clear hP y K G;have K:=Bl;have G:=Bo;clear Bl Bo;clear E;clear C;clear A;refine mv rfl (se rfl rfl (se rfl rfl ?_))
   refine asg rfl (an rfl (ns ?_))
   have Dy:MkOk Be:=by
    have h:=append_ok (raw:=W.fields) (real:=W.real) (mono:=W.mono) (boot:=W.boot) C3 (by exact Ad.2.2.2) (by rw[Bh];exact Ar.2.1.2.2.2.2.2.2.2.1.1);rw[Bh]at h;exact h
   have C2:sq.record ((mm.num 9+1)%18446744073709551616)=(W,Bd):=(by rw[Bt.1,Dr];exact C1);refine mv rfl (st _ (r_neN (a:=Dd) (b:=0) rfl rfl) (nt ?_));refine c_if rfl (fun C8=>?_) (fun C8=>?_)
   ·(have B5:=dT C8);refine c_exit (x_then (x_miss rfl (x_then (x_hit (c_then (ns (m2 rfl rfl (asg rfl (ar rfl ?_)))))))));obtain⟨Dk,fQ,fT,Au⟩:=P.freeze;replace G:=fun hh=>(fT _ hh).elim G (nfz (aW P K));replace N:=fun hh=>(fT _ hh).elim N (nfz (aW P h0));replace F:=F.sub (fun b X _=>fQ b X);replace H:=H.subF fQ fT (aO P H);replace I:=I.subF fQ fT (aO P I);replace J:=J.subF fQ fT (aO P J);replace c:=c.sub (fun b X _=>fQ b X);replace tQ:=fun b X=>(fT b X).elim (tQ b) (fun hv=>Fsh.up Dc b (P.2 b hv).1);replace p:=fun b X hl=>fQ b (p b X hl);replace uQ:Up Ek Dk:=fun b X=>fQ b (uQ b X);clear P fQ fT;have P:=Au;clear Au;have e0:s.maker most=r0:=(by unfold Sq.maker;simp only[B6,B7,B8];exact Cc);exact retL (vs:=[(.pointer (some ⟨Y,0,none⟩)),vo]) trivial rfl ⟨rfl,rfl,tV⟩ rfl ⟨Y,_,_,_,_,Be,_,o,Bd,_,Dk,rfl,M,⟨p,tQ,uQ⟩,K,G,Af,Ar,H,I,J,c,g,P,h0,N,A4,F,(by rw[e0,← Cw,makerL_no Bg Bt.2 C2 Bh B5])⟩
   (have B5:=dF C8);refine c_skip (c_then (c_region (mv rfl (st _ (r_loadPart (Rec.cells W Ae) rfl (by exact agg46) z rfl) (st_buildSliceG [(Rec.cells W Ae)] u25 elT46 (by decide) (by decide) rfl rfl ⟨rfl,tV⟩ ⟨rfl,tV⟩ rfl (by decide) ?_)))));intro En E8 Dp Es U B9;have D1:=uQ _ Dp;obtain⟨K,h0,P,F,V,z,H,I⟩:=k8 U K h0 P F V z H I;obtain⟨J,c,uQ,M⟩:=k4 U J c uQ M;replace B9:=Ls.of_blk (m:=1) (R:=D3) (T:=tRec) (xs:=[W]) B9 ⟨_,_,rfl,(tRec_mk Ad V),rfl⟩ rfl (by decide) D1;refine st_ap (sz:=20) (by rfl) u25 elT46 rfl rfl P B9 (fun _ h _=>h) uQ (Fsh.new M) (by(simp<;>omega)) (by(simp<;>omega)) ?_;intro D0 E9 D4 sQ sT Aq Ds U y _ Dx;have Cx:∀x,vblock D0=some x→x≠Bb:=fun x hx h=>(Dx x hx).elim (fun h2=>Av x h2 h) (fun h2=>by have h3:=z.lt;omega);have A1:=P;clear P;replace G:=nQ G sT;replace N:=nQ N sT;replace H:=H.sub sQ sT;replace I:=I.sub sQ sT;replace J:=J.sub sQ sT;replace c:=c.sub sQ;replace tQ:=tT tQ sT;replace p:=fun b X hl=>sQ b (p b X hl) (lj hl M.size);replace K:=K.md U (aW A1 K);replace h0:=h0.md U (aW A1 h0);replace F:=(F.sub sQ).md U y
   replace H:=H.md U (aO A1 H) y;replace I:=I.md U (aO A1 I) y;replace J:=J.md U (aO A1 J) y;replace c:=c.md U y;replace uQ:=uQ.md U;replace M:=M.stepO U (fun b X=>Fsh.wid (A1.2 b X).1);replace uQ:=Aq;clear Aq sQ sT y Dx;refine asg rfl (st_nil (n_block (c_then ?_)));refine next9 (x0:=Be) (x1:=Bv) (x2:=Bw) (x3:=Bx) (x4:=Bz) (x5:=Bd) (x6:=Bu) (x7:=D0) (x8:=(o ++ ([W]))) (by simp;omega) ⟨rfl,rfl,rfl,rfl,rfl,rfl,tV⟩ ⟨D4,tQ,p,uQ,M,K,H,I,J,c,Ar,h0,F,A4,Ds,G,N,g,Dy,(by simp;omega),(by have hh:=Cw;rw[makerL_on Bg Bt.2 C2 Bh B5]at hh;exact hh)⟩
  (have Dq:=B4)
  have Bt:sq=Ay∧¬sq.pos<sq.l.length:=by
   have h:=C0;rw[B4]at h;simp[Sq.more]at h;exact⟨h.2,by omega⟩
  refine c_exit (x_then (x_then (x_hit (c_then (ns (m2 rfl rfl (asg rfl (ar rfl ?_))))))));obtain⟨Dl,fQ,fT,Au⟩:=P.freeze;replace E:=E.subF fQ fT (aO P E);replace C:=C.subF fQ fT (aO P C);replace A:=A.subF fQ fT (aO P A);replace D:=D.sub (fun b X _=>fQ b X);replace G:=fun hh=>(fT _ hh).elim G (nfz (aW P K));replace N:=fun hh=>(fT _ hh).elim N (nfz (aW P h0));replace j:=j.sub (fun b X _=>fQ b X);replace tQ:=fun b X=>(fT b X).elim (tQ b) (fun hv=>Fsh.up Dc b (P.2 b hv).1);replace p:=fun b X hl=>fQ b (p b X hl);replace uQ:Up Ej Dl:=fun b X=>fQ b (uQ b X);clear P fQ fT;have P:=Au;clear Au;have e0:s.maker most=r0:=(by unfold Sq.maker;simp only[B6,B7,B8];exact Cc);exact retL (vs:=[(.pointer (some ⟨Y,0,none⟩)),vo]) trivial rfl ⟨rfl,rfl,tV⟩ rfl ⟨Y,_,_,_,_,mm,_,o,Ay,_,Dl,rfl,M,⟨p,tQ,uQ⟩,K,G,Af,A6,E,C,A,D,O,P,h0,N,A3,j,(by rw[e0,← Cw,makerL_end (fun h=>Bt.2 h.2),Bt.1])⟩
 (have Bg:=dF A5);refine sk A5 (sk A5 (st _ (r_pick_f rfl A5 rfl) (nt (c_if_f rfl rfl (c_exit (x_then (x_then (x_hit (c_then (ns (m2 rfl rfl (asg rfl ?_))))))))))));refine ar rfl ?_;obtain⟨Dm,fQ,fT,Au⟩:=P.freeze;replace E:=E.subF fQ fT (aO P E);replace C:=C.subF fQ fT (aO P C);replace A:=A.subF fQ fT (aO P A);replace D:=D.sub (fun b X _=>fQ b X);replace G:=fun hh=>(fT _ hh).elim G (nfz (aW P K));replace Aw:=Aw.sub (fun b X _=>fQ b X);replace N:=fun hh=>(fT _ hh).elim N (nfz (aW P h0));replace tQ:=fun b X=>(fT b X).elim (tQ b) (fun hv=>Fsh.up Dc b (P.2 b hv).1);replace p:=fun b X hl=>fQ b (p b X hl);replace uQ:Up Ei Dm:=fun b X=>fQ b (uQ b X);clear P fQ fT;have P:=Au;clear Au;have e0:s.maker most=r0:=(by unfold Sq.maker;simp only[B6,B7,B8];exact Cc);exact retL (vs:=[(.pointer (some ⟨Y,0,none⟩)),vo]) trivial rfl ⟨rfl,rfl,tV⟩ rfl ⟨Y,_,_,_,_,mm,_,o,sq,_,Dm,rfl,M,⟨p,tQ,uQ⟩,K,G,Af,A6,E,C,A,D,O,P,h0,N,Cd,Aw,(by rw[e0,← Cw,makerL_end (fun h=>Bg h.1)])⟩
theorem fn10:isFn Zp 10=true:=by kernel_rfl
theorem fn8:isFn Zp 8=true:=by kernel_rfl
theorem pl30:bplace Zp 30=some [(0,1),(1,1)]:=by kernel_rfl
theorem z30:zcells Zp 30=some [.slice none 0 0,.int .i64 0]:=by kernel_rfl
theorem kImageM_any (uQ:Up w Q) {v0:Value} {l:List Int} (h0:Ls tInt w Q v0 l) (most:Nat) (p1:most≤100000) :
  Calls Zp 19 #[v0,.int .i64 most] w fun en w'=>∃u0:Value,∃r0:List UInt8,en = .returned u0∧Md [] w w'∧Ls tB8 w' Q u0 r0∧∃(m:Mk) (rs:List Rec) (s:Sq),(Sq.mk l 0).maker most=(m,rs,s)∧Mk.ok m∧imageM m 1=r0∧r0.length≤100000:=by
 refine enter (n:=17) Tryz.func19 q q q ?_;intro B;have g:=h0.len63;refine ns (an q (nm q (st (.agg (Sq.cells {l:=l,pos:=0} v0).toArray) (r_build (cs:=Sq.cells {l:=l,pos:=0} v0) (ps:=[(0,0)]) z30 pl30 q q (by simp[OneAll,h0.oneCell]) q q q) (st_box (cs:=Sq.cells {l:=l,pos:=0} v0) q q ?_))));intro b w1 K Y F O;obtain⟨h,d,z,Z,e⟩:=exQ uQ K Y F;replace h0:=(h0.sub d).o F;have M:=F;refine mv q (st_call fn8 q (kMaker_any e {l:=l,pos:=0} O Z (show Sq.ok _ from(by decide:(0:Nat)<9223372036854775808)) h0 most (by omega) p1) ?_);rintro en f ⟨a,x0,x1,x2,x3,m,y0,rs,y,z0,i,rfl,G,⟨v,x,u2⟩,P,t,o,C,U,V,W,I,k,X,p,u,c,T,L⟩;refine rv ?_;have J:=M.step1 G K;refine mv q (se q q (se q q (asg q (an q (nm q ?_)))));have E:=(maker_ok L).1;have D:=E.small;have A:=E.hd;have S:Pt tMk 102 f (fun _=>True) (.pointer (some ⟨a,0,none⟩)) m:=⟨_,_,q,trivial,P,tMk_mk C (U.ls (fun _ _=>trivial) fun _ _=>trivial) (V.ls (fun _ _=>trivial) fun _ _=>trivial) (W.ls (fun _ _=>trivial) fun _ _=>trivial) (I.sub fun _ _ _=>trivial)⟩;refine st_call fn10 q (mimage_any (Q:=fun _=>True) (fun _ _=>trivial) S 1 (by decide) A (by omega)) ?_;rintro en w3 ⟨u0,r0,j,rfl,H,r,R,N⟩;refine rv ?_;refine ar q ?_;refine ret1 trivial q q ⟨_,r0,q,J.k H,R.lsB (uQ.md J),_,_,_,L,C,N,?_⟩;rw[← N];exact imageM_len C.2.1 D
theorem kImageL_any (uQ:Up w Q) {v0:Value} {l:List Int} (h0:Ls tInt w Q v0 l) (most:Nat) (p1:most≤100000) :
  Calls Zp 19 #[v0,.int .i64 most] w fun en w'=>∃u0:Value,∃r0:List UInt8,en = .returned u0∧Md [] w w'∧Ls tB8 w' Q u0 r0∧imageOf l most=r0∧r0.length≤100000 :=
 (kImageM_any uQ h0 most p1).mono fun en w' ⟨u0,r0,h1,h2,h3,m,rs,s,h4,h5,h6,h7⟩=>⟨u0,r0,h1,h2,h3,by unfold imageOf;rw[h4];exact h6,h7⟩
theorem kImage_any (uQ:Up w Q) {v0:Value} {l:List Int} (h0:Ls tInt w Q v0 l) (most:Nat) (p1:most≤100000) :
  Calls Zp 19 #[v0,.int .i64 most] w fun en w'=>∃u0:Value,∃r0:List UInt8,en = .returned u0∧Md [] w w'∧Ls tB8 w' Q u0 r0∧imageOf l most=r0 :=
 (kImageL_any uQ h0 most p1).mono fun en w' ⟨u0,r0,h1,h2,h3,h4,_⟩=>⟨u0,r0,h1,h2,h3,h4⟩
theorem fn14:isFn Zp 14=true:=by kernel_rfl
theorem fn19:isFn Zp 19=true:=by kernel_rfl
theorem fn9:isFn Zp 9=true:=by kernel_rfl
theorem u31:Zp.underlying 31=some (.pointer 96):=by kernel_rfl
theorem kImageB_any (uQ:Up w Q) {v0:Value} {l:List Int} (h0:Ls tInt w Q v0 l) (most:Nat) (a1:most<9223372036854775808) (p0:most≤100000) :
  Calls Zp 19 #[v0,.int .i64 most] w fun en w'=>∃u0:Value,∃r0:List UInt8,en = .returned u0∧Md [] w w'∧Ls tB8 w' Q u0 r0∧imageOf l most=r0:=kImage_any uQ h0 most p0
theorem cFirst_any (uQ:Up w Q)  :
  Calls Zp 7 #[] w fun en w'=>∃r0:Bool,en = .returned (.bool r0)∧Md [] w w'∧true=r0:=by
 have M:=Md.refl [] w;have Aq:=uQ;refine enter (n:=29) Tryz.func7 q q q fun B=>ns (an q (ns (st_call fn19 q (kImageB_any uQ (Ls.nil tInt _ _) 0 (by first|omega|(simp<;>omega)) (by first|omega|(simp<;>omega)|(simp at *<;>omega))) ?_)));rintro en w1 ⟨Ab,Ac,rfl,I,V,W⟩;refine rv ?_;obtain⟨uQ,M⟩:=k2 I uQ M;have il:=img_len;obtain⟨y,X,e8⟩:=open_e11;rw[W]at il X;have Au:=open_len X rfl;refine st_call fn9 q (aOpen_any uQ V (by first|omega|(simp<;>omega)|(simp at *<;>omega))) ?_;rintro en w2 ⟨c,Ad,d,rfl,I,L,u,g⟩;refine rv ?_;obtain⟨uQ,M⟩:=k2 I uQ M;refine mv q (se q q (se q q (asg q (an q (c_seq (ns ?_))))));have oe:=X.symm.trans g;obtain⟨j,Am⟩:=Prod.mk.inj oe;obtain⟨Ao,k,l⟩:=open_tab X rfl;refine mv q (st _ (r_neN (a:=d) (b:=0) q q) (mv q ?_));refine part_n (t:=12) q (fun A=>?_) (fun A=>?_)
 ·(first|(have D:=dT A)|(have D:=dF (bnt A))|(have D:=bnt A)|(have D:=A));exfalso;omega
 (first|(have D:=dF A)|(have D:=dT (bnf A))|(have D:=bnf A)|(have D:=A));refine sg A (r_move q) (sg A (r_eqlPO L q u31) (st _ (r_pick_f q A q) (nt ?_)));refine c_if q (fun G=>?_) (fun G=>?_)
 ·(first|(have E:=dT G)|(have E:=dF (bnt G))|(have E:=bnt G)|(have E:=G));exfalso;simp_all
 (first|(have E:=dF G)|(have E:=dT (bnf G))|(have E:=bnf G)|(have E:=G));refine c_skip (c_then (ns ?_));have H:Pt tPView 96 w2 Q c y:=(by have h:=L;rw[j.symm]at h;exact h);clear L;refine mv q (st_buildSliceG [[(b8 65)],[(b8 61)],[(b8 49)]] u34 elT5 (by decide) (by decide) q q ⟨q,q,q,tV⟩ ⟨q,q,q,tV⟩ q (by decide) ?_);intro P w3 R Y I J;have O:Fsh [] w P:=Fsh.new M _ R;obtain⟨o,sQ,sT,K,Z⟩:=exQ uQ R Y I;replace H:=(H.sub sQ).o I;replace M:=M.k I;replace uQ:=Z;clear Z sQ sT;refine st_mark u34 u5 q (show Blk _ _ (([65,61,49]:Ly).map b8) _ from J) (By.of_blk (show Blk _ _ (([65,61,49]:Ly).map b8) _ from J) q (by decide)) ?_;intro w5 I r;have S:=J;clear J;have p:∀b∈[P],¬o b:=(hI K);replace H:=H.md I p;replace uQ:=uQ.md I;replace M:=M.step I (hI O);obtain⟨Q6,f,fT,T⟩:=lit_freeze (Q:=o) r;replace H:=H.sub (fun b U _=>f b U);replace uQ:Up w5 Q6:=fun b U=>f b (uQ b U);clear S p f fT r K;refine st_call fn14 q (cFindData_any uQ H T (by omega) (by exact k) (by exact l) (by simp)) ?_;rintro en w7 ⟨e,N,rfl,I,x,z,i⟩;refine rv ?_;replace M:=M.k I;refine mv q (se q q (se q q (asg q (an q (ns ?_)))));have fe:=(fst11_y X).symm.trans ((congrArg fst11 W).symm.trans fst11_0);have ff:=fe.symm.trans i;obtain⟨Ai,Aj⟩:=Prod.mk.inj ff
 refine mv q (st _ (r_eqN (a:=e) (b:=0) q q) (mv q ?_));refine part_n (t:=25) q (fun C=>?_) (fun C=>?_)
 ·(first|(have F:=dT C)|(have F:=dF (bnt C))|(have F:=bnt C)|(have F:=C));refine sg C (r_move q) (sg C (r_eqN (a:=N) (b:=16) q q) (st _ (r_pick_t q C q) (ar q ?_)));exact ret1L (v:=(.bool ((decide (N=16))))) trivial q ⟨q,tV⟩ ⟨(decide (N=16)),q,M,(by first|rfl|exact(decide_eq_true (by omega)).symm)⟩
 (first|(have F:=dF C)|(have F:=dT (bnf C))|(have F:=bnf C)|(have F:=C));exfalso;omega
theorem kWithinR_any (uQ:Up w Q) {v0:Value} {a:List Pr} (h0:Ls tPr w Q v0 a) {v1:Value} {b:List Pr} (h1:Ls tPr w Q v1 b) :
  Calls Zp 13 #[v0,v1] w fun en w'=>∃r0:Bool,en = .returned (.bool r0)∧Md [] w w'∧allIn b a=r0:=by
 have L0:=h0.len63;have L1:=h1.len63;have M:=Md.refl [] w;have Ac:=uQ;have S:∀b,Q b→Q b:=fun _ h=>h;have F:∀b,Q b→b<w.heap.size→Q b:=fun _ h _=>h;refine enter (n:=34) Tryz.func13 rfl rfl rfl fun B=>ns (an rfl (c_seq (ns (asg rfl (nt (c_block ?_))))));obtain⟨r0,E⟩:∃r,allIn b a=r:=⟨_,rfl⟩;have x:=E
 try simp only[List.nil_append]at E
 refine loop1 (fun(i:Nat)=>[(5,(.int .i64 i)),(0,v0),(1,v1)]) (fun(i:Nat) w'=>∃Q':Nat→Prop,(∀b,Q' b→Q b)∧(∀b,Q b→b<w.heap.size→Q' b)∧Up w' Q'∧Md [] w w'∧Ls tPr w' Q' v0 a∧Ls tPr w' Q' v1 b∧allIn b (a.drop i)=r0) (fun(i:Nat)=>a.length-i) (x0:=0) ?_ ?_ ?_
 ·exact⟨rfl,rfl,rfl,tV⟩
 ·exact⟨Q,S,F,uQ,M,h0,h1,(by have P:=E;exact P)⟩
 clear M uQ S F h0 h1
 rintro i B w1 ⟨z,S,F,uQ,M,h0,h1,R⟩;refine c_seq (ns (m2 rfl rfl (sL rfl u41 h0.shp (st _ (r_ltN (a:=i) (b:=a.length) rfl rfl) (nt ?_)))));refine c_if rfl (fun U=>?_) (fun U=>?_)
 ·(have C:=dT U);refine c_skip (c_then (c_seq (c_block (ns (an rfl (c_seq (ns (asg rfl (nt (c_block ?_))))))))));obtain⟨r1,G⟩:∃r,hasP (a.getD i {name:=[],value:=[]}) b=r:=⟨_,rfl⟩;have y:=G
  try simp only[List.nil_append]at G
  refine loop2 (fun(d:Bool) (j:Nat)=>[(6,(.bool d)),(7,(.int .i64 j)),(0,v0),(1,v1),(5,(.int .i64 i)),(8,(.int .i64 i)),(9,v0),(10,(.int .i64 a.length)),(11,(.bool ((decide (i<a.length)))))]) (fun(d:Bool) (j:Nat) w'=>∃Q':Nat→Prop,(∀b,Q' b→Q b)∧(∀b,Q b→b<w.heap.size→Q' b)∧Up w' Q'∧Md [] w w'∧Ls tPr w' Q' v0 a∧Ls tPr w' Q' v1 b∧(d || hasP (a.getD i {name:=[],value:=[]}) (b.drop j))=r1) (fun(d:Bool) (j:Nat)=>b.length-j) (x0:=false) (x1:=0) ?_ ?_ ?_
  ·exact⟨rfl,rfl,rfl,rfl,rfl,rfl,rfl,rfl,rfl,tV⟩
  ·exact⟨z,S,F,uQ,M,h0,h1,(by have P:=G;exact P)⟩
  clear M uQ S F h0 h1
  rintro d j B w3 ⟨g,S,F,uQ,M,h0,h1,X⟩;refine c_seq (ns (m2 rfl rfl (sL rfl u41 h1.shp (st _ (r_ltN (a:=j) (b:=b.length) rfl rfl) (nt ?_)))));refine c_if rfl (fun V=>?_) (fun V=>?_)
  ·(have I:=dT V);refine c_skip (c_then (c_seq (c_block ?_)));have H:=h0;have J:=h1;refine c_mixT (ml 10) [10,11,12] (fun w'=>Md [] w3 w') mixed (by kernel_rfl) ?_;intro w5 D;refine⟨D.mono (by simp),?_⟩;have u:=D.mono (T:=[]) (by simp);refine mo rfl (mo rfl ?_);refine part_m (t:=21) rfl (fun A=>?_) (fun A=>?_)
   ·(have K:=A);refine m_skip rfl rfl rfl A (m_skip rfl rfl rfl A (m_skip rfl rfl rfl A (m_skip rfl rfl rfl A (m_skip rfl rfl rfl A (m_skip rfl rfl rfl A (m_skip rfl rfl rfl A (m_skip rfl rfl rfl A (m_nil ?_))))))));obtain⟨h0,h1,uQ,M⟩:=k4 D h0 h1 uQ M;clear H J;clear u;refine sk A (st _ (r_pick_t rfl A rfl) (asg rfl (st_nil (n_block (c_then (c_region (mv rfl (st _ (rA (a:=j) (b:=1) rfl rfl (by omega)) (an rfl ?_)))))))));refine next2 (x0:=true) (x1:=(j+1)) (by omega) ⟨rfl,(fitI rfl (by omega)),rfl,rfl,rfl,rfl,rfl,rfl,rfl,tV⟩ ⟨g,S,F,uQ,M,h0,h1,(by have P:=X;simp(disch:=first|omega|assumption|simp) only [hasP_end,Bool.or_false,SS,reduceIte,E,C,I,K]at P;exact P)⟩
   (have K:=A);refine Go.Wk.m_g _ rfl rfl rfl A (fun w' O=>r_move rfl) (Go.Wk.m_g _ rfl rfl rfl A (fun w' O=>r_move rfl) (Go.Wk.m_g _ rfl rfl rfl A (fun w' O=>r_indexN (i:=i) 2 rfl rfl u41 el39 h0.shp (by omega)) ?_));obtain⟨e,Y⟩:=getE (l:=a) (i:=i) (by omega);obtain⟨c7,k,L⟩:=H.get Y;obtain⟨_,rfl⟩:=tPr_un k;replace L:At _ v0 (i*2) (Pr.cells e):=L;refine Go.Wk.m_g _ rfl rfl rfl A (fun w' O=>r_loadEA (kk:=i*2) (Pr.cells e) 0 rfl rfl (by exact agg39) (L.o O) rfl) (Go.Wk.m_g _ rfl rfl rfl A (fun w' O=>r_move rfl) (Go.Wk.m_g _ rfl rfl rfl A (fun w' O=>r_move rfl) (Go.Wk.m_g _ rfl rfl rfl A (fun w' O=>r_indexN (i:=j) 2 rfl rfl u41 el39 h1.shp (by omega)) ?_)));obtain⟨f,Z⟩:=getE (l:=b) (i:=j) (by omega);obtain⟨c9,o,N⟩:=J.get Z;obtain⟨_,rfl⟩:=tPr_un o;replace N:At _ v1 (j*2) (Pr.cells f):=N;refine Go.Wk.m_g _ rfl rfl rfl A (fun w' O=>r_loadEA (kk:=j*2) (Pr.cells f) 0 rfl rfl (by exact agg39) (N.o O) rfl) (m_nil ?_);obtain⟨h0,h1,uQ,M⟩:=k4 D h0 h1 uQ M;clear H J;clear u;refine sg A (r_eqlPr (p:=e) (q:=f) pair39 u9 rfl rfl) (st _ (r_pick_f rfl A rfl) (asg rfl (st_nil ?_)));clear L;clear N;refine n_block (c_then (c_region (mv rfl (st _ (rA (a:=j) (b:=1) rfl rfl (by omega)) (an rfl ?_)))));refine next2 (x0:=((decide (e.pb=f.pb)))) (x1:=(j+1)) (by omega) ⟨rfl,(fitI rfl (by omega)),rfl,rfl,rfl,rfl,rfl,rfl,rfl,tV⟩ ⟨g,S,F,uQ,M,h0,h1,(by have P:=X;simp(disch:=first|omega|assumption|simp) only [hasP_end,Bool.or_false,any_step Y,any_step Z,SS,reduceIte,E,C,I,K,Y,Z]at P;exact P)⟩
  (have I:=dF V);refine c_exit (x_then (x_then (x_hit (c_then (nm rfl (st _ (r_not rfl) (nt ?_)))))));refine c_if rfl (fun W=>?_) (fun W=>?_)
  ·(have c:=bnt W);refine ns ?_;have e0:allIn b a=false:=(by rw[allIn_stepD C,G]at R;rw[hasP_end (by omega)]at X;simp_all);refine ar rfl (r_block (r_then (r_then (r_block (r_then ?_)))));exact ret1L (v:=(.bool false)) trivial rfl ⟨rfl,tV⟩ ⟨false,rfl,M,e0⟩
  (have c:=bnf W);refine c_skip (n_block (c_then (c_region (mv rfl (st _ (rA (a:=i) (b:=1) rfl rfl (by omega)) (an rfl ?_))))));refine next1 (x0:=(i+1)) (by omega) ⟨(fitI rfl (by omega)),rfl,rfl,tV⟩ ⟨g,S,F,uQ,M,h0,h1,(by rw[allIn_stepD C,G]at R;simp_all)⟩
 (have C:=dF U);refine c_exit (x_then (x_then (x_hit (c_then (ns (ar rfl ?_))))));exact ret1L (v:=(.bool true)) trivial rfl ⟨rfl,tV⟩ ⟨true,rfl,M,(by(try (simp(disch:=first|omega|assumption|simp) only [allIn_end,SS,reduceIte,C]at R));simp(disch:=first|omega|assumption|simp) only [SS,reduceIte,E,C,← R])⟩
end Go.Proofs.YtllaambooilnlaaGreat
namespace Go.Wk
open Go Go.RowKit
section
variable {m:Mk} {B:Ly} {H:PHead} {l:List Ob} {es:List EntG} {rs:List Rec}
theorem rec_16 (im:MkIm m l es rs) {i:Nat} {g:EntG} {r:Rec} (hg:es[i]? = some g) (hr:rs[i]? = some r):r.fields.length≤16:=by
  have w:=(im.img.who g (List.mem_of_getElem? hg)).len
  have h:=(im.rcd i g r hg hr).fields.length_eq
  rw[List.length_map,List.length_map]at h
  omega
end
end Go.Wk
namespace Go.Wk
open Go Go.RowKit
def slotP (ks:List Known) (s:Nat):List Nat:=(ks.filter fun k=>decide (k.slot=s)).map Known.pos
theorem slotP_app (ks:List Known) (k:Known) (s:Nat):slotP (ks ++ [k]) s=if k.slot=s then slotP ks s ++ [k.pos]else slotP ks s:=by
  unfold slotP
  rw[List.filter_append,List.map_append]
  by_cases h:k.slot=s
  · rw[if_pos h];simp[h]
  rw[if_neg h];simp[h]
theorem slotP_mem {ks:List Known} {s p:Nat} (h:p∈slotP ks s):∃k∈ks,k.pos=p∧k.slot=s:=by
  obtain⟨k,hk,rfl⟩:=List.mem_map.1 h
  obtain⟨A,B⟩:=List.mem_filter.1 hk
  exact⟨k,A,q,dT B⟩
theorem slotP_in {ks:List Known} {k:Known} (h:k∈ks):k.pos∈slotP ks k.slot:=List.mem_map.2 ⟨k,List.mem_filter.2 ⟨h,decide_eq_true q⟩,q⟩
theorem slotP_sub (ks:List Known) (s:Nat):(slotP ks s).Sublist (ks.map Known.pos):=List.filter_sublist.map _
theorem hangL_eq (s:Nat):∀(ks:List Known) (n q:Nat),hangL s ks n q=(n+(slotP ks s).length,(slotP ks s).getLastD q)
  | [],_,_=>rfl
  | k :: r,n,q=>by
    rw[hangL]
    unfold slotP
    rw[List.filter_cons]
    by_cases h:k.slot=s
    · rw[if_pos h,if_pos (decide_eq_true h),hangL_eq s r]
      simp only[List.map_cons,List.length_cons,List.getLastD_cons]
      unfold slotP
      congr 1;omega
    · rw[if_neg h,if_neg (by simpa using h),hangL_eq s r];rfl
theorem getD_app0 {l:List Nat} {p i:Nat} (h:i<l.length):(l ++ [p]).getD i 0=l.getD i 0:=by
  rw[List.getD_eq_getElem?_getD,List.getD_eq_getElem?_getD,List.getElem?_append_left h]
theorem getD_appn (l:List Nat) (p:Nat):(l ++ [p]).getD l.length 0=p:=by
  rw[List.getD_eq_getElem?_getD,List.getElem?_append_right (Nat.le_refl _),Nat.sub_self];rfl
theorem getD_out0 {l:List Nat} {i:Nat} (h:l.length≤i):l.getD i 0=0:=by rw[List.getD_eq_getElem?_getD,List.getElem?_eq_none h];rfl
theorem lastD_get (l:List Nat) (h:l≠[]):l[l.length-1]? = some (l.getLastD 0):=by
  rw[← List.getLast?_eq_getElem?,List.getLastD_eq_getLast?]
  cases hq:l.getLast? with
  | none=>exact absurd (List.getLast?_eq_none_iff.1 hq) h
  | some x=>rfl
theorem lastD_app (l:List Nat) (p:Nat):(l ++ [p]).getLastD 0=p:=by simp[List.getLastD_eq_getLast?]
structure Row24 (b:Ly) (tab n:Nat) (ks:List Known):Prop where
  slot:∀k∈ks,k.slot<n
  head:∀s:Nat,s<n→at8 b (tab+16*s)=(slotP ks s).getD 0 0
  next:∀s j p:Nat,(slotP ks s)[j]? = some p→at8 b (p+24)=(slotP ks s).getD (j+1) 0
def In24 (tab n:Nat) (ks:List Known) (a:Nat):Prop:=(∃s:Nat,s<n∧a=tab+16*s)∨∃k∈ks,a=k.pos+24
theorem Row24.keep {b c:Ly} {tab n:Nat} {ks:List Known} (h:Row24 b tab n ks) (hc:∀a,In24 tab n ks a→at8 c a=at8 b a):Row24 c tab n ks:=by
  refine⟨h.slot,fun s B=>(hc _ (.inl ⟨s,B,q⟩)).trans (h.head s B),fun s j p A=>?_⟩
  obtain⟨k,hk,e,_⟩:=slotP_mem (List.mem_of_getElem? A)
  exact(hc _ (.inr ⟨k,hk,by rw[e]⟩)).trans (h.next s j p A)
def keyK (k:Known):Nat × Nat × List UInt8:=(k.pos,k.slot,k.text)
theorem slotP_key {ks ks':List Known} (h:ks'.map keyK=ks.map keyK) (s:Nat):slotP ks' s=slotP ks s:=by
  have e:∀ks:List Known,slotP ks s=((ks.map keyK).filter fun q=>decide (q.2.1=s)).map Prod.fst:=fun ks=>by
    unfold slotP;rw[List.filter_map,List.map_map];rfl
  rw[e,e,h]
theorem mem_key {ks ks':List Known} (h:ks'.map keyK=ks.map keyK) {k:Known} (hk:k∈ks'):∃x∈ks,x.pos=k.pos∧x.slot=k.slot∧x.text=k.text:=by
  have:keyK k∈ks.map keyK:=h ▸ List.mem_map.2 ⟨k,hk,q⟩
  obtain⟨x,D,e⟩:=List.mem_map.1 this
  obtain⟨B,A⟩:=Prod.mk.inj e
  obtain⟨A,C⟩:=Prod.mk.inj A
  exact⟨x,D,B,A,C⟩
theorem Row24.key {b:Ly} {tab n:Nat} {ks ks':List Known} (h:Row24 b tab n ks) (hk:ks'.map keyK=ks.map keyK):Row24 b tab n ks':=by
  refine⟨fun k A=>?_,fun s C=>by rw[slotP_key hk];exact h.head s C,fun s j p B=>by rw[slotP_key hk]at B ⊢;exact h.next s j p B⟩
  obtain⟨x,D,_,e,_⟩:=mem_key hk A
  rw[← e];exact h.slot x D
def hangB (b:Ly) (ks:List Known) (tab p s:Nat):List UInt8 :=
  putN (if(slotP ks s).length=0 then putN b (tab+16*s) p else putN b ((slotP ks s).getLastD 0+24) p) (tab+16*s+8) p
theorem hang_b (m:Mk) (ks:List Known) (tab p s:Nat):(m.hang ks tab p s).2.b=hangB m.b ks tab p s:=by
  unfold Mk.hang
  rw[hangL_eq]
  simp only[Nat.zero_add]
  unfold hangB
  split <;> rfl
theorem hangB_len (b:Ly) (ks:List Known) (tab p s:Nat):(hangB b ks tab p s).length=b.length:=by
  unfold hangB;rw[putN_len];split <;> rw[putN_len]
section
variable {b:Ly} {tab n:Nat} {ks:List Known} {k:Known}
theorem asc_ne {l:List Nat} (h:l.Pairwise (· < ·)) {i j a c:Nat} (ha:l[i]? = some a) (hc:l[j]? = some c) (hij:i<j):a<c:=by
  obtain⟨A,rfl⟩:=List.getElem?_eq_some_iff.1 ha
  obtain⟨B,rfl⟩:=List.getElem?_eq_some_iff.1 hc
  exact List.pairwise_iff_getElem.1 h i j A B hij
theorem pos_inj (hn:(ks.map Known.pos).Pairwise (· < ·)) {x y:Known} (hx:x∈ks) (hy:y∈ks) (he:x.pos=y.pos):x=y:=by
  obtain⟨i,E⟩:=List.mem_iff_getElem?.1 hx
  obtain⟨j,B⟩:=List.mem_iff_getElem?.1 hy
  have C:(ks.map Known.pos)[i]? = some x.pos:=by rw[List.getElem?_map,E];rfl
  have D:(ks.map Known.pos)[j]? = some y.pos:=by rw[List.getElem?_map,B];rfl
  rcases Nat.lt_trichotomy i j with A|rfl|A
  · have:=asc_ne hn C D A;omega
  · rw[E]at B;exact Option.some.inj B
  have:=asc_ne hn D C A;omega
theorem hangB_at (hs:k.slot<n) {a p:Nat} (h1:a+8≤tab+16*k.slot∨tab+16*k.slot+16≤a) (h2:∀x∈ks,a+8≤x.pos+24∨x.pos+32≤a):at8 (hangB b ks tab p k.slot) a=at8 b a:=by
  unfold hangB
  rw[at8_put (by omega)]
  split
  · exact at8_put (by omega)
  rename_i hne
  have A:=lastD_get (slotP ks k.slot) (fun e=>hne (by rw[e];rfl))
  obtain⟨x,B,e,_⟩:=slotP_mem (List.mem_of_getElem? A)
  have:=h2 x B
  exact at8_put (by omega)
theorem Row24.hang (h:Row24 b tab n ks) (hs:k.slot<n) (hf:∀x∈ks,tab+16*n≤x.pos) (hp:tab+16*n≤k.pos) (hsep:∀x∈ks,x.pos+40≤k.pos) (pair:∀x∈ks,∀y∈ks,x.pos=y.pos∨x.pos+40≤y.pos∨y.pos+40≤x.pos)
    (nd:(ks.map Known.pos).Pairwise (· < ·)) (hn:at8 b (k.pos+24)=0) (hl:k.pos+40≤b.length) (hk:k.pos<18446744073709551616):Row24 (hangB b ks tab k.pos k.slot) tab n (ks ++ [k]):=by
  have R:(slotP ks k.slot).Pairwise (· < ·):=nd.sublist (slotP_sub ks k.slot)
  have F:∀(c:Ly) (a:Nat),In24 tab n (ks ++ [k]) a→at8 (putN c (tab+16*k.slot+8) k.pos) a=at8 c a:=fun c a S=>by
    refine at8_put ?_
    rcases S with⟨s,X,rfl⟩|⟨x,A,rfl⟩
    · rcases Nat.lt_or_ge k.slot s with M|M <;> omega
    · rcases List.mem_append.1 A with A|A
      · have:=hf x A;omega
      · rw[List.mem_singleton]at A;subst A;omega
  have I:∀s:Nat,s<n→In24 tab n (ks ++ [k]) (tab+16*s):=fun s hs=>.inl ⟨s,hs,rfl⟩
  have E:∀x∈ks,In24 tab n (ks ++ [k]) (x.pos+24):=fun x A=>.inr ⟨x,by simp[A],rfl⟩
  have J:In24 tab n (ks ++ [k]) (k.pos+24):=.inr ⟨k,by simp,rfl⟩
  have slot':∀x∈ks ++ [k],x.slot<n:=fun x A=>by
    rcases List.mem_append.1 A with A|A
    · exact h.slot x A
    · rw[List.mem_singleton]at A;subst A;exact hs
  unfold hangB
  by_cases h0:(slotP ks k.slot).length=0
  · have O:slotP ks k.slot=[]:=List.eq_nil_of_length_eq_zero h0
    rw[if_pos h0]
    refine⟨slot',fun s C=>?_,fun s j p B=>?_⟩
    · rw[F _ _ (I s C),slotP_app]
      by_cases e:k.slot=s
      · subst e
        rw[if_pos rfl,O,at8_put_same (by omega) hk];rfl
      rw[if_neg e,at8_put (by rcases Nat.lt_or_ge k.slot s with M|M<;>omega)];exact h.head s C
    rw[slotP_app]at B ⊢
    by_cases e:k.slot=s
    · subst e
      rw[if_pos rfl,O]at B ⊢
      obtain rfl:j=0:=by
        have:=(List.getElem?_eq_some_iff.1 B).1;simp at this;exact this
      obtain rfl:k.pos=p:=by simpa using B
      rw[F _ _ J,at8_put (by omega),hn];rfl
    rw[if_neg e]at B ⊢
    obtain⟨x,A,H,_⟩:=slotP_mem (List.mem_of_getElem? B)
    have:=hf x A
    subst H
    rw[F _ _ (E x A),at8_put (by omega)]
    exact h.next s j _ B
  rw[if_neg h0]
  have N:slotP ks k.slot≠[]:=fun e=>h0 (by rw[e];rfl)
  have K:=lastD_get _ N
  generalize (slotP ks k.slot).getLastD 0=q at K
  obtain⟨y,G,Q,L⟩:=slotP_mem (List.mem_of_getElem? K)
  have T:=hf y G
  have V:=hsep y G
  refine⟨slot',fun s C=>?_,fun s j p B=>?_⟩
  · rw[F _ _ (I s C),at8_put (by omega),h.head s C,slotP_app]
    by_cases e:k.slot=s
    · subst e;rw[if_pos rfl,getD_app0 (by omega)]
    rw[if_neg e]
  rw[slotP_app]at B ⊢
  by_cases e:k.slot=s
  · subst e
    rw[if_pos rfl]at B ⊢
    rcases Nat.lt_trichotomy j ((slotP ks k.slot).length-1)with D|D|D
    · rw[List.getElem?_append_left (by omega)]at B
      obtain⟨x,A,H,_⟩:=slotP_mem (List.mem_of_getElem? B)
      have:=asc_ne R B K (by omega)
      subst H
      have:=pair x A y G
      rw[F _ _ (E x A),at8_put (by omega),h.next _ j _ B,getD_app0 (by omega)]
    · rw[List.getElem?_append_left (by omega),D,K]at B
      cases B
      rw[F _ _ (by rw[← Q];exact E y G),at8_put_same (by omega) hk,D,show(slotP ks k.slot).length-1+1=(slotP ks k.slot).length by omega,getD_appn]
    have:=(List.getElem?_eq_some_iff.1 B).1
    simp only[List.length_append,List.length_singleton]at this
    obtain rfl:j=(slotP ks k.slot).length:=by omega
    rw[List.getElem?_append_right (Nat.le_refl _),Nat.sub_self]at B
    obtain rfl:k.pos=p:=by simpa using B
    rw[F _ _ J,at8_put (by omega),hn,getD_out0 (by simp)]
  rw[if_neg e]at B ⊢
  obtain⟨x,A,H,P⟩:=slotP_mem (List.mem_of_getElem? B)
  have W:x.pos≠y.pos:=fun U=>e (by rw[← L,← P,pos_inj nd A G U])
  have:=pair x A y G
  subst H
  rw[F _ _ (E x A),at8_put (by omega)]
  exact h.next s j _ B
end
def nameT (t:Ly):List UInt8:=t.takeWhile fun c=>decide (c≠61)
theorem nameT_pay {q:Pr} (h:∀c∈q.name,c≠61):nameT (payload q)=q.name:=by
  unfold nameT payload
  rw[List.append_assoc,List.takeWhile_append_of_pos (fun c A=>decide_eq_true (h c A))]
  simp
def dataP (ds:List Known) (t:Ly):List Nat:=(ds.filter fun k=>decide (nameT k.text=t)).map Known.pos
theorem dataP_app (ds:List Known) (k:Known) (t:Ly):dataP (ds ++ [k]) t=if nameT k.text=t then dataP ds t ++ [k.pos]else dataP ds t:=by
  unfold dataP
  rw[List.filter_append,List.map_append]
  by_cases h:nameT k.text=t
  · rw[if_pos h];simp[h]
  rw[if_neg h];simp[h]
theorem dataP_mem {ds:List Known} {t:Ly} {p:Nat} (h:p∈dataP ds t):∃k∈ds,k.pos=p∧nameT k.text=t:=by
  obtain⟨k,hk,rfl⟩:=List.mem_map.1 h
  obtain⟨A,B⟩:=List.mem_filter.1 hk
  exact⟨k,A,q,dT B⟩
theorem dataP_key {ks ks':List Known} (h:ks'.map keyK=ks.map keyK) (t:Ly):dataP ks' t=dataP ks t:=by
  have e:∀ks:List Known,dataP ks t=((ks.map keyK).filter fun q=>decide (nameT q.2.2=t)).map Prod.fst:=fun ks=>by
    unfold dataP;rw[List.filter_map,List.map_map];rfl
  rw[e,e,h]
structure RowD (b:Ly) (ds fs:List Known):Prop where
  head:∀f∈fs,at8 b (f.pos+32)=(dataP ds f.text).getLastD 0
  next:∀(t:Ly) (j p:Nat),(dataP ds t)[j]? = some p→at8 b (p+32)=if j=0 then 0 else(dataP ds t).getD (j-1) 0
theorem RowD.keep {b c:Ly} {ds fs:List Known} (h:RowD b ds fs) (h1:∀k∈ds,at8 c (k.pos+32)=at8 b (k.pos+32)) (h2:∀f∈fs,at8 c (f.pos+32)=at8 b (f.pos+32)):RowD c ds fs:=by
  refine⟨fun f A=>(h2 f A).trans (h.head f A),fun t j p B=>?_⟩
  obtain⟨k,hk,e,_⟩:=dataP_mem (List.mem_of_getElem? B)
  subst e
  exact(h1 k hk).trans (h.next t j _ B)
theorem RowD.key {b:Ly} {ds ds' fs:List Known} (h:RowD b ds fs) (hk:ds'.map keyK=ds.map keyK):RowD b ds' fs :=
  ⟨fun f hf=>by rw[dataP_key hk];exact h.head f hf,fun t j p hp=>by rw[dataP_key hk]at hp ⊢;exact h.next t j p hp⟩
theorem RowD.field {b:Ly} {ds fs:List Known} {f:Known} (h:RowD b ds fs) (h0:at8 b (f.pos+32)=0) (hn:∀k∈ds,nameT k.text≠f.text):RowD b ds (fs ++ [f]):=by
  refine⟨fun g A=>?_,h.next⟩
  rcases List.mem_append.1 A with A|A
  · exact h.head g A
  rw[List.mem_singleton]at A;subst A
  rw[h0]
  have:dataP ds g.text=[]:=by
    unfold dataP
    rw[List.map_eq_nil_iff,List.filter_eq_nil_iff]
    intro k hk;simpa using hn k hk
  rw[this];rfl
theorem RowD.put {b:Ly} {ds fs:List Known} {f k:Known} {v:Nat} (h:RowD b ds fs) (hf:f∈fs) (ht:f.text=nameT k.text) (hv:v=at8 b (f.pos+32)) (one:∀x∈fs,∀y∈fs,(x.text=y.text↔x.pos=y.pos))
    (ap1:∀x∈ds,(x.pos+40≤k.pos∨k.pos+40≤x.pos)∧(x.pos+40≤f.pos∨f.pos+40≤x.pos)) (ap2:∀g∈fs,(g.pos+40≤k.pos∨k.pos+40≤g.pos)∧(g.pos=f.pos∨g.pos+40≤f.pos∨f.pos+40≤g.pos)) (hk:k.pos<18446744073709551616) (l1:k.pos+40≤b.length) (l2:f.pos+40≤b.length) :
    RowD (putN (putN b (k.pos+32) v) (f.pos+32) k.pos) (ds ++ [k]) fs:=by
  have L:=(ap2 f hf).1
  refine⟨fun g C=>?_,fun t j p A=>?_⟩
  · rw[dataP_app]
    by_cases e:nameT k.text=g.text
    · rw[if_pos e,lastD_app,(one g C f hf).1 (by rw[ht,e]),at8_put_same (by rw[putN_len];omega) hk]
    rw[if_neg e]
    have K:=ap2 g C
    have J:g.pos≠f.pos:=fun I=>e (by rw[(one g C f hf).2 I,ht])
    rw[at8_put (by omega),at8_put (by omega)]
    exact h.head g C
  rw[dataP_app]at A ⊢
  by_cases e:nameT k.text=t
  · rw[if_pos e]at A ⊢
    rcases Nat.lt_or_ge j (dataP ds t).length with F|F
    · rw[List.getElem?_append_left F]at A
      obtain⟨x,E,D,_⟩:=dataP_mem (List.mem_of_getElem? A)
      have G:=ap1 x E
      subst D
      rw[at8_put (by omega),at8_put (by omega),h.next t j _ A]
      split
      · rfl
      rw[getD_app0 (by omega)]
    have:=(List.getElem?_eq_some_iff.1 A).1
    simp only[List.length_append,List.length_singleton]at this
    obtain rfl:j=(dataP ds t).length:=by omega
    rw[List.getElem?_append_right (Nat.le_refl _),Nat.sub_self]at A
    obtain rfl:k.pos=p:=by simpa using A
    have B:=h.head f hf
    rw[ht,e]at B
    rw[at8_put (by omega),at8_put_same (by omega) (by rw[hv];exact at8_lt _ _),hv,B]
    split
    · rename_i h0
      rw[List.eq_nil_of_length_eq_zero h0];rfl
    rename_i h0
    have:=lastD_get (dataP ds t) (fun H=>h0 (by rw[H];rfl))
    rw[getD_app0 (by omega),List.getD_eq_getElem?_getD,this];rfl
  rw[if_neg e]at A ⊢
  obtain⟨x,E,D,_⟩:=dataP_mem (List.mem_of_getElem? A)
  have G:=ap1 x E
  subst D
  rw[at8_put (by omega),at8_put (by omega)]
  exact h.next t j _ A
end Go.Wk
namespace Go.Wk
open Go Go.RowKit
structure Hs (m:Mk):Prop where
  r4:Row24 m.b 288 m.c.dataSlots m.datas
  r5:Row24 m.b (304+16*m.c.dataSlots) m.c.fieldSlots m.fields
  rd:RowD m.b m.datas m.fields
  s4:∀k∈m.datas,k.slot=hashM m k.text%m.c.dataSlots
  s5:∀k∈m.fields,k.slot=hashM m k.text%m.c.fieldSlots
  own:∀k∈m.datas,∃f∈m.fields,f.text=nameT k.text
  bear:∀f∈m.fields,∃k∈m.datas,nameT k.text=f.text
  one:∀x∈m.fields,∀y∈m.fields,x.text=y.text→x=y
  a4:(m.datas.map Known.pos).Pairwise (· < ·)
  a5:(m.fields.map Known.pos).Pairwise (· < ·)
  n15:m.num 15=m.datas.length
  n16:m.num 16=m.fields.length
  c15:m.datas.length≤m.b.length
  c16:m.fields.length≤m.b.length
  h20:m.h.n.length=20
theorem get_at8 {b:Ly} {q:Nat} (h:q+8≤b.length):(getF b (q:Nat) 8).1=at8 b q:=by
  unfold getF at8
  rw[if_pos ⟨by decide,by omega,by omega⟩]
  simp
theorem num_same {m:Mk} {k v:Nat} (h:k<m.h.n.length):(m.setN k v).num k=v:=by
  show(m.h.n.set k v).getD k 0=v
  rw[List.getD_eq_getElem?_getD,List.getElem?_set_self h];rfl
def fobj (h:Nat) (t:Ly):List UInt8:=putFieldF {hash:=h,nextHash:=0,dat:=0,payload:=t}
def dobj (h:Nat) (t:Ly):List UInt8:=putDataF {hash:=h,nextHash:=0,nextField:=0,entry:=0,array:=0,count:=0,payload:=t}
theorem fobj_at {h:Nat} (t:Ly) (hh:h<18446744073709551616):(fobj h t).length=up8 (40+t.length)∧at8 (fobj h t) 24=0∧at8 (fobj h t) 32=0:=by
  have e:fobj h t=putF 2 (nums [h,0,0] ++ t):=rfl
  obtain⟨_,A,B,_⟩:=objB (k:=2) (by decide) [h,0,0] t (by intro v hv;simp at hv;omega)
  rw[← e]at A B
  simp only[List.length_cons,List.length_nil,Nat.zero_add,Nat.reduceAdd,Nat.reduceMul]at A
  exact⟨A,B 1 _ q,B 2 _ q⟩
theorem dobj_at {h:Nat} (t:Ly) (hh:h<18446744073709551616):(dobj h t).length=up8 (64+t.length)∧at8 (dobj h t) 24=0:=by
  have e:dobj h t=putF 1 (nums [h,0,0,0,0,0] ++ t):=rfl
  obtain⟨_,A,B,_⟩:=objB (k:=1) (by decide) [h,0,0,0,0,0] t (by intro v hv;simp at hv;omega)
  rw[← e]at A B
  simp only[List.length_cons,List.length_nil,Nat.zero_add,Nat.reduceAdd,Nat.reduceMul]at A
  exact⟨A,B 1 _ q⟩
def kn (t:Ly) (p s:Nat):Known:={text:=t,pos:=p,slot:=s,count:=0,arrays:=[]}
theorem obj_num (m:Mk) (o:Ly) {i:Nat} (h:i≠6∧i≠7):(m.object o).2.num i=m.num i:=by
  simp only[Mk.object];rw[num_setN (by omega),num_setN (by omega)];rfl
theorem obj_nl (m:Mk) (o:Ly):(m.object o).2.h.n.length=m.h.n.length:=by simp[Mk.object,Mk.setN]
theorem field_new {m:Mk} {name:Ly} (hk:findK name m.fields=none) (h20:m.h.n.length=20) :
    ∃z,m.field name=(m.b.length,z)∧z.b=hangB (m.b ++ fobj (hashM m name) name) m.fields (m.num 4) m.b.length (hashM m name%m.c.fieldSlots)∧z.fields=m.fields ++ [kn name m.b.length (hashM m name%m.c.fieldSlots)]∧z.datas=m.datas∧z.c=m.c∧z.num 15=m.num 15∧z.num 16=(m.num 16+1)%18446744073709551616∧z.h.n.length=20:=by
  unfold Mk.field
  rw[hk]
  simp only
  have H:=object_spec m (fobj (hashM m name) name)
  have I:=object_same m (fobj (hashM m name) name)
  have D:=fun i S=>obj_num m (fobj (hashM m name) name) (i:=i) S
  have J:=obj_nl m (fobj (hashM m name) name)
  have K:(m.object (fobj (hashM m name) name)).2.b=m.b ++ fobj (hashM m name) name:=rfl
  rw[show putFieldF {hash:=hashN m.c.keyed m.c.file name,nextHash:=0,dat:=0,payload:=name}=fobj (hashM m name) name from rfl]
  generalize m.object (fobj (hashM m name) name)=r at *
  obtain⟨p,A⟩:=r
  simp only at H I D J K ⊢
  obtain⟨E,O,F,_⟩:=I
  have L:=hang_b A A.fields (A.num 4) p (hashN m.c.keyed m.c.file name%A.c.fieldSlots)
  have N:=hang_same A A.fields (A.num 4) p (hashN m.c.keyed m.c.file name%A.c.fieldSlots)
  generalize A.hang A.fields (A.num 4) p (hashN m.c.keyed m.c.file name%A.c.fieldSlots)=r at *
  obtain⟨n,B⟩:=r
  simp only at L N ⊢
  obtain⟨P,Q,R,U,V,G⟩:=N
  have M:p=m.b.length:=H.1
  have C:∀i,B.num i=A.num i:=fun i=>by show B.h.n.getD i 0=_;rw[G];rfl
  have T:({B with depth:=max A.depth n}:Mk).h.n.length=20:=by show B.h.n.length=20;rw[G,J,h20]
  refine⟨_,by rw[M],?_,?_,?_,?_,?_,?_,?_⟩
  · show B.b=_;rw[L,K,F,D 4 (by decide),M,E];rfl
  · show B.fields ++ _=_;rw[R,F,E];rfl
  · show B.datas=_;rw[Q,O]
  · show B.c=_;rw[P,E]
  · show(Mk.setN _ 16 _).num 15=_
    rw[num_setN (by decide)];show B.num 15=_;rw[C,D 15 (by decide)]
  · show(Mk.setN _ 16 _).num 16=_
    rw[num_same (by omega)];show(B.num 16+1)%_=_;rw[C,D 16 (by decide)]
  show(B.h.n.set 16 _).length=20;rw[List.length_set];exact T
theorem data_new {m:Mk} {x:Pr} (hk:findI (payload x) m.datas 0=none) (h20:m.h.n.length=20) :
    ∃z:Mk,z.b=hangB (m.b ++ dobj (hashM m (payload x)) (payload x)) m.datas (m.num 2) m.b.length (hashM m (payload x)%m.c.dataSlots)∧z.datas=m.datas ++ [kn (payload x) m.b.length (hashM m (payload x)%m.c.dataSlots)]∧z.fields=m.fields∧z.c=m.c∧z.num 15=(m.num 15+1)%18446744073709551616∧z.num 16=m.num 16∧z.num 4=m.num 4∧z.h.n.length=20 ∧
      (m.data x).2=(((z.field x.name).2.put (m.b.length+32) (getF (z.field x.name).2.b ((z.field x.name).1+32:Nat) 8).1).put ((z.field x.name).1+32) m.b.length):=by
  unfold Mk.data
  rw[hk]
  simp only
  have I:=object_spec m (dobj (hashM m (payload x)) (payload x))
  have J:=object_same m (dobj (hashM m (payload x)) (payload x))
  have D:=fun i S=>obj_num m (dobj (hashM m (payload x)) (payload x)) (i:=i) S
  have K:=obj_nl m (dobj (hashM m (payload x)) (payload x))
  have L:(m.object (dobj (hashM m (payload x)) (payload x))).2.b=m.b ++ dobj (hashM m (payload x)) (payload x):=rfl
  rw[show putDataF {hash:=hashN m.c.keyed m.c.file (payload x),nextHash:=0,nextField:=0,entry:=0,array:=0,count:=0,payload:=payload x}=dobj (hashM m (payload x)) (payload x)from rfl]
  generalize m.object (dobj (hashM m (payload x)) (payload x))=r at *
  obtain⟨p,B⟩:=r
  simp only at I J D K L ⊢
  obtain⟨E,G,O,_⟩:=J
  have M:=hang_b B B.datas (B.num 2) p (hashN m.c.keyed m.c.file (payload x)%B.c.dataSlots)
  have N:=hang_same B B.datas (B.num 2) p (hashN m.c.keyed m.c.file (payload x)%B.c.dataSlots)
  generalize B.hang B.datas (B.num 2) p (hashN m.c.keyed m.c.file (payload x)%B.c.dataSlots)=r at *
  obtain⟨n,A⟩:=r
  simp only at M N ⊢
  obtain⟨P,Q,R,V,W,H⟩:=N
  have F:p=m.b.length:=I.1
  have C:∀i,A.num i=B.num i:=fun i=>by show A.h.n.getD i 0=_;rw[H];rfl
  have T:A.h.n.length=20:=by rw[H,K,h20]
  have U:(A.setN 19 (max (A.num 19) n)).h.n.length=20:=by show(A.h.n.set 19 _).length=20;rw[List.length_set];exact T
  refine⟨({(A.setN 19 (max (A.num 19) n)).setN 15 (((A.setN 19 (max (A.num 19) n)).num 15+1)%18446744073709551616)with datas:=A.datas ++ [kn (payload x) p (hashN m.c.keyed m.c.file (payload x)%B.c.dataSlots)]}:Mk),?_,?_,?_,?_,?_,?_,?_,?_,?_⟩
  · show A.b=_;rw[M,L,G,D 2 (by decide),F,E];rfl
  · show A.datas ++ _=_;rw[Q,G,F,E];rfl
  · show A.fields=_;rw[R,O]
  · show A.c=_;rw[P,E]
  · show(Mk.setN _ 15 _).num 15=_
    rw[num_same (by omega),num_setN (by decide),C,D 15 (by decide)]
  · show(Mk.setN _ 15 _).num 16=_
    rw[num_setN (by decide),num_setN (by decide),C,D 16 (by decide)]
  · show(Mk.setN _ 15 _).num 4=_
    rw[num_setN (by decide),num_setN (by decide),C,D 4 (by decide)]
  · show(List.set _ 15 _).length=20;rw[List.length_set];exact U
  subst F;rfl
theorem put_sm (m:Mk) (p v:Nat):(m.put p v).datas=m.datas∧(m.put p v).fields=m.fields∧(m.put p v).c=m.c∧(m.put p v).h=m.h∧(m.put p v).b=putN m.b p v:=by
  unfold Mk.put;exact⟨q,q,q,q,q⟩
theorem put_two (m:Mk) (p v q u:Nat):∃R,(m.put p v).put q u=R∧R.datas=m.datas∧R.fields=m.fields∧R.c=m.c∧(∀i,R.num i=m.num i)∧R.h.n.length=m.h.n.length∧R.b=putN (putN m.b p v) q u:=by
  obtain⟨C,D,E,A,F⟩:=put_sm m p v
  obtain⟨G,H,I,B,J⟩:=put_sm (m.put p v) q u
  exact⟨_,rfl,G.trans C,H.trans D,I.trans E,fun i=>by unfold Mk.num;rw[B,A],by rw[B,A],by rw[J,F]⟩
section
variable {m:Mk} {l:List Ob}
theorem Stat.far (h:Stat m l) {o:Ob} (ho:o∈l) (hk:o.kind=1∨o.kind=2):304+16*m.c.dataSlots+16*m.c.fieldSlots≤o.pos:=by
  have B:=h.objs.mem ho
  have g:=B.ge
  have E:=up8_ge o.size
  have C:up8 (16+16*m.c.dataSlots)=16+16*m.c.dataSlots:=by unfold up8;omega
  have u5:up8 (16+16*m.c.fieldSlots)=16+16*m.c.fieldSlots:=by unfold up8;omega
  have D:=B.size.1
  rcases h.objs.sep ho h.tab4 with e|e|e
  · subst e;simp at hk
  · simp only at e;omega
  simp only[C]at e
  rcases h.objs.sep ho h.tab5 with A|A|A
  · subst A;simp at hk
  · simp only at A;omega
  simp only[u5]at A;omega
theorem Stat.two (h:Stat m l) {o x:Ob} (ho:o∈l) (hx:x∈l) (so:40≤o.size) (sx:40≤x.size):o.pos=x.pos∨o.pos+40≤x.pos∨x.pos+40≤o.pos:=by
  have:=up8_ge o.size
  have:=up8_ge x.size
  rcases h.objs.sep ho hx with e|e|e
  · exact .inl (by rw[e])
  · exact .inr (.inl (by omega))
  exact .inr (.inr (by omega))
theorem Stat.apart (h:Stat m l) {o x:Ob} (ho:o∈l) (hx:x∈l) (so:40≤o.size) (sx:40≤x.size) (hk:o.kind≠x.kind):o.pos+40≤x.pos∨x.pos+40≤o.pos:=by
  have:=up8_ge o.size
  have:=up8_ge x.size
  rcases h.objs.sep ho hx with e|e|e
  · exact absurd (congrArg Ob.kind e) hk
  · exact .inl (by omega)
  exact .inr (by omega)
theorem Stat.top (h:Stat m l) {o:Ob} (ho:o∈l) (so:40≤o.size):o.pos+40≤m.b.length:=by
  have:=up8_ge o.size
  have:=(h.objs.mem ho).le
  omega
theorem Stat.dd (h:Stat m l):(∀x∈m.datas,304+16*m.c.dataSlots+16*m.c.fieldSlots≤x.pos∧x.pos+40≤m.b.length)∧(∀x∈m.fields,304+16*m.c.dataSlots+16*m.c.fieldSlots≤x.pos∧x.pos+40≤m.b.length) ∧
    (∀x∈m.datas,∀y∈m.datas,x.pos=y.pos∨x.pos+40≤y.pos∨y.pos+40≤x.pos)∧(∀x∈m.fields,∀y∈m.fields,x.pos=y.pos∨x.pos+40≤y.pos∨y.pos+40≤x.pos)∧(∀x∈m.datas,∀y∈m.fields,x.pos+40≤y.pos∨y.pos+40≤x.pos):=by
  refine⟨fun x A=>?_,fun x A=>?_,fun x A y B=>?_,fun x A y B=>?_,fun x A y B=>?_⟩
  · have o:=(h.data x A).ob;exact⟨h.far o (.inl q),h.top o (by simp only;omega)⟩
  · have o:=(h.fld x A).ob;exact⟨h.far o (.inr q),h.top o (by simp only;omega)⟩
  · exact h.two (h.data x A).ob (h.data y B).ob (by simp only;omega) (by simp only;omega)
  · exact h.two (h.fld x A).ob (h.fld y B).ob (by simp only;omega) (by simp only;omega)
  exact h.apart (h.data x A).ob (h.fld y B).ob (by simp only;omega) (by simp only;omega) (by simp)
end
theorem asc_snoc {ks:List Known} {k:Known} (h:(ks.map Known.pos).Pairwise (· < ·)) (hk:∀x∈ks,x.pos<k.pos):((ks ++ [k]).map Known.pos).Pairwise (· < ·):=by
  rw[List.map_append,List.pairwise_append]
  refine⟨h,by simp,fun a B b A=>?_⟩
  obtain⟨x,C,rfl⟩:=List.mem_map.1 B
  simp only[List.map_cons,List.map_nil,List.mem_singleton]at A
  subst A;exact hk x C
theorem findK_none:∀{l:List Known} {s:Ly},findK s l=none→∀k∈l,k.text≠s
  | [],_,_,_,h=>by cases h
  | x :: l,s,h,k,hk=>by
    rw[findK]at h
    split at h
    · cases h
    · rename_i hx
      rcases List.mem_cons.1 hk with rfl|hk
      · exact hx
      · exact findK_none h k hk
theorem Row24.keepE {b c:Ly} {tab n:Nat} {ks:List Known} (h:Row24 b tab n ks) (h1:∀s:Nat,s<n→at8 c (tab+16*s)=at8 b (tab+16*s)) (h2:∀k∈ks,at8 c (k.pos+24)=at8 b (k.pos+24)):Row24 c tab n ks:=h.keep fun a ha=>by
  rcases ha with⟨s,hs,rfl⟩|⟨k,hk,rfl⟩
  · exact h1 s hs
  · exact h2 k hk
set_option maxHeartbeats 2000000 in
theorem hs_data {m:Mk} {l:List Ob} (h:Stat m l) (H:Hs m) (x:Pr) (he:∀c∈x.name,c≠61) (hb:m.b.length<900000) (hl:(payload x).length≤1000∧x.name.length≤1000) :
    Hs (m.data x).2∧(m.data x).2.datas.map Known.text=if payload x∈m.datas.map Known.text then m.datas.map Known.text else m.datas.map Known.text ++ [payload x]:=by
  cases hk:findI (payload x) m.datas 0 with
  | some i =>
    obtain⟨k,A,L,_⟩:=findI_get hk
    have e:(m.data x).2=m:=by unfold Mk.data;rw[hk]
    rw[e,if_pos (List.mem_map.2 ⟨k,List.mem_of_getElem? A,L⟩)]
    exact⟨H,q⟩
  | none =>
    have A6:=findI_none hk
    obtain⟨z,z1,S,z3,T,z5,z6,z7,z8,z9⟩:=data_new (m:=m) (x:=x) hk H.h20
    obtain⟨r,kp,kt,ks,ek⟩:∃r:Known,r.pos=m.b.length∧r.text=payload x∧r.slot=hashM m (payload x)%m.c.dataSlots∧kn (payload x) m.b.length (hashM m (payload x)%m.c.dataSlots)=r:=⟨_,q,q,q,q⟩
    rw[ek]at S
    clear ek
    obtain⟨U,J,d2,f2,V⟩:=h.dd
    have Br:=h.slots
    have hh:=hashM_lt m (payload x)
    obtain⟨o1,o2⟩:=dobj_at (payload x) hh
    have Ax:hashM m (payload x)%m.c.dataSlots<m.c.dataSlots:=Nat.mod_lt _ (by omega)
    have hu:=up8_ge (64+(payload x).length)
    generalize ho:dobj (hashM m (payload x)) (payload x)=o at *
    rw[h.n2]at z1
    -- the datum stands in its chain
    have B1:(m.b ++ o).length=m.b.length+o.length:=List.length_append
    have Aj:∀a,a+8≤m.b.length→at8 (m.b ++ o) a=at8 m.b a:=fun a M=>at8_app M
    have K:Row24 z.b 288 m.c.dataSlots z.datas:=by
      rw[z1,S,← kp,← ks]
      have A:Row24 (m.b ++ o) 288 m.c.dataSlots m.datas:=H.r4.keepE (fun s hs=>Aj _ (by have:=h.objs.mem h.tab4;have:=this.le;have:=up8_ge (16+16*m.c.dataSlots);simp only at *;omega)) fun k hk=>Aj _ (by have:=U k hk;omega)
      have t4:=h.objs.mem h.tab4
      have Ba:=t4.le
      have Bz:=up8_ge (16+16*m.c.dataSlots)
      simp only at Ba
      exact A.hang (k:=r) (by rw[ks];exact Ax) (fun y N=>by have:=U y N;omega) (by omega) (fun y N=>by have:=U y N;omega) d2 H.a4 (by rw[kp,at8_new];exact o2) (by omega) (by omega)
    have Bg:304+16*m.c.dataSlots+16*m.c.fieldSlots≤m.b.length:=by
      have:=h.objs.mem h.tab5;have:=this.le;have:=up8_ge (16+16*m.c.fieldSlots);simp only at *;omega
    have Ae:∀a,a+8≤m.b.length→(a+8≤288+16*(hashM m (payload x)%m.c.dataSlots)∨288+16*(hashM m (payload x)%m.c.dataSlots)+16≤a)→(∀y∈m.datas,a+8≤y.pos+24∨y.pos+32≤a)→at8 z.b a=at8 m.b a:=fun a M A L=>by
      rw[z1]
      rw[← ks]at A ⊢
      exact(hangB_at (n:=m.c.dataSlots) (by rw[ks];exact Ax) A L).trans (Aj a M)
    have F:Row24 z.b (304+16*m.c.dataSlots) m.c.fieldSlots z.fields:=by
      rw[z3]
      exact H.r5.keepE (fun s hs=>Ae _ (by omega) (by omega) fun y N=>by have:=U y N;omega) fun k hk=>Ae _ (by have:=J k hk;omega) (by have:=J k hk;omega) fun y N=>by have:=V y N k hk;omega
    have D:RowD z.b m.datas z.fields:=by
      rw[z3]
      exact H.rd.keep (fun k hk=>Ae _ (by have:=U k hk;omega) (by have:=U k hk;omega) fun y N=>by have:=d2 y N k hk;omega) fun f X=>Ae _ (by have:=J f X;omega) (by have:=J f X;omega) fun y N=>by have:=V y N f X;omega
    have zb:z.b.length=m.b.length+o.length:=by rw[z1,hangB_len,B1]
    have A7:∀t,hashM z t=hashM m t:=fun t=>by unfold hashM;rw[T]
    rw[z9]
    have Az:∀(w:Mk),w.datas=z.datas→w.datas.map Known.text=if payload x∈m.datas.map Known.text then m.datas.map Known.text else m.datas.map Known.text ++ [payload x]:=fun w hw=>by
      rw[hw,S,if_neg (fun hm=>by obtain⟨k,A,L⟩:=List.mem_map.1 hm;exact A6 k A L),List.map_append,List.map_cons,List.map_nil,kt]
    have a4:(z.datas.map Known.pos).Pairwise (· < ·):=by rw[S];exact asc_snoc H.a4 fun y N=>by have:=U y N;omega
    have Ay:z.num 15=z.datas.length:=by
      have:=H.c15
      rw[z5,S,H.n15,List.length_append];exact Nat.mod_eq_of_lt (by omega)
    have u:nameT (payload x)=x.name:=nameT_pay he
    cases X:findK x.name z.fields with
    | some p =>
      obtain⟨f,f1,rfl,f3⟩:=findK_mem X
      have e:z.field x.name=(f.pos,z):=by unfold Mk.field;rw[X]
      rw[e]
      simp only
      have fm:f∈m.fields:=z3 ▸ f1
      have Bo:=J f fm
      have C:(getF z.b (f.pos+32:Nat) 8).1=at8 z.b (f.pos+32):=get_at8 (by omega)
      have B:∀a,(a+8≤m.b.length+32∨m.b.length+40≤a)→(a+8≤f.pos+32∨f.pos+40≤a)→at8 (putN (putN z.b (m.b.length+32) (getF z.b (f.pos+32:Nat) 8).1) (f.pos+32) m.b.length) a=at8 z.b a:=fun a A L=>by
        rw[at8_put (by omega),at8_put (by omega)]
      have mk:∀y∈z.datas,y∈m.datas∨y=r:=fun y N=>by rw[S]at N;simpa using N
      obtain⟨Z,eZ,I,E,d,Rn,Rl,Y⟩:=put_two z (m.b.length+32) (getF z.b (f.pos+32:Nat) 8).1 (f.pos+32) m.b.length
      rw[eZ]
      clear eZ
      have Q:∀t,hashM Z t=hashM m t:=fun t=>by unfold hashM;rw[d,T]
      refine⟨⟨?_,?_,?_,?_,?_,?_,?_,?_,by rw[I];exact a4,?_,by rw[Rn,I];exact Ay,?_,?_,?_,Rl.trans z8⟩,Az _ I⟩
      · rw[Y,d,I,T]
        refine K.keepE (fun s hs=>B _ (by omega) (by omega)) fun k hk=>?_
        rcases mk k hk with A|rfl
        · have:=U k A;have:=V k A f fm;exact B _ (by omega) (by omega)
        · exact B _ (by omega) (by omega)
      · rw[Y,d,E,T]
        exact F.keepE (fun s hs=>B _ (by omega) (by omega)) fun k hk=>by
          rw[z3]at hk;have:=J k hk;have:=f2 k hk f fm;exact B _ (by omega) (by omega)
      · rw[Y,I,E,S,← kp]
        refine D.put (k:=r) f1 (by rw[f3,kt];exact u.symm) C (fun a M c W=>?_) (fun y N=>?_) (fun g R=>?_) (by omega) (by omega) (by omega)
        · rw[z3]at M W
          exact⟨fun e=>by rw[H.one a M c W e],fun e=>by rw[pos_inj H.a5 M W e]⟩
        · have:=U y N;have:=V y N f fm;omega
        · rw[z3]at R;have:=J g R;have:=f2 g R f fm;omega
      · intro k hk
        rw[I]at hk
        rw[Q,d,T]
        rcases mk k hk with A|rfl
        · exact H.s4 k A
        · rw[ks,kt]
      · intro k hk
        rw[E]at hk
        rw[Q,d,T];exact H.s5 k (z3 ▸ hk)
      · intro k hk
        rw[I]at hk
        rcases mk k hk with A|rfl
        · obtain⟨g,g1,g2⟩:=H.own k A;exact⟨g,by rw[E,z3];exact g1,g2⟩
        · exact⟨f,by rw[E];exact f1,by rw[f3,kt];exact u.symm⟩
      · intro g R
        rw[E]at R
        obtain⟨k,k1,kz2⟩:=H.bear g (z3 ▸ R)
        exact⟨k,by rw[I,S];simp[k1],kz2⟩
      · intro a M c W;rw[E]at M W;exact H.one a (z3 ▸ M) c (z3 ▸ W)
      · rw[E,z3];exact H.a5
      · rw[Rn,E,z6,z3];exact H.n16
      · rw[Y,I,putN_len,putN_len,zb,S,List.length_append];have:=H.c15;simp only[List.length_singleton];omega
      · rw[Y,E,putN_len,putN_len,zb,z3];have:=H.c16;omega
    | none =>
      have P:=findK_none X
      obtain⟨y,y1,y2,y3,y4,y5,y6,y7,y8⟩:=field_new (m:=z) (name:=x.name) X z8
      have R:=hashM_lt z x.name
      obtain⟨q1,q2,q3⟩:=fobj_at x.name R
      have hq:=up8_ge (40+x.name.length)
      have Al:hashM z x.name%z.c.fieldSlots<m.c.fieldSlots:=by rw[T];exact Nat.mod_lt _ (by omega)
      generalize fobj (hashM z x.name) x.name=fo at *
      obtain⟨fd,fp,ft,fs,ef⟩:∃fd:Known,fd.pos=z.b.length∧fd.text=x.name∧fd.slot=hashM z x.name%z.c.fieldSlots∧kn x.name z.b.length (hashM z x.name%z.c.fieldSlots)=fd:=⟨_,q,q,q,q⟩
      rw[ef]at y3
      clear ef
      rw[y1]
      simp only
      rw[z7,h.n4]at y2
      have B2:(z.b ++ fo).length=z.b.length+fo.length:=List.length_append
      have j:∀a,a+8≤z.b.length→at8 (z.b ++ fo) a=at8 z.b a:=fun a M=>at8_app M
      have yb:y.b.length=z.b.length+fo.length:=by rw[y2,hangB_len,B2]
      have mk:∀v∈z.datas,v∈m.datas∨v=r:=fun v C=>by rw[S]at C;simpa using C
      have G:Row24 y.b (304+16*m.c.dataSlots) m.c.fieldSlots y.fields:=by
        rw[y2,y3,z3,← fp,← fs]
        have A:Row24 (z.b ++ fo) (304+16*m.c.dataSlots) m.c.fieldSlots m.fields:=by
          rw[← z3]
          exact F.keepE (fun s hs=>j _ (by omega)) fun k hk=>j _ (by rw[z3]at hk;have:=J k hk;omega)
        exact A.hang (k:=fd) (by rw[fs];exact Al) (fun v C=>by have:=J v C;omega) (by omega) (fun v C=>by have:=J v C;omega) f2 H.a5 (by rw[fp,at8_new];exact q2) (by omega) (by omega)
      have O:∀a,a+8≤z.b.length→(a+8≤304+16*m.c.dataSlots+16*(hashM z x.name%z.c.fieldSlots)∨304+16*m.c.dataSlots+16*(hashM z x.name%z.c.fieldSlots)+16≤a)→(∀v∈m.fields,a+8≤v.pos+24∨v.pos+32≤a)→at8 y.b a=at8 z.b a:=fun a M A L=>by
        rw[y2,z3]
        rw[← fs]at A ⊢
        exact(hangB_at (n:=m.c.fieldSlots) (by rw[fs];exact Al) A L).trans (j a M)
      have K2:Row24 y.b 288 m.c.dataSlots z.datas:=by
        refine K.keepE (fun s hs=>O _ (by omega) (by omega) fun v C=>by have:=J v C;omega) fun k hk=>?_
        rcases mk k hk with A|rfl
        · have:=U k A;exact O _ (by omega) (by omega) fun v C=>by have:=V k A v C;omega
        · exact O _ (by omega) (by omega) fun v C=>by have:=J v C;omega
      have D2:RowD y.b m.datas y.fields:=by
        have A:RowD y.b m.datas z.fields:=D.keep (fun k hk=>by have:=U k hk;exact O _ (by omega) (by omega) fun v C=>by have:=V k hk v C;omega) fun f X=>by
          rw[z3]at X;have:=J f X;exact O _ (by omega) (by omega) fun v C=>by have:=f2 f X v C;omega
        rw[y3]
        refine A.field (f:=fd) ?_ fun k hk e=>?_
        · rw[y2,z3,← fs]
          refine(hangB_at (n:=m.c.fieldSlots) (by rw[fs];exact Al) (by rw[fs];omega) (fun v C=>by have:=J v C;omega)).trans ?_
          rw[fp,at8_new];exact q3
        · obtain⟨g,g1,g2⟩:=H.own k hk
          exact P g (by rw[z3];exact g1) (by rw[g2,e,ft])
      have C:(getF y.b (z.b.length+32:Nat) 8).1=at8 y.b (z.b.length+32):=get_at8 (by omega)
      have B:∀a,(a+8≤m.b.length+32∨m.b.length+40≤a)→(a+8≤z.b.length+32∨z.b.length+40≤a)→at8 (putN (putN y.b (m.b.length+32) (getF y.b (z.b.length+32:Nat) 8).1) (z.b.length+32) m.b.length) a=at8 y.b a:=fun a A L=>by
        rw[at8_put (by omega),at8_put (by omega)]
      have yd:y.datas=z.datas:=y4
      have Bt:∀t,hashM y t=hashM m t:=fun t=>by unfold hashM;rw[y5,T]
      have mf:∀g∈y.fields,g∈m.fields∨g=fd:=fun g R=>by rw[y3,z3]at R;simpa using R
      have f1:fd∈y.fields:=by rw[y3];simp
      obtain⟨Z,eZ,I,E,d,Rn,Rl,Y⟩:=put_two y (m.b.length+32) (getF y.b (z.b.length+32:Nat) 8).1 (z.b.length+32) m.b.length
      rw[eZ]
      clear eZ
      have Q:∀t,hashM Z t=hashM m t:=fun t=>by unfold hashM;rw[d,y5,T]
      refine⟨⟨?_,?_,?_,?_,?_,?_,?_,?_,by rw[I,yd];exact a4,?_,by rw[Rn,I,y6,yd];exact Ay,?_,?_,?_,Rl.trans y8⟩,Az _ (I.trans yd)⟩
      · rw[Y,d,I,y5,T,yd]
        refine K2.keepE (fun s hs=>B _ (by omega) (by omega)) fun k hk=>?_
        rcases mk k hk with A|rfl
        · have:=U k A;exact B _ (by omega) (by omega)
        · exact B _ (by omega) (by omega)
      · rw[Y,d,E,y5,T]
        refine G.keepE (fun s hs=>B _ (by omega) (by omega)) fun k hk=>?_
        rcases mf k hk with A|rfl
        · have:=J k A;exact B _ (by omega) (by omega)
        · exact B _ (by omega) (by omega)
      · rw[Y,I,E,yd,S,← kp,← fp]
        refine D2.put (f:=fd) (k:=r) f1 (by rw[ft,kt];exact u.symm) (by rw[fp];exact C) (fun a M c W=>?_) (fun v C=>?_) (fun g R=>?_) (by omega) (by omega) (by omega)
        · rcases mf a M with A|rfl
          · rcases mf c W with L|rfl
            · exact⟨fun e=>by rw[H.one a A c L e],fun e=>by rw[pos_inj H.a5 A L e]⟩
            · exact⟨fun e=>absurd (e.trans ft) (P a (by rw[z3];exact A)),fun e=>by have:=J a A;omega⟩
          · rcases mf c W with L|rfl
            · exact⟨fun e=>absurd (e.symm.trans ft) (P c (by rw[z3];exact L)),fun e=>by have:=J c L;omega⟩
            · exact⟨fun _=>rfl,fun _=>rfl⟩
        · have:=U v C;omega
        · rcases mf g R with A|rfl
          · have:=J g A;omega
          · omega
      · intro k hk
        rw[I]at hk
        rw[Q,d,y5,T]
        rcases mk k (yd ▸ hk)with A|rfl
        · exact H.s4 k A
        · rw[ks,kt]
      · intro k hk
        rw[E]at hk
        rw[Q,d,y5,T]
        rcases mf k hk with A|rfl
        · exact H.s5 k A
        · rw[fs,ft,A7,T]
      · intro k hk
        rw[I]at hk
        rcases mk k (yd ▸ hk)with A|rfl
        · obtain⟨g,g1,g2⟩:=H.own k A;exact⟨g,by rw[E,y3,z3];simp[g1],g2⟩
        · exact⟨_,by rw[E];exact f1,by rw[ft,kt];exact u.symm⟩
      · intro g R
        rw[E]at R
        rcases mf g R with A|rfl
        · obtain⟨k,k1,kz2⟩:=H.bear g A
          exact⟨k,by rw[I,yd,S];simp[k1],kz2⟩
        · exact⟨r,by rw[I,yd,S];simp,by rw[kt,ft];exact u⟩
      · intro a M c W e
        rw[E]at M W
        rcases mf a M with A|rfl
        · rcases mf c W with L|rfl
          · exact H.one a A c L e
          · exact absurd (e.trans ft) (P a (by rw[z3];exact A))
        · rcases mf c W with L|rfl
          · exact absurd (e.symm.trans ft) (P c (by rw[z3];exact L))
          · rfl
      · rw[E,y3,z3];exact asc_snoc H.a5 fun v C=>by have:=J v C;omega
      · have:=H.c16
        rw[Rn,E,y7,y3,z6,z3,H.n16,List.length_append];exact Nat.mod_eq_of_lt (by omega)
      · rw[Y,I,putN_len,putN_len,yb,zb,yd,S,List.length_append];have:=H.c15;simp only[List.length_singleton];omega
      · rw[Y,E,putN_len,putN_len,yb,zb,y3,z3,List.length_append];have:=H.c16;simp only[List.length_singleton];omega
end Go.Wk
namespace Go.Wk
open Go Go.RowKit
def Firm (l:List Ob) (a:Nat):Prop:=∀o∈l,(o.kind=4∨o.kind=5→a+8≤o.pos∨o.pos+up8 o.size≤a)∧((o.kind=1∨o.kind=2)→40≤o.size→a+8≤o.pos∨o.pos+40≤a)
theorem firm_head {b:Ly} {l:List Ob} {e a:Nat} (hO:Objs b 272 l e) (h:a+8≤272):Firm l a:=fun o ho=>by
  have:=(hO.mem ho).ge
  exact⟨fun _=>.inl (by omega),fun _ _=>.inl (by omega)⟩
theorem firm_in {b:Ly} {l:List Ob} {e a:Nat} (hO:Objs b 272 l e) {x:Ob} (hx:x∈l) (h1:x.pos+16≤a) (h2:a+8≤x.pos+up8 x.size) (hk:x.kind=6∨x.kind=1∧x.pos+40≤a):Firm l a:=fun o ho=>by
  have uo:=up8_ge o.size
  have ux:=up8_ge x.size
  rcases hO.sep ho hx with e1|e1|e1
  · subst e1
    exact⟨fun h=>by omega,fun h _=>by omega⟩
  · exact⟨fun _=>.inr (by omega),fun _ _=>.inr (by omega)⟩
  · exact⟨fun _=>.inl (by omega),fun _ _=>.inl (by omega)⟩
theorem linkS_firm {b:Ly} {l:List Ob} {e src a:Nat} {av:List Nat} (hO:Objs b 272 l e) (h:LinkS src av a) (hob:∀k c:Nat,av[k]? = some c→(⟨c,6,24+8*roomF (k:Int)⟩:Ob)∈l) (hs:Firm l src):Firm l a:=by
  rcases h with h|⟨k,c,A,B,C⟩
  · rw[h];exact hs
  exact firm_in hO (hob k c A) (by simp only;omega) (by rw[up8_arr];simp only;omega) (.inl q)
theorem Firm.mono {l r:List Ob} {a:Nat} (h:Firm r a) (hs:∀o∈l,o∈r):Firm l a:=fun o ho=>h o (hs o ho)
structure Kept (m m':Mk):Prop where
  c:m'.c=m.c
  ds:m'.datas.map keyK=m.datas.map keyK
  fs:m'.fields=m.fields
  n15:m'.num 15=m.num 15
  n16:m'.num 16=m.num 16
  len:m.b.length≤m'.b.length
  at4:∀s:Nat,s<m.c.dataSlots→at8 m'.b (288+16*s)=at8 m.b (288+16*s)
  at5:∀s:Nat,s<m.c.fieldSlots→at8 m'.b (304+16*m.c.dataSlots+16*s)=at8 m.b (304+16*m.c.dataSlots+16*s)
  dd:∀k∈m.datas,at8 m'.b (k.pos+24)=at8 m.b (k.pos+24)∧at8 m'.b (k.pos+32)=at8 m.b (k.pos+32)
  ff:∀k∈m.fields,at8 m'.b (k.pos+24)=at8 m.b (k.pos+24)∧at8 m'.b (k.pos+32)=at8 m.b (k.pos+32)
theorem Kept.refl (m:Mk):Kept m m:=⟨q,q,q,q,q,Nat.le_refl _,fun _ _=>rfl,fun _ _=>rfl,fun _ _=>⟨q,q⟩,fun _ _=>⟨q,q⟩⟩
theorem Kept.trans {a b c:Mk} (h:Kept a b) (k:Kept b c):Kept a c:=by
  refine⟨k.c.trans h.c,k.ds.trans h.ds,k.fs.trans h.fs,k.n15.trans h.n15,k.n16.trans h.n16,ly h.len k.len,fun s B=>(k.at4 s (by rw[h.c];exact B)).trans (h.at4 s B),fun s B=>?_,fun x A=>?_,fun x A=>?_⟩
  · have:=k.at5 s (by rw[h.c];exact B)
    rw[h.c]at this
    exact this.trans (h.at5 s B)
  · obtain⟨y,C,e,_⟩:=mem_key h.ds.symm A
    have:=k.dd y C
    rw[e]at this
    exact⟨this.1.trans (h.dd x A).1,this.2.trans (h.dd x A).2⟩
  have:=k.ff x (by rw[h.fs];exact A)
  exact⟨this.1.trans (h.ff x A).1,this.2.trans (h.ff x A).2⟩
theorem Kept.same {m m':Mk} (hb:m'.b=m.b) (hc:m'.c=m.c) (hd:m'.datas=m.datas) (hf:m'.fields=m.fields) (h15:m'.num 15=m.num 15) (h16:m'.num 16=m.num 16):Kept m m' :=
  ⟨hc,by rw[hd],hf,h15,h16,by rw[hb];exact Nat.le_refl _,fun _ _=>by rw[hb],fun _ _=>by rw[hb],fun _ _=>by rw[hb];exact⟨q,q⟩,fun _ _=>by rw[hb];exact⟨q,q⟩⟩
theorem Kept.eff {m m':Mk} {l:List Ob} {S:Nat→Prop} (h:Stat m l) (he:Eff S m.b m'.b) (hs:∀a,S a→Firm l a) (hc:m'.c=m.c) (hd:m'.datas.map keyK=m.datas.map keyK) (hf:m'.fields=m.fields) (h15:m'.num 15=m.num 15) (h16:m'.num 16=m.num 16):Kept m m':=by
  have H:=h.objs.mem h.tab4
  have C:=H.le
  have E:up8 (16+16*m.c.dataSlots)=16+16*m.c.dataSlots:=by unfold up8;omega
  have u5:up8 (16+16*m.c.fieldSlots)=16+16*m.c.fieldSlots:=by unfold up8;omega
  have I:=h.objs.mem h.tab5
  have D:=I.le
  simp only[E]at C
  simp only[u5]at D
  obtain⟨F,G,_⟩:=h.dd
  refine⟨hc,hd,hf,h15,h16,he.len,fun s B=>he.at8 (by omega) fun a A=>?_,fun s B=>he.at8 (by omega) fun a A=>?_,fun k hk=>?_,fun k hk=>?_⟩
  · have:=((hs a A) _ h.tab4).1 (.inl q);simp only[E]at this;omega
  · have:=((hs a A) _ h.tab5).1 (.inr q);simp only[u5]at this;omega
  · have d:=F k hk
    have f:∀a,S a→a+8≤k.pos∨k.pos+40≤a:=fun a A=>((hs a A) _ (h.data k hk).ob).2 (.inl q) (by simp only;omega)
    exact⟨he.at8 (by omega) fun a A=>by have:=f a A;omega,he.at8 (by omega) fun a A=>by have:=f a A;omega⟩
  have d:=G k hk
  have f:∀a,S a→a+8≤k.pos∨k.pos+40≤a:=fun a A=>((hs a A) _ (h.fld k hk).ob).2 (.inr q) (by simp only;omega)
  exact⟨he.at8 (by omega) fun a A=>by have:=f a A;omega,he.at8 (by omega) fun a A=>by have:=f a A;omega⟩
theorem pos_key {ks ks':List Known} (h:ks'.map keyK=ks.map keyK):ks'.map Known.pos=ks.map Known.pos∧ks'.map Known.text=ks.map Known.text∧ks'.length=ks.length:=by
  have A:∀ks:List Known,ks.map Known.pos=(ks.map keyK).map Prod.fst:=fun ks=>by rw[List.map_map];rfl
  have B:∀ks:List Known,ks.map Known.text=(ks.map keyK).map fun q=>q.2.2:=fun ks=>by rw[List.map_map];rfl
  exact⟨by rw[A,A,h],by rw[B,B,h],by simpa using congrArg List.length h⟩
theorem Hs.kept {m m':Mk} (H:Hs m) (k:Kept m m') (h20:m'.h.n.length=20):Hs m':=by
  obtain⟨K,L,E⟩:=pos_key k.ds
  have D:∀t,hashM m' t=hashM m t:=fun t=>by unfold hashM;rw[k.c]
  refine⟨?_,?_,?_,fun x A=>?_,fun x A=>?_,fun x A=>?_,fun f J=>?_,?_,by rw[K];exact H.a4,by rw[k.fs];exact H.a5,by rw[k.n15,E];exact H.n15,by rw[k.n16,k.fs];exact H.n16,?_,?_,h20⟩
  · rw[k.c]
    exact(H.r4.keepE k.at4 fun x A=>(k.dd x A).1).key k.ds
  · rw[k.c,k.fs]
    exact H.r5.keepE k.at5 fun x A=>(k.ff x A).1
  · rw[k.fs]
    exact(H.rd.keep (fun x A=>(k.dd x A).2) fun x A=>(k.ff x A).2).key k.ds
  · obtain⟨y,C,_,F,B⟩:=mem_key k.ds A
    rw[D,k.c,← F,← B];exact H.s4 y C
  · rw[D,k.c];exact H.s5 x (k.fs ▸ A)
  · obtain⟨y,C,_,_,B⟩:=mem_key k.ds A
    obtain⟨f,G,I⟩:=H.own y C
    exact⟨f,by rw[k.fs];exact G,by rw[I,B]⟩
  · obtain⟨y,C,e⟩:=H.bear f (k.fs ▸ J)
    obtain⟨x,A,_,_,B⟩:=mem_key k.ds.symm C
    exact⟨x,A,by rw[B,e]⟩
  · rw[k.fs];exact H.one
  · rw[E];exact ly H.c15 k.len
  rw[k.fs];exact ly H.c16 k.len
theorem set_key {ds:List Known} {i:Nat} {k k':Known} (h:ds[i]? = some k) (hk:keyK k'=keyK k):(ds.set i k').map keyK=ds.map keyK:=by
  apply List.ext_getElem?
  intro j
  rw[List.getElem?_map,List.getElem?_map]
  by_cases hj:i=j
  · subst hj
    rw[List.getElem?_set_self (List.getElem?_eq_some_iff.1 h).1,h]
    exact congrArg some hk
  rw[List.getElem?_set_ne hj]
theorem hangE_kept {es:List EntG} {mp:List Nat} {e:Nat} (he:e<18446744073709551616):∀(od:List Nat) (m:Mk) (l:List Ob) (f:Nat→List Nat),ImgC m l es mp f→(∀i∈od,i<m.datas.length)→od.Nodup→(∀i∈od,(f i).length<900000)→m.b.length+2100*od.length<900000→Kept m (hangE e od m)
  | [],m,_,_,_,_,_,_,_=>Kept.refl m
  | i :: r,m,l,f,h,hi,hn,hl,hb=>by
    obtain⟨k,hk⟩:∃k,m.datas[i]? = some k:=⟨_,List.getElem?_eq_getElem (hi i (by simp))⟩
    simp only[List.length_cons]at hb
    have hds:=h.stat.data k (List.mem_of_getElem? hk)
    obtain⟨l1,k1,H⟩:=hang_one (e:=e) h.stat.objs hk hds (h.dat i k hk) (by omega) he (by have:=hl i (by simp);omega)
    have g:=h.hang hk H
    have hd1:DSame m.datas (hang1 e i m).datas:=by rw[H.dat];exact DSame.set hk H.pos.1 H.pos.2.1
    have P:=H.top
    obtain⟨M,N,Q,R,F⟩:=H.same
    rw[List.nodup_cons]at hn
    obtain⟨t,I,_⟩:=H.sub
    have B:∀o∈l,o∈l1:=fun o L=>by rw[I];exact List.mem_append_left _ L
    have E:=B _ hds.ob
    have u:=up8_ge (64+k.text.length)
    have A:∀a,k.pos+40≤a→a+8≤k.pos+64→Firm l1 a:=fun a C O=>firm_in H.objs E (by simp only;omega) (by simp only;omega) (.inr ⟨q,C⟩)
    have G:Kept m (hang1 e i m):=Kept.eff h.stat H.eff (fun a J=>by
      refine Firm.mono ?_ B
      rcases hard_cases J with C|C
      · exact A a C.1 C.2
      · exact linkS_firm H.objs C H.more.chain.ob (A _ (by omega) (by omega))) M (by rw[H.dat];exact set_key hk (by unfold keyK;rw[H.pos.1,H.pos.2.1,H.pos.2.2])) N (F 15 (by decide) (by decide) (by decide)) (F 16 (by decide) (by decide) (by decide))
    rw[hangE_cons]
    have K:∀j∈r,(if j=i then f i ++ [e]else f j)=f j:=fun j D=>if_neg (by rintro rfl;exact hn.1 D)
    exact G.trans (hangE_kept he r (hang1 e i m) l1 _ g (fun j D=>by rw[hd1.len];exact hi j (by simp[D])) hn.2 (fun j D=>by simp only[K j D];exact hl j (by simp[D])) (by omega))
def addT:List (List UInt8)→List (List UInt8)→List (List UInt8)
  | ts,[]=>ts
  | ts,p :: r=>addT (if p∈ts then ts else ts ++ [p]) r
theorem addT_app:∀(a b ts:List (List UInt8)),addT ts (a ++ b)=addT (addT ts a) b
  | [],_,_=>rfl
  | p :: a,b,ts=>addT_app a b _
theorem datasL_ge:∀(fs:List Pr) (m:Mk) (l:List Ob) (ps:List (List UInt8)) (od:List Nat),Stat m l→(∀q∈fs,BD q)→m.b.length≤(datasL fs m ps od).2.2.b.length
  | [],_,_,_,_,_,_=>Nat.le_refl _
  | x :: r,m,l,ps,od,h,hb=>by
    obtain⟨l1,d⟩:=data_im h x (hb x (by simp))
    exact ly d.step.eff.len (datasL_ge r (m.data x).2 l1 _ _ d.stat fun q hq=>hb q (by simp[hq]))
theorem datasL_hs:∀(fs:List Pr) (m:Mk) (l:List Ob) (ps:List (List UInt8)) (od:List Nat),Stat m l→Hs m→(∀q∈fs,BD q)→(∀q∈fs,∀c∈q.name,c≠61)→(datasL fs m ps od).2.2.b.length<900000 →
    Hs (datasL fs m ps od).2.2∧(datasL fs m ps od).2.2.datas.map Known.text=addT (m.datas.map Known.text) (fs.map payload)
  | [],_,_,_,_,_,H,_,_,_=>⟨H,rfl⟩
  | x :: r,m,l,ps,od,h,H,hb,hn,hl=>by
    have bx:=hb x (by simp)
    obtain⟨l1,d⟩:=data_im h x bx
    have g1:=datasL_ge (x :: r) m l ps od h hb
    have hp:=payload_len x
    obtain⟨H1,t1⟩:=hs_data h H x (hn x (by simp)) (by omega) ⟨by have:=bx.1;have:=bx.2;omega,by have:=bx.1;omega⟩
    obtain⟨H2,t2⟩:=datasL_hs r (m.data x).2 l1 (ps ++ [((m.data x).2.datas.getD (m.data x).1 known0).text]) (placeF (m.data x).2.datas (m.data x).1 od) d.stat H1 (fun q hq=>hb q (by simp[hq])) (fun q hq=>hn q (by simp[hq])) hl
    exact⟨H2,by rw[List.map_cons,addT,← t1];exact t2⟩
theorem name_61 {s:Ly} (h:isName s=true):∀c∈s,c≠61:=by
  intro c A e
  subst e
  unfold isName at h
  simp only[Bool.and_eq_true]at h
  have:=List.all_eq_true.1 h.2 61 A
  revert this;decide
theorem append_hs {m m':Mk} {l:List Ob} {es:List EntG} {raw fs:List Pr} {real mono s:Nat} {boot:Ly} (h:Img m l es) (H0:Hs m) (ok:MkOk m) (hb:boot.length=16) (hl:listF raw=(fs,0)) (ha:m.append raw real mono boot=(s,0,m')) :
    Hs m'∧m'.datas.map Known.text=addT (m.datas.map Known.text) (fs.map payload):=by
  by_cases h3:m.num 9=18446744073709551615
  · have e:m.append raw real mono boot=(0,1,m):=by unfold Mk.append;simp only[hl];rw[if_neg (by simp),if_pos h3]
    rw[e]at ha
    have:=congrArg (fun x=>x.2.1) ha
    simp at this
  have j:=H0.h20
  have O:=nl_append m raw real mono boot
  rw[ha]at O
  obtain⟨N,A,Af,A7,A8⟩:=listF_all hl
  obtain⟨g,_⟩:=listF_bd hl
  have D:=datasL_ok fs m [] [] 0 (datas_start ok) g
  obtain⟨l1,I,W⟩:=datasL_im fs [] m l [] [] es (es.map EntG.pos) (places es) h.c (fun i Z=>places_nil h.who i Z) ⟨rfl,by simp,by simp,List.Pairwise.nil⟩ g (by rw[List.nil_append];exact asc_payload N A)
  have T:=datasL_hs fs m l [] [] h.c.stat H0 g (fun q hq=>name_61 (by have:=A q hq;unfold right at this;simp only[Bool.and_eq_true]at this;exact this.1))
  rcases hd:datasL fs m [] []with⟨ps,Q,x⟩
  rw[hd,Nat.zero_add]at D
  rw[hd]at I W T
  rw[List.nil_append]at W
  simp only at D I W T
  have s1:=ok.small
  have s4:=ok.nb
  have d2:=D.app.le
  have d5:=D.len.1
  have J:=h.n8
  have Ay:es.length≤40000:=by
    have:m.n8=es.length:=J
    omega
  obtain⟨Hx,tx⟩:=T (by omega)
  obtain⟨c1,c2,c3⟩:=I.same
  have n8:x.num 8=m.num 8:=c3 8 (by decide) (by decide) (by decide)
  have r:=asc_nodup W.asc
  generalize hE:({seq:=(x.num 9+1)%18446744073709551616,real:=real,mono:=mono,boot:=boot,xor:=xorF 0 ps,items:=itemsL x Q}:Ent)=E
  have eb:E.boot.length=16:=by subst hE;exact hb
  have ei:E.items.length=Q.length:=by subst hE;simp[itemsL]
  have G:=I.img.entry (E:=E) (who:=Q) eb (by omega)
  have P:=(object_spec x (putEntryF E))
  have H:=object_same x (putEntryF E)
  have U:∀i,i≠6→i≠7→(x.object (putEntryF E)).2.num i=x.num i:=fun i h6 h7=>obj_num x _ ⟨h6,h7⟩
  have F:(x.object (putEntryF E)).2.b=x.b ++ putEntryF E:=rfl
  have el:=putEntryF_len E eb
  rcases K:x.object (putEntryF E)with⟨e,B⟩
  rw[K]at G P H U F
  simp only at G P H U F
  have p:e=x.b.length:=P.1
  subst p
  have K2:Kept x B:=by
    refine Kept.eff I.img.stat (S:=fun _=>False) (by rw[F];exact Eff.app _ _ _) (fun _ hf=>hf.elim) H.1 (by rw[H.2.1]) H.2.2.1 (U 15 (by decide) (by decide)) (U 16 (by decide) (by decide))
  have w:B.num 8=(es.map EntG.pos).length:=by rw[U 8 (by decide) (by decide),n8,J,List.length_map]
  have A1:x.b.length<100000:=by omega
  obtain⟨l3,L⟩:=link_im (x:=x.b.length) G.stat.objs G.main (main_src _) (by have:=P.2.1;omega) (by omega)
  rw[← w]at L
  rcases hk:B.link B.main (B.num 8) 176 x.b.length with⟨a,t,C⟩
  rw[hk]at L
  simp only at L
  have d:=append_done (real:=real) (mono:=mono) (boot:=boot) hl (by simp) h3 hd (by rw[hE];exact K) hk rfl
  obtain⟨t1,t2,t3,t4,t5,t6⟩:=L.same
  have K3:Kept B C:=by
    have M:∀o∈(l1 ++ [(⟨x.b.length,3,64+16*E.items.length⟩:Ob)]),o∈l3:=fun o K=>by
      rcases L.sub with e1|e1 <;> rw[e1]
      · exact K
      · exact List.mem_append_left _ K
    exact Kept.eff G.stat L.eff (fun a ha=>Firm.mono (linkS_firm L.objs ha L.chain.ob (firm_head L.objs (by decide))) M) t1 (by rw[t2]) t3 (t6 15 (by decide) (by decide) (by decide)) (t6 16 (by decide) (by decide) (by decide))
  obtain⟨Y,X⟩:∃Y,Y=(let m4:=({C with main:=a}:Mk).setN 11 (a.getD 0 0);({m4 with h:={m4.h with tailArray:=lastN a%4294967296,tailItems:=t%4294967296}}:Mk)):=⟨_,rfl⟩
  have V:∀i,i≠11→Y.num i=C.num i:=fun i Z=>by subst X;exact getD_set_ne' (by omega)
  have Ys:Y.b=C.b∧Y.c=C.c∧Y.datas=C.datas∧Y.fields=C.fields∧Y.main=a:=by subst X;exact⟨rfl,rfl,rfl,rfl,rfl⟩
  rw[← X]at d
  clear X
  obtain⟨y,y2,y3,y4,y5⟩:=Ys
  have K4:Kept C Y:=Kept.same y y2 y3 y4 (V 15 (by decide)) (V 16 (by decide))
  have I3:=G.link L y y2 y3 y4 y5 ⟨V 2 (by decide),V 4 (by decide)⟩
  have Ag:=L.top
  have f:Y.datas=x.datas:=by rw[y3,t2,H.2.1]
  have Ah:=P.2.1
  have K5:=hangE_kept (e:=x.b.length) (by omega) Q Y l3 _ I3 (fun i Z=>by rw[f];exact W.lt i Z) r (fun i _=>by have:=places_len es i;omega) (by rw[y];omega)
  generalize hangE x.b.length Q Y=z at *
  replace d:m.append raw real mono boot=if z.c.most<z.b.length then(0,15,m)else((x.num 9+1)%18446744073709551616,0,finM z (B.num 8) ((x.num 9+1)%18446744073709551616) real mono x.b.length boot):=d
  rw[d]at ha
  split at ha
  · have:=congrArg (fun x=>x.2.1) ha;simp at this
  obtain⟨k1,kz2,kz3,kz4,_⟩:=finM_spec z (B.num 8) ((x.num 9+1)%18446744073709551616) real mono x.b.length boot
  have u:=finM_num z (B.num 8) ((x.num 9+1)%18446744073709551616) real mono x.b.length boot 15 (by decide)
  have v:=finM_num z (B.num 8) ((x.num 9+1)%18446744073709551616) real mono x.b.length boot 16 (by decide)
  obtain⟨_,k⟩:=Prod.mk.inj ha
  have n:=(Prod.mk.inj k).2
  generalize finM z (B.num 8) ((x.num 9+1)%18446744073709551616) real mono x.b.length boot=R at *
  subst n
  have KR:Kept x R:=K2.trans (K3.trans (K4.trans (K5.trans (Kept.same k1 kz2 kz3 kz4 u v))))
  exact⟨Hx.kept KR (O.trans j),by rw[(pos_key KR.ds).2.1];exact tx⟩
def textsR (rs:List Rec):List (List UInt8):=rs.flatMap fun r=>r.fields.map payload
theorem makerL_hs:∀(n:Nat) (s:Sq) (m:Mk) (l:List Ob) (es:List EntG) (rs:List Rec),MkIm m l es rs→Hs m→m.datas.map Known.text=addT [] (textsR rs) →
    Hs (makerL n s m rs).1∧(makerL n s m rs).1.datas.map Known.text=addT [] (textsR (makerL n s m rs).2.1)
  | 0,_,_,_,_,_,_,H,ht=>⟨H,ht⟩
  | n+1,s,m,l,es,rs,h,H,ht=>by
    unfold makerL
    split
    · have hr:=record_all s ((m.num 9+1)%18446744073709551616)
      rcases hrec:s.record ((m.num 9+1)%18446744073709551616)with⟨r,s1⟩
      rw[hrec]at hr
      have hk:=(hk_append m r.fields r.real r.mono r.boot).2
      rcases ha:m.append r.fields r.real r.mono r.boot with⟨e,c,m1⟩
      rw[ha]at hk
      simp only[ha]
      split
      · rename_i hc
        have:=hk hc
        simp only at this
        subst this
        exact⟨H,ht⟩
      · rename_i hc
        have hc0:c=0:=Classical.not_not.1 hc
        subst hc0
        obtain⟨l1,es1,g1,g2⟩:=step_im h hr.1 hr.2.1 hr.2.2.1 hr.2.2.2 ha
        obtain⟨_,_,fs,hl,_⟩:=append_im h.img h.ok h.h20 hr.2.1 hr.2.2.1 ha
        have hfs:=listF_self hl hr.2.2.2
        obtain⟨H1,t1⟩:=append_hs h.img H h.ok hr.2.1 hl ha
        exact makerL_hs n s1 m1 l1 es1 _ g1 H1 (by
          rw[t1,ht,hfs];unfold textsR;rw[List.flatMap_append,addT_app];simp)
    · exact⟨H,ht⟩
theorem newMk_hs {c:Cfg} {t:Nat} (h1:1≤c.dataSlots∧1≤c.fieldSlots):Hs (newMk c t):=by
  obtain⟨_,G,H⟩:=tabB (k:=4) (.inl q) c.dataSlots
  obtain⟨_,J,I⟩:=tabB (k:=5) (.inr q) c.fieldSlots
  have E:(newMk c t).b=List.replicate 272 0 ++ putTableF 4 (List.replicate c.dataSlots {first:=0,tail:=0}) ++ putTableF 5 (List.replicate c.fieldSlots {first:=0,tail:=0}):=rfl
  have D:(List.replicate 272 (0:UInt8) ++ putTableF 4 (List.replicate c.dataSlots {first:=0,tail:=0})).length=288+16*c.dataSlots:=by rw[List.length_append,List.length_replicate,G];omega
  have B:(newMk c t).datas=[]:=rfl
  have A:(newMk c t).fields=[]:=rfl
  have F:(newMk c t).c=c:=rfl
  refine⟨⟨by rw[B];simp,fun s C=>?_,by rw[B];simp[slotP]⟩,⟨by rw[A];simp,fun s C=>?_,by rw[A];simp[slotP]⟩,⟨by rw[A];simp,by rw[B];simp[dataP]⟩,by rw[B];simp,by rw[A];simp,by rw[B];simp,by rw[A];simp,by rw[A];simp,by rw[B];simp,by rw[A];simp,?_,?_,by rw[B];simp,by rw[A];simp,?_⟩
  · rw[F]at C
    rw[B,E,at8_app (by rw[D];omega),at8_skip (by rw[List.length_replicate];omega),List.length_replicate,show 288+16*s-272=16+8*(2*s)by omega,H _ (by omega)];rfl
  · rw[F]at C ⊢
    rw[A,E,at8_skip (by omega),D,show 304+16*c.dataSlots+16*s-(288+16*c.dataSlots)=16+8*(2*s)by omega,I _ (by omega)];rfl
  · rw[B];show(((((((((List.replicate 20 0).set 0 272).set 2 288).set 3 _).set 4 _).set 5 _).set 6 _).set 7 2).set 9 _).getD 15 0=0;rw[getD_set_ne' (by decide),getD_set_ne' (by decide),getD_set_ne' (by decide),getD_set_ne' (by decide),getD_set_ne' (by decide),getD_set_ne' (by decide),getD_set_ne' (by decide),getD_set_ne' (by decide)];rfl
  · rw[A];show(((((((((List.replicate 20 0).set 0 272).set 2 288).set 3 _).set 4 _).set 5 _).set 6 _).set 7 2).set 9 _).getD 16 0=0;rw[getD_set_ne' (by decide),getD_set_ne' (by decide),getD_set_ne' (by decide),getD_set_ne' (by decide),getD_set_ne' (by decide),getD_set_ne' (by decide),getD_set_ne' (by decide),getD_set_ne' (by decide)];rfl
  show(((((((((List.replicate 20 0).set 0 272).set 2 288).set 3 _).set 4 _).set 5 _).set 6 _).set 7 2).set 9 _).length=20;simp only[List.length_set,List.length_replicate]
theorem maker_hs {s s':Sq} {most:Nat} {m:Mk} {rs:List Rec} (h:s.maker most=(m,rs,s')):Hs m∧m.datas.map Known.text=addT [] (textsR rs):=by
  have A:=config_ok s
  rcases h1:s.config with⟨c,C⟩
  rcases h2:C.num 6 with⟨t,F⟩
  rw[h1]at A
  have B:=C.num_le 6
  rw[h2]at B
  simp only at B A
  simp only[Sq.maker,h1,h2]at h
  obtain⟨D,E,G⟩:=newMk_im (c:=c) (t:=t) A.1 A.2.1 (by omega)
  have:=makerL_hs most F (newMk c t) (objs0 c) [] [] ⟨D,newMk_ok A.1 A.2.1 A.2.2,q,E,q,by simp,List.Pairwise.nil,by simp⟩ (newMk_hs A.2.1) q
  rw[h]at this
  exact this
end Go.Wk
namespace Go.Wk
open Go Go.RowKit
theorem image_hs {m:Mk} {l:List Ob} {es:List EntG} {rs:List Rec} {st:Nat} (h:MkIm m l es rs) (hok:RHead.ok m.h) (hst:st≤2) (H:Hs m):Hs {m with b:=imageM m st}:=by
  obtain⟨_,_,A⟩:=image_bytes h hok hst
  exact H.kept (Kept.eff (m':={m with b:=imageM m st}) h.img.c.stat A (fun a B=>firm_head h.img.c.stat.objs B) q q q q q) H.h20
theorem fld_of {m:Mk} {l:List Ob} (h:Stat m l) {f:Known} (hf:f∈m.fields) (ht:1≤f.text.length):fldAt 272 m.b f.pos=({hash:=hashM m f.text,nextHash:=at8 m.b (f.pos+24),dat:=at8 m.b (f.pos+32),payload:=f.text},0):=by
  have F:=h.objs
  have B:=h.fld f hf
  have A:=F.mem B.ob
  have G:=up8_ge (40+f.text.length)
  have D:=A.ge
  have E:=A.le
  simp only at D E
  unfold fldAt
  rw[if_neg (by omega)]
  have C:=obj_ob (k:=2) (n:=3) A (by decide) (by simp only;omega) q (by simp only;omega)
  simp only at C
  rw[(readFld_of C).2 (by simp) |>.2]
  rw[show f.pos+16+8*3=f.pos+40 by omega,show 40+f.text.length-(16+8*3)=f.text.length by omega,B.text]
  congr 1
  have e:numsAt m.b (f.pos+16) 3=[at8 m.b (f.pos+16),at8 m.b (f.pos+24),at8 m.b (f.pos+32)]:=rfl
  rw[e,B.hash]
  rfl
theorem slots_seg (b:Ly) (p n:Nat):slotsAt (seg b p (16*n)) 0 n=slotsAt b p n:=by
  unfold slotsAt
  refine List.map_congr_left fun i A=>?_
  rw[List.mem_range]at A
  rw[at8_seg,at8_seg,at8_seg,at8_seg,seg_seg (by omega),seg_seg (by omega)]
  simp only[Nat.zero_add,Nat.add_assoc]
theorem slotsAt_get {b:Ly} {p n s:Nat} (h:s<n):(slotsAt b p n)[s]? = some {first:=at8 b (p+16*s),tail:=at8 b (p+16*s+8)}:=by
  unfold slotsAt;rw[List.getElem?_map,List.getElem?_range h];rfl
section
variable {m:Mk} {B:Ly} {H:PHead} {l:List Ob} {es:List EntG} {rs:List Rec}
theorem tab_ob (op:Opened m B H l es) {p k n:Nat} (ho:(⟨p,k,16+16*n⟩:Ob)∈l) (hk:(k:Int)=4∨(k:Int)=5) (hn:1≤n):readTabF B p (k:Int)=(slotsAt B (p+16) n,0):=by
  have D:=op.img.stat.objs.mem ho
  have E:=up8_ge (16+16*n)
  have A:=D.le
  simp only at A
  have C:=body_ob (k:=k) (ahead:=0) (item:=16) D (by decide) (by show p+(16+16*n)≤B.length;exact ly (by omega) A) q (by simp only;omega) (by simp only;omega)
  simp only at C
  refine tab_ok hk C (by simp) ?_
  rw[show 16+16*n-16=16*n by omega,seg_len (by exact ly (by omega) A),show 16*n/16=n by omega]
  exact(slots_seg B (p+16) n).symm
theorem tab_5 (im:MkIm m l es rs) (op:Opened m B H l es):tabF H.n B 5=(slotsAt B (304+16*m.c.dataSlots) m.c.fieldSlots,0):=by
  have D:=op.img.stat.slots.2
  have E:=tab_ob op (k:=5) op.img.stat.tab5 (.inr q) D
  have A:H.n.getD 4 0=304+16*m.c.dataSlots:=(op.n 4 (by decide) (by decide)).trans im.img.c.stat.n4
  have C:H.n.getD 5 0=16*m.c.fieldSlots:=(op.n 5 (by decide) (by decide)).trans im.hd.n5
  unfold tabF
  rw[if_neg (show ¬(5:Int)=4 by decide),if_neg (show ¬(5:Int)=4 by decide),A,C]
  have ho':readTabF B (304+16*m.c.dataSlots-16) 5=(slotsAt B (304+16*m.c.dataSlots) m.c.fieldSlots,0):=by
    rw[show 304+16*m.c.dataSlots-16=288+16*m.c.dataSlots by omega,show 304+16*m.c.dataSlots=288+16*m.c.dataSlots+16 by omega];exact E
  rw[ho']
  rw[if_neg (by simp),if_neg (by simp only[slotsAt_len];omega)]
end
structure Along (nx cd:Nat→Nat) (len:Nat) (L:List Nat):Prop where
  asc:L.Pairwise (· < ·)
  ok:∀p∈L,p≠0∧p<len∧cd p=0
  nx:∀j p:Nat,L[j]? = some p→nx p=L.getD (j+1) 0
section
variable {nx cd:Nat→Nat} {is:Nat→Bool} {len:Nat} {L:List Nat}
theorem fd_along (h:Along nx cd len L):∀(d j a:Nat),L.length-j=d→(∀p,L[j]? = some p→a<p)→fdF nx cd is len (L.getD j 0) a=(((L.drop j).find? is).getD 0,0)
  | 0,j,a,hd,_=>by
    rw[getD_out0 (by omega),fd_end (.inl rfl),List.drop_of_length_le (by omega)];rfl
  | d+1,j,a,hd,ha=>by
    obtain⟨p,hp⟩:∃p,L[j]? = some p:=⟨_,List.getElem?_eq_getElem (by omega)⟩
    have ep:L.getD j 0=p:=by rw[List.getD_eq_getElem?_getD,hp];rfl
    obtain⟨G,H,A⟩:=h.ok p (List.mem_of_getElem? hp)
    have E:=ha p hp
    obtain⟨B,C⟩:=List.getElem?_eq_some_iff.1 hp
    rw[ep,List.drop_eq_getElem_cons B,C,List.find?_cons]
    by_cases hi:is p=true
    · rw[fd_yes (by omega) (by omega) A hi,hi];rfl
    · have D:is p=false:=by simpa using hi
      rw[fd_no (by omega) (by omega) A hi (h.nx j p hp),D]
      exact fd_along h d (j+1) p (by omega) fun q F=>asc_ne h.asc hp F (by omega)
theorem fd_all (h:Along nx cd len L):fdF nx cd is len (L.getD 0 0) 0=((L.find? is).getD 0,0) :=
  fd_along h L.length 0 0 (by omega) fun p hp=>Nat.pos_of_ne_zero (h.ok p (List.mem_of_getElem? hp)).1
theorem ds_along (asc:L.Pairwise (· < ·)) (ok:∀p∈L,p≠0∧p<len∧cd p=0) (hx:∀j p:Nat,L[j]? = some p→nx p=if j=0 then 0 else L.getD (j-1) 0) :
    ∀(j a:Nat) (o:List Nat),j≤L.length→(0<j→∀p,L[j-1]? = some p→p<a)→dsF nx cd len (if j=0 then 0 else L.getD (j-1) 0) a o=(o ++ (L.take j).reverse,0)
  | 0,a,o,_,_=>by rw[if_pos rfl,ds_end (.inl rfl)];simp
  | j+1,a,o,hj,ha=>by
    obtain⟨p,hp⟩:∃p,L[j]? = some p:=⟨_,List.getElem?_eq_getElem (by omega)⟩
    have ep:L.getD j 0=p:=by rw[List.getD_eq_getElem?_getD,hp];rfl
    obtain⟨D,E,B⟩:=ok p (List.mem_of_getElem? hp)
    have:=ha (by omega) p hp
    rw[if_neg (by omega),Nat.add_sub_cancel,ep,ds_on (by omega) (by omega) B (hx j p hp),ds_along asc ok hx j p (o ++ [p]) (by omega) fun C q A=>asc_ne asc A hp (by omega)]
    rw[List.take_add_one,hp];simp
theorem ds_all (asc:L.Pairwise (· < ·)) (ok:∀p∈L,p≠0∧p<len∧cd p=0) (hx:∀j p:Nat,L[j]? = some p→nx p=if j=0 then 0 else L.getD (j-1) 0) (hl:∀p∈L,p<18446744073709551615):dsF nx cd len (L.getLastD 0) 18446744073709551615 []=(L.reverse,0):=by
  have:=ds_along asc ok hx L.length 18446744073709551615 [] (Nat.le_refl _) fun _ p A=>hl p (List.mem_of_getElem? A)
  rw[List.take_length,List.nil_append]at this
  rw[← this]
  congr 1
  by_cases h0:L.length=0
  · rw[if_pos h0,List.eq_nil_of_length_eq_zero h0];rfl
  rw[if_neg h0]
  have:=lastD_get L (fun e=>h0 (by rw[e];rfl))
  rw[List.getD_eq_getElem?_getD,this];rfl
end
section
variable {m:Mk} {B:Ly} {H:PHead} {l:List Ob} {es:List EntG} {rs:List Rec}
theorem text_1 (im:MkIm m l es rs) (hs:Hs m):(∀k∈m.datas,1≤k.text.length)∧∀f∈m.fields,1≤f.text.length:=by
  refine⟨fun k hk=>text_pos im.img.txt hk,fun f C=>?_⟩
  obtain⟨k,hk,e⟩:=hs.bear f C
  obtain⟨q,A,B⟩:=im.img.txt k hk
  unfold right at A
  simp only[Bool.and_eq_true]at A
  rw[← e,B,nameT_pay (name_61 A.1)]
  have:=A.1
  unfold isName at this
  simp only[Bool.and_eq_true,decide_eq_true_eq]at this
  exact this.1.1.1
theorem datAt_k (im:MkIm m l es rs) (op:Opened m B H l es) {k:Known} (hk:k∈m.datas):∃d:Dat,datAt 272 B k.pos=(d,0)∧d.hash=hashM m k.text∧d.nextHash=at8 B (k.pos+24)∧d.nextField=at8 B (k.pos+32)∧d.payload=k.text:=by
  obtain⟨i,A⟩:=List.mem_iff_getElem?.1 hk
  exact⟨_,dat_of op.img A (text_pos im.img.txt hk),q,q,q,q⟩
theorem fldAt_k (im:MkIm m l es rs) (op:Opened m B H l es) (hs:Hs m) {f:Known} (hf:f∈m.fields):∃d:Fld,fldAt 272 B f.pos=(d,0)∧d.hash=hashM m f.text∧d.nextHash=at8 B (f.pos+24)∧d.dat=at8 B (f.pos+32)∧d.payload=f.text :=
  ⟨_,fld_of (m:={m with b:=B}) op.img.stat hf ((text_1 im hs).2 f hf),q,q,q,q⟩
theorem along_5 (im:MkIm m l es rs) (op:Opened m B H l es) (hs:Hs {m with b:=B}) (hm:Hs m) (s:Nat):Along (nodN (H.n.getD 0 0) B 5) (nodC (H.n.getD 0 0) B 5) B.length (slotP m.fields s):=by
  have E:=op.img.stat.dd.2.1
  refine⟨hs.a5.sublist (slotP_sub m.fields s),fun p A=>?_,fun j p A=>?_⟩
  · obtain⟨k,hk,rfl,_⟩:=slotP_mem A
    have:=E k hk
    obtain⟨d,C,_⟩:=fldAt_k im op hm hk
    refine⟨by omega,by have F:k.pos+40≤B.length:=this.2;omega,?_⟩
    rw[num0 im op];unfold nodC;rw[if_neg (by decide),C]
  obtain⟨k,hk,rfl,_⟩:=slotP_mem (List.mem_of_getElem? A)
  obtain⟨d,C,_,D,_⟩:=fldAt_k im op hm hk
  rw[num0 im op];unfold nodN;rw[if_neg (by decide),C]
  exact D.trans (hs.r5.next s j _ A)
theorem find_place {ks:List Known} {s:Nat} {is:Nat→Bool} {P:Known→Prop} (hi:∀k∈ks,is k.pos=true↔P k) (hP:∀k∈ks,P k→k.slot=s) (one:∀x∈ks,∀y∈ks,P x→P y→x=y) :
    (∀k∈ks,P k→(slotP ks s).find? is=some k.pos)∧((∀k∈ks,¬P k)→(slotP ks s).find? is=none):=by
  refine⟨fun k hk A=>?_,fun D=>?_⟩
  · cases hf:(slotP ks s).find? is with
    | none =>
      rw[List.find?_eq_none]at hf
      have:=hf k.pos (hP k hk A ▸ slotP_in hk)
      exact absurd ((hi k hk).2 A) (by simpa using this)
    | some p =>
      have C:=List.find?_some hf
      obtain⟨x,B,rfl,_⟩:=slotP_mem (List.mem_of_find?_eq_some hf)
      rw[one x B k hk ((hi x B).1 C) A]
  rw[List.find?_eq_none]
  intro p A
  obtain⟨x,B,rfl,_⟩:=slotP_mem A
  intro h;exact D x B ((hi x B).1 (by simpa using h))
theorem find_5 (im:MkIm m l es rs) (op:Opened m B H l es) (hs:Hs {m with b:=B}) (hm:Hs m) (t:Ly) :
    (∀k∈m.fields,k.text=t→findF H.n B 5 (hashM m t) t=(k.pos,0))∧((∀k∈m.fields,k.text≠t)→findF H.n B 5 (hashM m t) t=(0,16)):=by
  have D:=op.img.stat.slots.2
  have C:hashM m t%m.c.fieldSlots<m.c.fieldSlots:=Nat.mod_lt _ D
  have Q:at8 B (304+16*m.c.dataSlots+16*(hashM m t%m.c.fieldSlots))=(slotP m.fields (hashM m t%m.c.fieldSlots)).getD 0 0:=hs.r5.head _ C
  have O:=op.img.stat.dd.2.1
  have K:=fun is=>fd_all (is:=is) (along_5 im op hs hm (hashM m t%m.c.fieldSlots))
  have R:∀k∈m.fields,(fun p=>decide (nodH (H.n.getD 0 0) B 5 p=hashM m t) && decide (nodP (H.n.getD 0 0) B 5 p=t)) k.pos=true↔k.text=t:=fun k hk=>by
    obtain⟨d,L,M,_,_,N⟩:=fldAt_k im op hm hk
    simp only[Bool.and_eq_true,decide_eq_true_eq]
    rw[num0 im op];unfold nodH nodP;rw[if_neg (by decide),if_neg (by decide),L]
    simp only
    rw[M,N]
    exact⟨fun h=>h.2,fun h=>⟨by rw[h],h⟩⟩
  obtain⟨I,J⟩:=find_place (s:=hashM m t%m.c.fieldSlots) (is:=fun p=>decide (nodH (H.n.getD 0 0) B 5 p=hashM m t) && decide (nodP (H.n.getD 0 0) B 5 p=t)) (P:=fun k=>k.text=t) R (fun k hk e=>by rw[hm.s5 k hk,e]) fun x T y U F G=>hm.one x T y U (F.trans G.symm)
  have E:(slotsAt B (304+16*m.c.dataSlots) m.c.fieldSlots)[hashM m t%(slotsAt B (304+16*m.c.dataSlots) m.c.fieldSlots).length]? = some {first:=at8 B (304+16*m.c.dataSlots+16*(hashM m t%m.c.fieldSlots)),tail:=at8 B (304+16*m.c.dataSlots+16*(hashM m t%m.c.fieldSlots)+8)}:=by rw[slotsAt_len];exact slotsAt_get C
  have A:=K (fun p=>decide (nodH (H.n.getD 0 0) B 5 p=hashM m t) && decide (nodP (H.n.getD 0 0) B 5 p=t))
  rw[← Q]at A
  refine⟨fun k hk e=>?_,fun S=>?_⟩
  · rw[I k hk e]at A
    have:=O k hk
    exact(find_in (t:={first:=_,tail:=_}) (tab_5 im op) q E A).trans (if_neg (by intro h;have:=congrArg Prod.fst h;simp only[Option.getD_some]at this;omega))
  rw[J S]at A
  exact(find_in (t:={first:=_,tail:=_}) (tab_5 im op) q E A).trans (if_pos q)
theorem datas_of (im:MkIm m l es rs) (op:Opened m B H l es) (hs:Hs {m with b:=B}) (hm:Hs m) (t:Ly) :
    (∀f∈m.fields,f.text=t→dataF H.n B (hashM m t) t=((dataP m.datas t).reverse,0))∧((∀f∈m.fields,f.text≠t)→dataF H.n B (hashM m t) t=([],16)):=by
  obtain⟨N,O⟩:=find_5 im op hs hm t
  refine⟨fun f F e=>?_,fun R=>data_bad (O R) (by decide)⟩
  obtain⟨d,J,_,_,K,_⟩:=fldAt_k im op hm F
  have G:=op.img.stat.dd.1
  have S:=im.ok.small
  have I:=op.len
  have D:d.dat=(dataP m.datas t).getLastD 0:=by rw[K,← e];exact hs.rd.head f F
  have C:=ds_all (len:=B.length) (L:=dataP m.datas t) (nx:=fun p=>(datAt (H.n.getD 0 0) B p).1.nextField) (cd:=fun p=>(datAt (H.n.getD 0 0) B p).2) (hm.a4.sublist (List.filter_sublist.map _)) (fun p A=>by
    obtain⟨k,hk,rfl,_⟩:=dataP_mem A
    have:=G k hk
    obtain⟨d,E,_⟩:=datAt_k im op hk
    exact⟨by omega,by have P:k.pos+40≤B.length:=this.2;omega,by rw[num0 im op,E]⟩) (fun j p A=>by
    obtain⟨k,hk,rfl,_⟩:=dataP_mem (List.mem_of_getElem? A)
    obtain⟨d,E,_,_,Q,_⟩:=datAt_k im op hk
    rw[num0 im op,E]
    exact Q.trans (hs.rd.next t j _ A)) (fun p A=>by
    obtain⟨k,hk,rfl,_⟩:=dataP_mem A
    have P:k.pos+40≤B.length:=(G k hk).2
    omega)
  have M:(fldAt (H.n.getD 0 0) B f.pos).1.dat=(dataP m.datas t).getLastD 0:=by rw[num0 im op,J];exact D
  rw[← M]at C
  exact(data_in (N f F e) q C).trans (if_neg (by simp))
end
theorem addT_filter (f:List UInt8→Bool):∀(ps ts:List (List UInt8)),(addT ts ps).filter f=addT (ts.filter f) (ps.filter f)
  | [],_=>rfl
  | p :: r,ts=>by
    rw[addT,addT_filter f r,List.filter_cons]
    by_cases hf:f p=true
    · rw[if_pos hf,addT]
      by_cases h:p∈ts
      · rw[if_pos h,if_pos (List.mem_filter.2 ⟨h,hf⟩)]
      · rw[if_neg h,if_neg (fun h2=>h (List.mem_filter.1 h2).1),List.filter_append,List.filter_cons,if_pos hf];rfl
    · rw[if_neg hf]
      by_cases h:p∈ts
      · rw[if_pos h]
      · rw[if_neg h,List.filter_append,List.filter_cons,if_neg hf];simp
end Go.Wk
namespace Go.Wk
open Go Go.RowKit
def PrV (q:Pr):Prop:=q.name∈namesF∧q.value∈valuesF
theorem getD_in {α:Type} {l:List α} {i:Nat} {d:α} (h:i<l.length):l.getD i d∈l:=by
  rw[List.getD_eq_getElem?_getD,List.getElem?_eq_getElem h];exact List.getElem_mem h
theorem pair_pv (s:Sq):PrV s.pair.1:=by
  have A:=s.num_le 6
  unfold Sq.pair
  rcases h:s.num 6 with⟨a,C⟩
  rw[h]at A
  have B:=C.num_le 10
  rcases k:C.num 10 with⟨b,D⟩
  rw[k]at B
  simp only at A B
  simp only[k]
  exact⟨getD_in (by rw[namesF_len];omega),getD_in (by rw[valuesF_len];omega)⟩
theorem pairsL_pv:∀(n:Nat) (s:Sq) (o:List Pr),(∀q∈o,PrV q)→∀q∈(pairsL n s o).1,PrV q
  | 0,_,_,h=>h
  | n+1,s,o,h=>by
    unfold pairsL
    refine pairsL_pv n _ _ fun q hq=>?_
    rcases List.mem_append.1 hq with hq|hq
    · exact h q hq
    · rw[List.mem_singleton]at hq;subst hq;exact pair_pv s
theorem listF_sub (l:List Pr):∀q∈(listF l).1,q∈l:=by
  rcases h:listF l with⟨x,c⟩
  by_cases hc:c=0
  · subst hc;exact fun q A=>((listF_all h).2.2.1 q).1 A
  unfold listF at h
  split at h
  · rw[← (Prod.mk.inj h).1];simp
  rw[goL_err _ _ _ _ h hc];simp
theorem record_pv (s:Sq) (k:Nat):∀q∈(s.record k).1.fields,PrV q:=by
  unfold Sq.record Sq.pairs
  intro q A
  have:=listF_sub _ q A
  exact pairsL_pv _ _ [] (by simp) q this
theorem makerL_pv:∀(n:Nat) (s:Sq) (m:Mk) (rs:List Rec),(∀r∈rs,∀q∈r.fields,PrV q)→∀r∈(makerL n s m rs).2.1,∀q∈r.fields,PrV q
  | 0,_,_,_,h=>h
  | n+1,s,m,rs,h=>by
    unfold makerL
    split
    · have hp:=record_pv s ((m.num 9+1)%18446744073709551616)
      rcases hrec:s.record ((m.num 9+1)%18446744073709551616)with⟨r,s1⟩
      rw[hrec]at hp
      rcases ha:m.append r.fields r.real r.mono r.boot with⟨e,c,m1⟩
      simp only[ha]
      split
      · exact h
      · refine makerL_pv n s1 m1 _ fun r' hr=>?_
        rcases List.mem_append.1 hr with hr|hr
        · exact h r' hr
        · rw[List.mem_singleton]at hr;subst hr;exact hp
    · exact h
theorem maker_pv {s s':Sq} {most:Nat} {m:Mk} {rs:List Rec} (h:s.maker most=(m,rs,s')):∀r∈rs,∀q∈r.fields,PrV q:=by
  rcases h1:s.config with⟨c,A⟩
  rcases h2:A.num 6 with⟨t,B⟩
  simp only[Sq.maker,h1,h2]at h
  have:=makerL_pv most B (newMk c t) [] (by simp)
  rw[h]at this
  exact this
theorem pv_right {p:Pr} (h:PrV p):right p.pb=true:=by
  have A:∀s∈namesF,isName s=true:=by decide
  have B:∀s∈valuesF,s.length≤256:=by decide
  unfold right
  rw[Bool.and_eq_true]
  exact⟨A _ h.1,decide_eq_true (B _ h.2)⟩
theorem pv_name {p:Pr} (h:PrV p):nameT (payload p)=p.name:=by
  have A:∀s∈namesF,isName s=true:=by decide
  exact nameT_pay (name_61 (A _ h.1))
section
variable {m:Mk} {B:Ly} {H:PHead} {l:List Ob} {es:List EntG} {rs:List Rec}
theorem hash_op (op:Opened m B H l es) (t:Ly):hashN (decide (H.incompat &&& 4≠0)) H.file t=hashM m t:=by
  unfold hashM
  rw[op.key,op.file]
  cases m.c.keyed <;> rfl
end
def addR (nm9:Ly):List Pr→List Pr→List Pr
  | [],o=>o
  | q :: r,o=>addR nm9 r (if q.name=nm9∧hasP q o=false then o ++ [q]else o)
def allR (nm9:Ly):List Rec→List Pr→List Pr
  | [],o=>o
  | r :: t,o=>allR nm9 t (addR nm9 r.fields o)
theorem addR_end {nm9:Ly} {fs o:List Pr} {i:Nat} (h:¬i<fs.length):addR nm9 (fs.drop i) o=o:=by rw[drop_end (by omega)];rfl
theorem addR_step {nm9:Ly} {fs o:List Pr} {i:Nat} {q:Pr} (h:fs[i]? = some q):addR nm9 (fs.drop i) o=addR nm9 (fs.drop (i+1)) (if q.name=nm9∧hasP q o=false then o ++ [q]else o):=by rw[drop_get h];rfl
theorem allR_end {nm9:Ly} {rs:List Rec} {o:List Pr} {i:Nat} (h:¬i<rs.length):allR nm9 (rs.drop i) o=o:=by rw[drop_end (by omega)];rfl
theorem allR_step {nm9:Ly} {rs:List Rec} {o:List Pr} {i:Nat} {r:Rec} (h:rs[i]? = some r):allR nm9 (rs.drop i) o=allR nm9 (rs.drop (i+1)) (addR nm9 r.fields o):=by rw[drop_get h];rfl
theorem addR_text (nm9:Ly):∀(fs o:List Pr),(∀q∈fs,PrV q)→(∀q∈o,PrV q)→(addR nm9 fs o).map payload=addT (o.map payload) ((fs.map payload).filter fun t=>decide (nameT t=nm9))∧∀q∈addR nm9 fs o,PrV q
  | [],_,_,ho=>⟨rfl,ho⟩
  | q :: r,o,hf,ho=>by
    have hq:=hf q (by simp)
    have hr:∀x∈r,PrV x:=fun x hx=>hf x (by simp[hx])
    rw[addR,List.map_cons,List.filter_cons,pv_name hq]
    by_cases hn:q.name=nm9
    · rw[if_pos (decide_eq_true hn),addT]
      have hi:payload q∈o.map payload↔hasP q o=true:=by
        rw[hasP_iff,List.mem_map]
        constructor
        · rintro⟨x,hx,e⟩;rw[← payload_inj (pv_right (ho x hx)) (pv_right hq) e];exact hx
        · exact fun h=>⟨q,h,rfl⟩
      by_cases hp:hasP q o=true
      · rw[if_neg (by simp[hp]),if_pos (hi.2 hp)]
        exact addR_text nm9 r o hr ho
      · rw[if_pos ⟨hn,by simpa using hp⟩,if_neg (fun h=>hp (hi.1 h))]
        have:=addR_text nm9 r (o ++ [q]) hr fun x hx=>by
          rcases List.mem_append.1 hx with hx|hx
          · exact ho x hx
          · rw[List.mem_singleton]at hx;subst hx;exact hq
        rw[List.map_append]at this
        exact this
    · rw[if_neg (show ¬(q.name=nm9∧hasP q o=false)from fun h=>hn h.1),if_neg (show ¬decide (q.name=nm9)=true by simpa using hn)]
      exact addR_text nm9 r o hr ho
theorem allR_text (nm9:Ly):∀(rs:List Rec) (o:List Pr),(∀r∈rs,∀q∈r.fields,PrV q)→(∀q∈o,PrV q)→(allR nm9 rs o).map payload=addT (o.map payload) ((textsR rs).filter fun t=>decide (nameT t=nm9))
  | [],_,_,_=>rfl
  | r :: t,o,hr,ho=>by
    obtain⟨h1,h2⟩:=addR_text nm9 r.fields o (hr r (by simp)) ho
    rw[allR,allR_text nm9 t _ (fun x hx=>hr x (by simp[hx])) h2,h1]
    unfold textsR
    rw[List.flatMap_cons,List.filter_append,addT_app]
section
variable {m:Mk} {B:Ly} {H:PHead} {l:List Ob} {es:List EntG} {rs:List Rec}
theorem dataP_text (tx:m.datas.map Known.text=addT [] (textsR rs)) (pv:∀r∈rs,∀q∈r.fields,PrV q) (nm9:Ly):(m.datas.filter fun k=>decide (nameT k.text=nm9)).map Known.text=(allR nm9 rs []).map payload:=by
  rw[allR_text nm9 rs [] pv (by simp),List.map_nil]
  have:=addT_filter (fun t=>decide (nameT t=nm9)) (textsR rs) []
  rw[← tx,List.filter_map]at this
  simp only[List.filter_nil]at this
  exact this
theorem data_name (im:MkIm m l es rs) (op:Opened m B H l es) (hs:Hs {m with b:=B}) (hm:Hs m) (tx:m.datas.map Known.text=addT [] (textsR rs)) (pv:∀r∈rs,∀q∈r.fields,PrV q) (nm9:Ly) :
    ((allR nm9 rs []).length=0→dataF H.n B (hashN (decide (H.incompat &&& 4≠0)) H.file nm9) nm9=([],16)) ∧
    ((allR nm9 rs []).length≠0→∃at',dataF H.n B (hashN (decide (H.incompat &&& 4≠0)) H.file nm9) nm9=(at',0)∧at'.length=(allR nm9 rs []).length ∧
      ∀(k p:Nat) (x:Pr),at'[k]? = some p→(allR nm9 rs [])[(allR nm9 rs []).length-1-k]? = some x→∃d,datAt (H.n.getD 0 0) B p=(d,0)∧d.payload=payload x):=by
  obtain⟨L,M⟩:=datas_of im op hs hm nm9
  rw[hash_op op]
  have J:=dataP_text tx pv nm9
  have A:(dataP m.datas nm9).length=(allR nm9 rs []).length:=by
    have:=congrArg List.length J
    rw[List.length_map,List.length_map]at this
    unfold dataP;rw[List.length_map];exact this
  have K:(∃f∈m.fields,f.text=nm9)↔(allR nm9 rs []).length≠0:=by
    rw[← A]
    unfold dataP
    rw[List.length_map]
    constructor
    · rintro⟨f,C,e⟩ G
      obtain⟨k,hk,D⟩:=hm.bear f C
      have:=List.filter_eq_nil_iff.1 (List.eq_nil_of_length_eq_zero G) k hk
      exact this (decide_eq_true (D.trans e))
    · intro G
      obtain⟨k,hk⟩:=List.exists_mem_of_length_pos (Nat.pos_of_ne_zero G)
      obtain⟨D,F⟩:=List.mem_filter.1 hk
      obtain⟨f,C,e⟩:=hm.own k D
      exact⟨f,C,e.trans (dT F)⟩
  refine⟨fun h=>M fun f C e=>K.1 ⟨f,C,e⟩ h,fun h=>?_⟩
  obtain⟨f,C,e⟩:=K.2 h
  refine⟨_,L f C e,by rw[List.length_reverse];exact A,fun k p x hk I=>?_⟩
  have E:=(List.getElem?_eq_some_iff.1 hk).1
  rw[List.length_reverse]at E
  rw[List.getElem?_reverse E,A]at hk
  unfold dataP at hk
  rw[List.getElem?_map,Option.map_eq_some_iff]at hk
  obtain⟨kn,D,rfl⟩:=hk
  have F:=congrArg (fun l=>l[(allR nm9 rs []).length-1-k]?) J
  simp only[List.getElem?_map,D,I,Option.map_some,Option.some.injEq]at F
  obtain⟨d,N,_,_,_,O⟩:=datAt_k im op (List.mem_filter.1 (List.mem_of_getElem? D)).1
  exact⟨d,by rw[num0 im op];exact N,O.trans F⟩
theorem dnm (im:MkIm m l es rs) (op:Opened m B H l es) (hs:Hs {m with b:=B}) (hm:Hs m) (tx:m.datas.map Known.text=addT [] (textsR rs)) (pv:∀r∈rs,∀q∈r.fields,PrV q) {nm9:Ly} {o:List Pr} (ho:allR nm9 rs []=o) {at':List Nat} {c:Nat}
    (hf:dataF H.n B (hashN (decide (H.incompat &&& 4≠0)) H.file nm9) nm9=(at',c)) :
    (o.length=0→c=16)∧(o.length≠0→c=0∧at'.length=o.length∧∀(k p:Nat) (x:Pr),at'[k]? = some p→o[(((o.length:Nat):Int)-1-((k:Nat):Int)).toNat]? = some x→∃d,datAt (H.n.getD 0 0) B p=(d,0)∧d.payload=payload x):=by
  subst ho
  obtain⟨E,F⟩:=data_name im op hs hm tx pv nm9
  refine⟨fun h=>((Prod.mk.inj ((E h).symm.trans hf)).2).symm,fun h=>?_⟩
  obtain⟨a,A,C,D⟩:=F h
  obtain⟨rfl,rfl⟩:=Prod.mk.inj (A.symm.trans hf)
  refine⟨rfl,C,fun k p x hk I=>D k p x hk ?_⟩
  have G:=(List.getElem?_eq_some_iff.1 hk).1
  rw[← I];congr 1;omega
end
theorem pv_len {p:Pr} (h:PrV p):p.name.length≤100∧p.value.length≤100:=by
  have A:∀s∈namesF,s.length≤100:=by decide
  have B:∀s∈valuesF,s.length≤100:=by decide
  exact⟨A _ h.1,B _ h.2⟩
theorem allR_pv (nm9:Ly):∀(rs:List Rec) (o:List Pr),(∀r∈rs,∀q∈r.fields,PrV q)→(∀q∈o,PrV q)→∀q∈allR nm9 rs o,PrV q
  | [],_,_,ho=>ho
  | r :: t,o,hr,ho=>allR_pv nm9 t _ (fun x hx=>hr x (by simp[hx])) (addR_text nm9 r.fields o (hr r (by simp)) ho).2
theorem allIn_part {fs o:List Pr} {k:Nat} {q:Pr} (h:fs[k]? = some q):allIn o ((fs.take (k+1)).drop k)=hasP q o:=by
  have A:=(List.getElem?_eq_some_iff.1 h).1
  have:(fs.take (k+1)).drop k=[q]:=by
    rw[List.take_add_one,h,List.drop_append_of_le_length (by simp;omega)]
    simp
  rw[this]
  unfold allIn
  split
  · rename_i e;rw[e];rfl
  rename_i e;exact(by simpa using e:hasP q o=false).symm
end Go.Wk
namespace Go.Wk
open Go Go.RowKit
section
variable {P:Program} {ops:Array Oper} {Q:Exit→Act→World→Prop} {rest:List Oper}
variable {n:Nat} {A:Fr n} {D:List Deferred} {l:List (Nat × Value)} {w:World}
variable {d:Tmp} {ty:TypeId} {ps:String} {af:Array Edge} {g:Option (Nat × Bool)}
end
section
variable {P:Program} {ops:Array Oper} {Q:Exit→Act→World→Prop} {rest:List Oper}
variable {n:Nat} {A:Fr n} {D:List Deferred} {l:List (Nat × Value)} {w:World}
variable {d:Tmp} {ty:TypeId} {ps:String} {af:Array Edge}
end
section
variable {P:Program} {n:Nat} {A:Fr n} {D:List Deferred} {l:List (Nat × Value)} {w:World} {d:Option Tmp} {ty:TypeId} {ps:String} {af:Array Edge} {g:Option (Nat × Bool)}
end
end Go.Wk
namespace Go.Proofs.YtllaambooilnlaaGreat
open Go Go.Wk Go.RowKit
set_option linter.unusedVariables false
set_option linter.unusedSimpArgs false
attribute [local irreducible] wpList wpQuiet wpStill wpMix Code.wp Calls bodyPost
theorem el46:elemIs Zp 46 20=true:=by kernel_rfl
theorem fn13:isFn Zp 13=true:=by kernel_rfl
theorem fn23:isFn Zp 23=true:=by kernel_rfl
theorem fn7:isFn Zp 7=true:=by kernel_rfl
set_option maxHeartbeats 16000000 in
set_option maxRecDepth 100000 in
set_option maxHeartbeats 4000000 in
theorem chainDatas_any {w:World} {Q:Nat→Prop} (uQ:Up w Q) {v0:Value} {l:List Int} (h0:Ls tInt w Q v0 l) :
  Calls Zp 5 #[v0] w fun en w'=>∃r0:Bool,en = .returned (.bool r0)∧Md [] w w'∧true=r0:=by
 have L0:=h0.len63;have M:=Md.refl [] w;have Gq:=uQ;have tQ:∀b,Q b→Q b:=fun _ h=>h;have K:∀b,Q b→b<w.heap.size→Q b:=fun _ h _=>h;refine enter (n:=152) Tryz.func5 rfl rfl rfl fun B=>ns (an rfl (ns (st_call fn7 rfl (cFirst_any uQ) ?_)));rintro en w1 ⟨Ao,rfl,E,Bs⟩;refine rv ?_;obtain⟨h0,uQ,M⟩:=k3 E h0 uQ M;refine an rfl (c_seq (nm rfl (st _ (r_not rfl) (nt ?_))));refine c_if rfl (fun Bb=>?_) (fun Bb=>?_)
 ·(first|(have Ar:=dT Bb)|(have Ar:=dF (bnt Bb))|(have Ar:=bnt Bb)|(have Ar:=Bb));refine ns (ar rfl (r_then ?_));exact ret1L (v:=(.bool false)) trivial rfl ⟨rfl,tV⟩ ⟨false,rfl,M,(by first|exact Bs|simp_all)⟩
 (first|(have Ar:=dF Bb)|(have Ar:=dT (bnf Bb))|(have Ar:=bnf Bb)|(have Ar:=Bb));refine c_skip (c_then (c_seq (nm rfl (sL rfl u22 h0.shp (st _ (r_gtN (a:=l.length) (b:=120) rfl rfl) (nt ?_))))));refine c_if rfl (fun Bc=>?_) (fun Bc=>?_)
 ·(first|(have As:=dT Bc)|(have As:=dF (bnt Bc))|(have As:=bnt Bc)|(have As:=Bc));refine nm rfl (ar rfl (r_then ?_));exact ret1L (v:=(.bool Ao)) trivial rfl ⟨rfl,tV⟩ ⟨Ao,rfl,M,(by first|exact Bs|simp_all)⟩
 (first|(have As:=dF Bc)|(have As:=dT (bnf Bc))|(have As:=bnf Bc)|(have As:=Bc));refine c_skip (c_then (nm rfl (st _ (r_buildG (us:=[[v0]]) (cs:=(Sq.cells (({l:=l,pos:=0}:Sq)) v0)) [(0,0,1)] z30 pl30 rfl rfl ⟨(cells_one h0.oneCell),tV⟩ ⟨rfl,tV⟩ rfl rfl) (st_box (cs:=(Sq.cells (({l:=l,pos:=0}:Sq)) v0)) rfl rfl ?_))));intro Bv w2 Bx Ec E O;obtain⟨Q3,sQ,sT,Al,A4⟩:=exQ uQ Bx Ec E;replace tQ:=tT tQ sT;replace K:=fun b hb hl=>sQ b (K b hb hl) (lj hl M.size);replace Bx:=ly M.size Bx;replace h0:=(h0.sub sQ).o E;replace M:=M.k E;replace uQ:=A4;clear A4 sQ sT;have C1:Fsh [] w Bv:=.inr Bx;refine st_call fn8 rfl (kMaker_any uQ (({l:=l,pos:=0}:Sq)) O Al (by first|assumption|exact(show(({l:=l,pos:=0}:Sq)).pos<9223372036854775808 from(by first|omega|(simp<;>omega)|simp_all))) h0 12 (by first|omega|(simp<;>omega)) (by first|omega|(simp<;>omega)|(simp at *<;>omega))) ?_;rintro en w4 ⟨Ct,Eh,Ei,Ej,Ek,Dc,Y,V,Fo,Ef,Q5,rfl,E,⟨sQ,sT,A4⟩,Dh,Eg,Bz,A3,A0,A1,A2,Cu,Bt,A,Cr,Cs,Ee,Cq,Bl⟩;refine rv ?_;have C5:Bv≠Ct:=(by have:=O.lt;omega);replace Bz:=ly M.size Bz;have hP:∀i∈[Bv],Fsh [] w i:=(hI C1);have hS:∀i∈[Bv],¬Q3 i:=(hI Al);replace tQ:=tT tQ sT;replace K:=fun b hb hl=>sQ b (K b hb hl) (lj hl M.size);replace hS:=fun i hi hq=>hS i hi (sT i hq);replace A0:=A0.lower (Fsh.lift (S':=[]) M);replace A1:=A1.lower (Fsh.lift (S':=[]) M);replace A2:=A2.lower (Fsh.lift (S':=[]) M);replace M:=M.step E hP;replace uQ:=A4;clear A4 sQ sT;clear hP hS O Al;have O:=Cr;have Al:=Cs;clear Cr Cs;refine mv rfl (se rfl rfl (se rfl rfl (asg rfl ?_)))
 refine an rfl (nm rfl ?_);have Ed:=(maker_ok Bl).1;have Ge:=Ed.small;have Gc:=Ed.hd;have Dw:Pt tMk 102 w4 (fun _=>True) (.pointer (some ⟨Ct,0,none⟩)) Dc:=⟨_,_,rfl,trivial,Dh,tMk_mk A3 (A0.ls (fun _ _=>trivial) fun _ _=>trivial) (A1.ls (fun _ _=>trivial) fun _ _=>trivial) (A2.ls (fun _ _=>trivial) fun _ _=>trivial) (Cu.sub fun _ _ _=>trivial)⟩;refine st_call fn10 rfl (mimage_any (Q:=fun _=>True) (fun _ _=>trivial) Dw 1 (by decide) (by omega) (by omega)) ?_;rintro en w6 ⟨u6,r6,Q6,rfl,E,E4,Dv,B7⟩;refine rv ?_;have Ds:=Dv.lsB uQ;clear Dv E4 Dw;obtain⟨O,A,uQ,M⟩:=k4 E O A uQ M;obtain⟨lo,es,im,Gg⟩:=maker_im Bl;have op:=opened im A3.2.1 (st:=1) (by decide);rw[B7]at op;have Gl:=op.len;refine st_call fn9 rfl (aOpen_any uQ Ds (by first|omega|(simp<;>omega)|(simp at *<;>omega))) ?_;rintro en w7 ⟨f,Fs,Eo,rfl,E,Ce,Fp,Cf⟩;refine rv ?_;obtain⟨O,A,uQ,M⟩:=k4 E O A uQ M;refine mv rfl (se rfl rfl (se rfl rfl (asg rfl (an rfl (c_seq (ns ?_))))));have Dx:=op.opn.symm.trans Cf;have Cj:=congrArg Prod.fst Dx;have Dy:=congrArg Prod.snd Dx;simp only at Cj Dy;obtain⟨D9,Fb⟩:=maker_hs Bl;have El:=maker_pv Bl;have D8:=image_hs im A3.2.1 (st:=1) (by decide) D9;rw[B7]at D8;have ln:=im.len;have Gj:(parseF r6).n.getD 2 0=288:=(op.n 2 (by decide) (by decide)).trans im.img.c.stat.n2;have Gk:(parseF r6).n.getD 4 0=304+16*Dc.c.dataSlots:=(op.n 4 (by decide) (by decide)).trans im.img.c.stat.n4;have Gh:=im.ok.small;refine mv rfl (st _ (r_neN (a:=Eo) (b:=0) rfl rfl) ?_)
 refine mv rfl ?_;refine part_n (t:=41) rfl (fun Ap=>?_) (fun Ap=>?_)
 ·(first|(have Au:=dT Ap)|(have Au:=dF (bnt Ap))|(have Au:=bnt Ap)|(have Au:=Ap));exfalso;omega
 (first|(have Au:=dF Ap)|(have Au:=dT (bnf Ap))|(have Au:=bnf Ap)|(have Au:=Ap));refine sg Ap (r_move rfl) (sg Ap (r_eqlPO Ce rfl u31) (st _ (r_pick_f rfl Ap rfl) (nt ?_)));refine c_if rfl (fun Bd=>?_) (fun Bd=>?_)
 ·(first|(have Ag:=dT Bd)|(have Ag:=dF (bnt Bd))|(have Ag:=bnt Bd)|(have Ag:=Bd));exfalso;rw[← Cj]at Ag;simp at Ag
 (first|(have Ag:=dF Bd)|(have Ag:=dT (bnf Bd))|(have Ag:=bnf Bd)|(have Ag:=Bd));refine c_skip (c_then (ns ?_));have D:Pt tPView 96 w7 Q5 f {b:=r6,h:=parseF r6:PView}:=(by have h:=Ce;rw[← Cj]at h;exact h);clear Ce;have E8:({b:=r6,h:=parseF r6}:PView).b.length≤1000000:=(by show r6.length≤_;omega);have E9:16≤({b:=r6,h:=parseF r6}:PView).h.n.getD 2 0:=(by show 16≤(parseF r6).n.getD 2 0;omega);have Fa:16≤({b:=r6,h:=parseF r6}:PView).h.n.getD 4 0:=(by show 16≤(parseF r6).n.getD 4 0;omega);refine st_call fn11 rfl (kNames_any uQ) ?_;rintro en w8 ⟨U,W,rfl,E,C,B8⟩;refine rv ?_;obtain⟨O,A,D,uQ,M⟩:=k5 E O A D uQ M;have C3:=namesF_len;rw[B8]at C3;try simp only[LL,Nat.reduceAdd,Nat.reduceMul]at C3
 refine an rfl (c_seq (ns (asg rfl (nt (c_block ?_)))));refine loop1 (fun(i:Nat)=>[(9,(.int .i64 i)),(3,(.bool Ao)),(5,Y),(6,f),(8,U)]) (fun(i:Nat) w'=>∃Q':Nat→Prop,(∀b,Q' b→Q b)∧(∀b,Q b→b<w.heap.size→Q' b)∧Up w' Q'∧Md [] w w'∧Ls tRec w' Q' Y V∧Pt tPView 96 w' Q' f ({b:=r6,h:=parseF r6:PView})∧Ls tStr w' Q' U W) (fun(i:Nat)=>6-i) (x0:=0) ?_ ?_ ?_
 ·exact⟨rfl,rfl,rfl,rfl,rfl,tV⟩
 ·exact⟨Q5,tQ,K,uQ,M,A,D,C⟩
 clear M uQ tQ K Al h0 O Cq A Ds D C
 rintro i B w9 ⟨Er,tQ,K,uQ,M,A,D,C⟩;refine c_seq (ns (m2 rfl rfl (sL rfl u36 C.shp (st _ (r_ltN (a:=i) (b:=W.length) rfl rfl) (nt ?_)))));refine c_if rfl (fun Be=>?_) (fun Be=>?_)
 ·(first|(have Aw:=dT Be)|(have Aw:=dF (bnt Be))|(have Aw:=bnt Be)|(have Aw:=Be));refine c_skip (c_then (c_seq (c_block (ns (an rfl (c_seq (ns (asg rfl (nt (c_block ?_))))))))));obtain⟨Cz,Dg⟩:=getE (l:=W) (i:=i) (by omega);obtain⟨r1,Ck⟩:∃r,allR Cz V []=r:=⟨_,rfl⟩;have C8:=Ck
  try simp only[List.nil_append,Bs,Bl,B7,Cf,B8]at Ck
  refine loop3 (fun(vo:Value) (o:List Pr) (n:Nat)=>[(10,vo),(11,(.int .i64 n)),(3,(.bool Ao)),(5,Y),(6,f),(8,U),(9,(.int .i64 i)),(46,(.int .i64 i)),(47,U),(48,(.int .i64 W.length)),(49,(.bool ((decide (i<W.length)))))]) (fun(vo:Value) (o:List Pr) (n:Nat) w'=>∃Q':Nat→Prop,(∀b,Q' b→Q b)∧(∀b,Q b→b<w.heap.size→Q' b)∧Up w' Q'∧Md [] w w'∧Ow tPr 39 (Fsh [] w) w' Q' vo o∧Ls tRec w' Q' Y V∧Pt tPView 96 w' Q' f ({b:=r6,h:=parseF r6:PView})∧Ls tStr w' Q' U W∧o.length≤16*n∧n≤V.length∧allR Cz (V.drop n) o=r1) (fun(vo:Value) (o:List Pr) (n:Nat)=>V.length-n) (x0:=SN) (x1:=([]:List Pr)) (x2:=0) ?_ ?_ ?_
  ·exact⟨rfl,rfl,rfl,rfl,rfl,rfl,rfl,rfl,rfl,rfl,rfl,tV⟩
  ·exact⟨Er,tQ,K,uQ,M,(Ow.nil _ _ _ _ _),A,D,C,(by simp),(by omega),(by have hh:=Ck;first|exact hh|exact C8|(simp only[List.nil_append,Bs,Bl,B7,Cf,B8]at hh;exact hh))⟩
  clear M uQ tQ K A D C
  rintro vo o n B Gr ⟨De,tQ,K,uQ,M,L,A,D,C,Fj,Fk,Dz⟩;refine c_seq (ns (m2 rfl rfl (sL rfl u25 A.shp (st _ (r_ltN (a:=n) (b:=V.length) rfl rfl) (nt ?_)))));refine c_if rfl (fun Bf=>?_) (fun Bf=>?_)
  ·(first|(have Ax:=dT Bf)|(have Ax:=dF (bnt Bf))|(have Ax:=bnt Bf)|(have Ax:=Bf));refine c_skip (c_then (c_seq (c_block (ns (m2 rfl rfl (st _ (r_indexN (i:=n) 20 rfl rfl u25 el46 A.shp (by omega)) ?_))))));obtain⟨Bq,Cn⟩:=getE (l:=V) (i:=n) (by first|omega|(simp<;>omega));obtain⟨Fu,D0,Bn⟩:=A.get Cn;obtain⟨Bu,rfl,Gm,G⟩:=tRec_un D0;replace Bn:At _ Y (n*20) (Rec.cells Bq Bu):=Bn;refine st _ (r_fieldE rfl Bn off46_4) (st _ ((r_loadE (kk:=n*20) 19 rfl rfl one41 Bn rfl).to (b:=Bu) rfl) (asg rfl (st_nil ?_)));clear Bn;refine c_then (ns ?_);obtain⟨ge,Ey⟩:=getE (l:=es) (i:=n) (by omega);have Fq:=rec_16 im Ey Cn;refine an rfl (c_block ?_);obtain⟨r2,Cl⟩:∃r,addR Cz Bq.fields o=r:=⟨_,rfl⟩;have C9:=Cl
   try simp only[List.nil_append,Bs,Bl,B7,Cf,B8]at Cl
   refine loop3 (fun(Bp:Value) (o2:List Pr) (k:Nat)=>[(10,Bp),(13,(.int .i64 k)),(3,(.bool Ao)),(5,Y),(6,f),(8,U),(9,(.int .i64 i)),(11,(.int .i64 n)),(12,Bu),(46,(.int .i64 i)),(47,U),(48,(.int .i64 W.length)),(49,(.bool ((decide (i<W.length))))),(52,(.int .i64 n)),(53,Y),(54,(.int .i64 V.length)),(55,(.bool ((decide (n<V.length))))),(58,Y),(59,(.int .i64 n)),(62,Bu)]) (fun(Bp:Value) (o2:List Pr) (k:Nat) w'=>∃Q':Nat→Prop,(∀b,Q' b→Q b)∧(∀b,Q b→b<w.heap.size→Q' b)∧Up w' Q'∧Md [] w w'∧Ow tPr 39 (Fsh [] w) w' Q' Bp o2∧Ls tRec w' Q' Y V∧Pt tPView 96 w' Q' f ({b:=r6,h:=parseF r6:PView})∧Ls tStr w' Q' U W∧Ls tPr w' Q' Bu Bq.fields∧o2.length≤16*n+k∧k≤Bq.fields.length∧addR Cz (Bq.fields.drop k) o2=r2) (fun(Bp:Value) (o2:List Pr) (k:Nat)=>Bq.fields.length-k) (x0:=vo) (x1:=o) (x2:=0) ?_ ?_ ?_
   ·exact⟨rfl,rfl,rfl,rfl,rfl,rfl,rfl,rfl,rfl,rfl,rfl,rfl,rfl,rfl,rfl,rfl,rfl,rfl,rfl,rfl,tV⟩
   ·exact⟨De,tQ,K,uQ,M,L,A,D,C,G,(by omega),(by omega),(by have hh:=Cl;first|exact hh|exact C9|(simp only[List.nil_append,Bs,Bl,B7,Cf,B8]at hh;exact hh))⟩
   clear M uQ tQ K L A D C G
   rintro Bp o2 k B Fd ⟨Cb,tQ,K,uQ,M,P,A,D,C,G,Fl,Fm,Cx⟩;refine c_seq (ns (m2 rfl rfl (sL rfl u41 G.shp (st _ (r_ltN (a:=k) (b:=Bq.fields.length) rfl rfl) (nt ?_)))));refine c_if rfl (fun Bg=>?_) (fun Bg=>?_)
   ·(first|(have Ay:=dT Bg)|(have Ay:=dF (bnt Bg))|(have Ay:=bnt Bg)|(have Ay:=Bg));refine c_skip (c_then (c_seq (c_block (c_seq ?_))));have Bi:=C;have Bj:=G;refine c_mixT (ml 17) [17,18,19] (fun w'=>Md [] Fd w') mixed (by kernel_rfl) ?_;intro Gs J;refine⟨J.mono (by simp),?_⟩;have MC:=J.mono (T:=[]) (by simp);refine mo rfl (mo rfl (mz (fun w' hc=>r_indexN (i:=k) 2 rfl rfl u41 el39 G.shp (by omega)) ?_));obtain⟨Br,Az⟩:=getE (l:=Bq.fields) (i:=k) (by first|omega|(simp<;>omega));obtain⟨Fv,D1,A9⟩:=Bj.get Az;obtain⟨_,rfl⟩:=tPr_un D1;replace A9:At _ Bu (k*2) (Pr.cells Br):=A9;refine mz (fun w' hc=>r_fieldE rfl (A9.o hc) off39_0) (mz (fun w' hc=>(r_loadE (kk:=k*2) 0 rfl rfl one9 (A9.o hc) rfl).to (b:=(str Br.name)) rfl) (mo rfl (mo rfl (mz (fun w' hc=>r_indexN (i:=i) 1 rfl rfl u36 el9 C.shp (by omega)) ?_))));obtain⟨Di,Co⟩:=getE (l:=W) (i:=i) (by first|omega|(simp<;>omega));obtain⟨Fw,D3,Bo⟩:=Bi.get Co;obtain⟨rfl,_⟩:=D3;replace Bo:At _ U (i*1) [(str Di)]:=Bo;refine mz (fun w' hc=>(r_loadE (kk:=i*1) 0 rfl rfl one9 (Bo.o hc) rfl).to (b:=(str Di)) rfl) (mz (fun w' hc=>r_eqlS (a:=Br.name) (b:=Di) rfl rfl) (mo rfl ?_));refine part_m (t:=79) rfl (fun I=>?_) (fun I=>?_)
    ·(first|(have Ah:=dT I)|(have Ah:=dF (bnt I))|(have Ah:=bnt I)|(have Ah:=I));refine Go.Wk.m_g _ rfl rfl rfl I (fun w' hc=>r_move rfl) (Go.Wk.m_g _ rfl rfl rfl I (fun w' hc=>r_move rfl) (Go.Wk.m_g _ rfl rfl rfl I (fun w' hc=>r_move rfl) (Go.Wk.m_g _ rfl rfl rfl I (fun w' hc=>rA (a:=k) (b:=1) rfl rfl (by omega)) (Go.Wk.m_g _ rfl rfl rfl I (fun w' hc=>r_sliceZ 2 k (k+1) u41 el39 rfl G.shp (by omega) (by omega) ⟨_,rfl⟩ ⟨_,rfl⟩) ?_))));have Cm:=G.part k (k+1) (by omega) (by omega);refine Go.Wk.m_g _ rfl rfl rfl I (fun w' hc=>r_move rfl) (m_nil ?_);obtain⟨P,A,D,C,G,Cm,uQ,M⟩:=k8 J P A D C G Cm uQ M;clear Bj Bi;clear MC;refine st_call_g rfl rfl rfl I fn13 rfl (kWithinR_any (fun b hb=>Or.inl (uQ b hb)) (Q:=fun b=>Cb b∨Fsh [] w b) (Cm.sub (fun _ hb _=>Or.inl hb)) P.read) ?_;rintro en Gt ⟨Ff,rfl,E,C6⟩;refine rv ?_;obtain⟨P,A,D,C,G,uQ,M⟩:=k7 E P A D C G uQ M;refine sg I (r_not rfl) (st _ (r_pick_t rfl I rfl) (st_nil ?_));clear A9;clear Bo;refine c_then ?_;refine c_if rfl (fun Bh=>?_) (fun Bh=>?_)
     ·(first|(have Ai:=dT Bh)|(have Ai:=dF (bnt Bh))|(have Ai:=bnt Bh)|(have Ai:=Bh));refine c_region (m2 rfl rfl (mv rfl (st _ (r_indexN (i:=k) 2 rfl rfl u41 el39 G.shp (by omega)) ?_)));obtain⟨Fx,D4,O⟩:=G.get Az;obtain⟨_,rfl⟩:=tPr_un D4;replace O:At _ Bu (k*2) (Pr.cells Br):=O;refine st _ (r_loadEA (kk:=k*2) (Pr.cells Br) 0 rfl rfl (by exact agg39) O rfl) (st_buildSliceG [(Pr.cells Br)] u41 elT39 (by decide) (by decide) rfl rfl ⟨rfl,tV⟩ ⟨rfl,tV⟩ rfl (by decide) ?_);intro Fh Gu Dp Fn E Ch;have Ep:=uQ _ Dp;obtain⟨P,A,D,C,G,uQ,M⟩:=k7 E P A D C G uQ M;replace Ch:=Ls.of_blk (m:=1) (R:=Cb) (T:=tPr) (xs:=[Br]) Ch ⟨_,_,rfl,(tPr_mk),rfl⟩ rfl (by decide) Ep;refine st_ap (sz:=2) (by rfl) u41 elT39 rfl rfl P Ch (fun _ h _=>h) uQ (Fsh.new M) (by first|omega|(simp<;>omega)|(simp at *<;>omega)) (by first|omega|(simp<;>omega)|(simp at *<;>omega)) ?_;intro Fc Gv Es sQ sT A4 Du E hS _ E3;have Df:=P;clear P;replace tQ:=tT tQ sT;replace K:=fun b hb hl=>sQ b (K b hb hl) (lj hl M.size);replace A:=(A.sub sQ).md E hS;replace D:=(D.sub sQ).md E hS;replace C:=(C.sub sQ).md E hS;replace G:=(G.sub sQ).md E hS;clear O;replace uQ:=uQ.md E;replace M:=M.stepO E (fun b hb=>(Df.2 b hb).1);replace uQ:=A4;clear A4 sQ sT hS E3;refine asg rfl (st_nil (n_block (c_then (c_region (mv rfl (st _ (rA (a:=k) (b:=1) rfl rfl (by omega)) (an rfl ?_)))))));refine next3 (x0:=Fc) (x1:=(o2 ++ ([Br]))) (x2:=(k+1)) (by omega) ⟨rfl,(fitI rfl (by omega)),rfl,rfl,rfl,rfl,rfl,rfl,rfl,rfl,rfl,rfl,rfl,rfl,rfl,rfl,rfl,rfl,rfl,rfl,tV⟩ ⟨Es,tQ,K,uQ,M,Du,A,D,C,G,(by first|omega|(simp;omega)),(by omega),(by have hh:=Cx;rw[addR_step Az,if_pos ⟨Ah.trans (Option.some.inj (Dg.symm.trans Co)).symm,by rw[← allIn_part Az,C6];exact Ai⟩]at hh;exact hh)⟩
     (first|(have Ai:=dF Bh)|(have Ai:=dT (bnf Bh))|(have Ai:=bnf Bh)|(have Ai:=Bh));refine c_skip (n_block (c_then (c_region (mv rfl (st _ (rA (a:=k) (b:=1) rfl rfl (by omega)) (an rfl ?_))))));refine next3 (x0:=Bp) (x1:=o2) (x2:=(k+1)) (by omega) ⟨rfl,(fitI rfl (by omega)),rfl,rfl,rfl,rfl,rfl,rfl,rfl,rfl,rfl,rfl,rfl,rfl,rfl,rfl,rfl,rfl,rfl,rfl,tV⟩ ⟨Cb,tQ,K,uQ,M,P,A,D,C,G,(by first|omega|(simp;omega)),(by omega),(by have hh:=Cx;rw[addR_step Az,if_neg (fun c=>by have e:=c.2;rw[← allIn_part Az,C6,Ai]at e;cases e)]at hh;exact hh)⟩
    (first|(have Ah:=dF I)|(have Ah:=dT (bnf I))|(have Ah:=bnf I)|(have Ah:=I));refine m_skip rfl rfl rfl I (m_skip rfl rfl rfl I (m_skip rfl rfl rfl I (m_skip rfl rfl rfl I (m_skip rfl rfl rfl I (m_skip rfl rfl rfl I (m_nil ?_))))));obtain⟨P,A,D,C,G,uQ,M⟩:=k7 J P A D C G uQ M;clear Bj Bi;clear MC;refine sk I (sk I (st _ (r_pick_f rfl I rfl) (st_nil ?_)));clear A9;clear Bo;refine c_then (c_if_f rfl rfl (c_skip (n_block (c_then (c_region (mv rfl (st _ (rA (a:=k) (b:=1) rfl rfl (by omega)) (an rfl ?_))))))));refine next3 (x0:=Bp) (x1:=o2) (x2:=(k+1)) (by omega) ⟨rfl,(fitI rfl (by omega)),rfl,rfl,rfl,rfl,rfl,rfl,rfl,rfl,rfl,rfl,rfl,rfl,rfl,rfl,rfl,rfl,rfl,rfl,tV⟩ ⟨Cb,tQ,K,uQ,M,P,A,D,C,G,(by first|omega|(simp;omega)),(by omega),(by have hh:=Cx;rw[addR_step Az,if_neg (fun c=>Ah (c.1.trans (Option.some.inj (Dg.symm.trans Co))))]at hh;exact hh)⟩
   (first|(have Ay:=dF Bg)|(have Ay:=dT (bnf Bg))|(have Ay:=bnf Bg)|(have Ay:=Bg));refine c_exit (x_then (x_then (x_hit (n_block (c_then (c_region (mv rfl (st _ (rA (a:=n) (b:=1) rfl rfl (by omega)) (an rfl ?_)))))))));refine next3 (x0:=Bp) (x1:=o2) (x2:=(n+1)) (by omega) ⟨rfl,(fitI rfl (by omega)),rfl,rfl,rfl,rfl,rfl,rfl,rfl,rfl,rfl,tV⟩ ⟨Cb,tQ,K,uQ,M,P,A,D,C,(by omega),(by omega),(by have hh:=Dz;rw[allR_step Cn]at hh;have e2:=C9.trans Cx.symm;rw[addR_end (by omega)]at e2;rw[e2]at hh;exact hh)⟩
  (first|(have Ax:=dF Bf)|(have Ax:=dT (bnf Bf))|(have Ax:=bnf Bf)|(have Ax:=Bf));refine c_exit (x_then (x_then (x_hit (c_then (ns ?_)))));have ao:=C8.trans Dz.symm;rw[allR_end (by omega)]at ao;have Em:∀q∈o,PrV q:=(by rw[← ao];exact allR_pv _ _ _ El (by simp));refine m2 rfl rfl (mv rfl (st _ (r_indexN (i:=i) 1 rfl rfl u36 el9 C.shp (by omega)) ?_));obtain⟨Ca,Cp⟩:=getE (l:=W) (i:=i) (by first|omega|(simp<;>omega));obtain⟨Fy,D5,B3⟩:=C.get Cp;obtain⟨rfl,_⟩:=D5;replace B3:At _ U (i*1) [(str Ca)]:=B3;refine st _ ((r_loadE (kk:=i*1) 0 rfl rfl one9 B3 rfl).to (b:=(str Ca)) rfl) ?_;have lA:=names_small Ca (by rw[B8];exact List.mem_of_getElem? Cp);refine st_call fn23 rfl (cDatas_any uQ D Ca (by exact E8) (by exact E9) (by exact Fa) (by omega)) ?_;rintro en Gw ⟨A5,d,Aa,rfl,E,F,E6,Dq⟩;refine rv ?_;obtain⟨L,A,D,C,uQ,M⟩:=k6 E L A D C uQ M;refine mv rfl (se rfl rfl (se rfl rfl (asg rfl (asg rfl (st_nil ?_)))));clear B3;refine c_then (c_seq (ns ?_));obtain⟨Ev,Ew⟩:=dnm im op D8 D9 Fb El (nm9:=Ca) (o:=o) (by rw[← Option.some.inj (Dg.symm.trans Cp)];exact ao) Dq;refine mv rfl (sL rfl u41 L.shp (st _ (r_eqN (a:=o.length) (b:=0) rfl rfl) (nt ?_)));refine c_if rfl (fun Ab=>?_) (fun Ab=>?_)
  ·(first|(have X:=dT Ab)|(have X:=dF (bnt Ab))|(have X:=bnt Ab)|(have X:=Ab));refine c_seq (nm rfl (st _ (r_neN (a:=Aa) (b:=16) rfl rfl) (nt ?_)));refine c_if rfl (fun Ac=>?_) (fun Ac=>?_)
   ·(first|(have g:=dT Ac)|(have g:=dF (bnt Ac))|(have g:=bnt Ac)|(have g:=Ac));exfalso;have:=Ev X;omega
   (first|(have g:=dF Ac)|(have g:=dT (bnf Ac))|(have g:=bnf Ac)|(have g:=Ac));refine c_skip (c_then (c_exit (x_then (x_hit (c_then (c_region (mv rfl (st _ (rA (a:=i) (b:=1) rfl rfl (by omega)) (an rfl ?_)))))))));refine next1 (x0:=(i+1)) (by omega) ⟨(fitI rfl (by omega)),rfl,rfl,rfl,rfl,tV⟩ ⟨De,tQ,K,uQ,M,A,D,C⟩
  (first|(have X:=dF Ab)|(have X:=dT (bnf Ab))|(have X:=bnf Ab)|(have X:=Ab));refine c_skip (c_then (c_seq (ns ?_)));obtain⟨dc,dl,dk⟩:=Ew X;refine mv rfl (st _ (r_neN (a:=Aa) (b:=0) rfl rfl) (mv rfl ?_));refine part_n (t:=112) rfl (fun S=>?_) (fun S=>?_)
  ·(first|(have p:=dT S)|(have p:=dF (bnt S))|(have p:=bnt S)|(have p:=S));exfalso;omega
  (first|(have p:=dF S)|(have p:=dT (bnf S))|(have p:=bnf S)|(have p:=S));refine sg S (r_move rfl) (sg S (r_len rfl u64 F.shp) (sg S (r_move rfl) (sg S (r_len rfl u41 L.shp) (sg S (r_neN (a:=d.length) (b:=o.length) rfl rfl) (st _ (r_pick_f rfl S rfl) (nt ?_))))));refine c_if rfl (fun Ad=>?_) (fun Ad=>?_)
  ·(first|(have x:=dT Ad)|(have x:=dF (bnt Ad))|(have x:=bnt Ad)|(have x:=Ad));exfalso;omega
  (first|(have x:=dF Ad)|(have x:=dT (bnf Ad))|(have x:=bnf Ad)|(have x:=Ad));refine c_skip (c_then (ns (an rfl (c_block ?_))));refine loop1 (fun(j:Nat)=>[(16,(.int .i64 j)),(3,(.bool Ao)),(5,Y),(6,f),(8,U),(9,(.int .i64 i)),(10,vo),(11,(.int .i64 n)),(14,A5),(15,(.int .i64 Aa)),(46,(.int .i64 i)),(47,U),(48,(.int .i64 W.length)),(49,(.bool ((decide (i<W.length))))),(52,(.int .i64 n)),(53,Y),(54,(.int .i64 V.length)),(55,(.bool ((decide (n<V.length))))),(97,f),(98,U),(99,(.int .i64 i)),(101,(str Ca)),(103,A5),(104,(.int .i64 Aa)),(105,vo),(106,(.int .i64 o.length)),(107,(.bool ((decide (o.length=0))))),(110,(.int .i64 Aa)),(111,(.bool ((decide (Aa≠0))))),(112,(.bool ((decide (Aa≠0))))),(113,A5),(114,(.int .i64 d.length)),(115,vo),(116,(.int .i64 o.length)),(117,(.bool ((decide (d.length≠o.length))))),(118,(.bool ((decide (d.length≠o.length)))))]) (fun(j:Nat) w'=>∃Q':Nat→Prop,(∀b,Q' b→Q b)∧(∀b,Q b→b<w.heap.size→Q' b)∧Up w' Q'∧Md [] w w'∧Ls tRec w' Q' Y V∧Pt tPView 96 w' Q' f ({b:=r6,h:=parseF r6:PView})∧Ls tStr w' Q' U W∧Ow tPr 39 (Fsh [] w) w' Q' vo o∧Ls tU64 w' Q' A5 d) (fun(j:Nat)=>d.length-j) (x0:=0) ?_ ?_ ?_
  ·exact⟨rfl,rfl,rfl,rfl,rfl,rfl,rfl,rfl,rfl,rfl,rfl,rfl,rfl,rfl,rfl,rfl,rfl,rfl,rfl,rfl,rfl,rfl,rfl,rfl,rfl,rfl,rfl,rfl,rfl,rfl,rfl,rfl,rfl,rfl,rfl,rfl,tV⟩
  ·exact⟨De,tQ,K,uQ,M,A,D,C,L,F⟩
  clear M uQ tQ K L A D C F
  rintro j B Gx ⟨Et,tQ,K,uQ,M,A,D,C,L,F⟩;refine c_seq (ns (m2 rfl rfl (sL rfl u64 F.shp (st _ (r_ltN (a:=j) (b:=d.length) rfl rfl) (nt ?_)))));refine c_if rfl (fun Ae=>?_) (fun Ae=>?_)
  ·(first|(have y:=dT Ae)|(have y:=dF (bnt Ae))|(have y:=bnt Ae)|(have y:=Ae));refine c_skip (c_then (c_seq (c_block (ns (m2 rfl rfl (mv rfl (st _ (r_indexN (i:=j) 1 rfl rfl u64 el42 F.shp (by omega)) ?_)))))));obtain⟨Dj,Da⟩:=getE (l:=d) (i:=j) (by first|omega|(simp<;>omega));obtain⟨Fz,D6,B4⟩:=F.get Da;obtain⟨rfl,Ez⟩:=D6;replace B4:At _ A5 (j*1) [(.int .u64 Dj)]:=B4;refine st _ ((r_loadE (kk:=j*1) 0 rfl rfl one42 B4 rfl).to (b:=(.int .u64 Dj)) rfl) (st_call fn16 rfl (vData_any uQ D Dj (by first|omega|(simp<;>omega)) (by first|omega|(simp<;>omega)|(simp at *<;>omega))) ?_);rintro en Gz ⟨A6,Bk,Dk,rfl,E,En,N,E7,Dr⟩;refine rv ?_;obtain⟨A,D,C,L,F,uQ,M⟩:=k7 E A D C L F uQ M;refine mv rfl (se rfl rfl (se rfl rfl (st_alloc z51 ?_)));intro C4 G0 Bw Eb E Aj;obtain⟨Dn,sQ,sT,Cy,A4⟩:=exQ uQ Bw Eb E;replace tQ:=tT tQ sT;replace K:=fun b hb hl=>sQ b (K b hb hl) (lj hl M.size);replace Bw:=ly M.size Bw;replace A:=(A.sub sQ).o E;replace D:=(D.sub sQ).o E;replace C:=(C.sub sQ).o E;replace L:=(L.sub sQ sT).o E;replace F:=(F.sub sQ).o E;replace N:=(N.sub sQ).o E;replace M:=M.k E;replace uQ:=A4;clear A4 sQ sT;have C0:Fsh [] w C4:=.inr Bw;replace Aj:Blk _ _ (Dat.cells (zz4) SN) _:=Aj;have E5:Dat.ok (zz4):=(by first|exact⟨(by decide),(by decide),(by decide),(by decide),(by decide),(by decide)⟩|exact(by first|assumption|exact⟨(by first|omega|(simp<;>omega)|simp_all),(by first|omega|(simp<;>omega)|simp_all),(by first|omega|(simp<;>omega)|simp_all),(by first|omega|(simp<;>omega)|simp_all),(by first|omega|(simp<;>omega)|simp_all),(by first|omega|(simp<;>omega)|simp_all)⟩))
   refine st_storeAgg (us:=(Dat.cells Bk A6)) rfl rfl (by exact agg51) (by first|exact fun u hu=>one_cells (Dat.one N.oneCell) u hu|exact fun u hu=>one_cells rfl u hu) Aj (lB rfl) ?_;have Cg:=Aj;clear Aj;intro Fe E Aj;have hS:∀b∈[C4],¬Dn b:=(hI Cy);replace A:=A.md E hS;replace D:=D.md E hS;replace C:=C.md E hS;replace L:=L.md E (aB Cg L) hS;replace F:=F.md E hS;clear B4;replace N:=N.md E hS;replace uQ:=uQ.md E;replace M:=M.step E (hI C0);clear Cg hS;replace Aj:Blk _ _ (Dat.cells Bk A6) _:=Aj;refine an rfl (c_seq ?_);have Cd:=L;have Av:=N;have B0:=Aj;refine c_mixT [(0,true),(1,true),(2,true),(3,true),(4,true),(5,true),(6,true),(7,true),(8,true),(9,true),(10,true),(11,true),(12,true),(13,true),(14,false)] [15,16] (fun w'=>Md [] Fe w') mixed (by kernel_rfl) ?_;intro G1 J;refine⟨J.mono (by simp),?_⟩;have MC:=J.mono (T:=[]) (by simp);obtain⟨xo,Ea⟩:=getE (l:=o) (i:=(((o.length:Nat):Int)-1-((j:Nat):Int)).toNat) (by omega);obtain⟨dd,e1,e2⟩:=dk j _ _ Da Ea;obtain⟨Ex,Ga⟩:=Prod.mk.inj (e1.symm.trans Dr);rw[Ex]at e2;refine mo rfl (mz (fun w' hc=>r_neN (a:=Dk) (b:=0) rfl rfl) (mo rfl ?_));refine part_m (t:=136) rfl (fun H=>?_) (fun H=>?_)
   ·(first|(have z:=dT H)|(have z:=dF (bnt H))|(have z:=bnt H)|(have z:=H));exfalso;omega
   (first|(have z:=dF H)|(have z:=dT (bnf H))|(have z:=bnf H)|(have z:=H));refine Go.Wk.m_g _ rfl rfl rfl H (fun w' hc=>r_field rfl off51_6) (Go.Wk.m_g _ rfl rfl rfl H (fun w' hc=>(r_loadBlk rfl one34 (B0.o hc) rfl).to (b:=A6) rfl) (Go.Wk.m_g _ rfl rfl rfl H (fun w' hc=>r_convBS (s:=Bk.payload) u34 u5 u9 rfl (Av.o hc).by) (Go.Wk.m_g _ rfl rfl rfl H (fun w' hc=>r_move rfl) (Go.Wk.m_g _ rfl rfl rfl H (fun w' hc=>r_move rfl) (Go.Wk.m_g _ rfl rfl rfl H (fun w' hc=>r_len rfl u41 L.shp) (Go.Wk.m_g _ rfl rfl rfl H (fun w' hc=>r_subI (a:=((o.length:Nat):Int)) (b:=1) rfl rfl (by omega)) (Go.Wk.m_g _ rfl rfl rfl H (fun w' hc=>r_move rfl) (Go.Wk.m_g _ rfl rfl rfl H (fun w' hc=>r_subI (a:=((o.length:Nat):Int)-1) (b:=((j:Nat):Int)) rfl rfl (by omega)) (Go.Wk.m_g _ rfl rfl rfl H (fun w' hc=>r_indexZ (i:=((o.length:Nat):Int)-1-((j:Nat):Int)) 2 rfl rfl u41 el39 L.shp (by omega)) ?_)))))))));obtain⟨C2,B6⟩:=getE (l:=o) (i:=(((o.length:Nat):Int)-1-((j:Nat):Int)).toNat) (by first|omega|(simp<;>omega));obtain⟨F0,D7,B5⟩:=Cd.get B6;obtain⟨_,rfl⟩:=tPr_un D7;replace B5:At _ vo (((((o.length:Nat):Int)-1-((j:Nat):Int)).toNat)*2) (Pr.cells C2):=B5;refine Go.Wk.m_g _ rfl rfl rfl H (fun w' hc=>r_loadEA (kk:=((((o.length:Nat):Int)-1-((j:Nat):Int)).toNat)*2) (Pr.cells C2) 0 rfl rfl (by exact agg39) (B5.o hc) rfl) ?_;have lx:=pv_len (Em _ (List.mem_of_getElem? B6));obtain⟨A,D,C,L,F,uQ,M⟩:=k7 J A D C L F uQ M;refine m_e_g rfl rfl rfl H rfl ?_;have lx:=pv_len (Em _ (List.mem_of_getElem? B6));refine st_call_g rfl rfl rfl H fn15 rfl (payload_any uQ C2 (by first|omega|(simp<;>omega)|(simp at *<;>omega))) ?_;rintro en G2 ⟨Dl,rfl,E,C7⟩;refine rv ?_;obtain⟨A,D,C,L,F⟩:=k5 E A D C L F
   obtain⟨uQ,M,MC⟩:=k3 E uQ M MC;have Cc:=payload_len C2;rw[C7]at Cc;try simp only[LL,Nat.reduceAdd,Nat.reduceMul]at Cc
   refine st_nil ⟨rfl,MC,?_⟩;refine m_nil ?_;clear Av B0 Cd;clear MC;refine sg H (r_neqS (a:=Bk.payload) (b:=Dl) rfl rfl) (st _ (r_pick_f rfl H rfl) (st_nil ?_));clear B5;refine c_then ?_;refine c_if rfl (fun Af=>?_) (fun Af=>?_)
   ·(first|(have Z:=dT Af)|(have Z:=dF (bnt Af))|(have Z:=bnt Af)|(have Z:=Af));exfalso;exact Z (e2.trans (by rw[← Option.some.inj (Ea.symm.trans B6)]at *;exact C7))
   (first|(have Z:=dF Af)|(have Z:=dT (bnf Af))|(have Z:=bnf Af)|(have Z:=Af));refine c_skip (n_block (c_then (c_region (mv rfl (st _ (rA (a:=j) (b:=1) rfl rfl (by omega)) (an rfl ?_))))));refine next1 (x0:=(j+1)) (by omega) ⟨(fitI rfl (by omega)),rfl,rfl,rfl,rfl,rfl,rfl,rfl,rfl,rfl,rfl,rfl,rfl,rfl,rfl,rfl,rfl,rfl,rfl,rfl,rfl,rfl,rfl,rfl,rfl,rfl,rfl,rfl,rfl,rfl,rfl,rfl,rfl,rfl,rfl,rfl,tV⟩ ⟨Dn,tQ,K,uQ,M,A,D,C,L,F⟩
  (first|(have y:=dF Ae)|(have y:=dT (bnf Ae))|(have y:=bnf Ae)|(have y:=Ae));refine c_exit (x_then (x_then (x_hit (n_block (c_then (c_region (mv rfl (st _ (rA (a:=i) (b:=1) rfl rfl (by omega)) (an rfl ?_)))))))));refine next1 (x0:=(i+1)) (by omega) ⟨(fitI rfl (by omega)),rfl,rfl,rfl,rfl,tV⟩ ⟨Et,tQ,K,uQ,M,A,D,C⟩
 (first|(have Aw:=dF Be)|(have Aw:=dT (bnf Be))|(have Aw:=bnf Be)|(have Aw:=Be));refine c_exit (x_then (x_then (x_hit (c_then (nm rfl (ar rfl ?_))))));exact ret1L (v:=(.bool Ao)) trivial rfl ⟨rfl,tV⟩ ⟨Ao,rfl,M,(by first|exact Bs|simp_all)⟩
end Go.Proofs.YtllaambooilnlaaGreat
namespace Go.Wk
open Go Go.RowKit Go.ChangeShapes Go.WideShapes Go.ChangeAt Go.Deep
section
variable {H:Type} {enc:TypeId × Value→H} {P:Program} {w:World} {t f:TypeId} {v:Value} {d:DataW H} {ps:List MemPlace}
theorem open_intl {spare:Nat→Bool} {base:Nat} {held:Bool} {r:Reach} {b0:Nat} {e:TypeId} {k:IntKind} (ht:P.underlying t=some (.slice e)) (he:P.underlying e=some (.int k)) (hc:P.cellsOf e=1) (hv:Value.okWide P w r b0 t v)
    (h:DataW.Trod enc P w base spare held t v d ps):∃l:List Int,Sl w v (l.map (Value.int k))∧∀z∈l,(Lit.int k z).wf=true:=by
  obtain⟨S,A,D,rfl⟩:=okWide_slice ht hv
  obtain⟨L,N⟩:=h
  rcases open_ints ht he hc N with⟨E,_⟩|⟨a,R,M,K,E,_,T,O,J,_,B,I⟩
  · simp[Value.cells]at E
    obtain⟨rfl,rfl,rfl⟩:=E
    exact⟨[],Sl.nil w,by simp⟩
  simp[Value.cells]at E
  obtain⟨rfl,rfl,rfl⟩:=E
  have G:A≤K.length:=by rw[J];split <;> omega
  refine⟨K.take A,⟨some a,D,by simp[Nat.min_eq_left G],by simp;omega,O,by simp,fun p Q j u F=>?_⟩,fun z J=>I z (List.mem_of_mem_take J)⟩
  cases Q
  have hj':=(List.getElem?_eq_some_iff.1 F).1
  simp only[List.length_map,List.length_take]at hj'
  have H:j<A:=by omega
  have C:j<K.length:=by omega
  rw[B j C]
  rw[List.getElem?_map,List.getElem?_take]at F
  rw[if_pos H]at F
  simp[C]at F
  simp[List.getD,C,F]
end
end Go.Wk
namespace Go.Wk
open Go Go.RowKit Go.ChangeShapes Go.WideShapes Go.ChangeAt Go.Deep
section
variable {H:Type} {enc:TypeId × Value→H} {P:Program} {w:World} {t e f:TypeId} {v:Value} {d:DataW H} {ps:List MemPlace} {spare:Nat→Bool} {base:Nat} {held:Bool}
theorem ints_ls {l:List Int} (h:Sl w v (l.map (Value.int .i64))) (hw:∀z∈l,(Lit.int .i64 z).wf=true):Ls tInt w (fun _=>True) v l :=
  Ls.of_sl h (fun x hx=>by
    have:=hw x hx
    simp[Lit.wf,IntKind.min,IntKind.max,IntKind.signed,IntKind.bits]at this
    show -9223372036854775808≤x∧x<9223372036854775808
    omega) (fun _ _ _=>trivial)
end
end Go.Wk
