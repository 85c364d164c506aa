/- Part 9 of what the walk of a law stands on: VRec, VRec1, VRec2, VJf, VGood, VSpo, SortN, SLaid, VSame, CkA, VQu, VQz, VQA, VQB, VTab, VTab2, VTab3, VFo, VFo1, VFo2, VCh. No statement is proved here. -/
import Derived.Test.YtlleafgaeeneoaaGreatQAI8
import Derived.Test.YtlleafgaeeneoaaGreatRows
namespace Go.Proofs.YtlleafgaeeneoaaGreat
open Go Go.Wk Go.RowKit
set_option linter.unusedVariables false
set_option linter.unusedSimpArgs false
attribute [local irreducible] wpList wpQuiet wpStill fF Code.wp Calls bodyPost
variable {w:World} {Q:Nat→Prop}
theorem WA:fA Zp 240 2=true:=Yz
theorem af7:cM Zp 147=true:=Yz
theorem af8:cM Zp 148=true:=Yz
theorem af9:cM Zp 149=true:=Yz
theorem afA:cM Zp 150=true:=Yz
theorem ZX:bh Zp 238 1=some 1:=Yz
theorem ZY:bh Zp 238 2=some 2:=Yz
theorem aac:bh Zp 238 4=some 19:=Yz
theorem aad:bh Zp 240 1=some 1:=Yz
set_option maxHeartbeats 16000000 in
set_option maxRecDepth 100000 in
theorem aaY (uQ:Up w Q) {v0:Value} {v:dH} (h0:Pt dR 135 w Q v0 v) (p:Nat) (a1:p<18446744073709551616) (p0:v.b.length≤1000000) :
  Calls Zp 111 #[v0,(.int .u64 p)] w fun en w'=>(∃u0_0:Value,∃r0:Rec,en = .returned (.agg (Rec.cells r0 u0_0).toArray)∧Md [] w w'∧Rec.ok r0∧Ls nD w' Q u0_0 r0.ay∧mU (decide (v.h.cF &&& 4≠0)) v.h.dI (v.h.n.getD 0 0) v.b p=(r0,0))∨∃cp:Nat,en = .panicked (FJ (.iface 234 (.agg #[.int .i64 cp])))∧(cp≠0∧cp<9223372036854775808)∧Md [] w w'∧(mU (decide (v.h.cF &&& 4≠0)) v.h.dI (v.h.n.getD 0 0) v.b p).2=cp:=by
 obtain⟨Aq,Ec,rfl,V,h0,po⟩:=h0;obtain⟨v1,rfl,q2,I⟩:=e6 po;have M:=Md.refl [] w;have Dv:=uQ;have tQ:∀b,Q b→Q b:=fun _ h=>h;have o:∀b,Q b→b<w.heap.size→Q b:=fun _ h _=>h;refine enter (n:=77) Tryz.func111 q q q fun B=>ns (bU z51 ?_);intro Ah w4 Bj Dk D H;have Dg:Aq≠Ah:=(by have:=h0.lt;omega);obtain⟨Q5,X,Z,S,d⟩:=jh uQ Bj Dk D;replace V:=X _ V h0.lt;replace tQ:=tT tQ Z;replace o:=fun b L hl=>X b (o b L hl) (lj hl M.size);replace Bj:=ly M.size Bj;replace I:=(I.sub X).o D;obtain⟨h0,M⟩:=k2 D h0 M;replace uQ:=d;clear d X Z;have B4:bM [] w Ah:=.inr Bj;replace H:bO _ _ (Rec.cells (GA) SN) _:=H;have D7:Rec.ok (GA):=(by exact⟨Jk,Jk,Jk,q⟩);refine nt (ns (m2 q q (iZ af7 q (NX uQ ⟨_,_,q,V,h0,d8 q2 I⟩ p Ok Ok) ?_)));rintro en w7 (⟨g,G,rfl,D,Ad,C,Ar⟩|⟨cp,rfl,Ak,D,Ar⟩)
 rotate_left
 ·exact .inr ⟨_,q,gq (Or.inr ⟨cp,q,Ak,M.k D,(aeF Ar Ak.1)⟩)⟩
 refine .inl ⟨_,q,?_⟩;obtain⟨I,h0,H,uQ,M⟩:=k5 D I h0 H uQ M;refine bU FZ ?_;intro Ai w8 Bk Dl D J;have Dh:Aq≠Ai:=(by have:=h0.lt;omega);have C5:Ah≠Ai:=(by have:=H.lt;omega);obtain⟨Q9,X,Z,U,d⟩:=jh uQ Bk Dl D;replace V:=X _ V h0.lt;replace S:=fun t=>S (Z _ t);replace tQ:=tT tQ Z;replace o:=fun b L hl=>X b (o b L hl) (lj hl M.size);replace Bk:=ly M.size Bk;replace I:=(I.sub X).o D;obtain⟨h0,H⟩:=k2 D h0 H;replace C:=(C.sub X).o D;replace M:=M.k D;replace uQ:=d;clear d X Z;have B5:bM [] w Ai:=.inr Bk;replace J:bO _ _ (gN.cells (uz) SN) _:=J;have Do:gN.ok (uz):=(by exact⟨Jk,Jk,Jk,q,Jk⟩);refine aX (us:=(gN.cells G g)) q q (by exact kR) (by exact fun u hu=>bn (gN.one C.bN) u hu) J (lB q) ?_;have Cu:=J;clear J;intro Em D J;have c:∀b∈[Ai],¬Q9 b:=(hI U);replace I:=I.md D c;replace h0:=h0.md D Vk;replace H:=H.md D Vk;replace C:=C.md D c;replace uQ:=uQ.md D;replace M:=M.step D (hI B5);clear Cu c;replace J:bO _ _ (gN.cells G g) _:=J;refine nt (ns (sf q JI (sl (u:=(.int .u64 G.seq)) q bH J q ?_)));have Ee:G.seq<18446744073709551616:=Ad.1;refine sf q ZX ?_
 refine sl (u:=(.int .u64 G.dn)) q bH J q ?_;have Ef:G.dn<18446744073709551616:=Ad.2.1;refine sf q ZY (sl (u:=(.int .u64 G.mono)) q bH J q ?_);have Eg:G.mono<18446744073709551616:=Ad.2.2.1;refine sf q JJ (st _ (bX (iP G.cG) q (by exact kW) J q) ?_);have Eh:G.cG.length=16:=Ad.2.2.2.1;refine st _ (bY (us:=[[(.int .u64 G.seq)],[(.int .u64 G.dn)],[(.int .u64 G.mono)],(iP G.cG)]) (cs:=(Rec.cells (({seq:=G.seq,dn:=G.dn,mono:=G.mono,cG:=G.cG,ay:=[]}:Rec)) SN)) [(0,0,1),(1,1,1),(2,2,1),(3,3,16)] z51 aez q q ⟨q,q,q,q,tV⟩ ⟨q,q,q,q,tV⟩ q q) (bU z51 ?_);intro Ag En Bl Dm D K;have Di:Aq≠Ag:=(by have:=h0.lt;omega);have C6:Ah≠Ag:=(by have:=H.lt;omega);have Da:Ai≠Ag:=(by have:=J.lt;omega);obtain⟨Cc,X,Z,W,d⟩:=jh uQ Bl Dm D;replace V:=X _ V h0.lt;replace S:=fun t=>S (Z _ t);replace U:=fun t=>U (Z _ t);replace tQ:=tT tQ Z;replace o:=fun b L hl=>X b (o b L hl) (lj hl M.size);replace Bl:=ly M.size Bl;replace I:=(I.sub X).o D;obtain⟨h0,H⟩:=k2 D h0 H;replace C:=(C.sub X).o D;obtain⟨J,M⟩:=k2 D J M;replace uQ:=d;clear d X Z;have Bf:bM [] w Ag:=.inr Bl;replace K:bO _ _ (Rec.cells (GA) SN) _:=K;have Dp:Rec.ok (GA):=(by exact⟨Jk,Jk,Jk,q⟩);refine aX (us:=(Rec.cells (({seq:=G.seq,dn:=G.dn,mono:=G.mono,cG:=G.cG,ay:=[]}:Rec)) SN)) q q (by exact mF) (by exact fun u hu=>bn (Rec.one q) u hu) K (lB q) ?_
 have Au:=K;clear K;intro Eo D K;have c:∀b∈[Ag],¬Cc b:=(hI W);replace I:=I.md D c;replace h0:=h0.md D Vk;replace H:=H.md D Vk;replace C:=C.md D c;replace J:=J.md D Vk;replace uQ:=uQ.md D;replace M:=M.step D (hI Bf);clear Au c;replace K:bO _ _ (Rec.cells (({seq:=G.seq,dn:=G.dn,mono:=G.mono,cG:=G.cG,ay:=[]}:Rec)) SN) _:=K;refine nt (au (ns (sf q o9 (sl (u:=g) q ul J q (sL q KT C.cV (st _ (iY (a:=G.bJ.length) (b:=16) q q) (nt ?_)))))));refine bV q (fun Bx=>?_) (fun Bx=>?_)
 ·(have Cq:=dT Bx);refine ax (st _ (bY (us:=[[(.int .i64 ((21:Nat):Int))]]) (cs:=(Stop.cells (({code:=21}:Stop)))) [(0,0,1)] z234 zN q q ⟨q,tV⟩ ⟨q,tV⟩ q q) (st _ (me rP q) (oI q ?_)));exact gq (Or.inr ⟨21,q,⟨by omega,by omega⟩,M,(aeE Ar Ok)⟩)
 (have Cq:=dF Bx);refine aY (ai (ns (an q (au (ns (sf q o9 (sl (u:=g) q ul J q (sL q KT C.cV (mv q (nt (b9 ?_)))))))))));obtain⟨r0,Bd⟩:∃r,lu (decide (v.h.cF &&& 4≠0)) v.h.dI (v.h.n.getD 0 0) v.b G.bJ [] []=r:=⟨_,q⟩;have Aw:=Bd
 try simp only[List.nil_append,Ar]at Bd
 refine PD (fun(r:Rec) (N:Value) (Bh:Value) (al:List (List UInt8)) (i:Nat)=>[(7,Bh),(34,(.int .i64 i)),(0,(.pointer (some ⟨Aq,0,none⟩))),(4,(.pointer (some ⟨Ah,0,none⟩))),(5,(.pointer (some ⟨Ai,0,none⟩))),(6,(.pointer (some ⟨Ag,0,none⟩))),(32,g),(33,(.int .i64 G.bJ.length))]) (fun(r:Rec) (N:Value) (Bh:Value) (al:List (List UInt8)) (i:Nat) w'=>∃Q':Nat→Prop,(∀b,Q' b→Q b)∧(∀b,Q b→b<w.heap.size→Q' b)∧Up w' Q'∧Md [] w w'∧bO w' Ag (Rec.cells r N) 51∧Ow nD 61 (bM [] w) w' Q' N r.ay∧Rec.ok r∧Ow (ql eD) 27 (bM [] w) w' Q' Bh al∧bO w' Aq (dH.cells v v1) 135∧bO w' Ah (Rec.cells (GA) SN) 51∧bO w' Ai (gN.cells G g) 238∧Ls xH w' Q' g G.bJ∧Ls eD w' Q' v1 v.b∧¬Q' Ag∧Q' Aq∧¬Q' Ah∧¬Q' Ai∧acS G r∧r.ay.length≤i∧al.length≤i∧i≤G.bJ.length∧(∀x∈al,x.length≤1048576)∧lu (decide (v.h.cF &&& 4≠0)) v.h.dI (v.h.n.getD 0 0) v.b (G.bJ.drop i) r.ay al=r0) (fun(r:Rec) (N:Value) (Bh:Value) (al:List (List UInt8)) (i:Nat)=>G.bJ.length-i) (x0:=(({seq:=G.seq,dn:=G.dn,mono:=G.mono,cG:=G.cG,ay:=[]}:Rec))) (x1:=SN) (x2:=SN) (x3:=([]:List (List UInt8))) (x4:=0) ?_ ?_ ?_
 ·exact⟨q,q,q,q,q,q,q,q,tV⟩
 ·exact⟨Cc,tQ,o,uQ,M,K,(by exact Ow.nil _ _ _ _ _),(by exact⟨Ok,Ok,Ok,Yj⟩),(Ow.nil _ _ _ _ _),h0,H,J,C,I,W,V,S,U,⟨q,q,q,q⟩,Oj,Oj,Ok,(by intro x hx;cases hx),(by have t:=Bd;exact t)⟩
 clear M uQ tQ o V S U W I h0 H C J K
 rintro r N Bh al i B Dx ⟨Cd,tQ,o,uQ,M,K,A,Az,F,h0,H,J,C,I,W,V,S,U,Ay,D2,D3,D4,Bw,A5⟩;refine ns (st _ (dV (a:=i) (b:=G.bJ.length) q q) (nt (au ?_)));refine bV q (fun Bz=>?_) (fun Bz=>?_)
 ·(have A6:=dT Bz);refine aY (ai (au (b9 (ns (st _ (bB (i:=i) 2 q q KT WV C.cV Ok) ?_)))));obtain⟨Am,Ax⟩:=dQ (l:=G.bJ) (i:=i) Ok;obtain⟨Eb,Cv,A3⟩:=C.get Ax;obtain⟨_,rfl,Cz⟩:=vG Cv;replace A3:At _ g (i*2) (kQ.cells Am):=A3;refine st _ (eV (kk:=i*2) (kQ.cells Am) 0 q q (by exact WA) A3 q) (bU agS ?_);intro As Ep Bm Dn D k;have Dc:Ag≠As:=(by have:=K.lt;omega);have Dj:Aq≠As:=(by have:=h0.lt;omega);have C9:Ah≠As:=(by have:=H.lt;omega);have Db:Ai≠As:=(by have:=J.lt;omega);obtain⟨Dd,X,Z,B2,d⟩:=jh uQ Bm Dn D;replace W:=fun t=>W (Z _ t);replace V:=X _ V h0.lt;replace S:=fun t=>S (Z _ t);replace U:=fun t=>U (Z _ t);replace tQ:=tT tQ Z;replace o:=fun b L hl=>X b (o b L hl) (lj hl M.size);replace Bm:=ly M.size Bm;replace A:=(A.sub X Z).o D;replace K:=K.o D;replace F:=(F.sub X Z).o D;obtain⟨h0,H,J⟩:=k3 D h0 H J;replace C:=(C.sub X).o D;replace I:=(I.sub X).o D;replace M:=M.k D;replace uQ:=d;clear d X Z;have B6:bM [] w As:=.inr Bm;replace k:bO _ _ (kQ.cells (({pos:=0,cQ:=0}:kQ))) _:=k;have Dq:kQ.ok (({pos:=0,cQ:=0}:kQ)):=(by exact⟨Jk,Jk⟩);refine aX (us:=(kQ.cells Am)) q q (by exact WA) (by exact fun u hu=>bn (kQ.one) u hu) k (lB q) ?_;have Bc:=k;clear k;intro Er D k;have c:∀b∈[As],¬Dd b:=(hI B2)
  replace A:=A.md D (aB Bc A) c;replace K:=K.md D Vk;replace F:=F.md D (aB Bc F) c;replace h0:=h0.md D Vk;replace H:=H.md D Vk;replace J:=J.md D Vk;replace C:=C.md D c;replace I:=I.md D c;clear A3;replace uQ:=uQ.md D;replace M:=M.step D (hI B6);clear Bc c;replace k:bO _ _ (kQ.cells Am) _:=k;refine nt (nm q (sf q zI (sl (u:=(.int .u64 Am.pos)) q bH k q ?_)));have Ei:Am.pos<18446744073709551616:=Cz.1;refine iZ af8 q (aaX uQ ⟨_,_,q,V,h0,d8 q2 I⟩ Am.pos Ok Ok) ?_;rintro en Es (⟨z,Ac,rfl,D,Bg,E,Ap⟩|⟨cp,rfl,Ak,D,Ap⟩)
  rotate_left
  ·exact .inr ⟨_,q,gq (Or.inr ⟨cp,q,Ak,M.k D,(N5 Ar Ok (Aw.trans (A5.symm.trans (UJ Ax Ap Ak.1))) Ak.1)⟩)⟩
  refine .inl ⟨_,q,?_⟩;obtain⟨A,K,F,h0,H,J,C,I⟩:=k8 D A K F h0 H J C I;obtain⟨k,uQ,M⟩:=k3 D k uQ M;refine bU AO ?_;intro Af Et A1 Cx D O;have Ck:Ag≠Af:=(by have:=K.lt;omega);have C3:Aq≠Af:=(by have:=h0.lt;omega);have Cg:Ah≠Af:=(by have:=H.lt;omega);have Ci:Ai≠Af:=(by have:=J.lt;omega);have Cm:As≠Af:=(by have:=k.lt;omega);obtain⟨De,X,Z,Bo,d⟩:=jh uQ A1 Cx D;replace W:=fun t=>W (Z _ t);replace V:=X _ V h0.lt;replace S:=fun t=>S (Z _ t);replace U:=fun t=>U (Z _ t);replace tQ:=tT tQ Z;replace o:=fun b L hl=>X b (o b L hl) (lj hl M.size);replace A1:=ly M.size A1;replace A:=(A.sub X Z).o D;replace K:=K.o D;replace F:=(F.sub X Z).o D;obtain⟨h0,H,J⟩:=k3 D h0 H J;replace C:=(C.sub X).o D;replace I:=(I.sub X).o D;replace k:=k.o D;replace E:=(E.sub X).o D;replace M:=M.k D;replace uQ:=d;clear d X Z;have Bq:bM [] w Af:=.inr A1;replace O:bO _ _ (fU.cells (AP) SN) _:=O;have Dr:fU.ok (AP):=(by exact⟨Jk,Jk,Jk,Jk,Jk,Jk⟩);refine aX (us:=(fU.cells Ac z)) q q (by exact j7) (by exact fun u hu=>bn (fU.one E.bN) u hu) O (lB q) ?_
  have A0:=O;clear O;intro Eu D O;have c:∀b∈[Af],¬De b:=(hI Bo);replace A:=A.md D (aB A0 A) c;replace K:=K.md D Vk;replace F:=F.md D (aB A0 F) c;replace h0:=h0.md D Vk;replace H:=H.md D Vk;replace J:=J.md D Vk;replace C:=C.md D c;replace I:=I.md D c;replace k:=k.md D Vk;replace E:=E.md D c;replace uQ:=uQ.md D;replace M:=M.step D (hI Bq);clear A0 c;replace O:bO _ _ (fU.cells Ac z) _:=O;refine nt (au (ns (sf q zG (sl (u:=(.int .u64 Ac.cQ)) q bH O q ?_))));have Ej:Ac.cQ<18446744073709551616:=Bg.1;refine sf q aad (sl (u:=(.int .u64 Am.cQ)) q bH k q ?_);have Ek:Am.cQ<18446744073709551616:=Cz.2;refine st _ (eN (a:=Ac.cQ) (b:=Am.cQ) q q) (nt ?_);refine bV q (fun B0=>?_) (fun B0=>?_)
  ·(have Cr:=dT B0);refine ax (st _ (bY (us:=[[(.int .i64 ((9:Nat):Int))]]) (cs:=(Stop.cells (({code:=9}:Stop)))) [(0,0,1)] z234 zN q q ⟨q,tV⟩ ⟨q,tV⟩ q q) (st _ (me rP q) (oI q ?_)));exact gq (Or.inr ⟨9,q,⟨by omega,by omega⟩,M,(N5 Ar Ok (Aw.trans (A5.symm.trans (acv Ax Ap Ok))) Jk)⟩)
  (have Cr:=dF B0);refine aY (ai (ns (sf q vi (sl (u:=z) q fC O q (aj af9 q (MB uQ E) ?_)))));rintro en Ev ⟨Aa,B9,rfl,D,Ds,Bt⟩;refine rv ?_;obtain⟨A,K,F,h0,H,J,C,I⟩:=k8 D A K F h0 H J C I;obtain⟨k,E,O,uQ,M⟩:=k5 D k E O uQ M;refine mv q (se q q (se q q (bU z61 ?_)));intro Ab Ew A2 Cy D f;have Y:∀x,ah N=some x→x≠Ab:=fun x hx h=>by have h3:=A.lt x hx;omega
  have Cl:Ag≠Ab:=(by have:=K.lt;omega);have C4:Aq≠Ab:=(by have:=h0.lt;omega);have Ch:Ah≠Ab:=(by have:=H.lt;omega);have Cj:Ai≠Ab:=(by have:=J.lt;omega);have Cn:As≠Ab:=(by have:=k.lt;omega);have Cb:Af≠Ab:=(by have:=O.lt;omega);obtain⟨Ce,X,Z,Bp,d⟩:=jh uQ A2 Cy D;replace W:=fun t=>W (Z _ t);replace V:=X _ V h0.lt;replace S:=fun t=>S (Z _ t);replace U:=fun t=>U (Z _ t);replace tQ:=tT tQ Z;replace o:=fun b L hl=>X b (o b L hl) (lj hl M.size);replace A2:=ly M.size A2;replace A:=(A.sub X Z).o D;replace K:=K.o D;replace F:=(F.sub X Z).o D;obtain⟨h0,H,J⟩:=k3 D h0 H J;replace C:=(C.sub X).o D;replace I:=(I.sub X).o D;replace E:=(E.sub X).o D;obtain⟨O,M⟩:=k2 D O M;replace uQ:=d;clear d X Z;have Br:bM [] w Ab:=.inr A2;replace f:bO _ _ (Pr.cells (oL)) _:=f;refine aX (us:=(Pr.cells Aa)) q q (by exact fp) (by exact fun u hu=>bn (Pr.one) u hu) f (lB q) ?_;have A8:=f;clear f;intro Ex D f;have c:∀b∈[Ab],¬Ce b:=(hI Bp);replace A:=A.md D (ef Y) c;replace K:=K.md D Vk;replace F:=F.md D (aB A8 F) c;replace h0:=h0.md D Vk;replace H:=H.md D Vk;replace J:=J.md D Vk;replace C:=C.md D c;replace I:=I.md D c;replace E:=E.md D c;replace O:=O.md D Vk;replace uQ:=uQ.md D
  replace M:=M.step D (hI Br);clear A8 c;replace f:bO _ _ (Pr.cells Aa) _:=f;refine an q (nm q (iZ HB q (qj uQ B9 Ok) ?_));rintro en Ey (⟨rfl,D,A7⟩|⟨cp,rfl,Ak,D,A7⟩)
  rotate_left
  ·exact .inr ⟨_,q,gq (Or.inr ⟨cp,q,Ak,M.k D,(by have e:=Bt;rw[A7]at e;exact N5 Ar Ok (Aw.trans (A5.symm.trans (Kt Ax Ap Ok e Ak.1))) Ak.1)⟩)⟩
  refine .inl ⟨_,q,?_⟩;obtain⟨A,K,F,h0,H,J,C,I⟩:=k8 D A K F h0 H J C I;obtain⟨E,O,f,uQ,M⟩:=k5 D E O f uQ M;refine nt (ns (sf q FD (sl (u:=N) q aai K q (st _ (bX (Pr.cells Aa) q (by exact fp) f q) (bg [(Pr.cells Aa)] oJ qQ Jk Jk q q ⟨q,tV⟩ ⟨q,tV⟩ q Jk ?_)))));intro Dz Ez Cp D6 D Bb;have C1:=uQ _ Cp;obtain⟨A,K,F,h0,H,J,C,I⟩:=k8 D A K F h0 H J C I;obtain⟨E,O,f,uQ,M⟩:=k5 D E O f uQ M;replace Bb:=Ls.cK (m:=1) (R:=Ce) (T:=nD) (xs:=[Aa]) Bb ⟨_,_,q,(lT),q⟩ q Jk C1;refine dZ (sz:=2) (by rfl) oJ qQ q q A Bb (fun _ h _=>h) uQ (bM.new M) Yk Yk ?_;intro B8 E0 Cf X Z d j D c _ Bn;have Bi:∀x,ah B8=some x→x≠Ab:=fun x hx h=>(Bn x hx).elim (fun h2=>Y x h2 h) (fun h2=>by have h3:=f.lt;omega);have P:=A;clear A;replace W:=fun t=>W (Z _ t);replace F:=F.sub X Z;replace V:=X _ V h0.lt;replace S:=fun t=>S (Z _ t);replace U:=fun t=>U (Z _ t);replace C:=C.sub X;replace I:=I.sub X;replace E:=E.sub X;replace tQ:=tT tQ Z;replace o:=fun b L hl=>X b (o b L hl) (lj hl M.size);replace K:=K.md D (aW P K)
  replace F:=F.md D (aO P F) c;replace h0:=h0.md D (aW P h0);replace H:=H.md D (aW P H);replace J:=J.md D (aW P J);replace C:=C.md D c;replace I:=I.md D c;replace E:=E.md D c;replace O:=O.md D (aW P O);replace uQ:=uQ.md D;replace M:=M.cP D (fun b L=>(P.2 b L).1);replace uQ:=d;clear d X Z c Bn;refine sf q FD (bI q q aai j.bN K (lB q) ?_);have Au:=K;clear K;intro E1 D K;have c:∀b∈[Ag],¬Cf b:=(hI W);replace F:=F.md D (aB Au F) c;replace h0:=h0.md D Vk;replace H:=H.md D Vk;replace J:=J.md D Vk;replace C:=C.md D c;replace I:=I.md D c;replace E:=E.md D c;replace O:=O.md D Vk;replace j:=j.md D (aB Au j) c;replace uQ:=uQ.md D;replace M:=M.step D (hI Bf);clear Au c;obtain⟨B7,Ao⟩:∃y,y=({r with ay:=r.ay ++ ([Aa])}:Rec):=⟨_,q⟩;replace K:bO _ _ (Rec.cells ({r with ay:=r.ay ++ ([Aa])}) B8) _:=K;rw[← Ao]at K;have B3:Rec.ok B7:=(by rw[Ao];exact⟨Az.1,Az.2.1,Az.2.2.1,Az.2.2.2⟩);rw[show r.ay ++ ([Aa])=B7.ay by rw[Ao]]at j;refine nt (ax (mv q (sf q vi (sl (u:=z) q fC O q (bg [[z]] KS OI Jk Jk q q ⟨(dY E.bN),tV⟩ ⟨q,tV⟩ q Jk ?_)))));intro Dy E2 Co D5 D Ba;have C0:=uQ _ Co;obtain⟨F,h0⟩:=k2 D F h0
  obtain⟨H,J,C,I,E,j,K,uQ⟩:=k8 D H J C I E j K uQ;replace M:=M.k D;replace Ba:=Ls.cK (m:=1) (R:=Cf) (T:=(ql eD)) (xs:=[Ac.aZ]) Ba ⟨_,_,q,⟨_,q,E⟩,q⟩ q Jk C0;refine dZ (sz:=1) (by rfl) KS OI q q F Ba (fun _ h _=>h) uQ (bM.new M) Yk Yk ?_;intro Dw E3 Df X Z d Ct D c _ Bn;have Ae:=F;clear F;replace V:=X _ V h0.lt;replace S:=fun t=>S (Z _ t);replace U:=fun t=>U (Z _ t);replace W:=fun t=>W (Z _ t);replace tQ:=tT tQ Z;replace o:=fun b L hl=>X b (o b L hl) (lj hl M.size);replace h0:=h0.md D (aW Ae h0);replace H:=H.md D (aW Ae H);replace J:=J.md D (aW Ae J);replace C:=(C.sub X).md D c;replace I:=(I.sub X).md D c;replace j:=(j.sub X Z).md D (aO Ae j) c;replace K:=K.md D (aW Ae K);replace uQ:=uQ.md D;replace M:=M.cP D (fun b L=>(Ae.2 b L).1);replace uQ:=d;clear d X Z c Bn;refine cE q (ak (bL (ai (ax (st _ (rA (a:=i) (b:=1) q q Ok) (mv q (nt ?_)))))));refine IY (x0:=B7) (x1:=B8) (x2:=Dw) (x3:=(al ++ ([Ac.aZ]))) (x4:=(i+1)) Ok ⟨q,(dA q Ok),q,q,q,q,q,q,tV⟩ ⟨Df,tQ,o,uQ,M,K,j,B3,Ct,h0,H,J,C,I,W,V,S,U,(by rw[Ao];exact⟨Ay.seq,Ay.dn,Ay.mono,Ay.cG⟩),(by rw[Ao];simp;omega),Yw,Ok,(abk Bw (ly (acg Ap) Ok)),(by have e:=Bt;rw[A7]at e;have t:=A5;rw[N3 Ax Ap Ok e]at t;rw[Ao];exact t)⟩
 (have A6:=dF Bz);refine cw (bD (bD (cZ (ai (au (au ?_))))));have A9:=J;refine cT [(0,true),(1,true),(2,true),(3,false)] [4] (fun w'=>Md [] Dx w') mixed Yz ?_;intro E4 Av;refine⟨Av.mono Oj,?_⟩;have MC:=Av.mono (T:=[]) Oj;refine mz (fun w' hc=>aU q aac) (mz (fun w' hc=>(aA q bH (A9.o hc) q).to (b:=(.int .u64 G.xor)) q) ?_);have El:G.xor<18446744073709551616:=Ad.2.2.2.2;refine mo q ?_;obtain⟨A,K,F,H,uQ,M⟩:=k6 Av A K F H uQ M;refine kZ ?_ rfl;refine aj afA q (WT (fun b L=>Or.inl (uQ b L)) (Q:=fun b=>Cd b∨bM [] w b) F.read (by exact Bw)) ?_;rintro en E5 ⟨Ca,rfl,D,Du,Bu⟩;refine rv ?_;obtain⟨A,K,H,M,MC⟩:=k5 D A K H M MC;refine ak ⟨q,MC,?_⟩;refine d9 ?_;clear A9;clear MC;refine st _ (eN (a:=G.xor) (b:=Ca) q q) (nt ?_);refine bV q (fun B1=>?_) (fun B1=>?_)
 ·(have Cs:=dT B1);refine ax (st _ (bY (us:=[[(.int .i64 ((10:Nat):Int))]]) (cs:=(Stop.cells (({code:=10}:Stop)))) [(0,0,1)] z234 zN q q ⟨q,tV⟩ ⟨q,tV⟩ q q) (st _ (me rP q) (oI q ?_)));exact gq (Or.inr ⟨10,q,⟨by omega,by omega⟩,M,(aeD Ar Ok (Aw.trans (A5.symm.trans (DI A6))) Bu Ok)⟩)
 (have Cs:=dF B1);refine aY (ai (ns (st _ (bX (Rec.cells r N) q (by exact mF) K q) (aX (us:=(Rec.cells r N)) q q (by exact mF) (by exact fun u hu=>bn (Rec.one A.bN) u hu) H (lB q) ?_))));have A4:=A;have Bv:=H;clear H;intro E6 D H;have c:∀b∈[Ah],¬Cd b:=(hI S);replace A4:=A4.md D (aB Bv A4) c;replace M:=M.step D (hI B4);clear Bv c;replace H:bO _ _ (Rec.cells r N) _:=H;refine nt (gW ?_);exact cu (v:=(.agg (Rec.cells r N).toArray)) trivial q ⟨⟨_,q,cJ (cs:=(Rec.cells r N)) (by exact mF) H⟩,tV⟩ (Or.inl ⟨_,r,q,M,Az,(A4.ls (fun b L=>tQ b L) (bM.up Dv)),(aeG Ar Ok Ay (Aw.trans (A5.symm.trans (DI A6))) Bu Ok)⟩)
theorem afv:cM Zp 111=true:=Yz
theorem VO (uQ:Up w Q) {v0:Value} {v:dH} (h0:Pt (tPt dR 135) 62 w Q v0 v) {v1:Value} {p:Nat} (h1:Pt dw 46 w Q v1 p) {b2:Nat} {v2_0:Value} (m:Rec) (h2:bO w b2 (Rec.cells m v2_0) 51) (n2:¬Q b2) (a2_0:Rec.ok m) (a2_1:Ls nD w Q v2_0 m.ay) (p0:v.b.length≤1000000) :
  Calls Zp 110 #[v0,v1,.pointer (some ⟨b2,0,none⟩)] w fun en w'=>(∃m29:Rec,∃u52_0:Value,en = .returned (.tuple #[])∧Md [b2] w w'∧bO w' b2 (Rec.cells m29 u52_0) 51∧¬Q b2∧Rec.ok m29∧Ls nD w' Q u52_0 m29.ay∧mU (decide (v.h.cF &&& 4≠0)) v.h.dI (v.h.n.getD 0 0) v.b p=(m29,0))∨∃cp:Nat,en = .panicked (FJ (.iface 234 (.agg #[.int .i64 cp])))∧(cp≠0∧cp<9223372036854775808)∧Md [b2] w w'∧bO w' b2 (Rec.cells m v2_0) 51∧(mU (decide (v.h.cF &&& 4≠0)) v.h.dI (v.h.n.getD 0 0) v.b p).2=cp:=by
 obtain⟨V,g,rfl,L,h0,po⟩:=h0;obtain⟨v1,rfl,Z⟩:=po;obtain⟨W,i,rfl,N,h1,c⟩:=h1;obtain⟨rfl,f⟩:=c;have C:=n2;have P:bM [b2] w b2:=.inl Oj;have T:V≠b2:=fun h=>C (h ▸ L);have U:W≠b2:=fun h=>C (h ▸ N);have M:=Md.refl [b2] w;have o:=uQ;have l:∀b,Q b→Q b:=fun _ h=>h;refine enter (n:=6) Tryz.func110 q q q ?_;intro B;refine ax (sl (u:=v1) q xe h0 q ?_);have J:=Z;obtain⟨K,d,rfl,E,J,R⟩:=J;obtain⟨r,rfl,k,a⟩:=e6 R;have O:K≠b2:=fun h=>C (h ▸ E);refine sl (u:=(.int .u64 p)) q bH h1 q (iZ afv q (aaY uQ ⟨_,_,q,E,J,d8 k a⟩ p Ok Ok) ?_);rintro en t (⟨D,F,rfl,H,G,A,I⟩|⟨cp,rfl,Y,H,I⟩)
 rotate_left
 ·exact .inr ⟨_,q,gq (Or.inr ⟨cp,q,Y,M.k H,h2.o H,I⟩)⟩
 refine .inl ⟨_,q,?_⟩;obtain⟨h2,M⟩:=k2 H h2 M;refine aX (us:=(Rec.cells F D)) q q (by exact mF) (by exact fun u j=>bn (Rec.one A.bN) u j) h2 (lB q) ?_;have X:=h2;clear h2;intro x H h2;have e:∀b∈[b2],¬Q b:=(hI C);replace A:=A.md H e;replace M:=M.step H (hI P);clear X e;replace h2:bO _ _ (Rec.cells F D) _:=h2;refine ak ?_;exact dB (vs:=[]) trivial q trivial q (Or.inl ⟨F,_,q,M,h2,n2,G,(A.sub (fun b S _=>l b S)),I⟩)
theorem afu:cM Zp 110=true:=Yz
theorem KU (uQ:Up w Q) {v0:Value} {v:dH} (h0:Pt dR 135 w Q v0 v) (p:Nat) (a1:p<18446744073709551616) (p0:v.b.length≤1000000) :
  Calls Zp 70 #[v0,(.int .u64 p)] w fun en w'=>∃u0_0:Value,∃r0:Rec,∃r1:Nat,en = .returned (.tuple #[.agg (Rec.cells r0 u0_0).toArray,(.int .i64 r1)])∧Md [] w w'∧Rec.ok r0∧Ls nD w' Q u0_0 r0.ay∧r1<9223372036854775808∧mU (decide (v.h.cF &&& 4≠0)) v.h.dI (v.h.n.getD 0 0) v.b p=(r0,r1):=by
 refine enter (n:=10) (vs:=[v0,.int .u64 p]) Tryz.func70 q q q ?_;intro B;have t:v0.oneCell'=true:=(by obtain⟨b,c,rfl,_⟩:=h0;rfl);refine ns (eC (cs:=[v0]) q (dY t) ?_);intro i w2 g2 l2 A F;have q2:=uQ _ g2;obtain⟨h0,uQ⟩:=k2 A h0 uQ;have M:=A;refine eC (cs:=[.int .u64 p]) q q ?_;intro j w3 g3 l3 A I;have q3:=uQ _ g3;obtain⟨h0,F,uQ,M⟩:=k4 A h0 F uQ M;refine bU z51 ?_;intro E g g4 l4 A d;obtain⟨V,s4,t4,n4,u4⟩:=jh uQ g4 l4 A;have a:=ly M.size g4;have y:=s4 _ q2 F.lt;have z:=s4 _ q3 I.lt;replace h0:=(h0.sub s4).o A;obtain⟨F,I,M⟩:=k3 A F I M;replace d:bO g E (Rec.cells vE SN) 51:=d;refine an q (ns (st _ (lp (vs:=[.pointer (some ⟨i,0,none⟩),.pointer (some ⟨j,0,none⟩),.pointer (some ⟨E,0,none⟩)]) q) ?_));have hk:Rec.ok vE:=⟨by decide,by decide,by decide,q⟩
 refine aj OT q (vH (f:=110) (cs:=[.pointer (some ⟨i,0,none⟩),.pointer (some ⟨j,0,none⟩),.pointer (some ⟨E,0,none⟩)]) (S:=[E])
  (X:=fun w'=>∃r u,bO w' E (Rec.cells r u) 51∧Rec.ok r∧Ls nD w' V u r.ay∧mU (decide (v.h.cF &&& 4≠0)) v.h.dI (v.h.n.getD 0 0) v.b p=(r,0))
  (Y:=fun c w'=>bO w' E (Rec.cells vE SN) 51∧c<9223372036854775808∧mU (decide (v.h.cF &&& 4≠0)) v.h.dI (v.h.n.getD 0 0) v.b p=(vE,c))
  (R:=fun O e w'=>(∃N Z,e = .returned (.tuple #[])∧Md [E] O w'∧bO w' E (Rec.cells N Z) 51∧Rec.ok N∧Ls nD w' (fun x=>V x∧(x<g.heap.size∨O.heap.size≤x)) Z N.ay∧mU (decide (v.h.cF &&& 4≠0)) v.h.dI (v.h.n.getD 0 0) v.b p=(N,0))∨∃L:Nat,e = .panicked (FJ (.iface 234 (.agg #[.int .i64 L])))∧(L≠0∧L<9223372036854775808)∧Md [E] O w'∧bO w' E (Rec.cells vE SN) 51∧(mU (decide (v.h.cF &&& 4≠0)) v.h.dI (v.h.n.getD 0 0) v.b p).2=L)
  afu (hI l4) ?_ ?_) ?_
 ·intro O A
  have uX:Up O (fun x=>V x∧(x<g.heap.size∨O.heap.size≤x)):=fun x C=>⟨u4 x (ly A.size C),.inr C⟩;have sX:∀x,V x→x<g.heap.size→(V x∧(x<g.heap.size∨O.heap.size≤x)):=fun x C H=>⟨C,.inl H⟩;refine(VO uX (v0:=.pointer (some ⟨i,0,none⟩)) (v1:=.pointer (some ⟨j,0,none⟩)) (v:=v) (p:=p) ⟨i,[v0],q,⟨y,.inl F.lt⟩,F.o A,v0,q,(h0.sub sX).o A⟩ ⟨j,_,q,⟨z,.inl I.lt⟩,I.o A,q,a1⟩ vE (d.o A) (fun h=>n4 h.1) hk (Ls.nil _ _ _) p0).mono ?_;rintro e w' (⟨N,Z,l,D,G,_,U,H,J⟩|⟨L,l,W,D,G,J⟩)
  ·exact .inl ⟨N,Z,l,D,G,U,H,J⟩
  exact .inr ⟨L,l,W,D,G,J⟩
 ·rintro O e w1 A (⟨N,Z,rfl,D,G,U,H,J⟩|⟨L,rfl,W,D,G,J⟩)
  ·refine⟨D,.inl ⟨q,fun b Ab gb lb K=>⟨N,Z,G.sM K Ok,U,(H.md K (by intro x C h;simp at C;subst C;omega)).sub (fun x C _=>C.1),J⟩⟩⟩
  exact⟨D,.inr ⟨L,q,fun b Ab gb lb K=>⟨G.sM K Ok,W.2,acw J W.1⟩⟩⟩
 rintro en w5 ⟨c,rfl,A,T⟩;refine rv ?_;replace M:=M.step A (by intro x C;simp at C;subst C;exact .inr a)
 obtain⟨r,u,G,o,H,W,J⟩:∃r u,bO w5 E (Rec.cells r u) 51∧Rec.ok r∧Ls nD w5 V u r.ay∧c<9223372036854775808∧mU (decide (v.h.cF &&& 4≠0)) v.h.dI (v.h.n.getD 0 0) v.b p=(r,c):=by
  rcases T with⟨rfl,r,u,k,F,I,d⟩|⟨k,F,I⟩
  ·exact⟨r,u,k,F,I,by decide,d⟩
  ·exact⟨_,_,k,hk,Ls.nil _ _ _,F,I⟩
 refine an q (ns (st _ (bX (Rec.cells r u) q (by exact mF) G q) (mv q (aX (us:=(Rec.cells r u)) q q (by exact mF) (fun x C=>bn (Rec.one H.bN) x C) G (lB q) ?_))));intro w6 A P;replace P:bO w6 E (Rec.cells r u) 51:=P;replace H:=H.md A (hI n4);replace M:=M.ej A a;refine ar q ?_;exact dB (vs:=[.agg (Rec.cells r u).toArray,.int .i64 c]) trivial q ⟨⟨_,q,cJ (cs:=Rec.cells r u) (by exact mF) P⟩,q,tV⟩ q ⟨u,r,c,q,M,o,H.sub (fun x C _=>t4 x C),W,J⟩
theorem afU:cM Zp 23=true:=Yz
theorem ahe:cM Zp 24=true:=Yz
theorem aga:cM Zp 57=true:=Yz
theorem ah2:cM Zp 70=true:=Yz
theorem PU:bh Zp 67 0=some 0:=Yz
theorem xR:bh Zp 67 1=some 1:=Yz
theorem abU:bh Zp 67 2=some 2:=Yz
theorem ahK:fw Zp 67=some [(0,1),(1,1),(2,1),(3,1),(4,1)]:=Yz
theorem z67:ea Zp 67=some [.pointer none,.slice none 0 0,.int .i64 0,.slice none 0 0,.bool false]:=Yz
structure dh where
  v:dH
  ats:List Nat
  code:Nat
  good:List Nat
  known:Bool
def dh.cells (x:dh) (v0:Value) (v1:Value) (v2:Value):List Value :=
  [v0] ++ ([v1] ++ ([(.int .i64 x.code)] ++ ([v2] ++ ([(.bool x.known)]))))
def aeR:Dt dh:=ri (fun x=>(x.v,x.ats,x.code,x.good,x.known)) (fu (tPt dR 135) (fu (ql dw) (fu ez (fu (ql ez) ad5))))
def dh.ok (x:dh):Prop:=x.code<9223372036854775808
def LV (b:Ly):dh × Nat :=
  match (jT b).1 with
  | some y=>({v:=y,ats:=(oO (y.h.n.getD 0 0) y.b (y.h.n.getD 8 0) (y.h.n.getD 11 0)).1,code:=(oO (y.h.n.getD 0 0) y.b (y.h.n.getD 8 0) (y.h.n.getD 11 0)).2,good:=[],known:=false},0)
  | none=>({v:={b:=[],h:=hz0},ats:=[],code:=0,good:=[],known:=false},(jT b).2)
theorem ud {b:Ly} {y:dH} {a:List Nat} {c:Nat} (h:jT b=(some y,0)) (he:oO (y.h.n.getD 0 0) y.b (y.h.n.getD 8 0) (y.h.n.getD 11 0)=(a,c)):LV b=({v:=y,ats:=a,code:=c,good:=[],known:=false},0):=by
  unfold LV;rw[h];simp only[he]
theorem CF (uQ:Up w Q) {v0:Value} {b:Ly} (h0:Ls eD w Q v0 b) (p0:(jT b).2=0) (p1:b.length≤1000000) :
  Calls Zp 7 #[v0] w fun en w'=>∃o0:Nat,∃u0_0:Value,∃u0_1:Value,∃u0_2:Value,∃r0:dh,∃r1:Nat,∃Q':Nat→Prop,en = .returned (.tuple #[.pointer (some ⟨o0,0,none⟩),(.int .i64 r1)])∧Md [] w w'∧nG w w' Q Q'∧bO w' o0 (dh.cells r0 u0_0 u0_1 u0_2) 67∧¬Q' o0∧w.heap.size≤o0∧dh.ok r0∧Pt dR 135 w' Q' u0_0 r0.v∧Ls dw w' Q' u0_1 r0.ats∧Ow ez 3 (bM [] w) w' Q' u0_2 r0.good∧r1<9223372036854775808∧LV b=(r0,r1):=by
 have H:jT b=((jT b).1,0):=Prod.ext q p0;obtain⟨y,d,t,yl⟩:=wH H;rw[d]at H;refine enter (n:=30) Tryz.func7 q q q fun B=>ns (cE q (an q (nm q (aj afU q (BG uQ h0 Ok) ?_))));rintro en p ⟨u,x,c,rfl,D,f,_,S⟩;refine rv ?_;rw[H]at S;obtain⟨rfl,rfl⟩:=Prod.mk.inj S;have A:Pt dR 135 p Q u y:=f;have l:u.oneCell'=true:=(by obtain⟨z,cc,e,_⟩:=A;rw[e];rfl);refine mv q (se q q (se q q (cE q (an q (au (nm q (st _ (eN (a:=0) (b:=0) q q) (nt ?_))))))));refine bV q (fun K=>absurd (dT K) Oj) (fun K=>?_);refine aY (ai (nm q (st (.agg (dh.cells {v:=y,ats:=[],code:=0,good:=[],known:=false} u SN SN).toArray) (ji (cs:=dh.cells {v:=y,ats:=[],code:=0,good:=[],known:=false} u SN SN) (ps:=[(0,0)]) z67 ahK q q (by simp[nY,l]) q q q) (eC (cs:=dh.cells {v:=y,ats:=[],code:=0,good:=[],known:=false} u SN SN) q q ?_))));intro o w2 R i I C;obtain⟨P,V,k,U,W⟩:=jh (uQ.md D) R i I;replace A:=(A.sub V).o I;refine an q (ns (m2 q q (mv q (aj ahe q (EX W A Ok) ?_))));rintro en w3 ⟨X,M,Z,rfl,E,J,j,O⟩;refine rv ?_;obtain⟨A,C⟩:=k2 E A C;refine mv q (se q q (se q q (sn q (sf q xR (bI q q gJ J.bN C (lB q) ?_)))));intro w4 F C;have L:∀x∈[o],¬P x:=(hI U)
 replace A:=A.md F L;replace J:=J.md F L;refine sn q (sf q abU (bI q q gB q C (lB q) ?_));intro r G C;replace A:=A.md G L;replace J:=J.md G L;replace C:bO r o (dh.cells {v:=y,ats:=M,code:=Z,good:=[],known:=false} u X SN) 67:=C;refine nt (nm q (cE q (ar q ?_)));have Y:=((D.k I).k E);have N:w.heap.size≤o:=ly D.size R;refine dB (vs:=[.pointer (some ⟨o,0,none⟩),.int .i64 ((0:Nat):Int)]) trivial q ⟨q,q,tV⟩ q ⟨o,u,X,.slice none 0 0,_,0,P,q,(Y.ej F N).ej G N,⟨fun b g h=>V b g (lj h D.size),k,((W.md E).md F).md G⟩,C,U,N,j,A,J,Ow.nil _ _ _ _ _,by decide,ud H O⟩
theorem Pw (uQ:Up w Q) {b0:Nat} {v0_0:Value} {v0_1:Value} {v0_2:Value} (f:dh) (h0:bO w b0 (dh.cells f v0_0 v0_1 v0_2) 67) (n0:¬Q b0) (a0_0:dh.ok f) (a0_1:Pt dR 135 w Q v0_0 f.v) (a0_2:Ls dw w Q v0_1 f.ats) (a0_3:Ow ez 3 (fun _=>True) w Q v0_2 f.good) (i:Nat) (a1:i<9223372036854775808) :
  Calls Zp 57 #[.pointer (some ⟨b0,0,none⟩),(.int .i64 i)] w fun en w'=>∃r0:Nat,∃r1:Nat,en = .returned (.tuple #[(.int .u64 r0),(.int .i64 r1)])∧Md [] w w'∧r0<18446744073709551616∧r1<9223372036854775808∧WL f.ats i=(r0,r1):=by
 have K:=n0;have M:=Md.refl [] w;have L:=uQ;refine enter (n:=24) Tryz.func57 q q q fun B=>ns (cE q (an q (au (nm q (st _ (dV (a:=i) (b:=0) q q) (mv q ?_))))));refine cB (t:=8) q (fun A=>?_) (fun A=>?_)
 ·(have H:=dT A);exfalso;omega
 (have H:=dF A);refine sg A (bf q) (sg A (bf q) (sg A (cH q) (sg A (aU q xR) (sg A ((aA q gJ h0 q).to (b:=v0_1) q) (sg A (iu q jj a0_2.cV) (sg A (DC (a:=i) (b:=f.ats.length) q q) (st _ (bE q A q) (nt ?_))))))));refine bV q (fun D=>?_) (fun D=>?_)
 ·(have E:=dT D);refine ns (cE q (ar q (aV ?_)));exact dB (vs:=[(.int .u64 ((0:Nat):Int)),(.int .i64 ((2:Nat):Int))]) trivial q ⟨q,q,tV⟩ q ⟨0,2,q,M,Ok,Ok,(adF Ok)⟩
 (have E:=dF D);refine aY (ai (nm q (sn q (sf q xR (sl (u:=v0_1) q gJ h0 q (mv q (st _ (bB (i:=i) 1 q q jj ew a0_2.cV Ok) ?_)))))));obtain⟨G,F⟩:=dQ (l:=f.ats) (i:=i) Ok;obtain⟨N,I,C⟩:=a0_2.get F;obtain⟨rfl,J⟩:=I;replace C:At _ v0_1 (i*1) [(.int .u64 G)]:=C;refine st _ ((cg (kk:=i*1) 0 q q bH C q).to (b:=(.int .u64 G)) q) (cE q (cE q (ak ?_)));clear C;refine ai (gW ?_);exact dB (vs:=[(.int .u64 G),(.int .i64 ((0:Nat):Int))]) trivial q ⟨q,q,tV⟩ q ⟨G,0,q,M,Yj,Ok,(afi F)⟩
theorem HS (uQ:Up w Q) {b0:Nat} {v0_0:Value} {v0_1:Value} {v0_2:Value} (f:dh) (h0:bO w b0 (dh.cells f v0_0 v0_1 v0_2) 67) (n0:¬Q b0) (a0_0:dh.ok f) (a0_1:Pt dR 135 w Q v0_0 f.v) (a0_2:Ls dw w Q v0_1 f.ats) (a0_3:Ow ez 3 (fun _=>True) w Q v0_2 f.good) (i:Nat) (a1:i<9223372036854775808) (p0:f.v.b.length≤1000000) :
  Calls Zp 30 #[.pointer (some ⟨b0,0,none⟩),(.int .i64 i)] w fun en w'=>∃u0_0:Value,∃r0:Rec,∃r1:Nat,en = .returned (.tuple #[.agg (Rec.cells r0 u0_0).toArray,(.int .i64 r1)])∧Md [] w w'∧Rec.ok r0∧Ls nD w' Q u0_0 r0.ay∧r1<9223372036854775808∧pN f.v f.ats i=(r0,r1):=by
 have H:=n0;have M:=Md.refl [] w;have Ae:=uQ;have p:∀b,Q b→Q b:=fun _ h=>h;refine enter (n:=26) Tryz.func30 q q q fun B=>ns (bU z51 ?_);intro O w1 N l F A;have g:b0≠O:=(by have:=h0.lt;omega);obtain⟨Q2,d,e,S,Z⟩:=jh uQ N l F;replace H:=nQ H e;replace p:=tT p e;replace N:=ly M.size N;replace a0_1:=(a0_1.sub d).o F;replace a0_2:=(a0_2.sub d).o F;replace a0_3:=(a0_3.sub d e).o F;obtain⟨h0,M⟩:=k2 F h0 M;replace uQ:=Z;clear Z d e;have I:bM [] w O:=.inr N;replace A:bO _ _ (Rec.cells (GA) SN) _:=A;have y:Rec.ok (GA):=(by exact⟨Jk,Jk,Jk,q⟩);refine an q (ns (m2 q q (aj aga q (Pw uQ f h0 H a0_0 a0_1 a0_2 (a0_3.eF (fun _ _=>trivial)) i Ok) ?_)));rintro en w4 ⟨c,L,rfl,F,z,Aa,X⟩;refine rv ?_;obtain⟨a0_1,h0,A,uQ,M⟩:=k5 F a0_1 h0 A uQ M;refine mv q (se q q (se q q (cE q (an q (au (nm q (st _ (eN (a:=L) (b:=0) q q) (nt ?_))))))));refine bV q (fun P=>?_) (fun P=>?_)
 ·(have V:=dT P);refine ns (st _ (bY (us:=[]) (cs:=(Rec.cells (GA) SN)) [] z51 aez q q trivial trivial q q) (mv q (aX (us:=(Rec.cells (GA) SN)) q q (by exact mF) (by exact fun u k=>bn (Rec.one q) u k) A (lB q) ?_)));have G:=A;clear A;intro w5 F A;replace M:=M.step F (hI I);clear G;replace A:bO _ _ (Rec.cells (GA) SN) _:=A;refine ar q (aV ?_);exact dB (vs:=[(.agg (Rec.cells (GA) SN).toArray),(.int .i64 L)]) trivial q ⟨⟨_,q,cJ (cs:=(Rec.cells (GA) SN)) (by exact mF) A⟩,q,tV⟩ q ⟨_,(GA),L,q,M,Yj,(Ls.nil _ _ _),Yj,(RX X Yj)⟩
 (have V:=dF P);refine aY (ai (nm q (sn q (sf q PU (sl (u:=v0_0) q xe h0 q ?_)))));have R:=a0_1;obtain⟨r,t,rfl,T,R,Y⟩:=R;obtain⟨v7,rfl,q8,j⟩:=e6 Y;refine mv q (aj ah2 q (KU uQ ⟨_,_,q,T,R,d8 q8 j⟩ c Ok Ok) ?_);rintro en Af ⟨D,E,K,rfl,F,J,C,o,W⟩;refine rv ?_;obtain⟨A,M⟩:=k2 F A M;refine se q q (se q q (aX (us:=(Rec.cells E D)) q q (by exact mF) (by exact fun u k=>bn (Rec.one C.bN) u k) A (lB q) ?_));have G:=A;clear A;intro Ag F A;have x:∀b∈[O],¬Q2 b:=(hI S);replace C:=C.md F x;replace M:=M.step F (hI I);clear G x;replace A:bO _ _ (Rec.cells E D) _:=A;refine ar q ?_;exact dB (vs:=[(.agg (Rec.cells E D).toArray),(.int .i64 K)]) trivial q ⟨⟨_,q,cJ (cs:=(Rec.cells E D)) (by exact mF) A⟩,q,tV⟩ q ⟨_,E,K,q,M,J,(C.sub (fun b U _=>p b U)),Yj,(YF X Ok W)⟩
theorem ahf:cM Zp 30=true:=Yz
theorem afW:cM Zp 31=true:=Yz
theorem PS:bh Zp 51 0=some 0:=Yz
theorem vn:bh Zp 67 3=some 3:=Yz
theorem FE:bh Zp 67 4=some 4:=Yz
theorem zv {w:World} {Q lo:Nat→Prop} (uQ:Up w Q) {v0:Value} {l:List Nat} (h0:Ow ez 3 lo w Q v0 l) (p0:l.length≤1000000) :
  Calls Zp 31 #[v0] w fun en w'=>∃u0:Value,∃r0:List Nat,∃Q':Nat→Prop,en = .returned (u0)∧Md [] w w'∧nG w w' Q Q'∧Ow ez 3 (bM [] w) w' Q' u0 r0∧l=r0:=by
 obtain⟨a,A,U,S,W⟩:∃a A,v0 = .slice a l.length A∧l.length≤A∧(a=none→l=[]):=by
  obtain⟨⟨j,N,_⟩,_⟩:=h0;obtain⟨a,A,e,D,_,O,_⟩:=nT N;exact⟨a,A,e,D,fun h=>List.eq_nil_of_length_eq_zero (by have:=O h;omega)⟩
 refine enter (n:=8) Tryz.func31 q q q fun B=>ns (an q (au (nm q (st (.bool a.isNone) (by exact QB (a:=a) (m:=l.length) (c:=A) (by rw[← U];rfl) iI) (nt ?_)))));refine bV q (fun D=>?_) (fun D=>?_)
 ·have T:l=[]:=W (Option.isNone_iff_eq_none.1 D)
  refine ns (ar q (aV ?_));exact gI trivial q q ⟨_,[],Q,q,Md.refl [] w,⟨fun x h _=>h,fun x h=>h,uQ⟩,Ow.nil _ _ _ _ _,T⟩
 refine aY ?_
 refine ai (ns (fB iI j8 ?_));intro b i E X C P;obtain⟨L,J,K,Y,f⟩:=jh uQ E X C;have R:Ow ez 3 (bM [] w) i L (.slice (some ⟨b,0,none⟩) 0 0) []:=Ow.cK (m:=0) P q q (by simp[maxLen]) (.inr E) Y;replace h0:=(h0.sub J K).o C;refine mv q (si (sz:=1) q iI j8 q q R h0.lz f (bM.new C) Yw Yw ?_);intro o p M Z d g F G k _ V;refine ar q ?_;exact gI trivial q q ⟨_,_,M,q,C.ej G E,⟨fun x H I=>Z x (J x H I) (lj I C.size),fun x H=>K x (d x H),g⟩,F,by simp⟩
set_option maxRecDepth 100000 in
theorem RV (uQ:Up w Q) {b0:Nat} {v0_0:Value} {v0_1:Value} {v0_2:Value} (f:dh) (h0:bO w b0 (dh.cells f v0_0 v0_1 v0_2) 67) (n0:¬Q b0) (a0_0:dh.ok f) (a0_1:Pt dR 135 w Q v0_0 f.v) (a0_2:Ls dw w Q v0_1 f.ats) (a0_3:Ow ez 3 (fun _=>True) w Q v0_2 f.good) (p0:f.known=false) (p1:f.good=[]) (p2:f.ats.length≤100000) (p3:f.v.b.length≤1000000) :
  Calls Zp 11 #[.pointer (some ⟨b0,0,none⟩)] w fun en w'=>∃u0:Value,∃r0:List Nat,∃m0:dh,∃u50_0:Value,∃u50_1:Value,∃u50_2:Value,∃Q':Nat→Prop,en = .returned (u0)∧Md (b0 :: (ah v0_2).toList) w w'∧nG w w' Q Q'∧Ow ez 3 (bM [] w) w' Q' u0 r0∧bO w' b0 (dh.cells m0 u50_0 u50_1 u50_2) 67∧¬Q' b0∧dh.ok m0∧Pt dR 135 w' Q' u50_0 m0.v∧Ls dw w' Q' u50_1 m0.ats∧Ow ez 3 (bM (b0 :: (ah v0_2).toList) w) w' Q' u50_2 m0.good∧(∀x,ah u0=some x→ah u50_2≠some x)∧(j4 f.v f.ats 0 0 [],({f with good:=j4 f.v f.ats 0 0 [],known:=true}:dh))=(r0,m0):=by
 have D:=n0;have Ap:bM (b0 :: (ah v0_2).toList) w b0:=.inl Oj;replace a0_3:=a0_3.eF (lo':=bM (b0 :: (ah v0_2).toList) w) (fun b E=>.inl (by simp[E]));have M:=Md.refl (b0 :: (ah v0_2).toList) w;have Cg:=uQ;have z:∀b,Q b→Q b:=fun _ h=>h;have K:∀b,Q b→b<w.heap.size→Q b:=fun _ h _=>h;refine enter (n:=55) Tryz.func11 q q q fun B=>ns (an q (au (nm q (sn q (sf q FE (sl (u:=(.bool f.known)) q MQ h0 q (st _ (gR q) (nt ?_))))))));refine bV q (fun Av=>?_) (fun Av=>?_)
 ·(have Bh:=eM Av);refine ns (an q (au (nm q (sn q (sf q xR (sl (u:=v0_1) q gJ h0 q (sL q jj a0_2.cV (mv q (nt (b9 ?_))))))))));obtain⟨r0,Ac⟩:∃r,j4 f.v f.ats 0 0 f.good=r:=⟨_,q⟩;have Bj:=Ac
  try simp only[List.nil_append]at Ac
  refine PC (fun(x:dh) (C:Value) (last:Nat) (i:Nat)=>[(3,(.int .u64 last)),(17,(.int .i64 i)),(0,(.pointer (some ⟨b0,0,none⟩))),(16,(.int .i64 f.ats.length))]) (fun(x:dh) (C:Value) (last:Nat) (i:Nat) w'=>∃Q':Nat→Prop,(∀b,Q' b→Q b)∧(∀b,Q b→b<w.heap.size→Q' b)∧Up w' Q'∧Md (b0 :: (ah v0_2).toList) w w'∧bO w' b0 (dh.cells x v0_0 v0_1 C) 67∧Pt dR 135 w' Q' v0_0 x.v∧Ls dw w' Q' v0_1 x.ats∧Ow ez 3 (bM (b0 :: (ah v0_2).toList) w) w' Q' C x.good∧dh.ok x∧¬Q' b0∧x={f with good:=x.good}∧x.good.length≤i∧i≤f.ats.length∧j4 f.v (f.ats.drop i) i last x.good=r0) (fun(x:dh) (C:Value) (last:Nat) (i:Nat)=>f.ats.length-i) (x0:=f) (x1:=v0_2) (x2:=0) (x3:=0) ?_ ?_ ?_
  ·exact⟨q,q,q,q,tV⟩
  ·exact⟨Q,z,K,uQ,M,h0,a0_1,a0_2,a0_3,a0_0,D,(by cases f;rfl),(by rw[p1];exact Nat.zero_le _),Ok,(by have P:=Ac;exact P)⟩
  clear M uQ z K D a0_1 a0_2 a0_3 h0
  rintro x C last i B w1 ⟨Q2,z,K,uQ,M,h0,a0_1,a0_2,A,X,D,U,B2,B3,Ai⟩;refine ns ?_;have xv:x.v=f.v:=(by rw[U]);have xa:x.ats=f.ats:=(by rw[U]);have Cl:x.v.b.length=f.v.b.length:=(by rw[xv]);have Ck:=congrArg List.length xa;refine st _ (dV (a:=i) (b:=f.ats.length) q q) (nt (au ?_));refine bV q (fun Aw=>?_) (fun Aw=>?_)
  ·(have Ab:=dT Aw);refine aY (ai (au (b9 (nm q (an q (ns (m2 q q (aj ahf q (HS uQ x h0 D X a0_1 a0_2 (A.eF (fun _ _=>trivial)) i Ok Ok) ?_))))))));rintro en w3 ⟨g,L,Bk,rfl,F,Ak,H,B5,Bt⟩;refine rv ?_;obtain⟨A,h0,a0_1,a0_2,uQ,M⟩:=k6 F A h0 a0_1 a0_2 uQ M;refine mv q (se q q (se q q (bU z51 ?_)));intro As w4 Ah Bv F N;have Au:b0≠As:=(by have:=h0.lt;omega);obtain⟨Q5,Y,d,A2,c⟩:=jh uQ Ah Bv F;replace D:=fun P=>D (d _ P);replace z:=tT z d;replace K:=fun b E hl=>Y b (K b E hl) (lj hl M.size);replace Ah:=ly M.size Ah;replace A:=(A.sub Y d).o F;replace h0:=h0.o F;replace a0_1:=(a0_1.sub Y).o F;replace a0_2:=(a0_2.sub Y).o F;replace H:=(H.sub Y).o F;replace M:=M.k F;replace uQ:=c;clear c Y d;have A4:bM [] w As:=.inr Ah;replace N:bO _ _ (Rec.cells (GA) SN) _:=N;have B4:Rec.ok (GA):=(by exact⟨Jk,Jk,Jk,q⟩);refine aX (us:=(Rec.cells L g)) q q (by exact mF) (by exact fun u hu=>bn (Rec.one H.bN) u hu) N (lB q) ?_
   have Ao:=N;clear N;intro w7 F N;have k:∀b∈[As],¬Q5 b:=(hI A2);replace A:=A.md F (aB Ao A) k;replace h0:=h0.md F Vk;replace a0_1:=a0_1.md F k;replace a0_2:=a0_2.md F k;replace uQ:=uQ.md F;replace M:=M.step F (hI (bM.wid A4));clear Ao k;replace N:bO _ _ (Rec.cells L g) _:=N;refine an q (ns ?_);obtain⟨pp,gp⟩:=dQ (l:=f.ats) (i:=i) Ab;have gv:=Bt;rw[xv,xa,Px gp]at gv;refine mv q (st _ (ir (a:=Bk) (b:=0) q q) (mv q ?_));refine cB (t:=28) q (fun J=>?_) (fun J=>?_)
   ·(have Al:=dT J);refine sg J (aU q PS) (sg J ((aA q bH N q).to (b:=(.int .u64 L.seq)) q) ?_);have q8:L.seq<18446744073709551616:=Ak.1;refine sg J (bf q) (sg J (iY (a:=L.seq) (b:=last) q q) (st _ (bF q J q) (nt ?_)));refine bV q (fun Ax=>?_) (fun Ax=>?_)
    ·(have Am:=dT Ax);refine pB (fun w'=>Md (b0 :: (ah C).toList) w7 w') (R:=fun a' w'=>∃(A':Fr 55) (v':Value) (R':Nat→Prop),a'=bw A' [] [(3,(.int .u64 L.seq)),(0,(.pointer (some ⟨b0,0,none⟩))),(16,(.int .i64 f.ats.length)),(17,(.int .i64 i))]∧Md (b0 :: (ah C).toList) w7 w'∧bO w' b0 (dh.cells ({x with good:=x.good ++ [i]}:dh) v0_0 v0_1 v') 67∧(∀b,Q5 b→b<w7.heap.size→R' b)∧(∀b,R' b→Q5 b)∧Up w' R'∧Ow ez 3 (bM (b0 :: (ah v0_2).toList) w) w' R' v' (x.good ++ [i])) mixed ?_ ?_
     ·rintro _ w9 ⟨A',Bx,Bb,rfl,F,Bg,Y,d,c,gn⟩
      have k:∀b∈(b0 :: (ah C).toList),¬Bb b:=fun b E P=>(dr D (iL fun x S=>(A.2 x S).2):∀b∈(b0 :: (ah C).toList),¬Q5 b) b E (d b P);have M2:=M.step F (dr Ap (iL fun x S=>(A.2 x S).1));replace a0_1:=(a0_1.sub Y).md F k;replace a0_2:=(a0_2.sub Y).md F k;replace D:=fun P=>D (d _ P);replace z:=tT z d;replace K:=fun b E hl=>Y b (K b E hl) (lj hl M.size);clear M uQ h0 A H N k;have M:=M2;have uQ:=c;have h0:=Bg;have A:=gn;clear M2 c Bg gn Y d;obtain⟨Z,G⟩:∃y,y=({x with good:=x.good ++ [i]}:dh):=⟨_,q⟩;rw[← G]at h0;have Aj:dh.ok Z:=(by rw[G];exact X);rw[show x.v=Z.v by rw[G]]at a0_1;rw[show x.ats=Z.ats by rw[G]]at a0_2;rw[show x.good ++ [i]=Z.good by rw[G]]at A;refine bL (ai (ax (st _ (rA (a:=i) (b:=1) q q Ok) (mv q (nt ?_)))));refine rO (x0:=Z) (x1:=Bx) (x2:=L.seq) (x3:=(i+1)) Ok ⟨(dA q (by rfl)),(dA q Ok),q,q,tV⟩ ⟨Bb,z,K,uQ,M,h0,a0_1,a0_2,A,Aj,D,(by rw[G,U]),(by rw[G];simp;omega),Ok,(by have P:=Ai;rw[BW gp gv Al Am]at P;rw[G];exact P)⟩
     intro w1 o
     refine dM (i:=0) _ q Yz Yz (o.mono Oj) (fun w' hc=>bf q) (dM (i:=1) _ q Yz Yz (o.mono Oj) (fun w' hc=>bf q) (dM (i:=2) _ q Yz Yz (o.mono Oj) (fun w' hc=>cH q) (dM (i:=3) _ q Yz Yz (o.mono Oj) (fun w' hc=>aU q vn) (dM (i:=5) _ q Yz Yz (o.mono Oj) (fun w' hc=>bf q) (dM (i:=8) _ q Yz Yz (o.mono Oj) (fun w' hc=>aU q PS) (dM (i:=9) _ q Yz Yz (o.mono Oj) (fun w' hc=>(aA q bH (N.md hc (bP (fun h=>(Au h.symm)) (aW A N))) q).to (b:=(.int .u64 L.seq)) q) ?_))))));refine oc (i:=4) (j:=6) Yz q q q q ?_ ?_
     ·refine st _ ((aA q rU (h0.o o) q).to (b:=C) q) ?_;refine ak ⟨q,o.mono Oj,?_⟩;refine cO (i:=6) Yz q q (bg [[(.int .i64 i)]] iI j8 Jk Jk q q ⟨q,tV⟩ ⟨q,tV⟩ q Jk ?_);intro c6 Ba g6 l6 m6 j6;have V:=o.k m6;refine ak ⟨q,V.mono Oj,?_⟩;have A0:Ls ez Ba Q5 (.slice (some ⟨c6,0,none⟩) 1 1) [i]:=Ls.cK (m:=1) (R:=Q5) (T:=ez) (xs:=[i]) j6 ⟨_,_,q,⟨q,Ok⟩,q⟩ q Jk ((uQ.md o) _ g6);refine cO (i:=7) Yz q q (si (sz:=1) q iI j8 q q (A.o V) A0.lz (uQ.md V) (fun b E=>bM.new (M.k V) b E) Yw Yw ?_);intro A5 A7 Ar a1 a2 a3 a4 a5 a6 a7 a8;have C7:Md (b0 :: (ah C).toList) w7 A7:=(V.mono (T:=(b0 :: (ah C).toList)) Oj).trans (a5.mono fun x S=>by simp[S]);refine ak ⟨q,C7,?_⟩;refine cO (i:=10) Yz q q (sn q ?_);refine ak ⟨q,C7,?_⟩;refine cO (i:=11) Yz q q (sf q vn ?_);refine ak ⟨q,C7,?_⟩;refine cO (i:=12) Yz q q ?_;have Ad:b0∉(ah C).toList:=u7 A h0 Jk;refine bI q q rU a4.read.bN ((h0.o V).md a5 Ad) (lB q) ?_;intro A8 m8 Az;have C8:Md (b0 :: (ah C).toList) w7 A8:=C7.trans (m8.mono fun x S=>by simp at S;simp[S]);refine ak ⟨q,C8,?_⟩;refine cO (i:=13) Yz q q (cE q ?_);refine ak ⟨q,C8,?_⟩;refine jF Yz ?_;refine⟨_,A5,Ar,(dz (by exact⟨q,q,q,q,tV⟩)).symm,C8,Az,fun b E hl=>a1 b E (lj hl V.size),a2,a3.md m8,a4.md m8 (fun b E S=>?_) (fun b E P=>?_)⟩
      ·simp at S;subst S;exact(a8 _ E).elim (fun h=>xE Ad h) (fun h=>by have:=h0.lt;have:=V.size;omega)
      simp at E;subst E;exact D (a2 _ P)
     refine bg [[(.int .i64 i)]] iI j8 Jk Jk q q ⟨q,tV⟩ ⟨q,tV⟩ q Jk ?_;intro c6 Ba g6 l6 m6 j6;have V:=o.k m6;refine ak ⟨q,V.mono Oj,?_⟩;refine cO (i:=4) Yz q q (st _ ((aA q rU (h0.o V) q).to (b:=C) q) ?_);refine ak ⟨q,V.mono Oj,?_⟩;have A0:Ls ez Ba Q5 (.slice (some ⟨c6,0,none⟩) 1 1) [i]:=Ls.cK (m:=1) (R:=Q5) (T:=ez) (xs:=[i]) j6 ⟨_,_,q,⟨q,Ok⟩,q⟩ q Jk ((uQ.md o) _ g6);refine cO (i:=7) Yz q q (si (sz:=1) q iI j8 q q (A.o V) A0.lz (uQ.md V) (fun b E=>bM.new (M.k V) b E) Yw Yw ?_);intro A5 A7 Ar a1 a2 a3 a4 a5 a6 a7 a8;have C7:Md (b0 :: (ah C).toList) w7 A7:=(V.mono (T:=(b0 :: (ah C).toList)) Oj).trans (a5.mono fun x S=>by simp[S]);refine ak ⟨q,C7,?_⟩;refine cO (i:=10) Yz q q (sn q ?_);refine ak ⟨q,C7,?_⟩;refine cO (i:=11) Yz q q (sf q vn ?_);refine ak ⟨q,C7,?_⟩;refine cO (i:=12) Yz q q ?_;have Ad:b0∉(ah C).toList:=u7 A h0 Jk;refine bI q q rU a4.read.bN ((h0.o V).md a5 Ad) (lB q) ?_;intro A8 m8 Az;have C8:Md (b0 :: (ah C).toList) w7 A8:=C7.trans (m8.mono fun x S=>by simp at S;simp[S]);refine ak ⟨q,C8,?_⟩;refine cO (i:=13) Yz q q (cE q ?_);refine ak ⟨q,C8,?_⟩;refine jF Yz ?_;refine⟨_,A5,Ar,(dz (by exact⟨q,q,q,q,tV⟩)).symm,C8,Az,fun b E hl=>a1 b E (lj hl V.size),a2,a3.md m8,a4.md m8 (fun b E S=>?_) (fun b E P=>?_)⟩
     ·simp at S;subst S;exact(a8 _ E).elim (fun h=>xE Ad h) (fun h=>by have:=h0.lt;have:=V.size;omega)
     simp at E;subst E;exact D (a2 _ P)
    (have Am:=dF Ax);refine aY (bL (ai (ax (st _ (rA (a:=i) (b:=1) q q Ok) (mv q (nt ?_))))));refine rO (x0:=x) (x1:=C) (x2:=last) (x3:=(i+1)) Ok ⟨(dA q (by rfl)),(dA q Ok),q,q,tV⟩ ⟨Q5,z,K,uQ,M,h0,a0_1,a0_2,A,X,D,U,Ok,Ok,(by have P:=Ai;rw[yS gp gv Ok]at P;exact P)⟩
   (have Al:=dF J);refine sk J (sk J (sk J (sk J (st _ (bE q J q) (nt (fW q q (aY (bL (ai (ax (st _ (rA (a:=i) (b:=1) q q Ok) (mv q (nt ?_)))))))))))));refine rO (x0:=x) (x1:=C) (x2:=last) (x3:=(i+1)) Ok ⟨(dA q (by rfl)),(dA q Ok),q,q,tV⟩ ⟨Q5,z,K,uQ,M,h0,a0_1,a0_2,A,X,D,U,Ok,Ok,(by have P:=Ai;rw[yS gp gv Ok]at P;exact P)⟩
  (have Ab:=dF Aw);refine cw (bD (bD (cZ (ai (ax (mv q (sn q (sf q FE (bI q q MQ q h0 (lB q) ?_)))))))));have Bf:=h0;clear h0;intro Ci F h0;have k:∀b∈[b0],¬Q2 b:=(hI D);replace A:=A.md F (aB Bf A) k;replace a0_1:=a0_1.md F k;replace a0_2:=a0_2.md F k;replace uQ:=uQ.md F;replace M:=M.step F (hI Ap);clear Bf k;obtain⟨p,O⟩:∃y,y=({x with known:=true}:dh):=⟨_,q⟩;replace h0:bO _ _ (dh.cells ({x with known:=true}) v0_0 v0_1 C) _:=h0;rw[← O]at h0;have A3:dh.ok p:=(by rw[O];exact(by unfold dh.ok;exact X));rw[show x.v=p.v by rw[O]]at a0_1;rw[show x.ats=p.ats by rw[O]]at a0_2;rw[show x.good=p.good by rw[O]]at A;refine nt (nm q (sn q (sf q vn (sl (u:=C) q rU h0 q ?_))));have Cf:p.good.length=x.good.length:=(by rw[O]);refine aj afW q (zv uQ A Ok) ?_;rintro en Cj ⟨Ae,A9,Bn,rfl,F,⟨Y,d,c⟩,W,Bi⟩;refine rv ?_;have I:∀x,ah Ae=some x→ah C≠some x:=fun x S h2=>by have h3:=A.lt x h2;have h4:=(W.2 x S).1.elim (fun h=>by simp at h) id;omega
  replace D:=fun P=>D (d _ P);replace z:=tT z d;replace K:=fun b E hl=>Y b (K b E hl) (lj hl M.size);replace W:=W.lower (bM.lift (S':=[]) M);replace A:=(A.sub Y d).o F;replace a0_1:=(a0_1.sub Y).o F;replace a0_2:=(a0_2.sub Y).o F;obtain⟨h0,M⟩:=k2 F h0 M;replace uQ:=c;clear c Y d;refine ar q ?_;exact cu (v:=Ae) trivial q ⟨q,tV⟩ ⟨_,A9,p,_,_,_,Bn,q,M,⟨K,z,uQ⟩,W,h0,D,A3,a0_1,a0_2,A,I,(by have e:=Bj.trans (Ai.symm.trans (BV (v:=f.v) Ab));rw[p1]at e;rw[e,← Bi,O];exact(congrArg (fun qv:dh=>(qv.good,({qv with known:=true}:dh))) U).symm)⟩
 (have Bh:=eL Av);exfalso;simp_all
theorem ahd:cM Zp 21=true:=Yz
theorem HW (uQ:Up w Q) {v0:Value} {l:List Int} (h0:Ls l7 w Q v0 l) (bT:Nat) (a1:bT<9223372036854775808) (p0:bT≤100000) :
  Calls Zp 9 #[v0,.int .i64 bT] w fun en w'=>∃u0:Value,∃r0:List UInt8,en = .returned u0∧Md [] w w'∧Ls eD w' Q u0 r0∧Y9 l bT=r0 :=
 (wY uQ h0 bT p0).mono fun en w' ⟨u0,r0,h1,h2,h3,h4,h5⟩=>⟨u0,r0,h1,h2,h3,abA h4 h5⟩
theorem LW (uQ:Up w Q) {v0:Value} {b:Ly} (h0:Ls eD w Q v0 b) (p0:b.length≤140737488355328) :
  Calls Zp 21 #[v0] w fun en w'=>∃u0:Value,∃r0:List UInt8,∃Q':Nat→Prop,en = .returned (u0)∧Md [] w w'∧nG w w' Q Q'∧Ow eD 5 (bM [] w) w' Q' u0 r0∧b=r0:=by
 have c:=h0.dN;have M:=Md.refl [] w;have Z:=uQ;have P:∀b,Q b→Q b:=fun _ h=>h;have C:∀b,Q b→b<w.heap.size→Q b:=fun _ h _=>h;refine enter (n:=6) Tryz.func21 q q q fun B=>ns (an q (ns (fB fG jb ?_)));intro S d J V F A;have H:bM [] w S:=bM.new M _ J;obtain⟨W,I,O,G,D⟩:=jh uQ J V F;replace P:=tT P O;replace C:=fun b E N=>I b (C b E N) (lj N M.size);replace h0:=(h0.sub I).o F;replace M:=M.k F;replace uQ:=D;clear D I O;replace A:=Ow.cK (m:=0) (lo:=bM [] w) (R:=W) (T:=eD) (xs:=([]:Ly)) A q q Jk H G;refine mv q (dZ (sz:=1) (by rfl) fG jb q q A h0 (fun _ h _=>h) uQ (bM.new M) Yk Yk ?_);intro a e X I O D K F Y _ U;have L:=A;clear A;replace P:=tT P O;replace C:=fun b E N=>I b (C b E N) (lj N M.size);replace uQ:=uQ.md F;replace M:=M.cP F (fun b E=>(L.2 b E).1);replace uQ:=D;clear D I O Y U;rw[List.nil_append]at K;refine ar q ?_;exact cu (v:=a) trivial q ⟨q,tV⟩ ⟨_,b,X,q,M,⟨C,P,uQ⟩,K,(by simp(disch:=first|omega|assumption|simp) only [SS,reduceIte])⟩
theorem MD (uQ:Up w Q) {v0:Value} {b:Ly} (h0:Ls eD w Q v0 b) {v1:Value} {l:List Int} (h1:Ls l7 w Q v1 l) (y:UInt8) (p0:b.length≤1000000) :
  Calls Zp 8 #[v0,v1,(b8 y)] w fun en w'=>∃u0:Value,∃r0:List UInt8,en = .returned (u0)∧Md [] w w'∧Ls eD w' Q u0 r0∧nB y l b=r0:=by
 have L0:=h0.dN;have L1:=h1.dN;have M:=Md.refl [] w;have Aa:=uQ;have Z:∀b,Q b→Q b:=fun _ h=>h;have I:∀b,Q b→b<w.heap.size→Q b:=fun _ h _=>h;refine enter (n:=40) Tryz.func8 q q q fun B=>ns (an q (nm q (aj ahd q (LW uQ h0 Zw) ?_)));rintro en w1 ⟨Ac,c,Q2,rfl,J,⟨sQ,sT,Ab⟩,H,K⟩;refine rv ?_;replace Z:=tT Z sT;replace I:=fun b V hl=>sQ b (I b V hl) (lj hl M.size);replace H:=H.lower (bM.lift (S':=[]) M);replace h1:=(h1.sub sQ).o J;replace M:=M.k J;replace uQ:=Ab;clear Ab sQ sT;refine an q (au (ns (cE q (nt (b9 ?_)))));obtain⟨r0,N⟩:∃r,nB y (l.drop 0) c=r:=⟨_,q⟩;have O:=N
 try simp only[List.nil_append,K]at N
 refine jH (fun(P:Value) (o:Ly) (i:Nat)=>[(7,P),(8,(.int .i64 i)),(1,v1),(2,(b8 y))]) (fun(P:Value) (o:Ly) (i:Nat) w'=>∃Q':Nat→Prop,(∀b,Q' b→Q b)∧(∀b,Q b→b<w.heap.size→Q' b)∧Up w' Q'∧Md [] w w'∧Ow eD 5 (bM [] w) w' Q' P o∧Ls l7 w' Q' v1 l∧i≤l.length∧o.length=b.length∧nB y (l.drop i) o=r0) (fun(P:Value) (o:Ly) (i:Nat)=>l.length-i) (x0:=Ac) (x1:=c) (x2:=0) ?_ ?_ ?_
 ·exact⟨q,q,q,q,tV⟩
 ·exact⟨Q2,Z,I,uQ,M,H,h1,Ok,(by rw[← K]),(by have g:=N;first|exact g|exact O|(simp only[List.nil_append,K]at g;exact g))⟩
 clear M uQ Z I h0 h1 H
 rintro P o i B w3 ⟨Q4,Z,I,uQ,M,C,h1,Al,x,d⟩;refine au (ns (m2 q q (sL q iI h1.cV (st _ (dV (a:=i) (b:=l.length) q q) (mv q ?_)))));refine cB (t:=16) q (fun A=>?_) (fun A=>?_)
 ·(first|(have E:=dT A)|(have E:=dF (eM A))|(have E:=eM A)|(have E:=A));refine sg A (bf q) (sg A (iu q fG C.cV) (sg A (iY (a:=o.length) (b:=0) q q) (st _ (bF q A q) (nt ?_))));refine bV q (fun G=>?_) (fun G=>?_)
  ·(first|(have F:=dT G)|(have F:=dF (eM G))|(have F:=eM G)|(have F:=G));refine aY (ai (au (b9 (ns (m2 q q (st _ (bB (i:=i) 1 q q iI el3 h1.cV Ok) ?_))))));obtain⟨x5,u⟩:=dQ (l:=l) (i:=i) Yh;obtain⟨c6,Ae,S⟩:=h1.get u;obtain⟨rfl,Ak⟩:=Ae;replace S:At _ v1 (i*1) [(.int .i64 (x5:Int))]:=S;refine st _ ((cg (kk:=i*1) 0 q q gB S q).to (b:=(.int .i64 (x5:Int))) q) (mv q (sL q fG C.cV (aj aea q (rH uQ (x5) Ok o.length Yh Zw) ?_)));rintro en w7 ⟨D,rfl,J,Am,j⟩;refine rv ?_;obtain⟨C,h1,uQ,M⟩:=k4 J C h1 uQ M;have W:=xQ x5 o.length;rw[j]at W;try simp only[LL,Nat.reduceAdd,Nat.reduceMul]at W
   refine cE q (ak ?_);clear S;refine ai (ax (m2 q q (mv q (mv q (st _ (bB (i:=D) 1 q q fG mX C.cV Ok) ?_)))));obtain⟨R,f⟩:=dQ (l:=o) (i:=D) Yh;obtain⟨c9,Af,U⟩:=C.get f;obtain⟨rfl,_⟩:=Af;have Ah:=UInt8.toNat_lt R;replace U:At _ P (D*1) [(b8 R)]:=U;refine st _ ((cg (kk:=D*1) 0 q q um U q).to (b:=(b8 R)) q) (mv q (st _ ((Nn (a:=R.toNat) (b:=y.toNat) 256 q q q q (by have:=UInt8.toNat_lt R;have:=UInt8.toNat_lt y;omega)).cast (aeY R y)) (st _ (bB (i:=D) 1 q q fG mX C.cV Ok) ?_)));obtain⟨Ar,p,L⟩:=C.get f;obtain⟨rfl,_⟩:=p;have Ah:=UInt8.toNat_lt R;replace L:At _ P (D*1) [(b8 R)]:=L;refine AG (T:=eD) (z:=(R ^^^ y)) (i:=D) (k:=D*1) q q q um C ⟨q,tV⟩ Ok ?_;intro As J hS Y;have X:=C;replace C:=Y;clear Y;replace h1:=h1.md J hS;clear U;clear L;replace uQ:=uQ.md J;replace M:=M.cP J (fun b V=>(X.2 b V).1);clear X hS;refine ak (bL (ai (ax (mv q (st _ (rA (a:=i) (b:=1) q q Ok) (an q ?_))))));refine ic (x0:=P) (x1:=(o.set D ((R ^^^ y)))) (x2:=(i+1)) Ok ⟨q,(dA q Ok),q,q,tV⟩ ⟨Q4,Z,I,uQ,M,C,h1,Ok,(by rw[List.length_set];exact x),(by have g:=d;rw[NM u Ok j f]at g;exact g)⟩
  (first|(have F:=dF G)|(have F:=dT (eL G))|(have F:=eL G)|(have F:=G));refine cw (bD (bD (cZ (ai (nm q (ar q ?_))))));exact cu (v:=P) trivial q ⟨q,tV⟩ ⟨_,o,q,M,(C.ls (fun b V=>Z b V) (bM.up Aa)),(by have e:=O;rw[← K]at e;exact e.trans (d.symm.trans (ac6 Ok)))⟩
 (first|(have E:=dF A)|(have E:=dT (eL A))|(have E:=eL A)|(have E:=A));refine sk A (sk A (sk A (st _ (bE q A q) (nt (fW q q (cw (bD (bD (cZ (ai (nm q (cE q ?_))))))))))));refine nt (gW ?_);exact cu (v:=P) trivial q ⟨q,tV⟩ ⟨_,o,q,M,(C.ls (fun b V=>Z b V) (bM.up Aa)),(by have e:=O;rw[← K]at e;exact e.trans (d.symm.trans (Va Ok)))⟩
theorem LU (uQ:Up w Q) {v0:Value} {b:Ly} (h0:Ls eD w Q v0 b) (p0:¬(jT b).2=0) (p1:b.length≤1000000) :
  Calls Zp 7 #[v0] w fun en w'=>∃u0:Value,∃r0:Option dh,∃r1:Nat,en = .returned (.tuple #[u0,(.int .i64 r1)])∧Md [] w w'∧Po aeR 67 w' Q u0 r0∧r1<9223372036854775808∧((none:Option dh),(jT b).2)=(r0,r1):=by
 refine enter (n:=30) Tryz.func7 q q q fun B=>ns (cE q (an q (nm q (aj afU q (BG uQ h0 Ok) ?_))));rintro en G ⟨u,x,c,rfl,C,F,E,D⟩;refine rv ?_;rw[D]at p0;refine mv q (se q q (se q q (cE q (an q (au (nm q (st _ (eN (a:=c) (b:=0) q q) (nt ?_))))))));refine bV q (fun A=>?_) (fun A=>absurd (dF A) (fun h=>h p0));refine nm q (cE q (ar q (aV ?_)));exact dB (vs:=[.pointer none,.int .i64 c]) trivial q ⟨q,q,tV⟩ q ⟨.pointer none,none,c,q,C,q,E,by rw[D]⟩
end Go.Proofs.YtlleafgaeeneoaaGreat
namespace Go.Wk
open Go Go.RowKit Go.Sort
abbrev vZ (z:Int):Value:=.int .i64 z
theorem KE {w:World} {b m n:Nat} {e:TypeId} {cur:List Value} {ys:List Int} {os:Array Obj} (hB:bO w b cur e) (hm:m≤cur.length) (hy:ys.length=m) :
    Md [b] w (grow (putRow (Value.int .i64) (Sort.ahead w n) b 0 ys.toArray) os)∧bO (grow (putRow (Value.int .i64) (Sort.ahead w n) b 0 ys.toArray) os) b (ys.map vZ ++ cur.drop m) e:=by
  have E:=hB.lt
  refine⟨⟨q,q,q,?_,?_⟩,?_⟩
  · simp[grow,putRow,mapBlock,Sort.ahead]
  · intro k hk B
    simp only[List.mem_singleton]at B
    unfold grow putRow mapBlock
    simp only[Sort.ahead]
    rw[Array.getElem?_append_left (by simpa using hk),Array.getElem?_modify,if_neg (fun h=>B h.symm)]
  have C:w.heap[b]? = some (.cells cur.toArray e (0,0)):=hB
  have D:(grow (putRow (Value.int .i64) (Sort.ahead w n) b 0 ys.toArray) os).heap[b]? = some (.cells (putCells (Value.int .i64) 0 ys.toArray cur.toArray) e (0,0)):=by
    unfold grow putRow mapBlock
    simp only[Sort.ahead]
    rw[Array.getElem?_append_left (by simpa using E),Array.getElem?_modify,if_pos q,C]
    rfl
  unfold bO
  rw[D]
  congr 2
  apply Array.ext'
  apply List.ext_getElem?
  intro t
  unfold putCells
  rw[Array.getElem?_toList,Array.getElem?_mapIdx,List.getElem?_toArray]
  simp only[List.size_toArray,Nat.zero_le,true_and,Nat.zero_add,Nat.sub_zero]
  by_cases ht:t<m
  · have F:t<cur.length:=by omega
    have A:t<ys.length:=by omega
    rw[List.getElem?_eq_getElem F,Option.map_some,if_pos Ok,List.getElem?_append_left (by simpa using A),List.getElem?_map,List.getElem?_eq_getElem A,Option.map_some]
    rw[getElem!_pos _ t (by simpa using A)]
    rfl
  rw[List.getElem?_append_right Yw,List.getElem?_drop,List.length_map,hy,show m+(t-m)=t by omega]
  cases cur[t]? with
  | none=>rfl
  | some u=>rw[Option.map_some,if_neg Ok]
theorem UY (xs:List Nat):((xs.map fun n:Nat=>((n:Nat):Int)).mergeSort fun x y=>decide (x≤y))=(nE xs).map fun n:Nat=>((n:Nat):Int):=by
  unfold nE
  rw[List.map_mergeSort (s:=fun x y:Int=>decide (x≤y)) (fun a _ b _=>by simp)]
theorem agM {P:Program} {ρ:Shelf.Ren} (L:Go.Proofs.SlLaysM.n5 P ρ) {w:World} {Q lo:Nat→Prop} {e:TypeId} {v:Value} {xs:List Nat} (h:Ow ez e lo w Q v xs) (hl:xs.length≤1000000000) :
    Calls P (ρ.f 5) #[v] w fun en w'=>en = .returned (.tuple #[])∧Md (ah v).toList w w'∧Ow ez e lo w' Q v (nE xs):=by
  obtain⟨⟨Y,E,F⟩,M⟩:=h
  have Z:=F
  obtain⟨rfl,H⟩:=yJ F
  rcases Nat.eq_zero_or_pos xs.length with D|D
  · have I:xs=[]:=List.eq_nil_of_length_eq_zero D
    subst I
    obtain⟨a,cap,rfl,_⟩:=nT E
    refine(Go.Proofs.AnyM.slices_Sort_int_none L a cap w).mono ?_
    rintro en w' ⟨rfl,rfl⟩
    exact⟨q,(Md.refl [] _).mono Oj,by rw[show nE []=[]from by simp[nE]];exact⟨⟨_,E,F⟩,M⟩⟩
  obtain⟨b,cap,A,rfl,C,R,S,T,K⟩:=E.blk D
  have I:ez.n=1:=rfl
  rw[I,Nat.mul_one]at T K
  have O:=Go.Proofs.AnyM.slices_Sort_int L b 0 cap (xs.map fun n:Nat=>((n:Nat):Int)) w ?_ C.lt (by rw[List.length_map];omega)
  · rw[List.length_map]at O
    refine O.mono ?_
    rintro en w' ⟨rfl,n,os,rfl⟩
    rw[UY]
    have J:((nE xs).map fun n:Nat=>((n:Nat):Int)).length=xs.length:=by rw[List.length_map,qg]
    obtain⟨W,B⟩:=KE (n:=n) (os:=os) (ys:=(nE xs).map fun n:Nat=>((n:Nat):Int)) C Ok J
    rw[List.map_map]at B
    refine⟨q,W,⟨⟨(nE xs).map vN,?_,xL fun x X=>H x ((sR _ _).1 X)⟩,M⟩⟩
    have G:bO _ b ((nE xs).map vN ++ A.drop xs.length) _:=B
    have N:=Own.cK (sz:=1) (m:=xs.length) (cap:=cap) G R S (by rw[List.length_append,List.length_map,List.length_drop,qg];omega)
    rw[Nat.mul_one,List.take_append_of_le_length (by rw[List.length_map,qg];omega),List.take_of_length_le (by rw[List.length_map,qg];omega)]at N
    rw[qg]
    exact N
  intro j V
  have hj':j<xs.length:=by simpa using V
  rw[Nat.zero_add,C.cell,C.frozen]
  refine⟨?_,q⟩
  have U:(A.take xs.length)[j]? = A[j]?:=by rw[List.getElem?_take,if_pos hj']
  rw[← U,K,List.getElem?_map,List.getElem?_eq_getElem hj',Option.map_some,getElem!_pos _ j (by simpa using hj')]
  simp
end Go.Wk
namespace Go.Proofs.YtlleafgaeeneoaaGreat
open Go Go.Shelf
def KL:Go.Shelf.Ren:=⟨fun|5=>34|8=>81|7=>80|19=>123|20=>124|10=>114|11=>115|12=>116|13=>117|14=>118|15=>119|16=>120|17=>121|18=>122|30=>151|31=>152|32=>153|33=>154|34=>155|35=>156|40=>169|n=>n,fun|23=>22|25=>3|3=>3|32=>157|22=>22|0=>0|44=>88|46=>46|4=>4|36=>195|35=>194|41=>200|5=>5|9=>9|53=>241|57=>244|63=>258|64=>259|n=>n,fun|n=>n⟩
theorem sortInt:Go.Proofs.SlLaysM.n5 Zp KL:={
  mixed:=(by kernel_rfl)
  f5:=⟨Tryz.f34.name,by decide,Tryz.func34.trans (congrArg some (by kernel_rfl))⟩
  f7:=⟨Tryz.f80.name,by decide,Tryz.func80.trans (congrArg some (by kernel_rfl))⟩
  f8:=Tryz.func81.trans (congrArg some (by kernel_rfl))
  f10:=⟨Tryz.f114.name,by decide,Tryz.func114.trans (congrArg some (by kernel_rfl))⟩
  f11:=⟨Tryz.f115.name,by decide,Tryz.func115.trans (congrArg some (by kernel_rfl))⟩
  f12:=⟨Tryz.f116.name,by decide,Tryz.func116.trans (congrArg some (by kernel_rfl))⟩
  f13:=⟨Tryz.f117.name,by decide,Tryz.func117.trans (congrArg some (by kernel_rfl))⟩
  f14:=⟨Tryz.f118.name,by decide,Tryz.func118.trans (congrArg some (by kernel_rfl))⟩
  f15:=⟨Tryz.f119.name,by decide,Tryz.func119.trans (congrArg some (by kernel_rfl))⟩
  f16:=⟨Tryz.f120.name,by decide,Tryz.func120.trans (congrArg some (by kernel_rfl))⟩
  f17:=⟨Tryz.f121.name,by decide,Tryz.func121.trans (congrArg some (by kernel_rfl))⟩
  f18:=⟨Tryz.f122.name,by decide,Tryz.func122.trans (congrArg some (by kernel_rfl))⟩
  f19:=Tryz.func123.trans (congrArg some (by kernel_rfl))
  f20:=Tryz.func124.trans (congrArg some (by kernel_rfl))
  f30:=⟨Tryz.f151.name,by decide,Tryz.func151.trans (congrArg some (by kernel_rfl))⟩
  f31:=Tryz.func152.trans (congrArg some (by kernel_rfl))
  f32:=Tryz.func153.trans (congrArg some (by kernel_rfl))
  f33:=⟨Tryz.f154.name,by decide,Tryz.func154.trans (congrArg some (by kernel_rfl))⟩
  f34:=⟨Tryz.f155.name,by decide,Tryz.func155.trans (congrArg some (by kernel_rfl))⟩
  f35:=⟨Tryz.f156.name,by decide,Tryz.func156.trans (congrArg some (by kernel_rfl))⟩
  f40:=⟨Tryz.f169.name,by decide,Tryz.func169.trans (congrArg some (by kernel_rfl))⟩
  t0:=Tryz.underlying0
  a0:=Tryz.isAgg0
  z0:=Tryz.sizeOf0
  v0:=Tryz.zeroValue0
  t3:=Tryz.underlying3
  a3:=Tryz.isAgg3
  z3:=Tryz.sizeOf3
  v3:=Tryz.zeroValue3
  t4:=Tryz.underlying4
  a4:=Tryz.isAgg4
  z4:=Tryz.sizeOf4
  v4:=Tryz.zeroValue4
  t5:=Tryz.underlying5
  a5:=Tryz.isAgg5
  z5:=Tryz.sizeOf5
  v5:=Tryz.zeroValue5
  t9:=Tryz.underlying9
  a9:=Tryz.isAgg9
  z9:=Tryz.sizeOf9
  v9:=Tryz.zeroValue9
  t22:=Tryz.underlying22
  a22:=Tryz.isAgg22
  z22:=Tryz.sizeOf22
  v22:=Tryz.zeroValue22
  t23:=Tryz.underlying22
  a23:=Tryz.isAgg22
  z23:=Tryz.sizeOf22
  v23:=Tryz.zeroValue22
  t25:=Tryz.underlying3
  a25:=Tryz.isAgg3
  z25:=Tryz.sizeOf3
  v25:=Tryz.zeroValue3
  t32:=Tryz.underlying157
  a32:=Tryz.isAgg157
  z32:=Tryz.sizeOf157
  v32:=Tryz.zeroValue157
  t35:=Tryz.underlying194
  a35:=Tryz.isAgg194
  z35:=Tryz.sizeOf194
  v35:=Tryz.zeroValue194
  t36:=Tryz.underlying195
  a36:=Tryz.isAgg195
  z36:=Tryz.sizeOf195
  v36:=Tryz.zeroValue195
  t41:=Tryz.underlying200
  a41:=Tryz.isAgg200
  z41:=Tryz.sizeOf200
  v41:=Tryz.zeroValue200
  t44:=Tryz.underlying88
  a44:=Tryz.isAgg88
  z44:=Tryz.sizeOf88
  v44:=Tryz.zeroValue88
  t46:=Tryz.underlying46
  a46:=Tryz.isAgg46
  z46:=Tryz.sizeOf46
  v46:=Tryz.zeroValue46
  t53:=Tryz.underlying241
  a53:=Tryz.isAgg241
  z53:=Tryz.sizeOf241
  v53:=Tryz.zeroValue241
  t57:=Tryz.underlying244
  a57:=Tryz.isAgg244
  z57:=Tryz.sizeOf244
  v57:=Tryz.zeroValue244
  t63:=Tryz.underlying258
  a63:=Tryz.isAgg258
  z63:=Tryz.sizeOf258
  v63:=Tryz.zeroValue258
  t64:=Tryz.underlying259
  a64:=Tryz.isAgg259
  z64:=Tryz.sizeOf259
  v64:=Tryz.zeroValue259}
end Go.Proofs.YtlleafgaeeneoaaGreat
namespace Go.Proofs.YtlleafgaeeneoaaGreat
open Go Go.Wk Go.RowKit
set_option linter.unusedVariables false
set_option linter.unusedSimpArgs false
attribute [local irreducible] wpList wpQuiet wpStill fF Code.wp Calls bodyPost
variable {w:World} {Q:Nat→Prop}
theorem abq:gu Zp 81 1=true:=Yz
theorem ah3:cM Zp 71=true:=Yz
theorem ah4:cM Zp 72=true:=Yz
theorem ah5:cM Zp 73=true:=Yz
theorem ah6:cM Zp 74=true:=Yz
theorem ah7:cM Zp 75=true:=Yz
theorem aaj:gZ Zp 81=true:=Yz
theorem YI (uQ:Up w Q) {v0:Value} {a:List (List UInt8)} (h0:Ls ij w Q v0 a) {v1:Value} {b:List (List UInt8)} (h1:Ls ij w Q v1 b) :
  Calls Zp 75 #[v0,v1] w fun en w'=>∃r0:Bool,en = .returned (.bool r0)∧Md [] w w'∧oG a b=r0:=by
 have k:=h0.dN;have o:=h1.dN;have M:=Md.refl [] w;have g:=uQ;have X:∀b,Q b→Q b:=fun _ h=>h;have P:∀b,Q b→b<w.heap.size→Q b:=fun _ h _=>h;refine enter (n:=26) Tryz.func75 q q q fun B=>ns (an q (au (nm q (sL q iv h0.cV (mv q (sL q iv h1.cV (st _ (eN (a:=a.length) (b:=b.length) q q) (nt ?_))))))));refine bV q (fun E=>?_) (fun E=>?_)
 ·(first|(have A:=dT E)|(have A:=dF (eM E))|(have A:=eM E)|(have A:=E));refine ns (ar q (aV ?_));exact cu (v:=(.bool false)) trivial q ⟨q,tV⟩ ⟨false,q,M,(by rw[oG]<;>simp(disch:=first|omega|assumption|simp) only [SS,reduceIte,A])⟩
 (first|(have A:=dF E)|(have A:=dT (eL E))|(have A:=eL E)|(have A:=E));refine aY (ai (au (nm q (sL q iv h0.cV (mv q (nt (b9 ?_)))))));obtain⟨r0,H⟩:∃r,eqT a b=r:=⟨_,q⟩;have W:=H
 try simp only[List.nil_append]at H
 refine pQ (fun(i:Nat)=>[(13,(.int .i64 i)),(0,v0),(1,v1),(12,(.int .i64 a.length))]) (fun(i:Nat) w'=>∃Q':Nat→Prop,(∀b,Q' b→Q b)∧(∀b,Q b→b<w.heap.size→Q' b)∧Up w' Q'∧Md [] w w'∧Ls ij w' Q' v0 a∧Ls ij w' Q' v1 b∧eqT (a.drop i) (b.drop i)=r0) (fun(i:Nat)=>a.length-i) (x0:=0) ?_ ?_ ?_
 ·exact⟨q,q,q,q,tV⟩
 ·exact⟨Q,X,P,uQ,M,h0,h1,(by have U:=H;first|exact U|exact W|(simp only[List.nil_append]at U;exact U))⟩
 clear M uQ X P h0 h1
 rintro i B j ⟨f,X,P,uQ,M,h0,h1,L⟩;refine ns (st _ (dV (a:=i) (b:=a.length) q q) (nt (au ?_)));refine bV q (fun F=>?_) (fun F=>?_)
 ·(first|(have C:=dT F)|(have C:=dF (eM F))|(have C:=eM F)|(have C:=F));refine aY (ai (au (b9 (nm q (an q (au ?_))))));have R:=h0;have S:=h1;refine cT (ml 8) [8] (fun w'=>Md [] j w') mixed Yz ?_;intro u I;refine⟨I.mono Oj,?_⟩;have e:=I.mono (T:=[]) Oj;refine mo q (mo q (mz (fun w' V=>bB (i:=i) 1 q q iv EO h0.cV Ok) ?_));obtain⟨c,J⟩:=dQ (l:=a) (i:=i) Yh;obtain⟨p,Y,N⟩:=R.get J;obtain⟨rfl,_⟩:=Y;replace N:At _ v0 (i*1) [(str c)]:=N;refine mz (fun w' V=>(cg (kk:=i*1) 0 q q jO (N.o V) q).to (b:=(str c)) q) (mo q (mo q (mz (fun w' V=>bB (i:=i) 1 q q iv EO h1.cV Ok) ?_)));obtain⟨d,K⟩:=dQ (l:=b) (i:=i) Yh;obtain⟨t,Z,O⟩:=S.get K;obtain⟨rfl,_⟩:=Z;replace O:At _ v1 (i*1) [(str d)]:=O;refine mz (fun w' V=>(cg (kk:=i*1) 0 q q jO (O.o V) q).to (b:=(str d)) q) (d9 ?_);obtain⟨h0,h1,uQ,M⟩:=k4 I h0 h1 uQ M;clear R S;clear e;refine st _ (ae9 (a:=c) (b:=d) q q) (ak ?_);clear N;clear O;refine ai ?_;refine bV q (fun G=>?_) (fun G=>?_)
  ·(first|(have D:=dT G)|(have D:=dF (eM G))|(have D:=eM G)|(have D:=G));refine ns (ar q (bG (aV (aV (bG (aV ?_))))));exact cu (v:=(.bool false)) trivial q ⟨q,tV⟩ ⟨false,q,M,(by(try (simp(disch:=first|omega|assumption|simp) only [ER,uI J,uI K,SS,reduceIte,A,C,J,K,D]at L));rw[oG]<;>simp(disch:=first|omega|assumption|simp) only [SS,reduceIte,A,H,C,J,K,D,← L])⟩
  (first|(have D:=dF G)|(have D:=dT (eL G))|(have D:=eL G)|(have D:=G));refine aY (bL (ai (ax (st _ (rA (a:=i) (b:=1) q q Ok) (mv q (nt ?_))))));refine pR (x0:=(i+1)) Ok ⟨(dA q Ok),q,q,q,tV⟩ ⟨f,X,P,uQ,M,h0,h1,(by have U:=L;simp(disch:=first|omega|assumption|simp) only [ER,uI J,uI K,SS,reduceIte,A,C,J,K,D]at U;first|exact U|(simp only[List.append_assoc,List.cons_append,List.nil_append,List.singleton_append]at U ⊢;exact U))⟩
 (first|(have C:=dF F)|(have C:=dT (eL F))|(have C:=eL F)|(have C:=F));refine cw (bD (bD (cZ (ai (ns (ar q ?_))))));exact cu (v:=(.bool true)) trivial q ⟨q,tV⟩ ⟨true,q,M,(by(try (simp(disch:=first|omega|assumption|simp) only [ER,SS,reduceIte,A,C]at L));rw[oG]<;>simp(disch:=first|omega|assumption|simp) only [SS,reduceIte,A,H,C,← L])⟩
theorem HZ (uQ:Up w Q) {v0_0:Value} (a:fR) (a0_0:Ls ij w Q v0_0 a.values) {v1_0:Value} (b:fR) (a1_0:Ls ij w Q v1_0 b.values) :
  Calls Zp 74 #[.agg (fR.cells a v0_0).toArray,.agg (fR.cells b v1_0).toArray] w fun en w'=>∃r0:Bool,en = .returned (.bool r0)∧Md [] w w'∧GW a b=r0:=by
 have M:=Md.refl [] w;have T:=uQ;refine enter (n:=17) Tryz.func74 q q q fun B=>ns (eC (cs:=(fR.cells a v0_0)) q q ?_);intro K U G R D E;have N:=uQ _ G;replace G:=ly M.size G;obtain⟨a0_0,a1_0,uQ,M⟩:=k4 D a0_0 a1_0 uQ M;refine eC (cs:=(fR.cells b v1_0)) q q ?_;intro L V H S D I;have J:K≠L:=(by have:=E.lt;omega);have O:=uQ _ H;replace H:=ly M.size H;obtain⟨a0_0,a1_0,E,uQ,M⟩:=k5 D a0_0 a1_0 E uQ M;refine an q (ns (sf q vp (sl (u:=(str a.name)) q jO E q (sf q vp (sl (u:=(str b.name)) q jO I q (st _ (qH (a:=a.name) (b:=b.name) q q) (mv q ?_)))))));refine cB (t:=10) q (fun A=>?_) (fun A=>?_)
 ·(first|(have C:=dT A)|(have C:=dF (eM A))|(have C:=eM A)|(have C:=A));refine sg A (aU q xX) (sg A ((aA q PZ E q).to (b:=v0_0) q) (sg A (aU q xX) (sg A ((aA q PZ I q).to (b:=v1_0) q) (gH q q q A ah7 q (YI uQ a0_0 a1_0) ?_))));rintro en W ⟨F,rfl,D,P⟩;refine rv ?_;replace M:=M.k D;refine st _ (bF q A q) (ar q ?_);exact cu (v:=(.bool F)) trivial q ⟨q,tV⟩ ⟨F,q,M,(by unfold GW;simp_all)⟩
 (first|(have C:=dF A)|(have C:=dT (eL A))|(have C:=eL A)|(have C:=A));refine sk A (sk A (sk A (sk A (sk A (st _ (bE q A q) (ar q ?_))))));exact cu (v:=(.bool false)) trivial q ⟨q,tV⟩ ⟨false,q,M,(by unfold GW;simp_all)⟩
theorem YG (uQ:Up w Q) {v0:Value} {a:List fR} (h0:Ls jK w Q v0 a) {v1:Value} {b:List fR} (h1:Ls jK w Q v1 b) :
  Calls Zp 73 #[v0,v1,.func (.func 74) #[] #[]] w fun en w'=>∃r0:Bool,en = .returned (.bool r0)∧Md [] w w'∧yM a b=r0:=by
 have L0:=h0.dN;have L1:=h1.dN;have M:=Md.refl [] w;have As:=uQ;have k:∀b,Q b→Q b:=fun _ h=>h;have S:∀b,Q b→b<w.heap.size→Q b:=fun _ h _=>h;refine enter (n:=32) Tryz.func73 q q q fun B=>ns (an q (au (nm q (sL q xA h0.cV (mv q (sL q xA h1.cV (st _ (eN (a:=a.length) (b:=b.length) q q) (nt ?_))))))));refine bV q (fun K=>?_) (fun K=>?_)
 ·(first|(have A:=dT K)|(have A:=dF (eM K))|(have A:=eM K)|(have A:=K));refine ns (ar q (aV ?_));exact cu (v:=(.bool false)) trivial q ⟨q,tV⟩ ⟨false,q,M,(by rw[yM]<;>simp(disch:=first|omega|assumption|simp) only [SS,reduceIte,A])⟩
 (first|(have A:=dF K)|(have A:=dT (eL K))|(have A:=eL K)|(have A:=K));refine aY (ai (au (nm q (sL q xA h0.cV (mv q (nt (b9 ?_)))))));obtain⟨r0,R⟩:∃r,LF a b=r:=⟨_,q⟩;have Ag:=R
 try simp only[List.nil_append]at R
 refine pQ (fun(i:Nat)=>[(17,(.int .i64 i)),(1,v1),(2,(.func (.func 74) #[] #[])),(15,v0),(16,(.int .i64 a.length))]) (fun(i:Nat) w'=>∃Q':Nat→Prop,(∀b,Q' b→Q b)∧(∀b,Q b→b<w.heap.size→Q' b)∧Up w' Q'∧Md [] w w'∧Ls jK w' Q' v1 b∧Ls jK w' Q' v0 a∧LF (a.drop i) (b.drop i)=r0) (fun(i:Nat)=>a.length-i) (x0:=0) ?_ ?_ ?_
 ·exact⟨q,q,q,q,q,tV⟩
 ·exact⟨Q,k,S,uQ,M,h1,h0,(by have j:=R;first|exact j|exact Ag|(simp only[List.nil_append]at j;exact j))⟩
 clear M uQ k S h0 h1
 rintro i B w1 ⟨Q2,k,S,uQ,M,h1,h0,Y⟩;refine ns (st _ (dV (a:=i) (b:=a.length) q q) (nt (au ?_)));refine bV q (fun L=>?_) (fun L=>?_)
 ·(first|(have C:=dT L)|(have C:=dF (eM L))|(have C:=eM L)|(have C:=L));refine aY (ai (au (b9 (nm q (st _ (bB (i:=i) 2 q q xA EP h0.cV Ok) ?_)))));obtain⟨x3,V⟩:=dQ (l:=a) (i:=i) Yh;obtain⟨c4,Al,g⟩:=h0.get V;obtain⟨v5,rfl,G⟩:=nR Al;replace g:At _ v0 (i*2) (fR.cells x3 v5):=g;refine st _ (eV (kk:=i*2) (fR.cells x3 v5) 0 q q (by exact qP) g q) (bU z98 ?_);intro o w7 e Am E F;obtain⟨Q8,X,sT,x,Z⟩:=jh uQ e Am E;replace k:=tT k sT;replace S:=fun b T hl=>X b (S b T hl) (lj hl M.size);replace e:=ly M.size e;replace h1:=(h1.sub X).o E;replace h0:=(h0.sub X).o E;replace G:=(G.sub X).o E;replace M:=M.k E;replace uQ:=Z;clear Z X sT;have z:bM [] w o:=.inr e;replace F:bO _ _ (fR.cells (({name:=[],values:=[]}:fR)) SN) _:=F;refine cE q (aX (us:=(fR.cells x3 v5)) q q (by exact qP) (by first|exact fun u t=>bn (fR.one G.bN) u t|exact fun u t=>bn q u t) F (lB q) ?_);have Ad:=F;clear F;intro w9 E F;have d:∀b∈[o],¬Q8 b:=(hI x);replace h1:=h1.md E d;replace h0:=h0.md E d;replace G:=G.md E d;clear g;replace uQ:=uQ.md E;replace M:=M.step E (hI z);clear Ad d;replace F:bO _ _ (fR.cells x3 v5) _:=F;refine nt (ns (m2 q q (st _ (bB (i:=i) 2 q q xA EP h1.cV Ok) ?_)));obtain⟨W,J⟩:=dQ (l:=b) (i:=i) Yh;obtain⟨Ar,Ah,U⟩:=h1.get J;obtain⟨c,rfl,H⟩:=nR Ah;replace U:At _ v1 (i*2) (fR.cells W c):=U;refine st _ (eV (kk:=i*2) (fR.cells W c) 0 q q (by exact qP) U q) (bU z98 ?_)
  intro p Au f Ao E O;have Ak:o≠p:=(by have:=F.lt;omega);obtain⟨Ac,X,sT,y,Z⟩:=jh uQ f Ao E;replace k:=tT k sT;replace S:=fun b T hl=>X b (S b T hl) (lj hl M.size);replace f:=ly M.size f;replace h1:=(h1.sub X).o E;replace h0:=(h0.sub X).o E;replace G:=(G.sub X).o E;replace F:=F.o E;replace H:=(H.sub X).o E;replace M:=M.k E;replace uQ:=Z;clear Z X sT;have Aa:bM [] w p:=.inr f;replace O:bO _ _ (fR.cells (({name:=[],values:=[]}:fR)) SN) _:=O;refine aX (us:=(fR.cells W c)) q q (by exact qP) (by first|exact fun u t=>bn (fR.one H.bN) u t|exact fun u t=>bn q u t) O (lB q) ?_;have Ae:=O;clear O;intro Av E O;have d:∀b∈[p],¬Ac b:=(hI y);replace h1:=h1.md E d;replace h0:=h0.md E d;replace G:=G.md E d;replace F:=F.md E Vk;replace H:=H.md E d;clear U;replace uQ:=uQ.md E;replace M:=M.step E (hI Aa);clear Ae d;replace O:bO _ _ (fR.cells W c) _:=O;refine nt (nm q (st _ (bX (fR.cells x3 v5) q (by exact qP) F q) (st _ (bX (fR.cells W c) q (by exact qP) O q) (lS (cs:=[]) q ah6 q (HZ uQ x3 G W H) ?_))));rintro en Aw ⟨Ap,rfl,E,P⟩;refine rv ?_;obtain⟨h1,h0,uQ,M⟩:=k4 E h1 h0 uQ M;refine st _ (gR q) (nt ?_);refine bV q (fun N=>?_) (fun N=>?_)
  ·(first|(have D:=dT N)|(have D:=dF (eM N))|(have D:=eM N)|(have D:=N));have I:=P.trans D;try simp only[Bool.not_eq_true',Bool.not_eq_false']at I
   refine ns (ar q (bG (aV (aV (bG (aV ?_))))));exact cu (v:=(.bool false)) trivial q ⟨q,tV⟩ ⟨false,q,M,(by(try (simp(disch:=first|omega|assumption|simp) only [yL,sD V,sD J,SS,reduceIte,A,C,V,J,P,D,I]at Y));rw[yM]<;>simp(disch:=first|omega|assumption|simp) only [SS,reduceIte,A,R,C,V,J,P,D,I,← Y])⟩
  (first|(have D:=dF N)|(have D:=dT (eL N))|(have D:=eL N)|(have D:=N));have I:=P.trans D;try simp only[Bool.not_eq_true',Bool.not_eq_false']at I
  refine aY (bL (ai (ax (st _ (rA (a:=i) (b:=1) q q Ok) (mv q (nt ?_))))));refine pR (x0:=(i+1)) Ok ⟨(dA q Ok),q,q,q,q,tV⟩ ⟨Ac,k,S,uQ,M,h1,h0,(by have j:=Y;simp(disch:=first|omega|assumption|simp) only [yL,sD V,sD J,SS,reduceIte,A,C,V,J,P,D,I]at j;first|exact j|(simp only[List.append_assoc,List.cons_append,List.nil_append,List.singleton_append]at j ⊢;exact j))⟩
 (first|(have C:=dF L)|(have C:=dT (eL L))|(have C:=eL L)|(have C:=L));refine cw (bD (bD (cZ (ai (ns (ar q ?_))))));exact cu (v:=(.bool true)) trivial q ⟨q,tV⟩ ⟨true,q,M,(by(try (simp(disch:=first|omega|assumption|simp) only [yL,SS,reduceIte,A,C]at Y));rw[yM]<;>simp(disch:=first|omega|assumption|simp) only [SS,reduceIte,A,R,C,← Y])⟩
theorem M0 (uQ:Up w Q) {v0:Value} {a:List fR} (h0:Ls jK w Q v0 a) {v1:Value} {b:List fR} (h1:Ls jK w Q v1 b) :
  Calls Zp 72 #[v0,v1] w fun en w'=>∃r0:Bool,en = .returned (.bool r0)∧Md [] w w'∧yM a b=r0:=by
 have F:=h0.dN;have G:=h1.dN;have M:=Md.refl [] w;have E:=uQ;refine enter (n:=8) Tryz.func72 q q q fun B=>ns (an q (ns (m2 q q (aj ah5 q (YG uQ h0 h1) ?_))));rintro en H ⟨A,rfl,D,C⟩;refine rv ?_;replace M:=M.k D;refine ar q ?_;exact cu (v:=(.bool A)) trivial q ⟨q,tV⟩ ⟨A,q,M,C⟩
theorem YH (uQ:Up w Q) {v0:Value} {a:List (List fR)} (h0:Ls (ql jK) w Q v0 a) {v1:Value} {b:List (List fR)} (h1:Ls (ql jK) w Q v1 b) :
  Calls Zp 71 #[v0,v1,.func (.func 72) #[] #[]] w fun en w'=>∃r0:Bool,en = .returned (.bool r0)∧Md [] w w'∧vQ a b=r0:=by
 have k:=h0.dN;have o:=h1.dN;have M:=Md.refl [] w;have g:=uQ;have W:∀b,Q b→Q b:=fun _ h=>h;have R:∀b,Q b→b<w.heap.size→Q b:=fun _ h _=>h;refine enter (n:=32) Tryz.func71 q q q fun B=>ns (an q (au (nm q (sL q VH h0.cV (mv q (sL q VH h1.cV (st _ (eN (a:=a.length) (b:=b.length) q q) (nt ?_))))))));refine bV q (fun F=>?_) (fun F=>?_)
 ·(first|(have A:=dT F)|(have A:=dF (eM F))|(have A:=eM F)|(have A:=F));refine ns (ar q (aV ?_));exact cu (v:=(.bool false)) trivial q ⟨q,tV⟩ ⟨false,q,M,(by rw[vQ]<;>simp(disch:=first|omega|assumption|simp) only [SS,reduceIte,A])⟩
 (first|(have A:=dF F)|(have A:=dT (eL F))|(have A:=eL F)|(have A:=F));refine aY (ai (au (nm q (sL q VH h0.cV (mv q (nt (b9 ?_)))))));obtain⟨r0,J⟩:∃r,GX a b=r:=⟨_,q⟩;have U:=J
 try simp only[List.nil_append]at J
 refine pQ (fun(i:Nat)=>[(17,(.int .i64 i)),(1,v1),(2,(.func (.func 72) #[] #[])),(15,v0),(16,(.int .i64 a.length))]) (fun(i:Nat) w'=>∃Q':Nat→Prop,(∀b,Q' b→Q b)∧(∀b,Q b→b<w.heap.size→Q' b)∧Up w' Q'∧Md [] w w'∧Ls (ql jK) w' Q' v1 b∧Ls (ql jK) w' Q' v0 a∧GX (a.drop i) (b.drop i)=r0) (fun(i:Nat)=>a.length-i) (x0:=0) ?_ ?_ ?_
 ·exact⟨q,q,q,q,q,tV⟩
 ·exact⟨Q,W,R,uQ,M,h1,h0,(by have S:=J;first|exact S|exact U|(simp only[List.nil_append]at S;exact S))⟩
 clear M uQ W R h0 h1
 rintro i B u ⟨f,W,R,uQ,M,h1,h0,N⟩;refine ns (st _ (dV (a:=i) (b:=a.length) q q) (nt (au ?_)));refine bV q (fun G=>?_) (fun G=>?_)
 ·(first|(have C:=dT G)|(have C:=dF (eM G))|(have C:=eM G)|(have C:=G));refine aY (ai (au (b9 (nm q (st _ (bB (i:=i) 1 q q VH abq h0.cV Ok) ?_)))));obtain⟨x,K⟩:=dQ (l:=a) (i:=i) Yh;obtain⟨p,Y,O⟩:=h0.get K;obtain⟨d,rfl,X⟩:=Y;replace O:At _ v0 (i*1) [d]:=O;refine st _ ((cg (kk:=i*1) 0 q q aaj O q).to (b:=d) q) (cE q (cE q (ak ?_)));clear O;refine ai (ns (m2 q q (st _ (bB (i:=i) 1 q q VH abq h1.cV Ok) ?_)));obtain⟨y,L⟩:=dQ (l:=b) (i:=i) Yh;obtain⟨t,Z,P⟩:=h1.get L;obtain⟨e,rfl,T⟩:=Z;replace P:At _ v1 (i*1) [e]:=P;refine st _ ((cg (kk:=i*1) 0 q q aaj P q).to (b:=e) q) (cE q (ak ?_));clear P;refine ai (ns (m2 q q (mv q (lS (cs:=[]) q ah4 q (M0 uQ X T) ?_))));rintro en j ⟨c,rfl,V,I⟩;refine rv ?_;obtain⟨h1,h0,uQ,M⟩:=k4 V h1 h0 uQ M;refine st _ (gR q) (nt ?_);refine bV q (fun H=>?_) (fun H=>?_)
  ·(first|(have D:=dT H)|(have D:=dF (eM H))|(have D:=eM H)|(have D:=H));have E:=I.trans D;try simp only[Bool.not_eq_true',Bool.not_eq_false']at E
   refine ns (ar q (bG (aV (aV (bG (aV ?_))))));exact cu (v:=(.bool false)) trivial q ⟨q,tV⟩ ⟨false,q,M,(by(try (simp(disch:=first|omega|assumption|simp) only [yN,sE K,sE L,SS,reduceIte,A,C,K,L,I,D,E]at N));rw[vQ]<;>simp(disch:=first|omega|assumption|simp) only [SS,reduceIte,A,J,C,K,L,I,D,E,← N])⟩
  (first|(have D:=dF H)|(have D:=dT (eL H))|(have D:=eL H)|(have D:=H));have E:=I.trans D;try simp only[Bool.not_eq_true',Bool.not_eq_false']at E
  refine aY (bL (ai (ax (st _ (rA (a:=i) (b:=1) q q Ok) (mv q (nt ?_))))));refine pR (x0:=(i+1)) Ok ⟨(dA q Ok),q,q,q,q,tV⟩ ⟨f,W,R,uQ,M,h1,h0,(by have S:=N;simp(disch:=first|omega|assumption|simp) only [yN,sE K,sE L,SS,reduceIte,A,C,K,L,I,D,E]at S;first|exact S|(simp only[List.append_assoc,List.cons_append,List.nil_append,List.singleton_append]at S ⊢;exact S))⟩
 (first|(have C:=dF G)|(have C:=dT (eL G))|(have C:=eL G)|(have C:=G));refine cw (bD (bD (cZ (ai (ns (ar q ?_))))));exact cu (v:=(.bool true)) trivial q ⟨q,tV⟩ ⟨true,q,M,(by(try (simp(disch:=first|omega|assumption|simp) only [yN,SS,reduceIte,A,C]at N));rw[vQ]<;>simp(disch:=first|omega|assumption|simp) only [SS,reduceIte,A,J,C,← N])⟩
theorem MA (uQ:Up w Q) {v0_0:Value} (a:eT) (a0_0:Ls (ql jK) w Q v0_0 a.rows) {v1_0:Value} (b:eT) (a1_0:Ls (ql jK) w Q v1_0 b.rows) :
  Calls Zp 32 #[.agg (eT.cells a v0_0).toArray,.agg (eT.cells b v1_0).toArray] w fun en w'=>∃r0:Bool,en = .returned (.bool r0)∧Md [] w w'∧QD a b=r0:=by
 have M:=Md.refl [] w;have R:=uQ;refine enter (n:=10) Tryz.func32 q q q fun B=>ns (eC (cs:=(eT.cells a v0_0)) q q ?_);intro H S E O A C;have L:=uQ _ E;replace E:=ly M.size E;obtain⟨a0_0,a1_0,uQ,M⟩:=k4 A a0_0 a1_0 uQ M;refine eC (cs:=(eT.cells b v1_0)) q q ?_;intro I T F P A K;have G:H≠I:=(by have:=C.lt;omega);have N:=uQ _ F;replace F:=ly M.size F;obtain⟨a0_0,a1_0,C,uQ,M⟩:=k5 A a0_0 a1_0 C uQ M;refine an q (ns (sf q nK (sl (u:=v0_0) q vq C q (sf q nK (sl (u:=v1_0) q vq K q (aj ah3 q (YH uQ a0_0 a1_0) ?_))))));rintro en U ⟨D,rfl,A,J⟩;refine rv ?_;replace M:=M.k A;refine ar q ?_;exact cu (v:=(.bool D)) trivial q ⟨q,tV⟩ ⟨D,q,M,J⟩
end Go.Proofs.YtlleafgaeeneoaaGreat
namespace Go.Wk
open Go Go.RowKit
section
variable {b:Ly} {a c:Nat} {o k:List Nat} {f:iJ}
end
def RU (x:Nat):List Nat→Nat→Int
  | [],_=>-1
  | y :: r,i=>if x=y then((i:Nat):Int)else RU x r (i+1)
def ixU (l:List Nat) (x:Nat):Int:=RU x l 0
section
variable {l:List Nat} {x y i:Nat} {z:Int}
theorem Pg (h:¬i<l.length):RU x (l.drop i) i = -1:=by rw[eO Ok];rfl
theorem Pj (h:l[i]? = some y) (e:x=y):RU x (l.drop i) i=((i:Nat):Int):=by rw[di h,RU,if_pos e]
theorem YC (h:l[i]? = some y) (e:¬x=y):RU x (l.drop i) i=RU x (l.drop (i+1)) (i+1):=by rw[di h,RU,if_neg e]
theorem OZ:∀(l:List Nat) (i:Nat),(0≤RU x l i↔x∈l)
  | [],_=>by simp[RU]
  | y :: r,i=>by
    rw[RU]
    split
    · rename_i h;subst h;simp
    · rename_i h
      rw[OZ r (i+1)]
      simp[h]
theorem Ph (h:ixU l x=z):decide (0≤z)=decide (x∈l):=by subst h;exact decide_eq_decide.2 (OZ l 0)
end
section
variable {l:List Nat} {x k i:Nat}
end
section
variable {n:List Nat} {b:Ly} {k:Int} {l:List mY} {c m i:Nat} {o:List (List Nat)} {x:List Nat}
end
section
variable {s:Nat} {b:Ly} {p c i:Nat} {l:List kQ} {x:kQ} {y:List Nat}
end
section
variable {v:dH} {ds fs:List (List Nat)} {a k:List Nat} {p q c i:Nat} {d:fU} {f:iR} {r:Bool}
end
section
variable {v:dH} {a:List Nat} {p c i f l d:Nat} {r:Rec}
end
section
variable {b c:Ly} {v:dH} {a k:List Nat} {p q i d:Nat}
end
end Go.Wk
namespace Go.Proofs.YtlleafgaeeneoaaGreat
open Go Go.Wk Go.RowKit
set_option linter.unusedVariables false
set_option linter.unusedSimpArgs false
attribute [local irreducible] wpList wpQuiet wpStill fF Code.wp Calls bodyPost
variable {w:World} {Q:Nat→Prop}
theorem afp:cM Zp 101=true:=Yz
theorem afx:cM Zp 113=true:=Yz
theorem ahH:cM Zp 98=true:=Yz
theorem NT (uQ:Up w Q) {v0:Value} {l:List Nat} (h0:Ls dw w Q v0 l) (x:Nat) (a1:x<18446744073709551616) :
  Calls Zp 101 #[v0,(.int .u64 x)] w fun en w'=>∃r0:Int,en = .returned (.int .i64 (r0:Int))∧Md [] w w'∧(-9223372036854775808≤r0∧r0<9223372036854775808)∧ixU l x=r0:=by
 have V:=h0.dN;have M:=Md.refl [] w;have U:=uQ;have K:∀b,Q b→Q b:=fun _ h=>h;have D:∀b,Q b→b<w.heap.size→Q b:=fun _ h _=>h;refine enter (n:=19) Tryz.func101 q q q fun B=>ns (an q (au (nm q (sL q jj h0.cV (mv q (nt (b9 ?_)))))));obtain⟨r0,A⟩:∃r,ixU l x=r:=⟨_,q⟩;have E:=A
 try simp only[List.nil_append]at A
 refine pQ (fun(i:Nat)=>[(8,(.int .i64 i)),(0,v0),(1,(.int .u64 x)),(7,(.int .i64 l.length))]) (fun(i:Nat) w'=>∃Q':Nat→Prop,(∀b,Q' b→Q b)∧(∀b,Q b→b<w.heap.size→Q' b)∧Up w' Q'∧Md [] w w'∧Ls dw w' Q' v0 l∧i≤l.length∧RU x (l.drop i) i=r0) (fun(i:Nat)=>l.length-i) (x0:=0) ?_ ?_ ?_
 ·exact⟨q,q,q,q,tV⟩
 ·exact⟨Q,K,D,uQ,M,h0,Ok,(by have J:=A;exact J)⟩
 clear M uQ K D h0
 rintro i B X ⟨T,K,D,uQ,M,h0,S,G⟩;refine ns (st _ (dV (a:=i) (b:=l.length) q q) (nt (au ?_)));refine bV q (fun L=>?_) (fun L=>?_)
 ·(have N:=dT L);refine aY (ai (au (b9 (nm q (an q (ns (m2 q q (mv q (st _ (bB (i:=i) 1 q q jj ew h0.cV Ok) ?_)))))))));obtain⟨P,H⟩:=dQ (l:=l) (i:=i) Ok;obtain⟨W,O,C⟩:=h0.get H;obtain⟨rfl,R⟩:=O;replace C:At _ v0 (i*1) [(.int .u64 P)]:=C;refine st _ ((cg (kk:=i*1) 0 q q bH C q).to (b:=(.int .u64 P)) q) (st _ (ir (a:=x) (b:=P) q q) (ak ?_));clear C;refine ai ?_;refine bV q (fun F=>?_) (fun F=>?_)
  ·(have I:=dT F);refine nm q (ar q (bG (aV (aV (bG (aV ?_))))));exact cu (v:=(.int .i64 (((i:Nat):Int):Int))) trivial q ⟨q,tV⟩ ⟨((i:Nat):Int),q,M,Ok,(E.trans (G.symm.trans (Pj H Ok)))⟩
  (have I:=dF F);refine aY (bL (ai (ax (st _ (rA (a:=i) (b:=1) q q Ok) (mv q (nt ?_))))));refine pR (x0:=(i+1)) Ok ⟨(dA q Ok),q,q,q,tV⟩ ⟨T,K,D,uQ,M,h0,Ok,(by have J:=G;rw[YC H Ok]at J;exact J)⟩
 (have N:=dF L);refine cw (bD (bD (cZ (ai (ns (ar q ?_))))));exact cu (v:=(.int .i64 ((-1):Int))) trivial q ⟨q,tV⟩ ⟨(-1),q,M,Ok,(E.trans (G.symm.trans (Pg Ok)))⟩
theorem VJ (uQ:Up w Q) {v0:Value} {l:List Nat} (h0:Ls dw w Q v0 l) (x:Nat) (a1:x<18446744073709551616) :
  Calls Zp 58 #[v0,(.int .u64 x)] w fun en w'=>∃r0:Bool,en = .returned (.bool r0)∧Md [] w w'∧decide (x∈l)=r0:=by
 have G:=h0.dN;have M:=Md.refl [] w;have F:=uQ;refine enter (n:=9) Tryz.func58 q q q fun B=>ns (an q (ns (m2 q q (aj afp q (NT uQ h0 x Ok) ?_))));rintro en H ⟨A,rfl,E,D,C⟩;refine rv ?_;replace M:=M.k E;refine st _ (qc (a:=A) (b:=0) q q) (ar q ?_);exact cu (v:=(.bool ((decide (0≤A))))) trivial q ⟨q,tV⟩ ⟨(decide (0≤A)),q,M,(Ph C).symm⟩
theorem ML (uQ:Up w Q) {v0:Value} {l:List Nat} (h0:Ls ez w Q v0 l) (x:Nat) (a1:x<9223372036854775808) :
  Calls Zp 113 #[v0,(.int .i64 x)] w fun en w'=>∃r0:Int,en = .returned (.int .i64 (r0:Int))∧Md [] w w'∧(-9223372036854775808≤r0∧r0<9223372036854775808)∧ixU l x=r0:=by
 have V:=h0.dN;have M:=Md.refl [] w;have U:=uQ;have N:∀b,Q b→Q b:=fun _ h=>h;have I:∀b,Q b→b<w.heap.size→Q b:=fun _ h _=>h;refine enter (n:=19) Tryz.func113 q q q fun B=>ns (an q (au (nm q (sL q iI h0.cV (mv q (nt (b9 ?_)))))));obtain⟨r0,E⟩:∃r,ixU l x=r:=⟨_,q⟩;have F:=E
 try simp only[List.nil_append]at E
 refine pQ (fun(i:Nat)=>[(8,(.int .i64 i)),(0,v0),(1,(.int .i64 x)),(7,(.int .i64 l.length))]) (fun(i:Nat) w'=>∃Q':Nat→Prop,(∀b,Q' b→Q b)∧(∀b,Q b→b<w.heap.size→Q' b)∧Up w' Q'∧Md [] w w'∧Ls ez w' Q' v0 l∧i≤l.length∧RU x (l.drop i) i=r0) (fun(i:Nat)=>l.length-i) (x0:=0) ?_ ?_ ?_
 ·exact⟨q,q,q,q,tV⟩
 ·exact⟨Q,N,I,uQ,M,h0,Ok,(by have L:=E;first|exact L|exact F|(simp only[List.nil_append]at L;exact L))⟩
 clear M uQ N I h0
 rintro i B X ⟨T,N,I,uQ,M,h0,S,J⟩;refine ns (st _ (dV (a:=i) (b:=l.length) q q) (nt (au ?_)));refine bV q (fun G=>?_) (fun G=>?_)
 ·(first|(have D:=dT G)|(have D:=dF (eM G))|(have D:=eM G)|(have D:=G));refine aY (ai (au (b9 (nm q (an q (ns (m2 q q (mv q (st _ (bB (i:=i) 1 q q iI el3 h0.cV Ok) ?_)))))))));obtain⟨P,K⟩:=dQ (l:=l) (i:=i) Yh;obtain⟨W,O,H⟩:=h0.get K;obtain⟨rfl,R⟩:=O;replace H:At _ v0 (i*1) [(.int .i64 P)]:=H;refine st _ ((cg (kk:=i*1) 0 q q gB H q).to (b:=(.int .i64 P)) q) (st _ (ir (a:=x) (b:=P) q q) (ak ?_));clear H;refine ai ?_;refine bV q (fun C=>?_) (fun C=>?_)
  ·(first|(have A:=dT C)|(have A:=dF (eM C))|(have A:=eM C)|(have A:=C));refine nm q (ar q (bG (aV (aV (bG (aV ?_))))));exact cu (v:=(.int .i64 (((i:Nat):Int):Int))) trivial q ⟨q,tV⟩ ⟨((i:Nat):Int),q,M,Ym,(F.trans (J.symm.trans (Pj K Ok)))⟩
  (first|(have A:=dF C)|(have A:=dT (eL C))|(have A:=eL C)|(have A:=C));refine aY (bL (ai (ax (st _ (rA (a:=i) (b:=1) q q Ok) (mv q (nt ?_))))));refine pR (x0:=(i+1)) Ok ⟨(dA q Ok),q,q,q,tV⟩ ⟨T,N,I,uQ,M,h0,Ok,(by have L:=J;rw[YC K Ok]at L;exact L)⟩
 (first|(have D:=dF G)|(have D:=dT (eL G))|(have D:=eL G)|(have D:=G));refine cw (bD (bD (cZ (ai (ns (ar q ?_))))));exact cu (v:=(.int .i64 ((-1):Int))) trivial q ⟨q,tV⟩ ⟨(-1),q,M,Ym,(F.trans (J.symm.trans (Pg Ok)))⟩
theorem SG (uQ:Up w Q) {v0:Value} {l:List Nat} (h0:Ls ez w Q v0 l) (x:Nat) (a1:x<9223372036854775808) :
  Calls Zp 79 #[v0,(.int .i64 x)] w fun en w'=>∃r0:Bool,en = .returned (.bool r0)∧Md [] w w'∧decide (x∈l)=r0:=by
 have G:=h0.dN;have M:=Md.refl [] w;have F:=uQ;refine enter (n:=9) Tryz.func79 q q q fun B=>ns (an q (ns (m2 q q (aj afx q (ML uQ h0 x Yh) ?_))));rintro en H ⟨A,rfl,E,D,C⟩;refine rv ?_;replace M:=M.k E;refine st _ (qc (a:=A) (b:=0) q q) (ar q ?_);exact cu (v:=(.bool ((decide (0≤A))))) trivial q ⟨q,tV⟩ ⟨(decide (0≤A)),q,M,(Ph C).symm⟩
theorem RZ (uQ:Up w Q) (s:Ly) :
  Calls Zp 97 #[str s] w fun en w'=>∃r0:Bool,en = .returned (.bool r0)∧Md [] w w'∧eP s=r0:=by
 refine(IW s w).mono fun en w' ⟨he,hm⟩=>⟨eP s,by rw[he],hm ▸ Md.refl [] w,q⟩
theorem ME (uQ:Up w Q) (p:Pr) (p0:p.name.length+p.value.length≤4611686018427387904) :
  Calls Zp 98 #[.agg (Pr.cells p).toArray] w fun en w'=>∃r0:List UInt8,en = .returned (str r0)∧Md [] w w'∧aZ p=r0:=by
 have M:=Md.refl [] w;have H:=uQ;refine enter (n:=9) Tryz.func98 q q q fun B=>ns (eC (cs:=(Pr.cells p)) q q ?_);intro E I A G F C;have D:=uQ _ A;replace A:=ly M.size A;replace M:=M.k F;refine an q (ns (sf q mq (sl (u:=(str p.name)) q jO C q (st _ (FP (a:=p.name) (b:=(([61]:Ly))) q q Yh) (sf q qC (sl (u:=(str p.value)) q jO C q (st _ (FP (a:=(p.name ++ (([61]:Ly)))) (b:=p.value) q q Yh) (ar q ?_))))))));exact cu (v:=(str ((p.name ++ (([61]:Ly))) ++ p.value))) trivial q ⟨q,tV⟩ ⟨(p.name ++ (([61]:Ly))) ++ p.value,q,M,(by rw[aZ]<;>simp(disch:=first|omega|assumption|simp) only [SS,reduceIte])⟩
theorem RY (uQ:Up w Q) (p:Pr) :
  Calls Zp 53 #[.agg (Pr.cells p).toArray] w fun en w'=>∃u0:Value,∃r0:List UInt8,∃r1:Nat,en = .returned (.tuple #[u0,(.int .i64 r1)])∧Md [] w w'∧Ls eD w' Q u0 r0∧r1<9223372036854775808∧kY p=(r0,r1):=by
 have M:=Md.refl [] w;have X:=uQ;have W:∀b,Q b→Q b:=fun _ h=>h;refine enter (n:=17) Tryz.func53 q q q fun B=>ns (eC (cs:=(Pr.cells p)) q q ?_);intro U Z N V G E;have S:=uQ _ N;replace N:=ly M.size N;obtain⟨uQ,M⟩:=k2 G uQ M;refine cE q (an q (au (b9 (ns (sf q mq (sl (u:=(str p.name)) q jO E q (aj agn q (RZ uQ p.name) ?_)))))));rintro en c ⟨T,rfl,G,O⟩;refine rv ?_;obtain⟨E,uQ,M⟩:=k3 G E uQ M;refine st _ (gR q) (an q ?_);refine bV q (fun H=>?_) (fun H=>?_)
 ·(first|(have A:=dT H)|(have A:=dF (eM H))|(have A:=eM H)|(have A:=H));refine ns (cE q (ar q (bG (aV ?_))));exact dB (vs:=[SN,(.int .i64 ((1:Nat):Int))]) trivial q ⟨q,q,tV⟩ q ⟨_,[],1,q,M,(Ls.nil _ _ _),Ym,(by rw[kY]<;>simp(disch:=first|omega|assumption|simp) only [SS,reduceIte,O,A])⟩
 (first|(have A:=dF H)|(have A:=dT (eL H))|(have A:=eL H)|(have A:=H));refine ns (sf q qC (sl (u:=(str p.value)) q jO E q (st _ (qI (s:=p.value) q u9) (st _ (iY (a:=p.value.length) (b:=256) q q) (an q ?_)))));refine bV q (fun I=>?_) (fun I=>?_)
 ·(first|(have C:=dT I)|(have C:=dF (eM I))|(have C:=eM I)|(have C:=I));refine ns (cE q (ar q (bG (aV ?_))));exact dB (vs:=[SN,(.int .i64 ((21:Nat):Int))]) trivial q ⟨q,q,tV⟩ q ⟨_,[],21,q,M,(Ls.nil _ _ _),Ym,(by rw[kY]<;>simp(disch:=first|omega|assumption|simp) only [SS,reduceIte,O,A,C])⟩
 (first|(have C:=dF I)|(have C:=dT (eL I))|(have C:=eL I)|(have C:=I));refine aY (bL (ai (ns ?_)));have Y:=(fM (s:=p.name) (by simp_all)).2;refine st _ (bX (Pr.cells p) q (by exact fp) E q) (aj ahH q (ME uQ p Zw) ?_);rintro en d ⟨L,rfl,G,P⟩;refine rv ?_;obtain⟨uQ,M⟩:=k2 G uQ M;have J:=gC p;rw[P]at J;try simp only[LL,Nat.reduceAdd,Nat.reduceMul]at J
 refine kD (s:=L) u9 fG u5 q (by simp[maxLen];omega) ?_;intro K e G F D;replace F:=Ls.of_by (Q:=Q) F (fun b R _=>uQ b (D b R).1);replace D:∀b,ah K=some b→w.heap.size≤b:=fun b R=>ly M.size (D b R).1;replace M:=M.k G;refine cE q (ar q ?_);exact dB (vs:=[K,(.int .i64 ((0:Nat):Int))]) trivial q ⟨q,q,tV⟩ q ⟨_,L,0,q,M,(F.sub (fun b R _=>W b R)),Ym,(by rw[kY]<;>simp(disch:=first|omega|assumption|simp) only [SS,reduceIte,O,A,C,P])⟩
theorem agi:cM Zp 78=true:=Yz
theorem ahA:cM Zp 79=true:=Yz
structure UI where
  l:List Nat
def UI.cells (x:UI) (v0:Value):List Value :=
  [v0]
theorem CX (uQ:Up w Q) (i:Nat) (a0:i<9223372036854775808) {b1:Nat} {v1_0:Value} (h:UI) (h1:bO w b1 (UI.cells h v1_0) 22) (n1:¬Q b1) (a1_0:Ls ez w Q v1_0 h.l) :
  Calls Zp 78 #[(.int .i64 i),.pointer (some ⟨b1,0,none⟩)] w fun en w'=>∃r0:Bool,en = .returned (.bool r0)∧Md [] w w'∧(!decide (i∈h.l))=r0:=by
 have D:=n1;have M:=Md.refl [] w;have F:=uQ;refine enter (n:=8) Tryz.func78 q q q fun B=>ns (an q (ns (sl (u:=v1_0) q rU h1 q (mv q (aj ahA q (SG uQ a1_0 i Yh) ?_)))));rintro en G ⟨A,rfl,E,C⟩;refine rv ?_;replace M:=M.k E;refine st _ (gR q) (ar q ?_);exact cu (v:=(.bool (!A))) trivial q ⟨q,tV⟩ ⟨!A,q,M,(by rw[C])⟩
theorem TW (uQ:Up w Q) {v0:Value} {s:List Nat} (h0:Ls ez w Q v0 s) {b1:Nat} {v1_0:Value} (h:UI) (h1:bO w b1 (UI.cells h v1_0) 22) (n1:¬Q b1) (a1_0:Ls ez w Q v1_0 h.l) :
  Calls Zp 112 #[v0,.func (.func 78) #[] #[(.pointer (some ⟨b1,0,none⟩))]] w fun en w'=>∃r0:Int,en = .returned (.int .i64 (r0:Int))∧Md [] w w'∧(-9223372036854775808≤r0∧r0<9223372036854775808)∧xD (fun i=>!decide (i∈h.l)) s 0=r0:=by
 have Z:=h0.dN;have D:=n1;have M:=Md.refl [] w;have Y:=uQ;have R:∀b,Q b→Q b:=fun _ h=>h;have J:∀b,Q b→b<w.heap.size→Q b:=fun _ h _=>h;refine enter (n:=19) Tryz.func112 rfl rfl rfl fun B=>ns (an rfl (au (nm rfl (sL rfl iI h0.cV (mv rfl (nt (b9 ?_)))))));obtain⟨r0,F⟩:∃r,xD (fun i=>!decide (i∈h.l)) s 0=r:=⟨_,rfl⟩;have G:=F
 try simp only[List.nil_append]at F
 refine pQ (fun(i:Nat)=>[(8,(.int .i64 i)),(0,v0),(1,(.func (.func 78) #[] #[(.pointer (some ⟨b1,0,none⟩))])),(7,(.int .i64 s.length))]) (fun(i:Nat) w'=>∃Q':Nat→Prop,(∀b,Q' b→Q b)∧(∀b,Q b→b<w.heap.size→Q' b)∧Up w' Q'∧Md [] w w'∧Ls ez w' Q' v0 s∧bO w' b1 (UI.cells h v1_0) 22∧Ls ez w' Q' v1_0 h.l∧¬Q' b1∧i≤s.length∧xD (fun i=>!decide (i∈h.l)) (s.drop i) i=r0) (fun(i:Nat)=>s.length-i) (x0:=0) ?_ ?_ ?_
 ·exact⟨rfl,rfl,rfl,rfl,tV⟩
 ·exact⟨Q,R,J,uQ,M,h0,h1,a1_0,D,Ok,(by have N:=F;first|exact N|exact G|(simp only[List.nil_append]at N;exact N))⟩
 clear M uQ R J D h0 a1_0 h1
 rintro i B d ⟨X,R,J,uQ,M,h0,h1,a1_0,D,V,K⟩;refine ns (st _ (dV (a:=i) (b:=s.length) rfl rfl) (nt (au ?_)));refine bV rfl (fun H=>?_) (fun H=>?_)
 ·(first|(have E:=dT H)|(have E:=dF (eM H))|(have E:=eM H)|(have E:=H));refine aY (ai (au (b9 (nm rfl (an rfl (ns (m2 rfl rfl (mv rfl (st _ (bB (i:=i) 1 rfl rfl iI el3 h0.cV Ok) ?_)))))))));obtain⟨T,L⟩:=dQ (l:=s) (i:=i) Yh;obtain⟨c,S,I⟩:=h0.get L;obtain⟨rfl,U⟩:=S;replace I:At _ v0 (i*1) [(.int .i64 T)]:=I;refine st _ ((cg (kk:=i*1) 0 rfl rfl gB I rfl).to (b:=(.int .i64 T)) rfl) (lS (cs:=[(.pointer (some ⟨b1,0,none⟩))]) rfl agi rfl (CX uQ T Yh h h1 D a1_0) ?_);rintro en e ⟨W,rfl,P,O⟩;refine rv ?_;obtain⟨h0,h1,a1_0,uQ,M⟩:=k5 P h0 h1 a1_0 uQ M;refine ak ?_;clear I;refine ai ?_;refine bV rfl (fun A=>?_) (fun A=>?_)
  ·(first|(have C:=dT A)|(have C:=dF (eM A))|(have C:=eM A)|(have C:=A));refine nm rfl (ar rfl (bG (aV (aV (bG (aV ?_))))));exact cu (v:=(.int .i64 (((i:Nat):Int):Int))) trivial rfl ⟨rfl,tV⟩ ⟨((i:Nat):Int),rfl,M,Ym,(G.trans (K.symm.trans (Y8 (q:=(fun i=>!decide (i∈h.l))) L (by rw[← A];exact O))))⟩
  (first|(have C:=dF A)|(have C:=dT (eL A))|(have C:=eL A)|(have C:=A));refine aY (bL (ai (ax (st _ (rA (a:=i) (b:=1) rfl rfl Ok) (mv rfl (nt ?_))))));refine pR (x0:=(i+1)) Ok ⟨(dA rfl Ok),rfl,rfl,rfl,tV⟩ ⟨X,R,J,uQ,M,h0,h1,a1_0,D,Ok,(by have N:=K;rw[ab9 (q:=(fun i=>!decide (i∈h.l))) L (by rw[← A];exact O)]at N;exact N)⟩
 (first|(have E:=dF H)|(have E:=dT (eL H))|(have E:=eL H)|(have E:=H));refine cw (bD (bD (cZ (ai (ns (ar rfl ?_))))));exact cu (v:=(.int .i64 ((-1):Int))) trivial rfl ⟨rfl,tV⟩ ⟨(-1),rfl,M,Ym,(G.trans (K.symm.trans (Y3 Ok)))⟩
theorem afw:cM Zp 112=true:=Yz
theorem aau {w:World} {Q lo:Nat→Prop} {v:Value} {l:List Nat} (h0:Ow ez 3 lo w Q v l) (uQ:Up w Q) {bx:Nat} {vh:Value} (h:UI) (hX:bO w bx (UI.cells h vh) 22) (nX:¬Q bx) (hH:Ls ez w Q vh h.l) :
  Calls Zp 77 #[v,.func (.func 78) #[] #[.pointer (some ⟨bx,0,none⟩)]] w fun en w'=>∃v',en = .returned v'∧Md (ah v).toList w w'∧(∀b,ah v'=some b→ah v=some b)∧Ow ez 3 lo w' Q v' (l.filter fun i=>decide (i∈h.l)):=by
 have L:=h0.read.dN
 have Y:∀x∈l,x<9223372036854775808:=fun x V=>by
  obtain⟨i,hi⟩:=List.mem_iff_getElem?.1 V;obtain⟨c,k,_⟩:=h0.read.get hi;exact k.2
 have K:∀b,ah v=some b→b≠bx:=fun b N e=>by
  have:=u7 h0 hX Jk;exact this (by rw[N];simp[e])
 have hk:(fun x:Nat=>!(fun i=>!decide (i∈h.l)) x)=fun i=>decide (i∈h.l):=(by funext x;simp);refine enter (n:=42) Tryz.func77 rfl rfl rfl fun B=>ns (an rfl (ns (m2 rfl rfl (aj afw rfl (TW (Q:=fun b=>Q b∨ah v=some b) (fun b N=>.inl (uQ b N)) (h0.own (Q':=fun b=>Q b∨ah v=some b) (fun b N=>.inl N) (fun b N=>.inr N)) h hX (fun d=>d.elim nX (fun e=>K _ e rfl)) (hH.sub fun b N _=>.inl N)) ?_))));rintro en w1 ⟨z,rfl,A,hz,hF⟩;refine rv ?_;obtain⟨h0,hX,hH,uQ⟩:=k4 A h0 hX hH uQ;have M:Md (ah v).toList w w1:=A.mono Oj;clear A;refine an rfl (au (nm rfl (st _ (kJ (a:=z) (b:=(-1)) rfl rfl) (nt ?_))));have sp:=CB (q:=fun i=>!decide (i∈h.l)) l 0 z hF;rw[hk]at sp;refine bV rfl (fun I=>?_) (fun I=>?_)
 ·have F:=dT I
  refine nm rfl (ar rfl (aV ?_));rcases sp with⟨_,e⟩|⟨i,h,_⟩
  ·exact gI trivial rfl rfl ⟨_,rfl,M,fun b h=>h,by rw[e];exact h0⟩
  ·exfalso;omega
 ·have F:=dF I
  rcases sp with⟨h,_⟩|⟨i0,hz0,Am,W⟩
  ·exact absurd h F
  rw[Nat.zero_add]at hz0;subst hz0;obtain⟨b,E,rfl,k,D,Aa,hQ⟩:=Ow.rwn h0 Ok;clear h0 hF I F hz;replace K:=K b rfl;have Z:l.length≤E:=(by obtain⟨_,_,_,h,_⟩:=D;exact h);have S:GC (.slice (some ⟨b,0,none⟩) l.length E) l.length:=⟨_,_,rfl,Z,k,by simp⟩;replace M:Md [b] w w1:=M;refine aY (ai (au (nm rfl (st _ (rA (a:=i0) (b:=1) rfl rfl Ok) (an rfl (b9 ?_))))))
  refine jH (fun(H:List Nat) (i:Nat) (j:Nat)=>[(5,(.int .i64 i)),(6,(.int .i64 j)),(0,.slice (some ⟨b,0,none⟩) l.length E),(1,.func (.func 78) #[] #[.pointer (some ⟨bx,0,none⟩)])])
   (fun(H:List Nat) (i:Nat) (j:Nat) w'=>Md [b] w w'∧Up w' Q∧bO w' bx (UI.cells h vh) 22∧Ls ez w' Q vh h.l∧xJ 3 w' b E H∧H.length=l.length∧i<j∧j≤l.length∧(∀q,j≤q→H[q]? = l[q]?)∧H.take i ++ (l.drop j).filter (fun i=>decide (i∈h.l))=l.filter (fun i=>decide (i∈h.l)))
   (fun(H:List Nat) (i:Nat) (j:Nat)=>l.length-j) (x0:=l) (x1:=i0) (x2:=i0+1) ?_ ?_ ?_
  ·exact⟨rfl,rfl,rfl,rfl,tV⟩
  ·exact⟨M,uQ,hX,hH,D,rfl,by omega,by omega,fun _ _=>rfl,W⟩
  ·clear M uQ hX hH D W
   rintro H i j B w2 ⟨M,uQ,hX,hH,D,y,Ao,hj,d,R⟩;refine au (ns (m2 rfl rfl (sL rfl iI S (st _ (dV (a:=j) (b:=l.length) rfl rfl) (nt ?_)))));refine bV rfl (fun T=>?_) (fun T=>?_)
   ·have P:=dT T
    obtain⟨x,V⟩:=dQ (l:=l) (i:=j) P;have hx':H[j]? = some x:=(d j (Nat.le_refl _)).trans V;have Ad:=List.mem_of_getElem? V;rw[di V,List.filter_cons]at R;refine aY (ai (au (b9 (ns (m2 rfl rfl (st _ (bB (i:=j) 1 rfl rfl iI el3 S Ok) (st _ ((cg (kk:=j*1) 0 rfl rfl gB (D.at_ hx' (Nat.zero_add _ |>.trans (Nat.mul_one _))) rfl).to (b:=vN x) rfl) (an rfl (nm rfl (mv rfl ?_))))))))));refine lS (cs:=[.pointer (some ⟨bx,0,none⟩)]) rfl agi rfl (CX uQ x (Y x Ad) h hX nX hH) ?_;rintro en w3 ⟨g,rfl,A,hg⟩;refine rv ?_;obtain⟨M,hX,hH,uQ,D⟩:=k5 A M hX hH uQ D;clear A;refine st _ (gR rfl) (nt ?_);refine bV rfl (fun G=>?_) (fun G=>?_)
    ·have U:decide (x∈h.l)=true:=by rw[← hg]at G;simpa using G
     rw[if_pos U]at R;refine ns (m2 rfl rfl (mv rfl (st _ ((bB (i:=i) 1 rfl rfl iI el3 S Ok).to (b:=.pointer (some ⟨b,i,none⟩)) (by simp[lC,Addr.jL])) ?_)));obtain⟨r,f,O,C⟩:=D.into (i:=i) (z:=x) Ok;refine bI (b:=b) (j:=i) rfl rfl gB rfl f O ?_;intro w4 A J;replace D:=C _ J;have S:∀p∈[b],¬Q p:=(by intro p X;rw[List.mem_singleton]at X;subst X;exact hQ);replace hX:=hX.md A (by rw[List.mem_singleton];exact fun e=>K e.symm);replace hH:=hH.md A S;replace uQ:=uQ.md A;clear S;replace M:=M.gw A Oj;clear A f J C;refine nt (ax (mv rfl (st _ (rA (a:=i) (b:=1) rfl rfl Ok) (cE rfl (ak (bL (ai (ax (mv rfl (st _ (rA (a:=j) (b:=1) rfl rfl Ok) (an rfl ?_)))))))))));refine ic (x0:=H.set i x) (x1:=i+1) (x2:=j+1) Ok ⟨(dA rfl Ok),(dA rfl Ok),rfl,rfl,tV⟩ ⟨M,uQ,hX,hH,D,by simpa using y,by omega,by omega,fun q Ab=>by rw[List.getElem?_set_ne Ok];exact d q Ok,?_⟩;rw[sw Ok,List.append_assoc];exact R
    ·have U:¬decide (x∈h.l)=true:=by rw[← hg]at G;simpa using G
     rw[if_neg U]at R;refine aY (bL (ai (ax (mv rfl (st _ (rA (a:=j) (b:=1) rfl rfl Ok) (an rfl ?_))))));exact ic (x0:=H) (x1:=i) (x2:=j+1) Ok ⟨rfl,(dA rfl Ok),rfl,rfl,tV⟩ ⟨M,uQ,hX,hH,D,y,by omega,by omega,fun q Ab=>d q Ok,R⟩
   ·have P:=dF T
    rw[List.drop_of_length_le Ok,List.filter_nil,List.append_nil]at R;refine cw (bD (bD (cZ (ai (ns (m2 rfl rfl (st _ (cC.to (b:=.slice (some ⟨b,i,none⟩) (l.length-i) (E-i)) (by exact fe 1 i l.length iI el3 rfl S Ok Ok ⟨_,rfl⟩ rfl) (AH Ok)) ?_)))))));obtain⟨r,f,O,C⟩:=D.clear (i:=i) Ok;rw[y]at O C;refine KM (o:=i) (m:=l.length-i) iI z3 (by intro u hu;simp at hu;subst hu;rfl) rfl Ok f O ?_;intro w6 us A Ac J;replace D:=C _ us Ac J;rw[R]at D;replace M:=M.gw A Oj;refine nt (ns (m2 rfl rfl (st _ (cC.to (b:=.slice (some ⟨b,0,none⟩) i E) (by exact fe 1 0 i iI el3 rfl S Ok Ok rfl ⟨_,rfl⟩) (KN Ok)) (ar rfl ?_))))
    repeat (first|refine aV ?_|refine bG ?_)
    have t:i=(l.filter (fun i=>decide (i∈h.l))).length:=(by rw[← R,List.length_take];omega);refine gI trivial rfl rfl ⟨_,rfl,M,fun p h=>by simpa [ah]using h,?_⟩;rw[t];exact D.ow k Aa hQ fun x V=>Y x (List.mem_filter.1 V).1
theorem EZ {w:World} {Q lo:Nat→Prop} {v:Value} {xs:List Nat} (h0:Ow ez 3 lo w Q v xs) :
  Calls Zp 35 #[v] w fun en w'=>∃v',en = .returned v'∧Md (ah v).toList w w'∧(∀b,ah v'=some b→ah v=some b)∧Ow ez 3 lo w' Q v' (jG xs):=by
 have L:=h0.read.dN
 have e:∀x∈xs,x<9223372036854775808:=fun x H=>by
  obtain⟨i,hi⟩:=List.mem_iff_getElem?.1 H;obtain⟨c,E,_⟩:=h0.read.get hi;exact E.2
 refine enter (n:=61) Tryz.func35 q q q fun B=>ns (an q (au (nm q (sL q iI h0.cV (st _ (dV (a:=xs.length) (b:=2) q q) (nt ?_))))));refine bV q (fun h8=>?_) (fun h8=>?_)
 ·have d:=dT h8
  refine nm q (ar q (aV ?_));exact gI trivial q q ⟨_,q,Md.refl _ w,(fun b h=>h),(yD d).symm ▸ h0⟩
 have d:=dF h8
 obtain⟨b,A,rfl,E,C,g,hQ⟩:=h0.rwn Ok;clear h0;have f:xs.length≤A:=(by obtain⟨_,_,_,h,_⟩:=C;exact h);have S:GC (.slice (some ⟨b,0,none⟩) xs.length A) xs.length:=⟨_,_,q,f,E,by simp⟩;refine aY (ai (au (ns (an q (b9 ?_)))));have M:=Md.refl [b] w;refine pQ (fun(i:Nat)=>[(3,(.int .i64 i)),(0,.slice (some ⟨b,0,none⟩) xs.length A)]) (fun(i:Nat) w'=>Md [b] w w'∧xJ 3 w' b A xs∧1≤i∧i≤xs.length∧xs.take i ++ EM (xs.getD (i-1) 0) (xs.drop i)=jG xs) (fun(i:Nat)=>xs.length-i) (x0:=1) ?_ ?_ ?_
 ·exact⟨q,q,tV⟩
 ·exact⟨M,C,Nat.le_refl _,by omega,yE Ok⟩
 clear M C
 rintro i B w1 ⟨M,C,Ap,Aq,Y⟩;refine au (ns (m2 q q (sL q iI S (st _ (dV (a:=i) (b:=xs.length) q q) (nt ?_)))));refine bV q (fun T=>?_) (fun T=>?_)
 ·have P:=dT T
  refine aY (ai (au (b9 (au ?_))));obtain⟨x,H⟩:=dQ (l:=xs) (i:=i) P;obtain⟨y,hy⟩:=dQ (l:=xs) (i:=i-1) Ok;have D:=C;refine cT (ml 9) [9] (fun w'=>Md [] w1 w') mixed Yz ?_;intro w3 F;refine⟨F.mono Oj,?_⟩;refine mo q (mo q (mz (fun w' E=>bB (i:=i) 1 q q iI el3 S Ok) (mz (fun w' E=>(cg (kk:=i*1) 0 q q gB ((D.at_ H Ok).o E) q).to (b:=vN x) q) (mo q (mo q (mz (fun w' E=>rS (a:=i) (b:=1) q q Ok) (mz (fun w' E=>bB (i:=i-1) 1 q q iI el3 S Ok) (mz (fun w' E=>(cg (kk:=(i-1)*1) 0 q q gB ((D.at_ hy Ok).o E) q).to (b:=vN y) q) (d9 ?_)))))))));obtain⟨C,M⟩:=k2 F C M;clear D;refine st _ (ir (a:=x) (b:=y) q q) (nt ?_);rw[GQ H,wu hy]at Y;refine bV q (fun U=>?_) (fun U=>?_)
  ·have I:=dT U
   rw[if_pos I]at Y;have K:GC (.slice (some ⟨b,i,none⟩) (xs.length-i) (A-i)) (xs.length-i):=⟨_,_,q,by omega,by omega,by simp⟩;refine ns (m2 q q (st _ (cC.to (b:=.slice (some ⟨b,i,none⟩) (xs.length-i) (A-i)) (by exact fe 1 i xs.length iI el3 q S Ok Ok ⟨_,q⟩ q) (AH Ok)) (an q (au (ns (cE q (nt (b9 ?_))))))))
   refine jH (fun(O:List Nat) (j:Nat) (k:Nat)=>[(3,(.int .i64 j)),(5,(.int .i64 k)),(0,.slice (some ⟨b,0,none⟩) xs.length A),(4,.slice (some ⟨b,i,none⟩) (xs.length-i) (A-i))])
    (fun(O:List Nat) (j:Nat) (k:Nat) w'=>Md [b] w w'∧xJ 3 w' b A O∧O.length=xs.length∧i≤j∧j+1≤i+k∧i+k≤xs.length∧(∀qv,i+k-1≤qv→O[qv]? = xs[qv]?)∧O.take j ++ EM (xs.getD (i+k-1) 0) (xs.drop (i+k))=jG xs)
    (fun(O:List Nat) (j:Nat) (k:Nat)=>xs.length-k) (x0:=xs) (x1:=i) (x2:=1) ?_ ?_ ?_
   ·exact⟨q,q,q,q,tV⟩
   ·exact⟨M,C,q,Nat.le_refl _,Nat.le_refl _,by omega,fun qv _=>rfl,by rw[Nat.add_sub_cancel,wu H];exact Y⟩
   clear M C
   rintro O j k B w4 ⟨M,C,hl,Ar,As,hk,p,R⟩;have Am:GC (.slice (some ⟨b,0,none⟩) xs.length A) xs.length:=S;refine au (ns (m2 q q (sL q iI K (st _ (dV (a:=k) (b:=xs.length-i) q q) (nt ?_)))));refine bV q (fun V=>?_) (fun V=>?_)
   ·have Z:=dT V
    refine aY (ai (au (b9 (au ?_))));obtain⟨s,r⟩:=dQ (l:=xs) (i:=i+k) Ok;obtain⟨t,ht⟩:=dQ (l:=xs) (i:=i+k-1) Ok;have hs':=(p (i+k) Ok).trans r;have ht':=(p (i+k-1) Ok).trans ht;have D:=C;refine cT (ml 9) [9] (fun w'=>Md [] w4 w') mixed Yz ?_;intro w5 F;refine⟨F.mono Oj,?_⟩;refine mo q (mo q (mz (fun w' E=>bB (i:=k) 1 q q iI el3 K Ok) (mz (fun w' E=>(cg (kk:=k*1) 0 q q gB ((D.at_ hs' Ok).o E) q).to (b:=vN s) q) (mo q (mo q (mz (fun w' E=>rS (a:=k) (b:=1) q q Ok) (mz (fun w' E=>bB (i:=k-1) 1 q q iI el3 K Ok) (mz (fun w' E=>(cg (kk:=(k-1)*1) 0 q q gB ((D.at_ ht' Ok).o E) q).to (b:=vN t) q) (d9 ?_)))))))));obtain⟨C,M⟩:=k2 F C M;clear D;refine st _ (eN (a:=s) (b:=t) q q) (nt ?_);rw[GQ r,wu ht]at R;refine bV q (fun W=>?_) (fun W=>?_)
    ·have J:¬s=t:=by simpa using W
     rw[if_neg J]at R;refine ns (m2 q q (mv q (mv q (st _ (bB (i:=k) 1 q q iI el3 K Ok) (st _ ((cg (kk:=k*1) 0 q q gB (C.at_ hs' Ok) q).to (b:=vN s) q) (st _ ((bB (i:=j) 1 q q iI el3 S Ok).to (b:=.pointer (some ⟨b,j,none⟩)) (by simp[lC,Addr.jL])) ?_))))));obtain⟨Aa,hB,N,G⟩:=C.into (i:=j) (z:=s) Ok;refine bI (b:=b) (j:=j) q q gB q hB N ?_;intro w6 hm X;replace C:=G _ X;replace M:=M.gw hm Oj;refine nt (ax (mv q (st _ (rA (a:=j) (b:=1) q q Ok) (cE q (ak (bL (ai (ax (mv q (st _ (rA (a:=k) (b:=1) q q Ok) (an q ?_)))))))))));refine ic (x0:=O.set j s) (x1:=j+1) (x2:=k+1) Ok ⟨(dA q Ok),(dA q Ok),q,q,tV⟩ ⟨M,C,by simpa using hl,by omega,by omega,by omega,fun qv Ag=>by rw[List.getElem?_set_ne Ok];exact p qv Ok,?_⟩;rw[show i+(k+1)-1=i+k by omega,wu r,show i+(k+1)=i+k+1 by omega,sw Ok,List.append_assoc];exact R
    have J:s=t:=by simpa using W
    rw[if_pos J]at R;refine aY (bL (ai (ax (mv q (st _ (rA (a:=k) (b:=1) q q Ok) (an q ?_))))));refine ic (x0:=O) (x1:=j) (x2:=k+1) Ok ⟨q,(dA q Ok),q,q,tV⟩ ⟨M,C,hl,by omega,by omega,by omega,fun qv Ag=>p qv Ok,?_⟩;rw[show i+(k+1)-1=i+k by omega,wu r,show i+(k+1)=i+k+1 by omega];exact R
   have Z:=dF V
   rw[OH Ok,List.append_nil]at R;refine cw (bD (bD (cZ (ai (ns (m2 q q (st _ (cC.to (b:=.slice (some ⟨b,j,none⟩) (xs.length-j) (A-j)) (by exact fe 1 j xs.length iI el3 q S Ok Ok ⟨_,q⟩ q) (AH Ok)) ?_)))))));obtain⟨Aa,hB,N,G⟩:=C.clear (i:=j) Ok;rw[hl]at N G;refine KM (o:=j) (m:=xs.length-j) iI z3 (by intro u hu;simp at hu;subst hu;rfl) q Ok hB N ?_;intro w6 us hm Ah X;replace C:=G _ us Ah X;rw[R]at C;replace M:=M.gw hm Oj;refine nt (ns (m2 q q (st _ (cC.to (b:=.slice (some ⟨b,0,none⟩) j A) (by exact fe 1 0 j iI el3 q S Ok Ok q ⟨_,q⟩) (KN Ok)) (ar q ?_))))
   repeat (first|refine aV ?_|refine bG ?_)
   have Ad:j=(jG xs).length:=(by rw[← R,List.length_take];omega);refine gI trivial q q ⟨_,q,M,(fun b h=>h),?_⟩;rw[Ad];exact C.ow E g hQ fun x H=>e x (by first|exact uE H|exact H)
  have I:=dF U
  rw[if_neg I]at Y;refine aY (bL (ai (ax (mv q (st _ (rA (a:=i) (b:=1) q q Ok) (an q ?_))))));refine pR (x0:=(i+1)) Ok ⟨(dA q Ok),q,tV⟩ ⟨M,C,by omega,by omega,?_⟩;rw[Nat.add_sub_cancel,wu H,List.take_add_one,H,Option.toList_some,List.append_assoc];exact Y
 have P:=dF T
 rw[OH Ok,List.append_nil,List.take_of_length_le Ok]at Y;refine cw (bD (bD (cZ (ai (nm q (ar q ?_))))))
 repeat (first|refine aV ?_|refine bG ?_)
 refine gI trivial q q ⟨_,q,M,(fun b h=>h),?_⟩;rw[← Y];exact C.ow E g hQ fun x H=>e x (by first|exact uE H|exact H)
theorem WS (uQ:Up w Q) (k:Int) (a0:(-9223372036854775808≤k∧k<9223372036854775808)) :
  Calls Zp 170 #[(.int .i64 (k:Int))] w fun en w'=>∃r0:Bool,en = .returned (.bool r0)∧Md [] w w'∧decide (k=4∨k=5)=r0:=by
 have M:=Md.refl [] w;have D:=uQ;refine enter (n:=9) Tryz.func170 q q q fun B=>ns (an q (nm q (st _ (kJ (a:=k) (b:=4) q q) (mv q ?_))));refine cB (t:=5) q (fun A=>?_) (fun A=>?_)
 ·(have C:=dT A);refine sk A (sk A (st _ (bF q A q) (ar q ?_)));exact cu (v:=(.bool true)) trivial q ⟨q,tV⟩ ⟨true,q,M,(by simp_all)⟩
 (have C:=dF A);refine sg A (bf q) (sg A (kJ (a:=k) (b:=5) q q) (st _ (bE q A q) (ar q ?_)));exact cu (v:=(.bool ((decide (k=5))))) trivial q ⟨q,tV⟩ ⟨(decide (k=5)),q,M,(by simp_all)⟩
theorem WY:uH Zp 218 2 16=true:=Yz
theorem afI:cM Zp 170=true:=Yz
theorem ag9:fw Zp 218=some [(0,1),(1,1)]:=Yz
theorem VG:Zp.underlying 214=some (.slice 218):=Yz
theorem z218:ea Zp 218=some [.int .u64 0,.int .u64 0]:=Yz
theorem uG (uQ:Up w Q) {v0:Value} {b:Ly} (h0:Ls eD w Q v0 b) (p:Nat) (a1:p<18446744073709551616) (k:Int) (a2:(-9223372036854775808≤k∧k<9223372036854775808)) (p0:b.length≤1000000) :
  Calls Zp 158 #[v0,(.int .u64 p),(.int .i64 (k:Int))] w fun en w'=>∃u0:Value,∃r0:List mY,∃r1:Nat,en = .returned (.tuple #[u0,(.int .i64 r1)])∧Md [] w w'∧Ls BF w' Q u0 r0∧r1<9223372036854775808∧jI b p k=(r0,r1):=by
 have L0:=h0.dN;have M:=Md.refl [] w;have Ak:=uQ;have d:∀b,Q b→Q b:=fun _ h=>h;have J:∀b,Q b→b<w.heap.size→Q b:=fun _ h _=>h;refine enter (n:=48) Tryz.func158 q q q fun B=>ns (cE q (an q (au (nm q (aj afI q (WS uQ (k) Ok) ?_)))));rintro en w1 ⟨Ay,rfl,E,A1⟩;refine rv ?_;obtain⟨h0,uQ,M⟩:=k3 E h0 uQ M;refine st _ (gR q) (nt ?_);refine bV q (fun V=>?_) (fun V=>?_)
 ·(have r:=eM V);refine ns (cE q (ar q (aV ?_)));exact dB (vs:=[SN,(.int .i64 ((1:Nat):Int))]) trivial q ⟨q,q,tV⟩ q ⟨_,[],1,q,M,(Ls.nil _ _ _),Ok,(agP (by simp_all))⟩
 (have r:=eL V);refine aY (ai (au ?_));obtain⟨kn,Ae⟩:∃n:Nat,k=(n:Int):=⟨k.toNat,by simp_all;omega⟩;subst Ae;have hk:(kn:Int)=4∨(kn:Int)=5:=(by simp_all);refine ax (m2 q q (mv q (aj XR q (vO uQ h0 p Ok kn Ok 0 Ok 16 Ok Ok Ok) ?_)));rintro en w2 ⟨Ax,N,O,rfl,E,U,Av,Y⟩;refine rv ?_;obtain⟨uQ,M⟩:=k2 E uQ M;refine mv q (se q q (se q q (cE q (an q (au (nm q (st _ (eN (a:=O) (b:=0) q q) (nt ?_))))))));refine bV q (fun W=>?_) (fun W=>?_)
 ·(have G:=dT W);refine nm q (cE q (ar q (aV ?_)));exact dB (vs:=[SN,(.int .i64 O)]) trivial q ⟨q,q,tV⟩ q ⟨_,[],O,q,M,(Ls.nil _ _ _),Yj,(aeS hk Y G)⟩
 (have G:=dF W);refine aY (ai (au ?_));have bo:=rB Y (Classical.not_not.1 G);refine ax (mv q (aj XT q (yH uQ U Ok Ok) ?_));rintro en w3 ⟨H,C,rfl,E,A,u⟩;refine rv ?_;obtain⟨uQ,M⟩:=k2 E uQ M;refine an q (au ?_);have ll:C.length=N.length/8:=(by rw[← u,kr]);refine ax (an q (au (ns (cE q (nt (b9 ?_))))));refine jH (fun(g:Value) (l:List mY) (i:Nat)=>[(11,g),(12,(.int .i64 i)),(10,H)]) (fun(g:Value) (l:List mY) (i:Nat) w'=>∃Q':Nat→Prop,(∀b,Q' b→Q b)∧(∀b,Q b→b<w.heap.size→Q' b)∧Up w' Q'∧Md [] w w'∧Ow BF 218 (bM [] w) w' Q' g l∧Ls dw w' Q' H C∧i%2=0∧i≤C.length∧l=mC N 0 (i/2)) (fun(g:Value) (l:List mY) (i:Nat)=>C.length-i) (x0:=SN) (x1:=([]:List mY)) (x2:=0) ?_ ?_ ?_
 ·exact⟨q,q,q,tV⟩
 ·exact⟨Q,d,J,uQ,M,(Ow.nil _ _ _ _ _),A,Ok,Ok,q⟩
 clear M uQ d J h0 U A
 rintro g l i B w4 ⟨Q5,d,J,uQ,M,F,A,z,As,L⟩;refine au (ns (m2 q q (sL q jj A.cV (st _ (dV (a:=i) (b:=C.length) q q) (nt ?_)))));refine bV q (fun X=>?_) (fun X=>?_)
 ·(have t:=dT X);refine aY (ai (au (b9 ?_)));have D:=A;refine cT [(0,true),(1,true),(2,true),(3,true),(4,true),(5,true),(6,true),(7,true),(8,true),(9,true),(10,true),(11,false)] [12,13] (fun w'=>Md [] w4 w') mixed Yz ?_;intro w6 I;refine⟨I.mono Oj,?_⟩;have MC:=I.mono (T:=[]) Oj;have lq:l.length=i/2:=(by rw[L,xu]);refine mo q (mo q (mo q (mz (fun w' c=>bB (i:=i) 1 q q jj ew A.cV Ok) ?_)));obtain⟨e,x⟩:=dQ (l:=C) (i:=i) Ok;obtain⟨c8,Af,P⟩:=D.get x;obtain⟨rfl,Aq⟩:=Af;replace P:At _ H (i*1) [(.int .u64 e)]:=P;refine mz (fun w' c=>(cg (kk:=i*1) 0 q q bH (P.o c) q).to (b:=(.int .u64 e)) q) (mo q (mo q (mz (fun w' c=>rA (a:=i) (b:=1) q q Ok) (mz (fun w' c=>bB (i:=i+1) 1 q q jj ew A.cV Ok) ?_))));obtain⟨f,y⟩:=dQ (l:=C) (i:=i+1) Ok;obtain⟨A0,Ag,S⟩:=D.get y;obtain⟨rfl,Ar⟩:=Ag;replace S:At _ H ((i+1)*1) [(.int .u64 f)]:=S;refine mz (fun w' c=>(cg (kk:=(i+1)*1) 0 q q bH (S.o c) q).to (b:=(.int .u64 f)) q) (mz (fun w' c=>bY (us:=[[(.int .u64 e)],[(.int .u64 f)]]) (cs:=(mY.cells (({first:=e,tail:=f}:mY)))) [(0,0,1),(1,1,1)] z218 ag9 q q ⟨q,q,tV⟩ ⟨q,q,tV⟩ q q) ?_);obtain⟨F,A,uQ,M⟩:=k4 I F A uQ M;refine kZ ?_ rfl;refine bg [(mY.cells (({first:=e,tail:=f}:mY)))] VG WY Jk Jk q q ⟨q,tV⟩ ⟨q,tV⟩ q Jk ?_;intro Am A2 o Au E K;have Ab:=uQ _ o
  obtain⟨F,A,uQ,M,MC⟩:=k5 E F A uQ M MC;replace K:=Ls.cK (m:=1) (R:=Q5) (T:=BF) (xs:=[({first:=e,tail:=f}:mY)]) K ⟨_,_,q,(FV (by exact⟨Ok,Ok⟩)),q⟩ q Jk Ab;refine ak ⟨q,MC,?_⟩;refine d9 ?_;clear D;clear MC;refine dZ (sz:=2) (by rfl) VG WY q q F K (fun _ h _=>h) uQ (bM.new M) Yk Yk ?_;intro Al A3 Ad sQ sT Aa v E hS _ Ah;have j:=F;clear F;replace d:=tT d sT;replace J:=fun b Z hl=>sQ b (J b Z hl) (lj hl M.size);replace A:=(A.sub sQ).md E hS;replace uQ:=uQ.md E;replace M:=M.cP E (fun b Z=>(j.2 b Z).1);replace uQ:=Aa;clear Aa sQ sT hS Ah;refine cE q (ak ?_);clear P;clear S;refine bL (ai (ax (mv q (st _ (rA (a:=i) (b:=2) q q Ok) (an q ?_)))));refine ic (x0:=Al) (x1:=(l ++ ([({first:=e,tail:=f}:mY)]))) (x2:=(i+2)) Ok ⟨q,(dA q Ok),q,tV⟩ ⟨Ad,d,J,uQ,M,v,A,Ok,Ok,(UW L z u.symm x y)⟩
 (have t:=dF X);refine cw (bD (bD (cZ (ai (nm q (cE q (ar q ?_)))))));exact dB (vs:=[g,(.int .i64 ((0:Nat):Int))]) trivial q ⟨q,q,tV⟩ q ⟨_,l,0,q,M,(F.ls (fun b Z=>d b Z) (bM.up Ak)),Ok,(aeT hk Y G (by rw[L,show i/2=N.length/16 by omega]))⟩
theorem adh:cM Zp 158=true:=Yz
theorem NW (uQ:Up w Q) {v0:Value} {v:dH} (h0:Pt dR 135 w Q v0 v) (k:Int) (a1:(-9223372036854775808≤k∧k<9223372036854775808)) (p0:v.b.length≤1000000) (p1:16≤v.h.n.getD 2 0) (p2:16≤v.h.n.getD 4 0) :
  Calls Zp 131 #[v0,(.int .i64 (k:Int))] w fun en w'=>∃u0:Value,∃r0:List mY,∃r1:Nat,en = .returned (.tuple #[u0,(.int .i64 r1)])∧Md [] w w'∧Ls BF w' Q u0 r0∧r1<9223372036854775808∧su v.h.n v.b k=(r0,r1):=by
 obtain⟨l,o,rfl,g,h0,po⟩:=h0;obtain⟨j,rfl,Y,O⟩:=e6 po;have M:=Md.refl [] w;have r:=uQ;have i:∀b,Q b→Q b:=fun _ h=>h;refine enter (n:=55) Tryz.func131 q q q fun B=>ns (cE q (an q (au ?_)));have C:=h0;refine cT (ml 11) [11] (fun w'=>Md [] w w') mixed Yz ?_;intro y A;refine⟨A.mono Oj,?_⟩;have Z:=A.mono (T:=[]) Oj;refine mo q (mz (fun w' D=>cH q) (mz (fun w' D=>aU q mL) (mz (fun w' D=>aU q zF) (mz (fun w' D=>(aA q bH (C.o D) q).to (b:=(.int .u64 ((v.h.n.getD 2 0:Nat):Int))) q) ?_))));have z:v.h.n.getD 2 0<18446744073709551616:=(fJ Y.2.2.2.2.2.2.2.1 2);refine mo q (mz (fun w' D=>cH q) (mz (fun w' D=>aU q mL) (mz (fun w' D=>aU q wB) (mz (fun w' D=>(aA q bH (C.o D) q).to (b:=(.int .u64 ((v.h.n.getD 3 0:Nat):Int))) q) ?_))));have q6:v.h.n.getD 3 0<18446744073709551616:=(fJ Y.2.2.2.2.2.2.2.1 3);refine mz (fun w' D=>eU q) (d9 ?_);obtain⟨O,h0,uQ,M⟩:=k4 A O h0 uQ M;clear C;clear Z;refine an q (au (nm q (st _ (Ni (a:=k) (b:=4) q q) (nt ?_))));refine bV q (fun U=>?_) (fun U=>?_)
 ·(have X:=dT U);have C:=h0;refine cT (ml 11) [11] (fun w'=>Md [] y w') mixed Yz ?_;intro w7 A;refine⟨A.mono Oj,?_⟩;have Z:=A.mono (T:=[]) Oj;refine mo q (mz (fun w' D=>cH q) (mz (fun w' D=>aU q mL) (mz (fun w' D=>aU q wC) (mz (fun w' D=>(aA q bH (C.o D) q).to (b:=(.int .u64 ((v.h.n.getD 4 0:Nat):Int))) q) ?_))));have q8:v.h.n.getD 4 0<18446744073709551616:=(fJ Y.2.2.2.2.2.2.2.1 4);refine mo q (mz (fun w' D=>cH q) (mz (fun w' D=>aU q mL) (mz (fun w' D=>aU q wD) (mz (fun w' D=>(aA q bH (C.o D) q).to (b:=(.int .u64 ((v.h.n.getD 5 0:Nat):Int))) q) ?_))));have q9:v.h.n.getD 5 0<18446744073709551616:=(fJ Y.2.2.2.2.2.2.2.1 5);refine mz (fun w' D=>eU q) (d9 ?_);obtain⟨O,h0,uQ,M⟩:=k4 A O h0 uQ M;clear C;clear Z;refine an q (nm q (sn q (sf q o8 (sl (u:=j) q fC h0 q (mv q (st _ (lO (a:=(v.h.n.getD 4 0)) (b:=16) 18446744073709551616 q q q Ok) (mv q (aj adh q (uG uQ O ((v.h.n.getD 4 0)-16) Ok (k) Ok Ok) ?_))))))));rintro en t ⟨V,J,K,rfl,d,F,e,R⟩;refine rv ?_;replace M:=M.k d;refine mv q (se q q (se q q (cE q (an q ?_))))
  refine au (b9 (nm q (st _ (eN (a:=K) (b:=0) q q) (an q ?_))));refine bV q (fun H=>?_) (fun H=>?_)
  ·(have E:=dT H);refine nm q (cE q (ar q (bG (aV ?_))));exact dB (vs:=[SN,(.int .i64 K)]) trivial q ⟨q,q,tV⟩ q ⟨_,[],K,q,M,(Ls.nil _ _ _),Yj,(by unfold su;rw[show(if k=4 then v.h.n.getD 2 0 else v.h.n.getD 4 0)=v.h.n.getD 4 0 from if_neg Ok,show(if k=4 then v.h.n.getD 3 0 else v.h.n.getD 5 0)=v.h.n.getD 5 0 from if_neg Ok,R,if_pos Ok])⟩
  (have E:=dF H);refine au ?_;have p:=F.dN;refine ax (mv q (sL q VG F.cV (st _ (dG (a:=J.length) 18446744073709551616 q (by rw[u3];rfl) kU q Ok) (mv q (st _ (Nj (a:=(v.h.n.getD 5 0)) (b:=16) 18446744073709551616 q q q Ok) (st _ (eN (a:=J.length) (b:=((v.h.n.getD 5 0)/16)) q q) (an q ?_)))))));refine bV q (fun I=>?_) (fun I=>?_)
  ·(have P:=dT I);refine ns (cE q (ar q (bG (aV ?_))));exact dB (vs:=[SN,(.int .i64 ((14:Nat):Int))]) trivial q ⟨q,q,tV⟩ q ⟨_,[],14,q,M,(Ls.nil _ _ _),Ok,(by unfold su;rw[show(if k=4 then v.h.n.getD 2 0 else v.h.n.getD 4 0)=v.h.n.getD 4 0 from if_neg Ok,show(if k=4 then v.h.n.getD 3 0 else v.h.n.getD 5 0)=v.h.n.getD 5 0 from if_neg Ok,R,if_neg Ok,if_pos Ok])⟩
  (have P:=dF I);refine aY (bL (ai (nm q (cE q (ar q ?_)))));exact dB (vs:=[V,(.int .i64 ((0:Nat):Int))]) trivial q ⟨q,q,tV⟩ q ⟨_,J,0,q,M,(F.sub (fun b c _=>i b c)),Ok,(by unfold su;rw[show(if k=4 then v.h.n.getD 2 0 else v.h.n.getD 4 0)=v.h.n.getD 4 0 from if_neg Ok,show(if k=4 then v.h.n.getD 3 0 else v.h.n.getD 5 0)=v.h.n.getD 5 0 from if_neg Ok,R,if_neg Ok,if_neg Ok];rw[show _=0 from Classical.not_not.1 E])⟩
 (have X:=dF U);refine aY (ai (nm q (sn q (sf q o8 (sl (u:=j) q fC h0 q (mv q (st _ (lO (a:=(v.h.n.getD 2 0)) (b:=16) 18446744073709551616 q q q Ok) (mv q (aj adh q (uG uQ O ((v.h.n.getD 2 0)-16) Ok (k) Ok Ok) ?_)))))))));rintro en x ⟨W,L,N,rfl,d,G,f,S⟩;refine rv ?_;replace M:=M.k d;refine mv q (se q q (se q q (cE q (an q (au (b9 (nm q (st _ (eN (a:=N) (b:=0) q q) (cE q (nt ?_))))))))));refine bV q (fun H=>?_) (fun H=>?_)
 ·(have E:=dT H);refine nm q (cE q (ar q (bG (aV ?_))));exact dB (vs:=[SN,(.int .i64 N)]) trivial q ⟨q,q,tV⟩ q ⟨_,[],N,q,M,(Ls.nil _ _ _),Yj,(by unfold su;rw[show(if k=4 then v.h.n.getD 2 0 else v.h.n.getD 4 0)=v.h.n.getD 2 0 from if_pos Ok,show(if k=4 then v.h.n.getD 3 0 else v.h.n.getD 5 0)=v.h.n.getD 3 0 from if_pos Ok,S,if_pos Ok])⟩
 (have E:=dF H);refine au ?_;have p:=G.dN;refine ax (mv q (sL q VG G.cV (st _ (dG (a:=L.length) 18446744073709551616 q (by rw[u3];rfl) kU q Ok) (mv q (st _ (Nj (a:=(v.h.n.getD 3 0)) (b:=16) 18446744073709551616 q q q Ok) (st _ (eN (a:=L.length) (b:=((v.h.n.getD 3 0)/16)) q q) (an q ?_)))))));refine bV q (fun I=>?_) (fun I=>?_)
 ·(have P:=dT I);refine ns (cE q (ar q (bG (aV ?_))));exact dB (vs:=[SN,(.int .i64 ((14:Nat):Int))]) trivial q ⟨q,q,tV⟩ q ⟨_,[],14,q,M,(Ls.nil _ _ _),Ok,(by unfold su;rw[show(if k=4 then v.h.n.getD 2 0 else v.h.n.getD 4 0)=v.h.n.getD 2 0 from if_pos Ok,show(if k=4 then v.h.n.getD 3 0 else v.h.n.getD 5 0)=v.h.n.getD 3 0 from if_pos Ok,S,if_neg Ok,if_pos Ok])⟩
 (have P:=dF I);refine aY (bL (ai (nm q (cE q (ar q ?_)))));exact dB (vs:=[W,(.int .i64 ((0:Nat):Int))]) trivial q ⟨q,q,tV⟩ q ⟨_,L,0,q,M,(G.sub (fun b c _=>i b c)),Ok,(by unfold su;rw[show(if k=4 then v.h.n.getD 2 0 else v.h.n.getD 4 0)=v.h.n.getD 2 0 from if_pos Ok,show(if k=4 then v.h.n.getD 3 0 else v.h.n.getD 5 0)=v.h.n.getD 3 0 from if_pos Ok,S,if_neg Ok,if_neg Ok];rw[show _=0 from Classical.not_not.1 E])⟩
theorem ng:fA Zp 261 4=true:=Yz
theorem ad2:fw Zp 261=some [(0,1),(1,1),(2,1),(3,1)]:=Yz
theorem Og:ea Zp 261=some [.int .u64 0,.int .u64 0,.int .u64 0,.slice none 0 0]:=Yz
abbrev Zb:iR:={cQ:=0,bS:=0,dat:=0,aZ:=[]}
theorem rT (uQ:Up w Q) {v0:Value} {b:Ly} (h0:Ls eD w Q v0 b) (p:Nat) (a1:p<18446744073709551616) (p0:b.length≤140737488355328) :
  Calls Zp 183 #[v0,(.int .u64 p)] w fun en w'=>∃u0_0:Value,∃r0:iR,∃r1:Nat,en = .returned (.tuple #[.agg (iR.cells r0 u0_0).toArray,(.int .i64 r1)])∧Md [] w w'∧iR.ok r0∧Ls eD w' Q u0_0 r0.aZ∧r1<9223372036854775808∧kL b p=(r0,r1):=by
 have L0:=h0.dN;have M:=Md.refl [] w;have Ap:=uQ;have tQ:∀b,Q b→Q b:=fun _ h=>h;refine enter (n:=31) Tryz.func183 q q q fun B=>ns (bU Og ?_);intro g w1 U Aa J A;obtain⟨Q2,sQ,sT,e,t⟩:=jh uQ U Aa J;replace tQ:=tT tQ sT;replace U:=ly M.size U;replace h0:=(h0.sub sQ).o J;replace M:=M.k J;replace uQ:=t;clear t sQ sT;have O:bM [] w g:=.inr U;replace A:bO _ _ (iR.cells (Zb) SN) _:=A;have Af:iR.ok (Zb):=(by exact⟨Jk,Jk,Jk⟩);refine an q (ns (m2 q q (aj adk q (zA uQ h0 p Ok 2 Ok 3 Ok Ok Ok) ?_)));rintro en w4 ⟨P,R,E,F,S,rfl,J,H,D,Ag,j⟩;refine rv ?_;obtain⟨A,M⟩:=k2 J A M;refine mv q (se q q (se q q (se q q (cE q (cE q (an q (au (nm q (st _ (eN (a:=S) (b:=0) q q) (nt ?_))))))))));refine bV q (fun d=>?_) (fun d=>?_)
 ·(have K:=dT d);refine ns (st _ (bY (us:=[]) (cs:=(iR.cells (Zb) SN)) [] Og ad2 q q trivial trivial q q) (mv q (aX (us:=(iR.cells (Zb) SN)) q q (by exact ng) (by exact fun u z=>bn (iR.one q) u z) A (lB q) ?_)));have L:=A;clear A;intro w5 J A;replace M:=M.step J (hI O);clear L;replace A:bO _ _ (iR.cells (Zb) SN) _:=A;refine ar q (aV ?_);exact dB (vs:=[(.agg (iR.cells (Zb) SN).toArray),(.int .i64 S)]) trivial q ⟨⟨_,q,cJ (cs:=(iR.cells (Zb) SN)) (by exact ng) A⟩,q,tV⟩ q ⟨_,(Zb),S,q,M,Yj,(Ls.nil _ _ _),Yj,((zV j).1 K)⟩
 (have K:=dF d);refine aY (ai (au ?_));have rd:=(zV j).2 K;have C:=H;refine cT (ml 10) [10,11,12] (fun w'=>Md [] w4 w') mixed Yz ?_;intro w6 N;refine⟨N.mono Oj,?_⟩;have MC:=N.mono (T:=[]) Oj;refine mo q (mz (fun w' Z=>bB (i:=0) 1 q q jj ew H.cV Ok) ?_);obtain⟨X,o⟩:=dQ (l:=R) (i:=0) Ok;obtain⟨c8,x,V⟩:=C.get o;obtain⟨rfl,Ad⟩:=x;replace V:At _ P (0*1) [(.int .u64 X)]:=V;refine mz (fun w' Z=>(cg (kk:=0*1) 0 q q bH (V.o Z) q).to (b:=(.int .u64 X)) q) (mo q (mz (fun w' Z=>bB (i:=1) 1 q q jj ew H.cV Ok) ?_));obtain⟨Y,r⟩:=dQ (l:=R) (i:=1) Ok;obtain⟨Al,y,W⟩:=C.get r;obtain⟨rfl,Ae⟩:=y;replace W:At _ P (1*1) [(.int .u64 Y)]:=W;refine mz (fun w' Z=>(cg (kk:=1*1) 0 q q bH (W.o Z) q).to (b:=(.int .u64 Y)) q) (mo q (mz (fun w' Z=>bB (i:=2) 1 q q jj ew H.cV Ok) ?_));obtain⟨G,c⟩:=dQ (l:=R) (i:=2) Ok;obtain⟨Am,k,I⟩:=C.get c;obtain⟨rfl,v⟩:=k;replace I:At _ P (2*1) [(.int .u64 G)]:=I;refine mz (fun w' Z=>(cg (kk:=2*1) 0 q q bH (I.o Z) q).to (b:=(.int .u64 G)) q) (mo q (d9 ?_));obtain⟨A,D,M⟩:=k3 N A D M;clear C;clear MC;refine st _ (bY (us:=[[(.int .u64 X)],[(.int .u64 Y)],[(.int .u64 G)],[E]]) (cs:=(iR.cells (({cQ:=X,bS:=Y,dat:=G,aZ:=F}:iR)) E)) [(0,0,1),(1,1,1),(2,2,1),(3,3,1)] Og ad2 q q ⟨q,q,q,(dY D.bN),tV⟩ ⟨q,q,q,q,tV⟩ q q) ?_
 refine aX (us:=(iR.cells (({cQ:=X,bS:=Y,dat:=G,aZ:=F}:iR)) E)) q q (by exact ng) (by exact fun u z=>bn (iR.one D.bN) u z) A (lB q) ?_;have L:=A;clear A;intro Aq J A;have hS:∀b∈[g],¬Q2 b:=(hI e);replace D:=D.md J hS;replace M:=M.step J (hI O);clear L hS;replace A:bO _ _ (iR.cells (({cQ:=X,bS:=Y,dat:=G,aZ:=F}:iR)) E) _:=A;refine cE q (ak ?_);clear V;clear W;clear I;refine ai (gW ?_);exact dB (vs:=[(.agg (iR.cells (({cQ:=X,bS:=Y,dat:=G,aZ:=F}:iR)) E).toArray),(.int .i64 ((0:Nat):Int))]) trivial q ⟨⟨_,q,cJ (cs:=(iR.cells (({cQ:=X,bS:=Y,dat:=G,aZ:=F}:iR)) E)) (by exact ng) A⟩,q,tV⟩ q ⟨_,(({cQ:=X,bS:=Y,dat:=G,aZ:=F}:iR)),0,q,M,(by exact⟨Ok,Ok,Ok⟩),(D.sub (fun b f _=>tQ b f)),Ok,(by rw[rd.2];simp only[List.getD_eq_getElem?_getD,o,r,c];rfl)⟩
theorem adn:cM Zp 183=true:=Yz
theorem VN (uQ:Up w Q) {v0:Value} {v:dH} (h0:Pt (tPt dR 135) 62 w Q v0 v) {v1:Value} {p:Nat} (h1:Pt dw 46 w Q v1 p) {b2:Nat} {v2_0:Value} (m:iR) (h2:bO w b2 (iR.cells m v2_0) 261) (n2:¬Q b2) (a2_0:iR.ok m) (a2_1:Ls eD w Q v2_0 m.aZ) (p0:v.b.length≤140737488355328) :
  Calls Zp 182 #[v0,v1,.pointer (some ⟨b2,0,none⟩)] w fun en w'=>(∃m29:iR,∃u52_0:Value,en = .returned (.tuple #[])∧Md [b2] w w'∧bO w' b2 (iR.cells m29 u52_0) 261∧¬Q b2∧iR.ok m29∧Ls eD w' Q u52_0 m29.aZ∧ki (v.h.n.getD 0 0) v.b p=(m29,0))∨∃cp:Nat,en = .panicked (FJ (.iface 234 (.agg #[.int .i64 cp])))∧(cp≠0∧cp<9223372036854775808)∧Md [b2] w w'∧bO w' b2 (iR.cells m v2_0) 261∧(ki (v.h.n.getD 0 0) v.b p).2=cp:=by
 obtain⟨a,A5,rfl,r,h0,po⟩:=h0;obtain⟨v1,rfl,Ak⟩:=po;obtain⟨c,A6,rfl,t,h1,Ap⟩:=h1;obtain⟨rfl,A1⟩:=Ap;have F:=n2;have z:bM [b2] w b2:=.inl Oj;have Ad:a≠b2:=fun h=>F (h ▸ r);have Ae:c≠b2:=fun h=>F (h ▸ t);have M:=Md.refl [b2] w;have Bl:=uQ;have tQ:∀b,Q b→Q b:=fun _ h=>h;refine enter (n:=20) Tryz.func182 q q q fun B=>ns (sl (u:=v1) q xe h0 q ?_);have I:=Ak;obtain⟨d,Aw,rfl,N,I,Aa⟩:=I;obtain⟨v4,rfl,q5,K⟩:=e6 Aa;have y:d≠b2:=fun h=>F (h ▸ N);refine sl (u:=(.int .u64 p)) q bH h1 q (iZ OW q (pz uQ ⟨_,_,q,N,I,d8 q5 K⟩ p Ok) ?_);rintro en w7 (⟨rfl,C,P⟩|⟨cp,rfl,S,C,P⟩)
 rotate_left
 ·exact .inr ⟨_,q,gq (Or.inr ⟨cp,q,S,M.k C,h2.o C,(adV P S.1)⟩)⟩
 refine .inl ⟨_,q,?_⟩;obtain⟨h2,h0,h1,I,K,uQ,M⟩:=k7 C h2 h0 h1 I K uQ M;refine nt (au ?_);have l:=h2.lt;refine pB (fun w'=>Md [] w7 w') (R:=fun a' w'=>∃(A':Fr 20) (Y:Nat) (Z:Value) (CY:iR) (e:Nat),a'=bw A' [] [(3,.pointer (some ⟨Y,0,none⟩)),(4,.int .i64 e),(0,(.pointer (some ⟨a,0,none⟩))),(1,(.pointer (some ⟨c,0,none⟩))),(2,(.pointer (some ⟨b2,0,none⟩)))]∧Md [] w7 w'∧w7.heap.size≤Y∧Y<w'.heap.size∧bO w' Y (iR.cells CY Z) 261∧iR.ok CY∧e<9223372036854775808∧Ls eD w' Q Z CY.aZ∧kL v.b p=(CY,e)) mixed ?_ ?_
 ·rintro _ w8 ⟨A',Y,Z,CY,e,rfl,C,gA,lA,hA,Al,qA,G,g⟩
  have A0:=uQ _ gA;obtain⟨h2,uQ,M⟩:=k3 C h2 uQ M;have Ah:b2≠Y:=(by have:=l;omega);refine ai (nm q (iZ HB q (qj uQ e Ok) ?_));rintro en w9 (⟨rfl,C,X⟩|⟨cp,rfl,S,C,X⟩)
  rotate_left
  ·exact .inr ⟨_,q,gq (Or.inr ⟨cp,q,S,M.k C,h2.o C,(by rw[XM P g];exact X)⟩)⟩
  refine .inl ⟨_,q,?_⟩;obtain⟨h2,G,hA,M⟩:=k4 C h2 G hA M;refine nt (ax (st _ (bX (iR.cells CY Z) q (by exact ng) hA q) (aX (us:=(iR.cells CY Z)) q q (by exact ng) (by exact fun u k=>bn (iR.one G.bN) u k) h2 (lB q) ?_)));have Ai:=h2;clear h2;intro Bm C h2;have hS:∀b∈[b2],¬Q b:=(hI F);replace G:=G.md C hS;replace M:=M.step C (hI z);clear Ai hS;replace h2:bO _ _ (iR.cells CY Z) _:=h2;refine ak ?_;exact dB (vs:=[]) trivial q trivial q (Or.inl ⟨CY,_,q,M,h2,n2,Al,(G.sub (fun b hb _=>tQ b hb)),(by rw[XM P g,X])⟩)
 intro w1 A
 refine dM (i:=0) _ q Yz Yz (A) (fun w' H=>aA q xe (h0.o H) q) (dM (i:=1) _ q Yz Yz (A) (fun w' H=>cH q) (dM (i:=2) _ q Yz Yz (A) (fun w' H=>aU q o8) (dM (i:=3) _ q Yz Yz (A) (fun w' H=>aA q fC (I.o H) q) (dM (i:=4) _ q Yz Yz (A) (fun w' H=>aA q bH (h1.o H) q) ?_))));refine oc (i:=5) (j:=9) Yz q q q q ?_ ?_
 ·refine aj adn q (rT (uQ.md A) (K.o A) p Ok Ok) ?_;rintro en xa ⟨ua,ra,ca,rfl,J,ka,la,qa,fa⟩;refine rv ?_;refine ak ⟨q,A.k J,?_⟩;refine dM (i:=6) _ q Yz Yz (A.k J) (fun w' H=>bf q) (dM (i:=7) _ q Yz Yz (A.k J) (fun w' H=>jw q q) (dM (i:=8) _ q Yz Yz (A.k J) (fun w' H=>jw q q) (cO (i:=9) Yz q q (bU Og ?_))));intro b5 x5 g5 l5 o Af;refine ak ⟨q,(A.k J).k o,?_⟩;refine cO (i:=10) Yz q q (aX (us:=(iR.cells ra ua)) q q (by exact ng) (by exact fun u k=>bn (iR.one la.bN) u k) Af (lB q) ?_);intro ya T D;refine ak ⟨q,((A.k J).k o).ej T (ly (A.k J).size g5),?_⟩;replace D:bO ya b5 (iR.cells ra ua) 261:=D;refine cO (i:=11) Yz q q (cE q ?_);refine ak ⟨q,((A.k J).k o).ej T (ly (A.k J).size g5),?_⟩;refine jF Yz ?_;exact⟨_,b5,ua,ra,ca,(dz (by exact⟨q,q,q,q,q,tV⟩)).symm,((A.k J).k o).ej T (ly (A.k J).size g5),(ly (A.k J).size g5),D.lt,D,ka,qa,(((la.sub (Q':=fun x=>Q x∧x≠b5) (fun x L hl=>⟨L,by omega⟩)).o o).md T (by intro x L;simp at L;subst L;exact fun h=>h.2 q)).sub (fun x L _=>L.1),fa⟩
 refine bU Og ?_;intro b6 x6 f l6 O W;refine ak ⟨q,A.k O,?_⟩;obtain⟨Q6,s6,t6,n6,u6⟩:=jh (uQ.md A) f l6 O;refine cO (i:=5) Yz q q (aj adn q (rT u6 (((K.o A).sub s6).o O) p Ok Ok) ?_);rintro en xb ⟨ub,rb,cb,rfl,V,kb,lb,qb,fb⟩;refine rv ?_;replace W:=W.o V;refine ak ⟨q,(A.k O).k V,?_⟩;refine dM (i:=6) _ q Yz Yz ((A.k O).k V) (fun w' H=>bf q) (dM (i:=7) _ q Yz Yz ((A.k O).k V) (fun w' H=>jw q q) (dM (i:=8) _ q Yz Yz ((A.k O).k V) (fun w' H=>jw q q) (cO (i:=10) Yz q q (aX (us:=(iR.cells rb ub)) q q (by exact ng) (by exact fun u k=>bn (iR.one lb.bN) u k) W (lB q) ?_))));intro yb U E;refine ak ⟨q,((A.k O).k V).ej U (ly A.size f),?_⟩;replace E:bO yb b6 (iR.cells rb ub) 261:=E;refine cO (i:=11) Yz q q (cE q ?_);refine ak ⟨q,((A.k O).k V).ej U (ly A.size f),?_⟩;refine jF Yz ?_;exact⟨_,b6,ub,rb,cb,(dz (by exact⟨q,q,q,q,q,tV⟩)).symm,((A.k O).k V).ej U (ly A.size f),(ly A.size f),E.lt,E,kb,qb,((lb).md U (hI n6)).sub (fun x L _=>t6 x L),fb⟩
theorem afR:cM Zp 182=true:=Yz
theorem NV (uQ:Up w Q) {v0:Value} {v:dH} (h0:Pt dR 135 w Q v0 v) (p:Nat) (a1:p<18446744073709551616) (p0:v.b.length≤140737488355328) :
  Calls Zp 172 #[v0,(.int .u64 p)] w fun en w'=>∃u0_0:Value,∃r0:iR,∃r1:Nat,en = .returned (.tuple #[.agg (iR.cells r0 u0_0).toArray,(.int .i64 r1)])∧Md [] w w'∧iR.ok r0∧Ls eD w' Q u0_0 r0.aZ∧r1<9223372036854775808∧ki (v.h.n.getD 0 0) v.b p=(r0,r1):=by
 refine enter (n:=10) (vs:=[v0,.int .u64 p]) Tryz.func172 q q q ?_;intro B;have t:v0.oneCell'=true:=(by obtain⟨b,c,rfl,_⟩:=h0;rfl);refine ns (eC (cs:=[v0]) q (dY t) ?_);intro i w2 g2 l2 A F;have q2:=uQ _ g2;obtain⟨h0,uQ⟩:=k2 A h0 uQ;have M:=A;refine eC (cs:=[.int .u64 p]) q q ?_;intro j w3 g3 l3 A I;have q3:=uQ _ g3;obtain⟨h0,F,uQ,M⟩:=k4 A h0 F uQ M;refine bU Og ?_;intro E g g4 l4 A d;obtain⟨V,s4,t4,n4,u4⟩:=jh uQ g4 l4 A;have a:=ly M.size g4;have y:=s4 _ q2 F.lt;have z:=s4 _ q3 I.lt;replace h0:=(h0.sub s4).o A;obtain⟨F,I,M⟩:=k3 A F I M;replace d:bO g E (iR.cells uM SN) 261:=d;refine an q (ns (st _ (lp (vs:=[.pointer (some ⟨i,0,none⟩),.pointer (some ⟨j,0,none⟩),.pointer (some ⟨E,0,none⟩)]) q) ?_));have hk:iR.ok uM:=(by simp[iR.ok,uM])
 refine aj OT q (vH (f:=182) (cs:=[.pointer (some ⟨i,0,none⟩),.pointer (some ⟨j,0,none⟩),.pointer (some ⟨E,0,none⟩)]) (S:=[E])
  (X:=fun w'=>∃r u,bO w' E (iR.cells r u) 261∧iR.ok r∧Ls eD w' V u r.aZ∧ki (v.h.n.getD 0 0) v.b p=(r,0))
  (Y:=fun c w'=>bO w' E (iR.cells uM SN) 261∧c<9223372036854775808∧ki (v.h.n.getD 0 0) v.b p=(uM,c))
  (R:=fun O e w'=>(∃N Z,e = .returned (.tuple #[])∧Md [E] O w'∧bO w' E (iR.cells N Z) 261∧iR.ok N∧Ls eD w' (fun x=>V x∧(x<g.heap.size∨O.heap.size≤x)) Z N.aZ∧ki (v.h.n.getD 0 0) v.b p=(N,0))∨∃L:Nat,e = .panicked (FJ (.iface 234 (.agg #[.int .i64 L])))∧(L≠0∧L<9223372036854775808)∧Md [E] O w'∧bO w' E (iR.cells uM SN) 261∧(ki (v.h.n.getD 0 0) v.b p).2=L)
  afR (hI l4) ?_ ?_) ?_
 ·intro O A
  have uX:Up O (fun x=>V x∧(x<g.heap.size∨O.heap.size≤x)):=fun x C=>⟨u4 x (ly A.size C),.inr C⟩;have sX:∀x,V x→x<g.heap.size→(V x∧(x<g.heap.size∨O.heap.size≤x)):=fun x C H=>⟨C,.inl H⟩;refine(VN uX (v0:=.pointer (some ⟨i,0,none⟩)) (v1:=.pointer (some ⟨j,0,none⟩)) (v:=v) (p:=p) ⟨i,[v0],q,⟨y,.inl F.lt⟩,F.o A,v0,q,(h0.sub sX).o A⟩ ⟨j,_,q,⟨z,.inl I.lt⟩,I.o A,q,a1⟩ uM (d.o A) (fun h=>n4 h.1) hk (Ls.nil _ _ _) p0).mono ?_;rintro e w' (⟨N,Z,l,D,G,_,U,H,J⟩|⟨L,l,W,D,G,J⟩)
  ·exact .inl ⟨N,Z,l,D,G,U,H,J⟩
  exact .inr ⟨L,l,W,D,G,J⟩
 ·rintro O e w1 A (⟨N,Z,rfl,D,G,U,H,J⟩|⟨L,rfl,W,D,G,J⟩)
  ·refine⟨D,.inl ⟨q,fun b Ab gb lb K=>⟨N,Z,G.sM K Ok,U,(H.md K (by intro x C h;simp at C;subst C;omega)).sub (fun x C _=>C.1),J⟩⟩⟩
  exact⟨D,.inr ⟨L,q,fun b Ab gb lb K=>⟨G.sM K Ok,W.2,adW J W.1⟩⟩⟩
 rintro en w5 ⟨c,rfl,A,T⟩;refine rv ?_;replace M:=M.step A (by intro x C;simp at C;subst C;exact .inr a)
 obtain⟨r,u,G,o,H,W,J⟩:∃r u,bO w5 E (iR.cells r u) 261∧iR.ok r∧Ls eD w5 V u r.aZ∧c<9223372036854775808∧ki (v.h.n.getD 0 0) v.b p=(r,c):=by
  rcases T with⟨rfl,r,u,k,F,I,d⟩|⟨k,F,I⟩
  ·exact⟨r,u,k,F,I,by decide,d⟩
  ·exact⟨_,_,k,hk,Ls.nil _ _ _,F,I⟩
 refine an q (ns (st _ (bX (iR.cells r u) q (by exact ng) G q) (mv q (aX (us:=(iR.cells r u)) q q (by exact ng) (fun x C=>bn (iR.one H.bN) x C) G (lB q) ?_))));intro w6 A P;replace P:bO w6 E (iR.cells r u) 261:=P;replace H:=H.md A (hI n4);replace M:=M.ej A a;refine ar q ?_;exact dB (vs:=[.agg (iR.cells r u).toArray,.int .i64 c]) trivial q ⟨⟨_,q,cJ (cs:=iR.cells r u) (by exact ng) P⟩,q,tV⟩ q ⟨u,r,c,q,M,o,H.sub (fun x C _=>t4 x C),W,J⟩
theorem vL:fA Zp 220 3=true:=Yz
theorem acX:cM Zp 100=true:=Yz
theorem afK:cM Zp 172=true:=Yz
theorem ZI:bh Zp 177 1=some 1:=Yz
theorem aae:bh Zp 261 0=some 0:=Yz
theorem aaf:bh Zp 261 1=some 1:=Yz
theorem aag:bh Zp 261 3=some 3:=Yz
theorem ad1:fw Zp 220=some [(0,1),(1,1),(2,1)]:=Yz
theorem acJ:ea Zp 220=some [.int .u64 0,.int .u64 0,.slice none 0 0]:=Yz
structure l9 where
  cQ:Nat
  next:Nat
  aZ:List UInt8
def l9.cells (x:l9) (v0:Value):List Value :=
  [(.int .u64 x.cQ)] ++ ([(.int .u64 x.next)] ++ ([v0]))
def l9.ok (x:l9):Prop:=x.cQ<18446744073709551616∧x.next<18446744073709551616
theorem l9.one {x:l9} {v0:Value} (h0:v0.oneCell'=true):(x.cells v0).all (fun u=>u.oneCell')=true:=(cA q (cA q (lJ h0)))
structure UN where
  n:Nat
def UN.cells (x:UN):List Value :=
  [(.int .u64 x.n)]
def UN.ok (x:UN):Prop:=x.n<18446744073709551616
theorem aaW {x:UN} {k:Nat} (h:x.n=k):({n:=k}:UN)=x:=by subst h;rfl
theorem BO {c r:Bool} {p n:Nat} {m:UN} (h:(decide ((if c=true then p else n)=0),({n:=if c=true then p else n}:UN))=(r,m)) (hr:r=false) (hn:n=0) (hp:True):c=true:=by
  subst hn hr;have e:=congrArg Prod.fst h
  cases c
  · simp at e
  rfl
theorem GZ {c r:Bool} {p n:Nat} {m:UN} (h:(decide ((if c=true then p else n)=0),({n:=if c=true then p else n}:UN))=(r,m)) (hc:c=true):m={n:=p}:=by
  subst hc;exact(congrArg Prod.snd h).symm
theorem GY {c r:Bool} {p n:Nat} {m:UN} (h:(decide ((if c=true then p else n)=0),({n:=if c=true then p else n}:UN))=(r,m)) (hr:r=true) (hp:p≠0):¬c=true∧(n=0→m.n=0):=by
  subst hr;have e:=congrArg Prod.fst h;have A:=congrArg (fun z=>(Prod.snd z).n) h
  cases c
  · simp at A;exact⟨by simp,fun B=>by rw[← A,B]⟩
  simp at e;exact absurd e hp
theorem QY (uQ:Up w Q) {v0:Value} {v:dH} (h0:Pt dR 135 w Q v0 v) (x:Nat) (a1:x<18446744073709551616) :
  Calls Zp 160 #[v0,(.int .u64 x)] w fun en w'=>∃r0:Bool,en = .returned (.bool r0)∧Md [] w w'∧gP v.b x=r0:=by
 obtain⟨H,I,rfl,D,h0,po⟩:=h0;obtain⟨O,rfl,L,F⟩:=e6 po;have M:=Md.refl [] w;have N:=uQ;refine enter (n:=13) Tryz.func160 q q q fun B=>ns (an q (nm q (st _ (ir (a:=x) (b:=0) q q) (mv q ?_))));refine cB (t:=7) q (fun A=>?_) (fun A=>?_)
 ·(have E:=dT A);refine sk A (sk A (sk A (sk A (st _ (bF q A q) (ar q ?_)))));exact cu (v:=(.bool true)) trivial q ⟨q,tV⟩ ⟨true,q,M,(by unfold gP;simp_all)⟩
 (have E:=dF A);refine sg A (bf q) (sg A (bf q) (gH q q q A XP q (AK uQ ⟨_,_,q,D,h0,d8 L F⟩) ?_));rintro en P ⟨C,rfl,K,G,J⟩;refine rv ?_;replace M:=M.k K;refine sg A (DC (a:=x) (b:=C) q q) (st _ (bE q A q) (ar q ?_));exact cu (v:=(.bool ((decide (C≤x))))) trivial q ⟨q,tV⟩ ⟨(decide (C≤x)),q,M,(by unfold gP;simp_all)⟩
theorem QZ (uQ:Up w Q) {v0:Value} {v:dH} (h0:Pt dR 135 w Q v0 v) (k:Int) (a1:(-9223372036854775808≤k∧k<9223372036854775808)) (p:Nat) (a2:p<18446744073709551616) (p0:v.b.length≤1000000) :
  Calls Zp 161 #[v0,(.int .i64 (k:Int)),(.int .u64 p)] w fun en w'=>∃u0_0:Value,∃r0:l9,∃r1:Nat,en = .returned (.tuple #[.agg (l9.cells r0 u0_0).toArray,(.int .i64 r1)])∧Md [] w w'∧l9.ok r0∧Ls eD w' Q u0_0 r0.aZ∧r1<9223372036854775808∧(({cQ:=rQ (v.h.n.getD 0 0) v.b k p,next:=uh (v.h.n.getD 0 0) v.b k p,aZ:=rR (v.h.n.getD 0 0) v.b k p}:l9),ug (v.h.n.getD 0 0) v.b k p)=(r0,r1):=by
 obtain⟨y,A5,rfl,T,h0,po⟩:=h0;obtain⟨v1,rfl,q2,W⟩:=e6 po;have M:=Md.refl [] w;have Ba:=uQ;have t:∀b,Q b→Q b:=fun _ h=>h;refine enter (n:=42) Tryz.func161 q q q fun B=>ns (bU acJ ?_);intro V w4 i Aw I E;have Ar:y≠V:=(by have:=h0.lt;omega);obtain⟨Q5,r,f,K,P⟩:=jh uQ i Aw I;replace T:=r _ T h0.lt;replace t:=tT t f;replace i:=ly M.size i;replace W:=(W.sub r).o I;obtain⟨h0,M⟩:=k2 I h0 M;replace uQ:=P;clear P r f;have d:bM [] w V:=.inr i;replace E:bO _ _ (l9.cells (({cQ:=0,next:=0,aZ:=[]}:l9)) SN) _:=E;have A2:l9.ok (({cQ:=0,next:=0,aZ:=[]}:l9)):=(by exact⟨Jk,Jk⟩);refine an q (au (nm q (st _ (kJ (a:=k) (b:=4) q q) (nt ?_))));refine bV q (fun z=>?_) (fun z=>?_)
 ·(have Ag:=dT z);refine ns (m2 q q (aj acX q (DY uQ ⟨_,_,q,T,h0,d8 q2 W⟩ p Ok Ok) ?_));rintro en w7 ⟨H,C,x,rfl,I,U,G,A4,Au⟩;refine rv ?_;obtain⟨h0,E,uQ,M⟩:=k4 I h0 E uQ M;refine mv q (se q q (se q q (bU AO ?_)));intro g w8 j Ax I N;have As:y≠g:=(by have:=h0.lt;omega);have Al:V≠g:=(by have:=E.lt;omega);obtain⟨Q9,r,f,Ac,P⟩:=jh uQ j Ax I;replace K:=nQ K f;replace t:=tT t f;replace j:=ly M.size j;replace E:=E.o I;replace G:=(G.sub r).o I;replace M:=M.k I;replace uQ:=P;clear P r f;have Ad:bM [] w g:=.inr j;replace N:bO _ _ (fU.cells (AP) SN) _:=N;have Ay:fU.ok (AP):=(by exact⟨Jk,Jk,Jk,Jk,Jk,Jk⟩);refine aX (us:=(fU.cells C H)) q q (by exact j7) (by exact fun u hu=>bn (fU.one G.bN) u hu) N (lB q) ?_;have Ai:=N;clear N;intro Bb I N
  have X:∀b∈[g],¬Q9 b:=(hI Ac);replace E:=E.md I Vk;replace G:=G.md I X;replace M:=M.step I (hI Ad);clear Ai X;replace N:bO _ _ (fU.cells C H) _:=N;refine an q (ns (sf q zG (sl (u:=(.int .u64 C.cQ)) q bH N q ?_)));have A6:C.cQ<18446744073709551616:=U.1;refine sf q ZI (sl (u:=(.int .u64 C.bS)) q bH N q ?_);have A7:C.bS<18446744073709551616:=U.2.1;refine sf q vi (sl (u:=H) q fC N q (st _ (bY (us:=[[(.int .u64 C.cQ)],[(.int .u64 C.bS)],[H]]) (cs:=(l9.cells (({cQ:=C.cQ,next:=C.bS,aZ:=C.aZ}:l9)) H)) [(0,0,1),(1,1,1),(2,2,1)] acJ ad1 q q ⟨q,q,(dY G.bN),tV⟩ ⟨q,q,q,tV⟩ q q) (mv q (aX (us:=(l9.cells (({cQ:=C.cQ,next:=C.bS,aZ:=C.aZ}:l9)) H)) q q (by exact vL) (by exact fun u hu=>bn (l9.one G.bN) u hu) E (lB q) ?_))));have Z:=G;have Y:=E;clear E;intro Bc I E;have X:∀b∈[V],¬Q9 b:=(hI K);replace Z:=Z.md I X;replace M:=M.step I (hI d);clear Y X;replace E:bO _ _ (l9.cells (({cQ:=C.cQ,next:=C.bS,aZ:=C.aZ}:l9)) H) _:=E;refine ar q (aV ?_);exact dB (vs:=[(.agg (l9.cells (({cQ:=C.cQ,next:=C.bS,aZ:=C.aZ}:l9)) H).toArray),(.int .i64 x)]) trivial q ⟨⟨_,q,cJ (cs:=(l9.cells (({cQ:=C.cQ,next:=C.bS,aZ:=C.aZ}:l9)) H)) (by exact vL) E⟩,q,tV⟩ q ⟨_,(({cQ:=C.cQ,next:=C.bS,aZ:=C.aZ}:l9)),x,q,M,(by exact⟨Ok,Ok⟩),(Z.sub (fun b L _=>t b L)),Yj,(by obtain⟨e1,e2,e3,e4⟩:=agy (s:=v.h.n.getD 0 0) (b:=v.b) (p:=p) Ok;rw[e1,e2,e3,e4,Au])⟩
 (have Ag:=dF z);refine aY (ai (ns (m2 q q (aj afK q (NV uQ ⟨_,_,q,T,h0,d8 q2 W⟩ p Ok Ok) ?_))));rintro en Bd ⟨F,A,e,rfl,I,O,D,A0,Ah⟩;refine rv ?_;obtain⟨h0,E,uQ,M⟩:=k4 I h0 E uQ M;refine mv q (se q q (se q q (bU Og ?_)));intro R Be S Aj I J;have Ak:y≠R:=(by have:=h0.lt;omega);have Af:V≠R:=(by have:=E.lt;omega);obtain⟨Ae,r,f,l,P⟩:=jh uQ S Aj I;replace K:=nQ K f;replace t:=tT t f;replace S:=ly M.size S;replace E:=E.o I;replace D:=(D.sub r).o I;replace M:=M.k I;replace uQ:=P;clear P r f;have o:bM [] w R:=.inr S;replace J:bO _ _ (iR.cells (Zb) SN) _:=J;have Az:iR.ok (Zb):=(by exact⟨Jk,Jk,Jk⟩);refine aX (us:=(iR.cells A F)) q q (by exact ng) (by exact fun u hu=>bn (iR.one D.bN) u hu) J (lB q) ?_;have Aa:=J;clear J;intro Bf I J;have X:∀b∈[R],¬Ae b:=(hI l);replace E:=E.md I Vk
 replace D:=D.md I X;replace M:=M.step I (hI o);clear Aa X;replace J:bO _ _ (iR.cells A F) _:=J;refine an q (ns (sf q aae (sl (u:=(.int .u64 A.cQ)) q bH J q ?_)));have A8:A.cQ<18446744073709551616:=O.1;refine sf q aaf (sl (u:=(.int .u64 A.bS)) q bH J q ?_);have A9:A.bS<18446744073709551616:=O.2.1;refine sf q aag (sl (u:=F) q fC J q (st _ (bY (us:=[[(.int .u64 A.cQ)],[(.int .u64 A.bS)],[F]]) (cs:=(l9.cells (({cQ:=A.cQ,next:=A.bS,aZ:=A.aZ}:l9)) F)) [(0,0,1),(1,1,1),(2,2,1)] acJ ad1 q q ⟨q,q,(dY D.bN),tV⟩ ⟨q,q,q,tV⟩ q q) (mv q (aX (us:=(l9.cells (({cQ:=A.cQ,next:=A.bS,aZ:=A.aZ}:l9)) F)) q q (by exact vL) (by exact fun u hu=>bn (l9.one D.bN) u hu) E (lB q) ?_))));have c:=D;have Y:=E;clear E;intro Bg I E;have X:∀b∈[V],¬Ae b:=(hI K);replace c:=c.md I X;replace M:=M.step I (hI d);clear Y X;replace E:bO _ _ (l9.cells (({cQ:=A.cQ,next:=A.bS,aZ:=A.aZ}:l9)) F) _:=E;refine ar q ?_;exact dB (vs:=[(.agg (l9.cells (({cQ:=A.cQ,next:=A.bS,aZ:=A.aZ}:l9)) F).toArray),(.int .i64 e)]) trivial q ⟨⟨_,q,cJ (cs:=(l9.cells (({cQ:=A.cQ,next:=A.bS,aZ:=A.aZ}:l9)) F)) (by exact vL) E⟩,q,tV⟩ q ⟨_,(({cQ:=A.cQ,next:=A.bS,aZ:=A.aZ}:l9)),e,q,M,(by exact⟨Ok,Ok⟩),(c.sub (fun b L _=>t b L)),Yj,(by obtain⟨e1,e2,e3,e4⟩:=agz (s:=v.h.n.getD 0 0) (b:=v.b) (p:=p) Ok;rw[e1,e2,e3,e4,Ah])⟩
end Go.Proofs.YtlleafgaeeneoaaGreat
