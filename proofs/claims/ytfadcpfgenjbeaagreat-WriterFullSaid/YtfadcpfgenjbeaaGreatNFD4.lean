/- Part 4 of what the walk of a law stands on: VWw, WName, VName, VRef, VJoin, VList, VSeq, VSeq2, VSeq3, VSeq4, WFn, VFl, VWx, VWy, VWz, VXc, VXd, SimP, VSm, VXe, VSn, VSo, VSp, VSq, VSr. No statement is proved here. -/
import Derived.Test.YtfadcpfgenjbeaaGreatNFD3
import Derived.Test.YtfadcpfgenjbeaaGreatRows
set_option linter.unusedSimpArgs false
namespace Go.Proofs.YtfadcpfgenjbeaaGreat
open Go Go.Wk Go.RowKit
set_option linter.unusedVariables false
set_option linter.unusedSimpArgs false
attribute [local irreducible] wpList wpQuiet wpStill wpMix Code.wp Calls bodyPost
theorem elT222:elT Tryz.prog 222 2 16=true:=by kernel_rfl
theorem fn69:isFn Tryz.prog 69=true:=by kernel_rfl
theorem fn95:isFn Tryz.prog 95=true:=by kernel_rfl
theorem off41_0:fieldOff Tryz.prog 41 0=some 0:=by kernel_rfl
theorem off41_1:fieldOff Tryz.prog 41 1=some 16:=by kernel_rfl
theorem off41_2:fieldOff Tryz.prog 41 2=some 32:=by kernel_rfl
theorem off41_3:fieldOff Tryz.prog 41 3=some 48:=by kernel_rfl
theorem off41_4:fieldOff Tryz.prog 41 4=some 49:=by kernel_rfl
theorem off41_6:fieldOff Tryz.prog 41 6=some 51:=by kernel_rfl
theorem pl105:bplace Tryz.prog 105=some [(0,1),(1,1),(2,1),(3,16),(19,16),(35,16),(51,16),(67,1),(68,1),(69,1),(70,1),(71,1),(72,1),(73,1),(74,1),(75,1),(76,1),(77,1),(78,1),(79,1),(80,1),(81,1),(82,1),(83,1),(84,1),(85,1),(86,1),(87,1),(88,1),(89,1),(90,1)]:=by kernel_rfl
theorem pl107:bplace Tryz.prog 107=some [(0,1),(1,91)]:=by kernel_rfl
theorem z105:zcells Tryz.prog 105=some ([.int .u32 0,.int .u32 0,.int .i64 0] ++ (List.replicate 64 (.int .u8 0) ++ (List.replicate 21 (.int .u64 0) ++ ([.int .u32 0,.int .u32 0,.int .u64 0])))):=by kernel_rfl
theorem z107:zcells Tryz.prog 107=some ([.slice none 0 0,.int .u32 0,.int .u32 0,.int .i64 0] ++ (List.replicate 64 (.int .u8 0) ++ (List.replicate 21 (.int .u64 0) ++ ([.int .u32 0,.int .u32 0,.int .u64 0])))):=by kernel_rfl
theorem z5:zcells Tryz.prog 5=some [.int .u8 0]:=by kernel_rfl

abbrev zz2:PHead:={compat:=0,incompat:=0,state:=0,file:=idZ,machine:=idZ,boot:=idZ,seq:=idZ,n:=(List.replicate 21 0),tailArray:=0,tailItems:=0,tailEntry:=0}
set_option maxHeartbeats 16000000 in
set_option maxRecDepth 100000 in
theorem dBlank_any {w:World} {Q:Nat→Prop} (uQ:Up w Q) (c:Cfg) (a0_0:Cfg.ok c) (after:Nat) (a1:after<18446744073709551616) (p0:c.dataSlots≤10000) (p1:c.fieldSlots≤10000) :
    Calls Tryz.prog 50 #[.agg (Cfg.cells c).toArray,(.int .u64 after)] w fun en w'=>∃o0:Nat,∃u0_0:Value,∃r0:Drf,∃Q':Nat→Prop,en = .returned (.pointer (some ⟨o0,0,none⟩))∧Md [] w w'∧NewQ w w' Q Q'∧Blk w' o0 (Drf.cells r0 u0_0) 107∧¬Q' o0∧w.heap.size≤o0∧Drf.ok r0∧Ow tB8 5 (Fsh [] w) w' Q' u0_0 r0.b∧blankF c after=r0:=by
  have M:=Md.refl [] w;have B8:=uQ;have tQ:∀b,Q b→Q b:=fun _ h=>h;have W:∀b,Q b→b<w.heap.size→Q b:=fun _ h _=>h;refine enter (n:=67) Tryz.func50 rfl rfl rfl ?_;intro B;refine ns (st_box (cs:=(Cfg.cells c)) rfl rfl ?_);intro A3 w1 Bn Dx J H;have I:=uQ _ Bn;replace Bn:=lv M.size Bn;replace uQ:=uQ.md J;replace M:=M.step0 J;refine asg rfl (nt (ns (st_mkG (lo:=Fsh [] w) (T:=tB8) (z:=0) (zs:=[(b8 0)]) (m:=272) rfl u45 elT5 z5 rfl (fun _ _=>⟨rfl,tV⟩) uQ (Fsh.new M) (by omega) ?_)));intro v4 w2 Q5 sQ sT e K J Bf;replace I:=sQ _ I H.lt;replace tQ:=fun b L=>tQ b (sT b L);replace W:=fun b L hl=>sQ b (W b L hl) (ly hl M.size);replace H:=H.md0 J;replace uQ:=uQ.md J;replace M:=M.step0 J;replace uQ:=e;clear e sQ sT Bf;refine st _ (r_buildG (us:=[[v4]]) (cs:=(Drf.cells (({b:=(List.replicate 272 0),h:=zz2}:Drf)) v4)) [(0,0,1)] z107 pl107 rfl rfl ⟨(cells_one K.oneCell),tV⟩ ⟨rfl,tV⟩ rfl rfl) (st_box (cs:=(Drf.cells (({b:=(List.replicate 272 0),h:=zz2}:Drf)) v4)) rfl rfl ?_);intro P w6 Bb Ci J D;have Cc:A3≠P:=(by have:=H.lt;omega);obtain⟨Q7,sQ,sT,E,e⟩:=exQ uQ Bb Ci J;replace I:=sQ _ I H.lt;replace K:=K.sub sQ sT;replace tQ:=fun b L=>tQ b (sT b L);replace W:=fun b L hl=>sQ b (W b L hl) (ly hl M.size);replace Bb:=lv M.size Bb;replace H:=H.md0 J;replace K:=K.md0 J;replace uQ:=uQ.md J;replace M:=M.step0 J;replace uQ:=e;clear e sQ sT;have d:Fsh [] w P:=.inr Bb;have Cd:Drf.ok (({b:=(List.replicate 272 0),h:=zz2}:Drf)):=(by exact(show PHead.ok ((({b:=(List.replicate 272 0),h:=zz2}:Drf)).h)from(by exact⟨(by(simp<;>omega)),(by(simp<;>omega)),(by(simp<;>omega)),(by rfl),(by rfl),(by rfl),(by rfl),(by exact nums_zero _),(by(simp<;>omega)),(by(simp<;>omega)),(by(simp<;>omega))⟩)))
  refine asg rfl (nt (ns (mv rfl (sf rfl off41_0 (st _ (r_loadPart (idc c.file) rfl (by exact agg27) H rfl) ?_)))));have q8:c.file.length=16:=a0_0.1;refine sf rfl off41_1 (st _ (r_loadPart (idc c.machine) rfl (by exact agg27) H rfl) ?_);have q9:c.machine.length=16:=a0_0.2.1;refine sf rfl off41_2 (st _ (r_loadPart (idc c.seq) rfl (by exact agg27) H rfl) ?_);have D4:c.seq.length=16:=a0_0.2.2.1;refine mv rfl ?_;replace K:Ow tB8 5 (Fsh [] w) w6 Q7 v4 (({b:=(List.replicate 272 0),h:=zz2}:Drf)).b:=K;refine st _ (r_buildG (us:=[[(.int .u32 ((2:Nat):Int))],[(.int .i64 ((1:Nat):Int))],(idc c.file),(idc c.machine),(idc c.seq),[(.int .u64 ((272:Nat):Int))],[(.int .u64 after)]]) (cs:=(PHead.cells ((headW c after)))) [(0,0,1),(2,2,1),(3,3,16),(4,19,16),(6,51,16),(7,67,1),(16,76,1)] z105 pl105 rfl rfl ⟨rfl,rfl,rfl,rfl,rfl,rfl,rfl,tV⟩ ⟨rfl,rfl,rfl,rfl,rfl,rfl,rfl,tV⟩ rfl rfl) ?_;have Cr:PHead.ok (headW c after):=⟨lq rfl,lq rfl,lq rfl,a0_0.1,a0_0.2.1,rfl,a0_0.2.2.1,nums_set (nums_set (nums_zero _) (by decide)) a1,lq rfl,lq rfl,lq rfl⟩;refine sn rfl (sf rfl off107_1 (st_storeAgg (us:=(PHead.cells ((headW c after)))) rfl rfl (by exact agg105) (by exact fun u hu=>one_cells (PHead.one) u hu) D (lq rfl) ?_));have R:=D;clear D;intro Ea J D;have hS:∀b∈[P],¬Q7 b:=(by intro b L;simp at L;subst L;exact E);replace H:=H.md J (by intro L;simp at L;omega);replace K:=K.md J (apart_bo R K (by decide)) hS;replace uQ:=uQ.md J;replace M:=M.step J (all_cons d all_nil);clear R hS;obtain⟨X,r⟩:∃y,y=({({b:=(List.replicate 272 0),h:=zz2}:Drf)with h:=(headW c after)}:Drf):=⟨_,rfl⟩
  replace D:Blk _ _ (Drf.cells ({({b:=(List.replicate 272 0),h:=zz2}:Drf)with h:=(headW c after)}) v4) _:=D;rw[← r]at D;have V:Drf.ok X:=(by rw[r];exact(by unfold Drf.ok;exact Cr));have C0:X.b.length=(({b:=(List.replicate 272 0),h:=zz2}:Drf)).b.length:=(by rw[r]);rw[show(({b:=(List.replicate 272 0),h:=zz2}:Drf)).b=X.b by rw[r]]at K;refine nt (c_seq (ns (sf rfl off41_6 (sl (u:=(.bool c.keyed)) rfl one4 H rfl (nt ?_)))));refine c_cut (fun(mj:Drf)=>[(2,(.pointer (some ⟨A3,0,none⟩))),(5,(.pointer (some ⟨P,0,none⟩)))]) (fun(mj:Drf) w'=>∃Q':Nat→Prop,(∀b,Q' b→Q b)∧(∀b,Q b→b<w.heap.size→Q' b)∧Up w' Q'∧Md [] w w'∧Blk w' P (Drf.cells mj v4) 107∧Ow tB8 5 (Fsh [] w) w' Q' v4 mj.b∧Drf.ok mj∧Blk w' A3 (Cfg.cells c) 41∧¬Q' P∧Q' A3∧mj=({X with h:={X.h with incompat:=if c.keyed=true then 4 else 0}}:Drf)) ?_ ?_
  · clear M uQ tQ W I E H K D
    rintro mj B Eb ⟨Dr,tQ,W,uQ,M,D,K,Bs,H,E,I,Bi⟩;have Au:=Bi;have D3:mj.b.length=272:=(by rw[Au];show X.b.length=_;rw[r];simp);have D0:mj.h.n.getD 0 0=272:=(by rw[Au];show X.h.n.getD 0 0=_;rw[r];rfl);have Cq:mj.h.state=1:=(by rw[Au];show X.h.state=_;rw[r];rfl);refine c_then (ns (mv rfl (mv rfl (sf rfl off41_3 (sl (u:=(.int .i64 c.dataSlots)) rfl one3 H rfl ?_)))));have D5:c.dataSlots<9223372036854775808:=a0_0.2.2.2.1;refine st_mkG (lo:=Fsh [] w) (T:=tSlt) (z:=({first:=0,tail:=0}:Slt)) (zs:=(Slt.cells (({first:=0,tail:=0}:Slt)))) (m:=c.dataSlots) rfl u170 elT222 z222 rfl (fun _ _=>(tSlt_mk (by exact⟨(by(simp<;>omega)),(by(simp<;>omega))⟩))) uQ (Fsh.new M) (by omega) ?_;intro D8 Cw Ds sQ sT e Ag J Bf;replace E:=fun hh=>E (sT _ hh);replace K:=K.sub sQ sT;replace I:=sQ _ I H.lt;replace tQ:=fun b L=>tQ b (sT b L);replace W:=fun b L hl=>sQ b (W b L hl) (ly hl M.size);replace D:=D.md0 J;replace K:=K.md0 J;replace H:=H.md0 J;replace uQ:=uQ.md J;replace M:=M.step0 J;replace uQ:=e;clear e sQ sT Bf;obtain⟨B0,fQ,fT,Bd⟩:=Ag.freeze;replace E:=fun hh=>(fT _ hh).elim E (nfz (apart_ow Ag D (by decide)));replace K:=K.subF fQ fT (apart_oo Ag K (by decide));replace I:=fQ _ I;replace tQ:=fun b L=>(fT b L).elim (tQ b) (fun hv=>Fsh.up B8 b (Ag.2 b hv).1);replace W:=fun b L hl=>fQ b (W b L hl);replace uQ:Up Cw B0:=fun b L=>fQ b (uQ b L);clear Ag fQ fT;have Ag:=Bd;clear Bd;refine st_call fn95 rfl (ePutTable_any uQ 4 (by omega) Ag (by(simp<;>omega)) (by omega)) ?_;rintro en Ec ⟨Cu,Bx,rfl,J,Bp,Bj⟩;refine⟨_,rfl,?_⟩;replace D:=D.md0 J;replace K:=K.md0 J;replace H:=H.md0 J;replace uQ:=uQ.md J;replace M:=M.step0 J;have Co:=(putTableF_lenA 4 (List.replicate c.dataSlots ({first:=0,tail:=0}:Slt))).2 (.inl rfl)
    rw[Bj,List.length_replicate]at Co;refine st_call fn94 rfl (dAdd_any uQ mj D E Bs (K.reP (fun _ _=>trivial)) Bp (by omega) (by omega) (by omega)) ?_;rintro en Ed ⟨Ao,N,f,Ce,rfl,J,⟨sQ,sT,e⟩,Cs,Av,Ay,F,A,Bk⟩;refine⟨_,rfl,?_⟩;have hP:∀i∈(P :: (vblock v4).toList),Fsh [] w i:=(all_cons d (all_row (fun x hx=>(K.2 x hx).1)));have hS:∀i∈(P :: (vblock v4).toList),¬B0 i:=(all_cons E (all_row (fun x hx=>(K.2 x hx).2)));have t:A3∉(P :: (vblock v4).toList):=(nin_cons (fun h=>E (h ▸ I)) (apart_ow K H (by decide)));replace A:=A.reP (fun x hx=>(A.2 x hx).1);replace A:=A.reP (fun x hx=>(A.2 x hx).1.elim (hP x) (Fsh.new M x));replace I:=sQ _ I H.lt;replace tQ:=fun b L=>tQ b (sT b L);replace W:=fun b L hl=>sQ b (W b L hl) (ly hl M.size);replace hS:=fun i hi hq=>hS i hi (sT i hq);replace H:=H.md J t;clear t;replace M:=M.step J hP;replace uQ:=e;clear e sQ sT;clear hP hS D E;have D:=Av;have E:=Ay;clear Av Ay;clear K;have Ae:=add_at mj Bx;rw[Bk]at Ae;try simp only[LL,Nat.reduceAdd,Nat.reduceMul]at Ae
    have Cj:=congrArg List.length Ae.2.1;rw[List.length_append]at Cj;have Dy:=Ae.2.2.2.2.2.2 0 (by decide) (by decide) (by decide);have Cl:=Ae.2.2.2.2.2.1;refine st _ (r_addN (a:=Ao) (b:=16) 18446744073709551616 rfl rfl rfl (by omega)) (sn rfl (sf rfl off107_1 (sf rfl off105_9 (st_store rfl rfl one23 rfl D (lq rfl) ?_))));have R:=D;clear D;intro Cx J D;have hS:∀b∈[P],¬Ce b:=(by intro b L;simp at L;subst L;exact E);replace H:=H.md J (by intro L;simp at L;omega);replace A:=A.md J (apart_bo R A (by decide)) hS;replace uQ:=uQ.md J;replace M:=M.step J (all_cons d all_nil);clear R hS;obtain⟨Aj,g⟩:∃y,y=({N with h:={N.h with n:=N.h.n.set 2 (Ao+16)}}:Drf):=⟨_,rfl⟩
    replace D:Blk Cx P (Drf.cells ({N with h:={N.h with n:=N.h.n.set 2 (Ao+16)}}) f) 107:=by
      have hh:=D;simp only[Drf.cells,PHead.cells];rw[nums21_set (by exact F.2.2.2.2.2.2.2.1.1) (by decide)];exact hh
    rw[← g]at D;have Bu:Drf.ok Aj:=(by rw[g];exact(by unfold Drf.ok;exact⟨F.1,F.2.1,F.2.2.1,F.2.2.2.1,F.2.2.2.2.1,F.2.2.2.2.2.1,F.2.2.2.2.2.2.1,(nums_set F.2.2.2.2.2.2.2.1 (by omega)),F.2.2.2.2.2.2.2.2.1,F.2.2.2.2.2.2.2.2.2.1,F.2.2.2.2.2.2.2.2.2.2⟩));have C1:Aj.b.length=N.b.length:=(by rw[g]);have C2:Aj.h.n.getD 0 0=N.h.n.getD 0 0:=(by rw[g];exact getD_set_ne' (by decide));have C3:Aj.h.n.getD 3 0=N.h.n.getD 3 0:=(by rw[g];exact getD_set_ne' (by decide));have C4:Aj.h.n.getD 4 0=N.h.n.getD 4 0:=(by rw[g];exact getD_set_ne' (by decide));have C5:Aj.h.n.getD 5 0=N.h.n.getD 5 0:=(by rw[g];exact getD_set_ne' (by decide));rw[show N.b=Aj.b by rw[g]]at A;refine nt (ns (mv rfl (mv rfl (sf rfl off41_4 (sl (u:=(.int .i64 c.fieldSlots)) rfl one3 H rfl ?_)))));have D6:c.fieldSlots<9223372036854775808:=a0_0.2.2.2.2.1;refine st_mkG (lo:=Fsh [] w) (T:=tSlt) (z:=({first:=0,tail:=0}:Slt)) (zs:=(Slt.cells (({first:=0,tail:=0}:Slt)))) (m:=c.fieldSlots) rfl u170 elT222 z222 rfl (fun _ _=>(tSlt_mk (by exact⟨(by(simp<;>omega)),(by(simp<;>omega))⟩))) uQ (Fsh.new M) (by omega) ?_;intro D9 Cy Du sQ sT e Ah J Bf;replace I:=sQ _ I H.lt;replace A:=A.sub sQ sT;replace E:=fun hh=>E (sT _ hh);replace tQ:=fun b L=>tQ b (sT b L);replace W:=fun b L hl=>sQ b (W b L hl) (ly hl M.size);replace H:=H.md0 J;replace A:=A.md0 J;replace D:=D.md0 J;replace uQ:=uQ.md J;replace M:=M.step0 J;replace uQ:=e;clear e sQ sT Bf;obtain⟨B3,fQ,fT,Be⟩:=Ah.freeze;replace I:=fQ _ I;replace A:=A.subF fQ fT (apart_oo Ah A (by decide));replace E:=fun hh=>(fT _ hh).elim E (nfz (apart_ow Ah D (by decide)))
    replace tQ:=fun b L=>(fT b L).elim (tQ b) (fun hv=>Fsh.up B8 b (Ah.2 b hv).1);replace W:=fun b L hl=>fQ b (W b L hl);replace uQ:Up Cy B3:=fun b L=>fQ b (uQ b L);clear Ah fQ fT;have Ah:=Be;clear Be;refine st_call fn95 rfl (ePutTable_any uQ 5 (by omega) Ah (by(simp<;>omega)) (by omega)) ?_;rintro en Ee ⟨Cv,Bz,rfl,J,Bq,Bl⟩;refine⟨_,rfl,?_⟩;replace H:=H.md0 J;replace A:=A.md0 J;replace D:=D.md0 J;replace uQ:=uQ.md J;replace M:=M.step0 J;have Cp:=(putTableF_lenA 5 (List.replicate c.fieldSlots ({first:=0,tail:=0}:Slt))).2 (.inr rfl);rw[Bl,List.length_replicate]at Cp;refine st_call fn94 rfl (dAdd_any uQ Aj D E Bu (A.reP (fun _ _=>trivial)) Bq (by omega) (by omega) (by omega)) ?_;rintro en Ef ⟨Ap,O,Aa,A9,rfl,J,⟨sQ,sT,e⟩,Ct,Aw,Az,G,C,Bm⟩;refine⟨_,rfl,?_⟩;have hP:∀i∈(P :: (vblock f).toList),Fsh [] w i:=(all_cons d (all_row (fun x hx=>(A.2 x hx).1)));have hS:∀i∈(P :: (vblock f).toList),¬B3 i:=(all_cons E (all_row (fun x hx=>(A.2 x hx).2)));have t:A3∉(P :: (vblock f).toList):=(nin_cons (fun h=>E (h ▸ I)) (apart_ow A H (by decide)));replace C:=C.reP (fun x hx=>(C.2 x hx).1);replace C:=C.reP (fun x hx=>(C.2 x hx).1.elim (hP x) (Fsh.new M x));replace tQ:=fun b L=>tQ b (sT b L);replace W:=fun b L hl=>sQ b (W b L hl) (ly hl M.size);replace hS:=fun i hi hq=>hS i hi (sT i hq);replace H:=H.md J t;clear t;replace M:=M.step J hP;replace uQ:=e;clear e sQ sT;clear hP hS D E;have D:=Aw;have E:=Az;clear Aw Az
    clear A;have Af:=add_at Aj Bz;rw[Bm]at Af;try simp only[LL,Nat.reduceAdd,Nat.reduceMul]at Af
    have Ck:=congrArg List.length Af.2.1;rw[List.length_append]at Ck;have Dz:=Af.2.2.2.2.2.2 0 (by decide) (by decide) (by decide);have Cm:=Af.2.2.2.2.2.1;refine st _ (r_addN (a:=Ap) (b:=16) 18446744073709551616 rfl rfl rfl (by omega)) (sn rfl (sf rfl off107_1 (sf rfl off105_11 (st_store rfl rfl one23 rfl D (lq rfl) ?_))));have R:=D;clear D;intro Ca J D;have hS:∀b∈[P],¬A9 b:=(by intro b L;simp at L;subst L;exact E);replace H:=H.md J (by intro L;simp at L;omega);replace C:=C.md J (apart_bo R C (by decide)) hS;replace uQ:=uQ.md J;replace M:=M.step J (all_cons d all_nil);clear R hS;obtain⟨Y,j⟩:∃y,y=({O with h:={O.h with n:=O.h.n.set 4 (Ap+16)}}:Drf):=⟨_,rfl⟩
    replace D:Blk Ca P (Drf.cells ({O with h:={O.h with n:=O.h.n.set 4 (Ap+16)}}) Aa) 107:=by
      have hh:=D;simp only[Drf.cells,PHead.cells];rw[nums21_set (by exact G.2.2.2.2.2.2.2.1.1) (by decide)];exact hh
    rw[← j]at D;have S:Drf.ok Y:=(by rw[j];exact(by unfold Drf.ok;exact⟨G.1,G.2.1,G.2.2.1,G.2.2.2.1,G.2.2.2.2.1,G.2.2.2.2.2.1,G.2.2.2.2.2.2.1,(nums_set G.2.2.2.2.2.2.2.1 (by omega)),G.2.2.2.2.2.2.2.2.1,G.2.2.2.2.2.2.2.2.2.1,G.2.2.2.2.2.2.2.2.2.2⟩));have C6:Y.b.length=O.b.length:=(by rw[j]);have C7:Y.h.n.getD 0 0=O.h.n.getD 0 0:=(by rw[j];exact getD_set_ne' (by decide));have C8:Y.h.n.getD 2 0=O.h.n.getD 2 0:=(by rw[j];exact getD_set_ne' (by decide));have C9:Y.h.n.getD 3 0=O.h.n.getD 3 0:=(by rw[j];exact getD_set_ne' (by decide));have Da:Y.h.n.getD 5 0=O.h.n.getD 5 0:=(by rw[j];exact getD_set_ne' (by decide));rw[show O.b=Y.b by rw[j]]at C;refine nt (c_seq ?_);have Ar:=H;have Dv:∀b∈[P],¬A9 b:=(all_cons E all_nil);refine c_mixT [(0,true),(1,true),(2,true),(3,true),(4,true),(5,true),(6,true),(7,true),(8,true),(9,true),(10,true),(11,true),(12,true),(13,false)] [14,15,16,17] (fun w'=>Md [P] Ca w') mixed (by kernel_rfl) ?_;intro Eg A4;refine⟨A4.mono (by simp),?_⟩;have MC:=A4.mono (T:=[P]) (by simp);refine mo rfl (mo rfl (mz (fun w' hc=>r_field rfl off41_3) (mz (fun w' hc=>(r_loadBlk rfl one3 (Ar.md hc (by simp;omega)) rfl).to (b:=(.int .i64 c.dataSlots)) rfl) (mz (fun w' hc=>r_mulN (a:=16) (b:=c.dataSlots) 9223372036854775808 rfl rfl rfl (by omega)) (mz (fun w' hc=>r_convN (a:=16*c.dataSlots) 18446744073709551616 rfl (by rw[u3];rfl) u23 rfl (by omega)) (mz (fun w' hc=>r_field rfl off41_4) (mz (fun w' hc=>(r_loadBlk rfl one3 (Ar.md hc (by simp;omega)) rfl).to (b:=(.int .i64 c.fieldSlots)) rfl) (mz (fun w' hc=>r_mulN (a:=16) (b:=c.fieldSlots) 9223372036854775808 rfl rfl rfl (by omega)) (mz (fun w' hc=>r_convN (a:=16*c.fieldSlots) 18446744073709551616 rfl (by rw[u3];rfl) u23 rfl (by omega)) ?_)))))))))
    refine mz (fun w' hc=>r_nil rfl) (mz (fun w' hc=>r_field rfl off107_1) (mz (fun w' hc=>r_field rfl off105_10) ?_));replace C:=C.md0 A4;replace D:=D.md0 A4;replace uQ:=uQ.md A4;replace M:=M.step0 A4;refine m_e ?_ rfl;refine st_store rfl rfl one23 rfl D (lq rfl) ?_;have R:=D;clear D;intro Cz J D;have hS:∀b∈[P],¬A9 b:=(by intro b L;simp at L;subst L;exact E);replace C:=C.md J (apart_bo R C (by decide)) hS;replace uQ:=uQ.md J;replace M:=M.step J (all_cons d all_nil);replace MC:=MC.step1' J (by simp);clear R hS;obtain⟨Z,k⟩:∃y,y=({Y with h:={Y.h with n:=Y.h.n.set 3 (16*c.dataSlots)}}:Drf):=⟨_,rfl⟩
    replace D:Blk Cz P (Drf.cells ({Y with h:={Y.h with n:=Y.h.n.set 3 (16*c.dataSlots)}}) Aa) 107:=by
      have hh:=D;simp only[Drf.cells,PHead.cells];rw[nums21_set (by exact S.2.2.2.2.2.2.2.1.1) (by decide)];exact hh
    rw[← k]at D;have U:Drf.ok Z:=(by rw[k];exact(by unfold Drf.ok;exact⟨S.1,S.2.1,S.2.2.1,S.2.2.2.1,S.2.2.2.2.1,S.2.2.2.2.2.1,S.2.2.2.2.2.2.1,(nums_set S.2.2.2.2.2.2.2.1 (by omega)),S.2.2.2.2.2.2.2.2.1,S.2.2.2.2.2.2.2.2.2.1,S.2.2.2.2.2.2.2.2.2.2⟩));have Db:Z.b.length=Y.b.length:=(by rw[k]);have Dc:Z.h.n.getD 0 0=Y.h.n.getD 0 0:=(by rw[k];exact getD_set_ne' (by decide));have Dd:Z.h.n.getD 2 0=Y.h.n.getD 2 0:=(by rw[k];exact getD_set_ne' (by decide));have De:Z.h.n.getD 4 0=Y.h.n.getD 4 0:=(by rw[k];exact getD_set_ne' (by decide));have Df:Z.h.n.getD 5 0=Y.h.n.getD 5 0:=(by rw[k];exact getD_set_ne' (by decide));rw[show Y.b=Z.b by rw[k]]at C;refine st_nil ⟨rfl,MC,?_⟩;refine m_nil ?_;clear Ar;clear MC;refine sn rfl (sf rfl off107_1 (sf rfl off105_12 (st_store rfl rfl one23 rfl D (lq rfl) ?_)));have R:=D;clear D;intro w64 J D;have hS:∀b∈[P],¬A9 b:=(by intro b L;simp at L;subst L;exact E);replace C:=C.md J (apart_bo R C (by decide)) hS;replace uQ:=uQ.md J;replace M:=M.step J (all_cons d all_nil);clear R hS;obtain⟨Ak,l⟩:∃y,y=({Z with h:={Z.h with n:=Z.h.n.set 5 (16*c.fieldSlots)}}:Drf):=⟨_,rfl⟩
    replace D:Blk w64 P (Drf.cells ({Z with h:={Z.h with n:=Z.h.n.set 5 (16*c.fieldSlots)}}) Aa) 107:=by
      have hh:=D;simp only[Drf.cells,PHead.cells];rw[nums21_set (by exact U.2.2.2.2.2.2.2.1.1) (by decide)];exact hh
    rw[← l]at D;have Bv:Drf.ok Ak:=(by rw[l];exact(by unfold Drf.ok;exact⟨U.1,U.2.1,U.2.2.1,U.2.2.2.1,U.2.2.2.2.1,U.2.2.2.2.2.1,U.2.2.2.2.2.2.1,(nums_set U.2.2.2.2.2.2.2.1 (by omega)),U.2.2.2.2.2.2.2.2.1,U.2.2.2.2.2.2.2.2.2.1,U.2.2.2.2.2.2.2.2.2.2⟩));have Dg:Ak.b.length=Z.b.length:=(by rw[l]);have Dh:Ak.h.n.getD 0 0=Z.h.n.getD 0 0:=(by rw[l];exact getD_set_ne' (by decide));have Di:Ak.h.n.getD 2 0=Z.h.n.getD 2 0:=(by rw[l];exact getD_set_ne' (by decide));have Dj:Ak.h.n.getD 3 0=Z.h.n.getD 3 0:=(by rw[l];exact getD_set_ne' (by decide));have Dk:Ak.h.n.getD 4 0=Z.h.n.getD 4 0:=(by rw[l];exact getD_set_ne' (by decide));rw[show Z.b=Ak.b by rw[l]]at C;refine nt (ns (mv rfl ?_));have D7:Ak.h.state<256:=(by rw[l,k,j];show O.h.state<_;rw[Cm,g];show N.h.state<_;rw[Cl,Cq];decide);refine st_call fn69 rfl (dSeal_any uQ Ak D E C Bv (by omega) (by omega) (by omega)) ?_;rintro en Ei ⟨Bt,rfl,J,Ax,A0,A6,B6⟩;refine⟨_,rfl,?_⟩;have p:=C;replace C:=A0.reP (fun x hx=>(p.2 x hx).1);clear A0;replace D:=Ax;clear Ax;replace uQ:=uQ.md J;replace M:=M.stepO J (fun b L=>(p.2 b L).1);clear p;refine nt (ns (mv rfl (asg rfl (nt (c_ret ?_)))));exact ret1L (v:=(.pointer (some ⟨P,0,none⟩))) trivial rfl ⟨rfl,tV⟩ ⟨P,_,Bt,A9,rfl,M,⟨W,tQ,uQ⟩,D,E,Bb,A6,C,(by unfold blankF;simp only;rw[show({b:=List.replicate 272 0,h:={headW c after with incompat:=if c.keyed=true then 4 else 0}}:Drf)=mj by rw[Au,r],Bj,Bk];simp only;rw[show N.setN 2 (Ao+16)=Aj by rw[g];rfl,Bl,Bm];simp only;rw[show((O.setN 4 (Ap+16)).setN 3 (16*c.dataSlots)).setN 5 (16*c.fieldSlots)=Ak by rw[l,k,j];rfl];exact B6)⟩
  · refine c_if rfl (fun Bo=>?_) (fun Bo=>?_)
    · (have Bc:=Bo);refine c_region (mv rfl (sn rfl (sf rfl off107_1 (sf rfl off105_1 (st_store rfl rfl one103 rfl D (lq rfl) ?_)))));have R:=D;clear D;intro Ej J D;have hS:∀b∈[P],¬Q7 b:=(by intro b L;simp at L;subst L;exact E);replace H:=H.md J (by intro L;simp at L;omega);replace K:=K.md J (apart_bo R K (by decide)) hS;replace uQ:=uQ.md J;replace M:=M.step J (all_cons d all_nil);clear R hS;obtain⟨Am,o⟩:∃y,y=({X with h:={X.h with incompat:=4}}:Drf):=⟨_,rfl⟩;replace D:Blk _ _ (Drf.cells ({X with h:={X.h with incompat:=4}}) v4) _:=D;rw[← o]at D;have Bw:Drf.ok Am:=(by rw[o];exact(by unfold Drf.ok;exact⟨V.1,(by(simp<;>omega)),V.2.2.1,V.2.2.2.1,V.2.2.2.2.1,V.2.2.2.2.2.1,V.2.2.2.2.2.2.1,V.2.2.2.2.2.2.2.1,V.2.2.2.2.2.2.2.2.1,V.2.2.2.2.2.2.2.2.2.1,V.2.2.2.2.2.2.2.2.2.2⟩));have Dl:Am.b.length=X.b.length:=(by rw[o]);have Dm:Am.h.n.getD 0 0=X.h.n.getD 0 0:=(by rw[o]);have Dn:Am.h.n.getD 2 0=X.h.n.getD 2 0:=(by rw[o]);have Do:Am.h.n.getD 3 0=X.h.n.getD 3 0:=(by rw[o]);have Dp:Am.h.n.getD 4 0=X.h.n.getD 4 0:=(by rw[o]);have Dq:Am.h.n.getD 5 0=X.h.n.getD 5 0:=(by rw[o]);rw[show X.b=Am.b by rw[o]]at K;refine st_nil ?_;exact⟨rfl,cut_in Am ⟨rfl,rfl,tV⟩ ⟨Q7,tQ,W,uQ,M,D,K,Bw,H,E,I,(by rw[if_pos (show c.keyed=true from Bc)];exact o)⟩⟩
    · (have Bc:=Bo);refine c_skip ?_;exact⟨rfl,cut_in X ⟨rfl,rfl,tV⟩ ⟨Q7,tQ,W,uQ,M,D,K,V,H,E,I,(by rw[if_neg (show ¬c.keyed=true by simp[Bc]),r]<;>rfl)⟩⟩

theorem rname_any (s:Ly) (w:World) (hl:s.length≤9223372036854775807):Calls Tryz.prog 163 #[str s] w fun e w'=>e = .returned (.bool (isName s))∧w=w':=by
  have M:=Md.refl [] w;refine enter (n:=44) Tryz.func163 rfl rfl rfl ?_;intro B;refine ns (asg rfl (nt (c_seq (ns (asg rfl (nt (c_block ?_)))))));refine c_loop (X:=Nat) (fun i=>[(0,str s),(3,.int .i64 i)]) (fun i w'=>w=w'∧i≤s.length∧∀j,j<i→nameC (s.getD j 0)=true∧(j=0→digit (s.getD j 0)=false)) (fun i=>s.length-i) 0 ?_ ?_ ?_
  · exact⟨rfl,rfl,tV⟩
  · exact⟨rfl,by omega,fun j I=>by omega⟩
  · clear M
    rintro i B Z ⟨rfl,Y,O⟩;have M:=Md.refl [] w;refine c_seq (ns (mv rfl (mv rfl (st _ (r_lenS rfl u9) (st _ (r_lt rfl rfl) (nt ?_))))));refine c_if rfl (fun V=>?_) (fun V=>?_)
    · (have W:=dq V);refine c_skip (c_then (c_seq (c_block (ns (mv rfl (mv rfl (st _ (r_idxSN rfl rfl u9 (by omega)) (asg rfl (nt (c_seq (ns (mv rfl (st _ (r_ge rfl rfl) ?_)))))))))))));refine mv rfl ?_;refine part_n (t:=16) rfl (fun J=>?_) (fun J=>?_)
      · (have Q:=dq J);refine sg J (r_move rfl) (sg J (r_le rfl rfl) (st _ (r_pick_t rfl J rfl) (mv rfl ?_)));refine part_n (t:=20) rfl (fun K=>?_) (fun K=>?_)
        · (have R:=dq K);refine sg K (r_move rfl) (sg K (r_gt rfl rfl) (st _ (r_pick_t rfl K rfl) (mv rfl ?_)));refine part_n (t:=24) rfl (fun F=>?_) (fun F=>?_)
          · (have S:=dq F);refine sk F (sk F (sk F (st_skipU rfl rfl rfl (st_skipU rfl rfl rfl (sk F (st _ (r_pick_t rfl F rfl) (mv rfl (sk rfl (sk rfl (st _ (r_pick_t rfl rfl rfl) (nt (c_if_t rfl rfl (c_exit ?_)))))))))))));refine x_then (x_hit (c_then (c_region (mv rfl (st _ (r_addI rfl rfl (by omega)) (asg rfl (nt (next (i+1) (by omega) ⟨rfl,fitI rfl (by simp),tV⟩ ?_))))))))
            exact⟨rfl,by omega,fun j I=>by
              rcases Nat.lt_or_eq_of_le (Nat.le_of_lt_succ I)with h|h
              · exact O j h
              · subst h;exact⟨by unfold nameC;exact decide_eq_true (by omega),fun H=>by unfold digit;exact decide_eq_false (by omega)⟩⟩
          · (have S:=dF F);refine sg F (r_move rfl) (sg F (r_ge rfl rfl) (sg F (r_move rfl) ?_));refine part_n (t:=27) rfl (fun A=>?_) (fun A=>?_)
            · (have L:=dq A);refine sg A (r_move rfl) (sg A (r_le rfl rfl) (sg F (r_pick_t rfl A rfl) (st _ (r_pick_f rfl F rfl) (mv rfl ?_))));refine part_n (t:=32) rfl (fun C=>?_) (fun C=>?_)
              · (have N:=dq C);refine sk C (sk C (st _ (r_pick_t rfl C rfl) (nt (c_if_t rfl rfl (c_exit (x_then (x_hit (c_then (c_region (mv rfl (st _ (r_addI rfl rfl (by omega)) (asg rfl (nt ?_)))))))))))));refine next (i+1) (by omega) ⟨rfl,fitI rfl (by simp),tV⟩ ?_
                exact⟨rfl,by omega,fun j I=>by
                  rcases Nat.lt_or_eq_of_le (Nat.le_of_lt_succ I)with h|h
                  · exact O j h
                  · subst h;exact⟨by unfold nameC;exact decide_eq_true (by omega),fun H=>by unfold digit;exact decide_eq_false (by omega)⟩⟩
              · (have N:=dF C);refine sg C (r_move rfl) (sg C (r_eq rfl rfl) (st _ (r_pick_f rfl C rfl) (nt ?_)));refine c_if rfl (fun D=>?_) (fun D=>?_)
                · (have E:=dq D);refine c_exit (x_then (x_hit (c_then (c_region (mv rfl (st _ (r_addI rfl rfl (by omega)) (asg rfl (nt (next (i+1) (by omega) ⟨rfl,fitI rfl (by simp),tV⟩ ?_)))))))))
                  exact⟨rfl,by omega,fun j I=>by
                    rcases Nat.lt_or_eq_of_le (Nat.le_of_lt_succ I)with h|h
                    · exact O j h
                    · subst h;exact⟨by unfold nameC;exact decide_eq_true (by omega),fun H=>by unfold digit;exact decide_eq_false (by omega)⟩⟩
                · (have E:=dF D);refine c_skip (c_then (ns (asg rfl (nt (c_ret (r_block (r_then (r_then (r_block (r_then ?_))))))))));exact ret1 trivial rfl rfl ⟨retB (by cases hh:isName s with|false=>rfl|true=>(exfalso;have hl:=name_len hh;have P:=name_dig hh;have U:=name_at hh i (by omega);rcases Nat.eq_zero_or_pos i with H|H<;>omega)),rfl⟩
            · (have L:=dF A);refine sk A (sk A (sg F (r_pick_f rfl A rfl) (st _ (r_pick_f rfl F rfl) (mv rfl (sg rfl (r_move rfl) (sg rfl (r_eq rfl rfl) (st _ (r_pick_f rfl rfl rfl) (nt ?_))))))));refine c_if rfl (fun D=>?_) (fun D=>?_)
              · (have E:=dq D);refine c_exit (x_then (x_hit (c_then (c_region (mv rfl (st _ (r_addI rfl rfl (by omega)) (asg rfl (nt (next (i+1) (by omega) ⟨rfl,fitI rfl (by simp),tV⟩ ?_)))))))))
                exact⟨rfl,by omega,fun j I=>by
                  rcases Nat.lt_or_eq_of_le (Nat.le_of_lt_succ I)with h|h
                  · exact O j h
                  · subst h;exact⟨by unfold nameC;exact decide_eq_true (by omega),fun H=>by unfold digit;exact decide_eq_false (by omega)⟩⟩
              · (have E:=dF D);refine c_skip (c_then (ns (asg rfl (nt (c_ret (r_block (r_then (r_then (r_block (r_then ?_))))))))));exact ret1 trivial rfl rfl ⟨retB (by cases hh:isName s with|false=>rfl|true=>(exfalso;have hl:=name_len hh;have P:=name_dig hh;have U:=name_at hh i (by omega);rcases Nat.eq_zero_or_pos i with H|H<;>first|omega|(subst H;omega))),rfl⟩
        · (have R:=dF K);refine sk K (sk K (st _ (r_pick_f rfl K rfl) (mv rfl (sg rfl (r_move rfl) (sg rfl (r_ge rfl rfl) (sg rfl (r_move rfl) ?_))))));refine part_n (t:=27) rfl (fun A=>?_) (fun A=>?_)
          · (have L:=dq A);refine sg A (r_move rfl) (sg A (r_le rfl rfl) (sg rfl (r_pick_t rfl A rfl) (st _ (r_pick_f rfl rfl rfl) (mv rfl ?_))));refine part_n (t:=32) rfl (fun C=>?_) (fun C=>?_)
            · (have N:=dq C);refine sk C (sk C (st _ (r_pick_t rfl C rfl) (nt (c_if_t rfl rfl (c_exit (x_then (x_hit (c_then (c_region (mv rfl (st _ (r_addI rfl rfl (by omega)) (asg rfl (nt ?_)))))))))))));refine next (i+1) (by omega) ⟨rfl,fitI rfl (by simp),tV⟩ ?_
              exact⟨rfl,by omega,fun j I=>by
                rcases Nat.lt_or_eq_of_le (Nat.le_of_lt_succ I)with h|h
                · exact O j h
                · subst h;exact⟨by unfold nameC;exact decide_eq_true (by omega),fun H=>by unfold digit;exact decide_eq_false (by omega)⟩⟩
            · (have N:=dF C);refine sg C (r_move rfl) (sg C (r_eq rfl rfl) (st _ (r_pick_f rfl C rfl) (nt ?_)));refine c_if rfl (fun D=>?_) (fun D=>?_)
              · (have E:=dq D);refine c_exit (x_then (x_hit (c_then (c_region (mv rfl (st _ (r_addI rfl rfl (by omega)) (asg rfl (nt (next (i+1) (by omega) ⟨rfl,fitI rfl (by simp),tV⟩ ?_)))))))))
                exact⟨rfl,by omega,fun j I=>by
                  rcases Nat.lt_or_eq_of_le (Nat.le_of_lt_succ I)with h|h
                  · exact O j h
                  · subst h;exact⟨by unfold nameC;exact decide_eq_true (by omega),fun H=>by unfold digit;exact decide_eq_false (by omega)⟩⟩
              · (have E:=dF D);refine c_skip (c_then (ns (asg rfl (nt (c_ret (r_block (r_then (r_then (r_block (r_then ?_))))))))));exact ret1 trivial rfl rfl ⟨retB (by cases hh:isName s with|false=>rfl|true=>(exfalso;have hl:=name_len hh;have P:=name_dig hh;have U:=name_at hh i (by omega);rcases Nat.eq_zero_or_pos i with H|H<;>omega)),rfl⟩
          · (have L:=dF A);refine sk A (sk A (sg rfl (r_pick_f rfl A rfl) (st _ (r_pick_f rfl rfl rfl) (mv rfl (sg rfl (r_move rfl) (sg rfl (r_eq rfl rfl) (st _ (r_pick_f rfl rfl rfl) (nt ?_))))))));refine c_if rfl (fun D=>?_) (fun D=>?_)
            · (have E:=dq D);refine c_exit (x_then (x_hit (c_then (c_region (mv rfl (st _ (r_addI rfl rfl (by omega)) (asg rfl (nt (next (i+1) (by omega) ⟨rfl,fitI rfl (by simp),tV⟩ ?_)))))))))
              exact⟨rfl,by omega,fun j I=>by
                rcases Nat.lt_or_eq_of_le (Nat.le_of_lt_succ I)with h|h
                · exact O j h
                · subst h;exact⟨by unfold nameC;exact decide_eq_true (by omega),fun H=>by unfold digit;exact decide_eq_false (by omega)⟩⟩
            · (have E:=dF D);refine c_skip (c_then (ns (asg rfl (nt (c_ret (r_block (r_then (r_then (r_block (r_then ?_))))))))));exact ret1 trivial rfl rfl ⟨retB (by cases hh:isName s with|false=>rfl|true=>(exfalso;have hl:=name_len hh;have P:=name_dig hh;have U:=name_at hh i (by omega);rcases Nat.eq_zero_or_pos i with H|H<;>omega)),rfl⟩
      · (have Q:=dF J);refine sk J (sk J (st _ (r_pick_f rfl J rfl) (mv rfl (sk rfl (sk rfl (st _ (r_pick_f rfl rfl rfl) (mv rfl (sg rfl (r_move rfl) (sg rfl (r_ge rfl rfl) (sg rfl (r_move rfl) ?_))))))))));refine part_n (t:=27) rfl (fun A=>?_) (fun A=>?_)
        · (have L:=dq A);refine sg A (r_move rfl) (sg A (r_le rfl rfl) (sg rfl (r_pick_t rfl A rfl) (st _ (r_pick_f rfl rfl rfl) (mv rfl ?_))));refine part_n (t:=32) rfl (fun C=>?_) (fun C=>?_)
          · (have N:=dq C);refine sk C (sk C (st _ (r_pick_t rfl C rfl) (nt (c_if_t rfl rfl (c_exit (x_then (x_hit (c_then (c_region (mv rfl (st _ (r_addI rfl rfl (by omega)) (asg rfl (nt ?_)))))))))))));refine next (i+1) (by omega) ⟨rfl,fitI rfl (by simp),tV⟩ ?_
            exact⟨rfl,by omega,fun j I=>by
              rcases Nat.lt_or_eq_of_le (Nat.le_of_lt_succ I)with h|h
              · exact O j h
              · subst h;exact⟨by unfold nameC;exact decide_eq_true (by omega),fun H=>by unfold digit;exact decide_eq_false (by omega)⟩⟩
          · (have N:=dF C);refine sg C (r_move rfl) (sg C (r_eq rfl rfl) (st _ (r_pick_f rfl C rfl) (nt ?_)));refine c_if rfl (fun D=>?_) (fun D=>?_)
            · (have E:=dq D);refine c_exit (x_then (x_hit (c_then (c_region (mv rfl (st _ (r_addI rfl rfl (by omega)) (asg rfl (nt (next (i+1) (by omega) ⟨rfl,fitI rfl (by simp),tV⟩ ?_)))))))))
              exact⟨rfl,by omega,fun j I=>by
                rcases Nat.lt_or_eq_of_le (Nat.le_of_lt_succ I)with h|h
                · exact O j h
                · subst h;exact⟨by unfold nameC;exact decide_eq_true (by omega),fun H=>by unfold digit;exact decide_eq_false (by omega)⟩⟩
            · (have E:=dF D);refine c_skip (c_then (ns (asg rfl (nt (c_ret (r_block (r_then (r_then (r_block (r_then ?_))))))))));exact ret1 trivial rfl rfl ⟨retB (by cases hh:isName s with|false=>rfl|true=>(exfalso;have hl:=name_len hh;have P:=name_dig hh;have U:=name_at hh i (by omega);rcases Nat.eq_zero_or_pos i with H|H<;>omega)),rfl⟩
        · (have L:=dF A);refine sk A (sk A (sg rfl (r_pick_f rfl A rfl) (st _ (r_pick_f rfl rfl rfl) (mv rfl (sg rfl (r_move rfl) (sg rfl (r_eq rfl rfl) (st _ (r_pick_f rfl rfl rfl) (nt ?_))))))));refine c_if rfl (fun D=>?_) (fun D=>?_)
          · (have E:=dq D);refine c_exit (x_then (x_hit (c_then (c_region (mv rfl (st _ (r_addI rfl rfl (by omega)) (asg rfl (nt (next (i+1) (by omega) ⟨rfl,fitI rfl (by simp),tV⟩ ?_)))))))))
            exact⟨rfl,by omega,fun j I=>by
              rcases Nat.lt_or_eq_of_le (Nat.le_of_lt_succ I)with h|h
              · exact O j h
              · subst h;exact⟨by unfold nameC;exact decide_eq_true (by omega),fun H=>by unfold digit;exact decide_eq_false (by omega)⟩⟩
          · (have E:=dF D);refine c_skip (c_then (ns (asg rfl (nt (c_ret (r_block (r_then (r_then (r_block (r_then ?_))))))))));exact ret1 trivial rfl rfl ⟨retB (by cases hh:isName s with|false=>rfl|true=>(exfalso;have hl:=name_len hh;have P:=name_dig hh;have U:=name_at hh i (by omega);rcases Nat.eq_zero_or_pos i with H|H<;>omega)),rfl⟩
    · (have W:=dF V);refine c_exit (x_then (x_then (x_hit (c_then (ns (mv rfl (st _ (r_lenS rfl u9) (st _ (r_ge rfl rfl) (mv rfl ?_)))))))));refine part_n (t:=39) rfl (fun G=>?_) (fun G=>?_)
      · (have T:=dq G);refine sg G (r_move rfl) (sg G (r_lenS rfl u9) (sg G (r_le rfl rfl) (st _ (r_pick_t rfl G rfl) (asg rfl (nt (c_ret ?_))))));exact ret1 trivial rfl rfl ⟨retB (name_fin (by omega) (fun j I=>O j (by omega))),rfl⟩
      · (have T:=dF G);refine sk G (sk G (sk G (st _ (r_pick_f rfl G rfl) (asg rfl (nt (c_ret ?_))))));exact ret1 trivial rfl rfl ⟨retB (by cases hh:isName s with|false=>rfl|true=>(exfalso;have hl:=name_len hh;have P:=name_dig hh;omega)),rfl⟩

theorem rName_any {w:World} {Q:Nat→Prop} (uQ:Up w Q) (s:Ly) (p0:s.length≤9223372036854775807) :
    Calls Tryz.prog 163 #[str s] w fun en w'=>∃r0:Bool,en = .returned (.bool r0)∧Md [] w w'∧isName s=r0:=by
  refine(rname_any s w p0).mono fun en w' ⟨he,hm⟩=>⟨isName s,by rw[he],hm ▸ Md.refl [] w,rfl⟩
theorem el45:elemIs Tryz.prog 45 1=true:=by kernel_rfl
theorem off91_1:fieldOff Tryz.prog 91 1=some 1:=by kernel_rfl
theorem u127:Tryz.prog.underlying 127=some (.slice 45):=by kernel_rfl

theorem payload_any {w:World} {Q:Nat→Prop} (uQ:Up w Q) (p:Pr) (p0:p.name.length+p.value.length≤4611686018427387904) :
    Calls Tryz.prog 115 #[.agg (Pr.cells p).toArray] w fun en w'=>∃r0:List UInt8,en = .returned (str r0)∧Md [] w w'∧payload p=r0:=by
  have M:=Md.refl [] w;have H:=uQ;refine enter (n:=9) Tryz.func115 rfl rfl rfl ?_;intro B;refine ns (st_box (cs:=(Pr.cells p)) rfl rfl ?_);intro E I A G F C;have D:=uQ _ A;replace A:=lv M.size A;replace M:=M.step0 F;refine asg rfl (nt (ns (sf rfl off91_0 (sl (u:=(str p.name)) rfl one9 C rfl (st _ (r_addS (a:=p.name) (b:=(([61]:Ly))) rfl rfl (by(simp<;>omega))) (sf rfl off91_1 (sl (u:=(str p.value)) rfl one9 C rfl (st _ (r_addS (a:=(p.name ++ (([61]:Ly)))) (b:=p.value) rfl rfl (by(simp<;>omega))) (asg rfl (nt (c_ret ?_)))))))))));exact ret1L (v:=(str ((p.name ++ (([61]:Ly))) ++ p.value))) trivial rfl ⟨rfl,tV⟩ ⟨(p.name ++ (([61]:Ly))) ++ p.value,rfl,M,(by rw[payload]<;>simp(disch:=first|omega|assumption|(simp;done)|fail) only [SS,reduceIte])⟩
theorem agg91:isAggN Tryz.prog 91 2=true:=by kernel_rfl
theorem fn115:isFn Tryz.prog 115=true:=by kernel_rfl
theorem fn163:isFn Tryz.prog 163=true:=by kernel_rfl

theorem rJoin_any {w:World} {Q:Nat→Prop} (uQ:Up w Q) (p:Pr) (p0:p.name.length≤9223372036854775807) :
    Calls Tryz.prog 114 #[.agg (Pr.cells p).toArray] w fun en w'=>∃u0:Value,∃r0:List UInt8,∃r1:Nat,en = .returned (.tuple #[u0,(.int .i64 r1)])∧Md [] w w'∧Ls tB8 w' Q u0 r0∧r1<9223372036854775808∧joinF p=(r0,r1):=by
  have M:=Md.refl [] w;have X:=uQ;have W:∀b,Q b→Q b:=fun _ h=>h;refine enter (n:=15) Tryz.func114 rfl rfl rfl ?_;intro B;refine ns (st_box (cs:=(Pr.cells p)) rfl rfl ?_);intro U Z K V F D;have S:=uQ _ K;replace K:=lv M.size K;replace uQ:=uQ.md F;replace M:=M.step0 F;refine asg rfl (asg rfl (nt (c_seq (ns (sf rfl off91_0 (sl (u:=(str p.name)) rfl one9 D rfl (st_call fn163 rfl (rName_any uQ p.name (by omega)) ?_)))))));rintro en c ⟨T,rfl,F,N⟩;refine⟨_,rfl,?_⟩;replace D:=D.md0 F;replace uQ:=uQ.md F;replace M:=M.step0 F;refine st _ (r_not rfl) (nt ?_);refine c_if rfl (fun R=>?_) (fun R=>?_)
  · (have G:=bnt R);refine ns (asg rfl (asg rfl (nt (c_ret (r_then ?_)))));exact retL (vs:=[(.slice none 0 0),(.int .i64 ((1:Nat):Int))]) trivial rfl ⟨rfl,rfl,tV⟩ rfl ⟨_,[],1,rfl,M,(Ls.nil _ _ _),(by omega),(by rw[joinF]<;>simp(disch:=first|omega|assumption|(simp;done)|fail) only [SS,reduceIte,N,G])⟩
  · (have G:=bnf R);refine c_skip (c_then (c_seq (ns (sf rfl off91_1 (sl (u:=(str p.value)) rfl one9 D rfl (st _ (r_lenS (s:=p.value) rfl u9) (st _ (r_gtN (a:=p.value.length) (b:=256) rfl rfl) (nt ?_))))))));refine c_if rfl (fun L=>?_) (fun L=>?_)
    · (have C:=dq L);refine ns (asg rfl (asg rfl (nt (c_ret (r_then ?_)))));exact retL (vs:=[(.slice none 0 0),(.int .i64 ((21:Nat):Int))]) trivial rfl ⟨rfl,rfl,tV⟩ rfl ⟨_,[],21,rfl,M,(Ls.nil _ _ _),(by omega),(by rw[joinF]<;>simp(disch:=first|omega|assumption|(simp;done)|fail) only [SS,reduceIte,N,G,C])⟩
    · (have C:=dF L);refine c_skip (c_then (ns ?_));have Y:=(name_len (s:=p.name) (by simp_all)).2;refine st _ (r_loadPart (Pr.cells p) rfl (by exact agg91) D rfl) (st_call fn115 rfl (payload_any uQ p (by omega)) ?_);rintro en d ⟨J,rfl,F,O⟩;refine⟨_,rfl,?_⟩;replace uQ:=uQ.md F;replace M:=M.step0 F;have H:=payload_len p;rw[O]at H;try simp only[LL,Nat.reduceAdd,Nat.reduceMul]at H
      refine st_convSB (s:=J) u9 u45 u5 rfl (by simp[maxLen];omega) ?_;intro I e F E A;replace E:=Ls.of_by (Q:=Q) E (fun b P _=>uQ b (A b P).1);replace A:∀b,vblock I=some b→w.heap.size≤b:=fun b P=>lv M.size (A b P).1;replace M:=M.step0 F;refine asg rfl (asg rfl (nt (c_ret ?_)));exact retL (vs:=[I,(.int .i64 ((0:Nat):Int))]) trivial rfl ⟨rfl,rfl,tV⟩ rfl ⟨_,J,0,rfl,M,(E.sub (fun b P _=>W b P)),(by omega),(by rw[joinF]<;>simp(disch:=first|omega|assumption|(simp;done)|fail) only [SS,reduceIte,N,G,C,O])⟩
theorem el91:elemIs Tryz.prog 91 2=true:=by kernel_rfl
theorem elT91:elT Tryz.prog 91 2 32=true:=by kernel_rfl
theorem fn114:isFn Tryz.prog 114=true:=by kernel_rfl
theorem pair91:pairT Tryz.prog 91 9=true:=by kernel_rfl
theorem pl91:bplace Tryz.prog 91=some [(0,1),(1,1)]:=by kernel_rfl
theorem u47:Tryz.prog.underlying 47=some (.slice 91):=by kernel_rfl
theorem z91:zcells Tryz.prog 91=some [.string ByteArray.empty,.string ByteArray.empty]:=by kernel_rfl

set_option maxHeartbeats 4000000 in
theorem rList_any {w:World} {Q:Nat→Prop} (uQ:Up w Q) {v0:Value} {l:List Pr} (h0:Ls tPr w Q v0 l) (p0:l.length≤1000) (p1:∀q∈l,q.name.length≤9223372036854775807) :
    Calls Tryz.prog 59 #[v0] w fun en w'=>∃u0:Value,∃r0:List Pr,∃r1:Nat,en = .returned (.tuple #[u0,(.int .i64 r1)])∧Md [] w w'∧Ls tPr w' Q u0 r0∧r1<9223372036854775808∧listF l=(r0,r1):=by
  have L0:=h0.len63;have M:=Md.refl [] w;have Cw:=uQ;have P:∀b,Q b→Q b:=fun _ h=>h;have E:∀b,Q b→b<w.heap.size→Q b:=fun _ h _=>h;refine enter (n:=95) Tryz.func59 rfl rfl rfl ?_;intro B;refine ns (asg rfl (asg rfl (nt (c_seq (ns (mv rfl (sL rfl u47 h0.shp (st _ (r_eqN (a:=l.length) (b:=0) rfl rfl) (nt ?_)))))))));refine c_if rfl (fun Bg=>?_) (fun Bg=>?_)
  · (have N:=dq Bg);refine ns (asg rfl (asg rfl (nt (c_ret (r_then ?_)))));exact retL (vs:=[(.slice none 0 0),(.int .i64 ((16:Nat):Int))]) trivial rfl ⟨rfl,rfl,tV⟩ rfl ⟨_,[],16,rfl,M,(Ls.nil _ _ _),(by omega),(by rw[listF]<;>simp(disch:=first|omega|assumption|(simp;done)|fail) only [SS,reduceIte,N])⟩
  · (have N:=dF Bg);refine c_skip (c_then (ns (asg rfl (nt (c_seq (ns (asg rfl (nt (c_block ?_)))))))));obtain⟨r0,Z⟩:∃r,goL l []=r:=⟨_,rfl⟩;have C6:=Z
    try simp only[List.nil_append]at Z
    refine loop3 (fun(v:Value) (o:List Pr) (i:Nat)=>[(4,v),(5,(.int .i64 i)),(0,v0)]) (fun(v:Value) (o:List Pr) (i:Nat) w'=>∃Q':Nat→Prop,(∀b,Q' b→Q b)∧(∀b,Q b→b<w.heap.size→Q' b)∧Up w' Q'∧Md [] w w'∧Ow tPr 91 (Fsh [] w) w' Q' v o∧Ls tPr w' Q' v0 l∧(o.length≤i∧i≤l.length)∧(∀q∈o,q.name.length≤1000000∧q.value.length≤1000000)∧goL (l.drop i) o=r0) (fun(v:Value) (o:List Pr) (i:Nat)=>l.length-i) (x0:=(.slice none 0 0)) (x1:=([]:List Pr)) (x2:=0) ?_ ?_ ?_
    · exact⟨rfl,rfl,rfl,tV⟩
    · exact⟨Q,P,E,uQ,M,(Ow.nil _ _ _ _ _),h0,⟨by simp,by omega⟩,(by simp),(by have hh:=Z;exact hh)⟩
    · clear M uQ P E h0
      rintro v o i B w1 ⟨Q2,P,E,uQ,M,A,h0,C9,Ah,u⟩;refine c_seq (ns (mv rfl (mv rfl (sL rfl u47 h0.shp (st _ (r_ltN (a:=i) (b:=l.length) rfl rfl) (nt ?_))))));refine c_if rfl (fun Bh=>?_) (fun Bh=>?_)
      · (have W:=dq Bh);refine c_skip (c_then (c_seq (c_block (c_seq (ns (mv rfl (mv rfl (st _ (r_indexN (i:=i) 2 rfl rfl u47 el91 h0.shp (by omega)) ?_))))))));obtain⟨g,L⟩:=getE (l:=l) (i:=i) (by omega);obtain⟨c4,Ct,Ba⟩:=h0.get L;obtain⟨_,rfl⟩:=tPr_un Ct;replace Ba:At _ v0 (i*2) (Pr.cells g):=Ba;refine st _ (r_loadEA (kk:=i*2) (Pr.cells g) 0 rfl rfl (by exact agg91) Ba rfl) ?_;have bx:=p1 _ (List.mem_of_getElem? L);refine st_call fn114 rfl (rJoin_any uQ g (by omega)) ?_;rintro en w5 ⟨Cj,Ck,A7,rfl,I,J,Dd,Ak⟩;refine⟨_,rfl,?_⟩;replace A:=A.md0 I;replace h0:=h0.md0 I;replace uQ:=uQ.md I;replace M:=M.step0 I;refine mv rfl (se rfl rfl (se rfl rfl (asg rfl (asg rfl (st_nil ?_)))));clear Ba;refine c_then (ns (mv rfl (st _ (r_neN (a:=A7) (b:=0) rfl rfl) (nt ?_))));refine c_if rfl (fun Bi=>?_) (fun Bi=>?_)
        · (have x:=dq Bi);refine ns (mv rfl (asg rfl (asg rfl (nt (c_ret (r_then (r_block (r_then (r_then (r_block (r_then ?_)))))))))));exact retL (vs:=[(.slice none 0 0),(.int .i64 A7)]) trivial rfl ⟨rfl,rfl,tV⟩ rfl ⟨_,[],A7,rfl,M,(Ls.nil _ _ _),(by assumption),(by(try (simp(disch:=first|omega|assumption|(simp;done)|fail) only [goL_end,goL_step L,SS,reduceIte,N,W,L,Ak,x]at u));rw[listF]<;>simp(disch:=first|omega|assumption|(simp;done)|fail) only [SS,reduceIte,N,Z,W,L,Ak,x,← u])⟩
        · (have x:=dF Bi);refine c_skip (c_then (ns ?_));have hg:=goL_step (o:=o) L;simp only[Ak]at hg;rw[if_neg x,u]at hg;have bd:g.name.length≤1000000∧g.value.length≤1000000:=joinF_bd (by rw[Ak];simp only;omega);refine asg rfl (nt (c_seq ?_));refine c_cut (fun(O:Nat)=>[(8,(.int .i64 O)),(0,v0),(4,v),(5,(.int .i64 i))]) (fun(O:Nat) w'=>∃Q':Nat→Prop,(∀b,Q' b→Q b)∧(∀b,Q b→b<w.heap.size→Q' b)∧Up w' Q'∧Md [] w w'∧Ls tPr w' Q' v0 l∧Ow tPr 91 (Fsh [] w) w' Q' v o∧O≤o.length∧rankF (payload g) o 0=O) ?_ ?_
          · clear M uQ P E A h0 J
            rintro O B w6 ⟨Q7,P,E,uQ,M,h0,A,Cv,Bo⟩;refine c_then (c_seq (c_seq ?_));refine c_cut (fun(A9:Bool)=>[(63,(.bool A9)),(0,v0),(4,v),(5,(.int .i64 i)),(8,(.int .i64 O))]) (fun(A9:Bool) w'=>∃Q':Nat→Prop,(∀b,Q' b→Q b)∧(∀b,Q b→b<w.heap.size→Q' b)∧Up w' Q'∧Md [] w w'∧Ls tPr w' Q' v0 l∧Ow tPr 91 (Fsh [] w) w' Q' v o∧(A9=true↔(O<o.length∧(o.getD O {name:=[],value:=[]}).pb=g.pb))) ?_ ?_
            · clear M uQ P E h0 A
              rintro A9 B w8 ⟨Q9,P,E,uQ,M,h0,A,Ai⟩;have ei:=Bo;refine c_then ?_;refine c_if rfl (fun Bk=>?_) (fun Bk=>?_)
              · (have Ar:=Bk);refine c_exit (x_then (x_hit (c_then (c_region (mv rfl (st _ (r_addN (a:=i) (b:=1) 9223372036854775808 rfl rfl rfl (by omega)) (asg rfl (nt ?_))))))));refine next3 (x0:=v) (x1:=o) (x2:=(i+1)) (by omega) ⟨rfl,(fitI rfl (by omega)),rfl,tV⟩ ⟨Q9,P,E,uQ,M,A,h0,⟨by omega,by omega⟩,Ah,(by have hi:insF g o=o:=(by unfold insF;simp only[ei];rw[if_pos (Ai.1 Ar)]);rw[hi]at hg;exact hg.symm)⟩
              · (have Ar:=Bk);refine c_skip (c_then (ns (mv rfl (st _ (r_buildG (us:=[]) (cs:=(Pr.cells (({name:=[],value:=[]}:Pr)))) [] z91 pl91 rfl rfl trivial trivial rfl rfl) (st_buildSliceG [(Pr.cells (({name:=[],value:=[]}:Pr)))] u47 elT91 (by decide) (by decide) rfl rfl ⟨rfl,tV⟩ ⟨rfl,tV⟩ rfl (by decide) ?_)))));intro Bs Ds Bu Dc I H;have Cl:=uQ _ Bu;replace h0:=h0.md0 I;replace A:=A.md0 I;replace uQ:=uQ.md I;replace M:=M.step0 I;replace H:=Ls.of_blk (m:=1) (R:=Q9) (T:=tPr) (xs:=[({name:=[],value:=[]}:Pr)]) H ⟨_,_,rfl,(tPr_mk),rfl⟩ rfl (by decide) Cl;refine st_ap (sz:=2) (by rfl) u47 elT91 rfl rfl A H (fun _ h _=>h) uQ (Fsh.new M) (by(simp<;>omega)) (by(simp<;>omega)) ?_;intro Cx Du Co sQ sT Ci Av I hS _ Cu;have Bt:=A;clear A;replace h0:=h0.sub sQ;replace H:=H.sub sQ;replace P:=fun b hb=>P b (sT b hb);replace E:=fun b hb hl=>sQ b (E b hb hl) (ly hl M.size);replace h0:=h0.md I hS;replace H:=H.md I hS;replace uQ:=uQ.md I;replace M:=M.stepO I (fun b hb=>(Bt.2 b hb).1);replace uQ:=Ci;clear Ci sQ sT hS Cu;refine asg rfl (nt (c_seq (ns ?_)));have cl:(o ++ ([({name:=[],value:=[]}:Pr)])).length=o.length+1:=(by simp);refine mv rfl (sL rfl u47 Av.shp (st _ (r_subN (a:=((o ++ ([({name:=[],value:=[]}:Pr)])).length)) (b:=1) 9223372036854775808 rfl rfl rfl (by omega)) (asg rfl (nt (c_block ?_)))));obtain⟨r2,Ag⟩:∃r,shiftF ((((o ++ ([({name:=[],value:=[]}:Pr)])).length)-1)-O) (((o ++ ([({name:=[],value:=[]}:Pr)])).length)-1) (o ++ ([({name:=[],value:=[]}:Pr)]))=r:=⟨_,rfl⟩;have C8:=Ag
                try simp only[List.nil_append,Ak]at Ag
                refine loop3 (fun(Y:Value) (o2:List Pr) (j:Nat)=>[(4,Y),(9,(.int .i64 j)),(0,v0),(5,(.int .i64 i)),(8,(.int .i64 O))]) (fun(Y:Value) (o2:List Pr) (j:Nat) w'=>∃Q':Nat→Prop,(∀b,Q' b→Q b)∧(∀b,Q b→b<w.heap.size→Q' b)∧Up w' Q'∧Md [] w w'∧Ow tPr 91 (Fsh [] w) w' Q' Y o2∧Ls tPr w' Q' v0 l∧Ls tPr w' Q' (.slice (some ⟨Bs,0,none⟩) 1 1) ([({name:=[],value:=[]}:Pr)])∧(O≤j∧j<o2.length∧o2.length=o.length+1)∧(∀q∈o2,q.name.length≤1000000∧q.value.length≤1000000)∧shiftF (j-O) j o2=r2) (fun(Y:Value) (o2:List Pr) (j:Nat)=>j) (x0:=Cx) (x1:=(o ++ ([({name:=[],value:=[]}:Pr)]))) (x2:=(((o ++ ([({name:=[],value:=[]}:Pr)])).length)-1)) ?_ ?_ ?_
                · exact⟨rfl,rfl,rfl,rfl,rfl,tV⟩
                · exact⟨Co,P,E,uQ,M,Av,h0,H,⟨by omega,by omega,by omega⟩,(by intro q hq;rcases List.mem_append.1 hq with h|h;exact Ah q h;simp at h;subst h;simp),(by have hh:=Ag;exact hh)⟩
                · clear M uQ P E h0 H Av
                  rintro Y o2 j B Dv ⟨Br,P,E,uQ,M,G,h0,H,Db,A4,B8⟩;refine c_seq (ns (mv rfl (mv rfl (st _ (r_gtN (a:=j) (b:=O) rfl rfl) (nt ?_)))));refine c_if rfl (fun Bl=>?_) (fun Bl=>?_)
                  · (have Bz:=dq Bl);refine c_skip (c_then (c_seq (c_block (c_region (mv rfl (mv rfl (mv rfl (mv rfl (st _ (r_subN (a:=j) (b:=1) 9223372036854775808 rfl rfl rfl (by omega)) (st _ (r_indexN (i:=j-1) 2 rfl rfl u47 el91 G.shp (by omega)) ?_))))))))));obtain⟨A6,Az⟩:=getE (l:=o2) (i:=j-1) (by omega);obtain⟨Di,B4,y⟩:=G.get Az;obtain⟨_,rfl⟩:=tPr_un B4;replace y:At _ Y ((j-1)*2) (Pr.cells A6):=y;refine st _ (r_loadEA (kk:=(j-1)*2) (Pr.cells A6) 0 rfl rfl (by exact agg91) y rfl) (st _ (r_indexN (i:=j) 2 rfl rfl u47 el91 G.shp (by omega)) ?_);obtain⟨Cz,Cg⟩:=getE (l:=o2) (i:=j) (by omega);obtain⟨Dj,B6,Aw⟩:=G.get Cg;obtain⟨_,rfl⟩:=tPr_un B6;replace Aw:At _ Y (j*2) (Pr.cells Cz):=Aw;refine st_storeOwA (T:=tPr) (z:=A6) (i:=j) (c:=(Pr.cells A6)) rfl rfl rfl (by exact agg91) G (tPr_mk) (by omega) ?_;intro Dw I hS U;have S:=G;replace G:=U;clear U;replace h0:=h0.md I hS;replace H:=H.md I hS;clear y;clear Aw;replace uQ:=uQ.md I;replace M:=M.stepO I (fun b hb=>(S.2 b hb).1);clear S hS;refine st_nil (n_block (c_then (c_region (mv rfl (st _ (r_subN (a:=j) (b:=1) 9223372036854775808 rfl rfl rfl (by omega)) (asg rfl (nt ?_)))))));refine next3 (x0:=Y) (x1:=(o2.set j A6)) (x2:=(j-1)) (by omega) ⟨rfl,(fitI rfl (by omega)),rfl,rfl,rfl,tV⟩ ⟨Br,P,E,uQ,M,G,h0,H,(by simp only[List.length_set];omega),(by intro q hq;rcases List.mem_or_eq_of_mem_set hq with h|rfl;exact A4 q h;exact A4 _ (List.mem_of_getElem? Az)),(by have hh:=B8;rw[shift_step (by omega),pr_getD Az]at hh;exact hh)⟩
                  · (have Bz:=dF Bl);refine c_exit (x_then (x_then (x_hit (c_then (c_region (mv rfl (mv rfl (mv rfl (mv rfl (st _ (r_indexN (i:=i) 2 rfl rfl u47 el91 h0.shp (by omega)) ?_))))))))));obtain⟨Al,A0⟩:=getE (l:=l) (i:=i) (by omega);obtain⟨Dk,Ca,Aa⟩:=h0.get A0;obtain⟨_,rfl⟩:=tPr_un Ca;replace Aa:At _ v0 (i*2) (Pr.cells Al):=Aa;refine st _ (r_loadEA (kk:=i*2) (Pr.cells Al) 0 rfl rfl (by exact agg91) Aa rfl) (st _ (r_indexN (i:=O) 2 rfl rfl u47 el91 G.shp (by omega)) ?_);obtain⟨C0,Ch⟩:=getE (l:=o2) (i:=O) (by omega);obtain⟨Dl,Cb,Ax⟩:=G.get Ch;obtain⟨_,rfl⟩:=tPr_un Cb;replace Ax:At _ Y (O*2) (Pr.cells C0):=Ax;refine st_storeOwA (T:=tPr) (z:=Al) (i:=O) (c:=(Pr.cells Al)) rfl rfl rfl (by exact agg91) G (tPr_mk) (by omega) ?_;intro Dx I hS U;have S:=G;replace G:=U;clear U;replace h0:=h0.md I hS;clear Aa;clear Ax;replace uQ:=uQ.md I;replace M:=M.stepO I (fun b hb=>(S.2 b hb).1);clear S hS;refine st_nil (n_block (c_then (c_region (mv rfl (st _ (r_addN (a:=i) (b:=1) 9223372036854775808 rfl rfl rfl (by omega)) (asg rfl (nt ?_)))))));refine next3 (x0:=Y) (x1:=(o2.set O Al)) (x2:=(i+1)) (by omega) ⟨rfl,(fitI rfl (by omega)),rfl,tV⟩ ⟨Br,P,E,uQ,M,G,h0,⟨by rw[List.length_set];omega,by omega⟩,(by intro q hq;rcases List.mem_or_eq_of_mem_set hq with h|rfl;exact A4 q h;rw[Option.some.inj (A0.symm.trans L)];exact bd),(by have hi:insF g o=o2.set O g:=(by have hh:=B8;rw[shift_end (by omega)]at hh;have Bv:=Ag;rw[cl,Nat.add_sub_cancel]at Bv;unfold insF;simp only[ei];rw[if_neg (fun h=>absurd (Ai.2 h) (by simpa using Ar)),Bv,← hh]);have Cq:Al=g:=Option.some.inj (A0.symm.trans L);rw[Cq,← hi];exact hg.symm)⟩
            · have V:=h0;have K:=A;refine c_mixT (ml 13) [13,14] (fun w'=>Md [] w6 w') mixed (by kernel_rfl) ?_;intro Dy F;refine⟨F.mono (by simp),?_⟩;have MC:=F.mono (T:=[]) (by simp);refine mo rfl (mo rfl (mz (fun w' X=>r_len rfl u47 A.shp) (mz (fun w' X=>r_ltN (a:=O) (b:=o.length) rfl rfl) (mo rfl ?_))));refine part_m (t:=53) rfl (fun D=>?_) (fun D=>?_)
              · (have Bx:=dq D);refine Go.Wk.m_g _ rfl rfl rfl D (fun w' X=>r_move rfl) (Go.Wk.m_g _ rfl rfl rfl D (fun w' X=>r_move rfl) (Go.Wk.m_g _ rfl rfl rfl D (fun w' X=>r_indexN (i:=O) 2 rfl rfl u47 el91 A.shp (by omega)) ?_));obtain⟨Bb,A3⟩:=getE (l:=o) (i:=O) (by omega);obtain⟨Dm,Cc,Ab⟩:=K.get A3;obtain⟨_,rfl⟩:=tPr_un Cc;replace Ab:At _ v (O*2) (Pr.cells Bb):=Ab;refine Go.Wk.m_g _ rfl rfl rfl D (fun w' X=>r_loadEA (kk:=O*2) (Pr.cells Bb) 0 rfl rfl (by exact agg91) (Ab.md0 X) rfl) (Go.Wk.m_g _ rfl rfl rfl D (fun w' X=>r_move rfl) (Go.Wk.m_g _ rfl rfl rfl D (fun w' X=>r_move rfl) (Go.Wk.m_g _ rfl rfl rfl D (fun w' X=>r_indexN (i:=i) 2 rfl rfl u47 el91 h0.shp (by omega)) ?_)));obtain⟨Dn,Cd,Ac⟩:=V.get L;obtain⟨_,rfl⟩:=tPr_un Cd;replace Ac:At _ v0 (i*2) (Pr.cells g):=Ac;refine Go.Wk.m_g _ rfl rfl rfl D (fun w' X=>r_loadEA (kk:=i*2) (Pr.cells g) 0 rfl rfl (by exact agg91) (Ac.md0 X) rfl) (m_nil ?_);replace h0:=h0.md0 F;replace A:=A.md0 F;replace uQ:=uQ.md F;replace M:=M.step0 F;clear K V;clear MC;refine sg D (r_eqlPr (p:=Bb) (q:=g) pair91 u9 rfl rfl) (st _ (r_pick_t rfl D rfl) (st_nil ?_));clear Ab;clear Ac;exact⟨rfl,cut_in ((decide (Bb.pb=g.pb))) ⟨rfl,rfl,rfl,rfl,rfl,tV⟩ ⟨Q7,P,E,uQ,M,h0,A,⟨fun h=>⟨by omega,by rw[pr_getD A3,← Option.some.inj (L.symm.trans L)];exact dq h⟩,by rintro⟨_,h2⟩;rw[pr_getD A3,← Option.some.inj (L.symm.trans L)]at h2;exact decide_eq_true h2⟩⟩⟩
              · (have Bx:=dF D);refine m_skip rfl rfl rfl D (m_skip rfl rfl rfl D (m_skip rfl rfl rfl D (m_skip rfl rfl rfl D (m_skip rfl rfl rfl D (m_skip rfl rfl rfl D (m_skip rfl rfl rfl D (m_skip rfl rfl rfl D (m_nil ?_))))))));replace h0:=h0.md0 F;replace A:=A.md0 F;replace uQ:=uQ.md F;replace M:=M.step0 F;clear K V;clear MC;refine sk D (st _ (r_pick_f rfl D rfl) (st_nil ?_));exact⟨rfl,cut_in false ⟨rfl,rfl,rfl,rfl,rfl,tV⟩ ⟨Q7,P,E,uQ,M,h0,A,⟨by simp,by rintro⟨h1,h2⟩;omega⟩⟩⟩
          · refine c_block ?_;obtain⟨r1,e⟩:∃r,rankF (payload g) o 0=r:=⟨_,rfl⟩;have C7:=e
            try simp only[List.nil_append,Ak]at e
            refine loop1 (fun(k:Nat)=>[(8,(.int .i64 k)),(0,v0),(4,v),(5,(.int .i64 i))]) (fun(k:Nat) w'=>∃Q':Nat→Prop,(∀b,Q' b→Q b)∧(∀b,Q b→b<w.heap.size→Q' b)∧Up w' Q'∧Md [] w w'∧Ls tPr w' Q' v0 l∧Ow tPr 91 (Fsh [] w) w' Q' v o∧Ls tB8 w' Q' Cj Ck∧k≤o.length∧rankF (payload g) (o.drop k) k=r1) (fun(k:Nat)=>o.length-k) (x0:=0) ?_ ?_ ?_
            · exact⟨rfl,rfl,rfl,rfl,tV⟩
            · exact⟨Q2,P,E,uQ,M,h0,A,J,(by omega),(by have hh:=e;exact hh)⟩
            · clear M uQ P E A h0 J
              rintro k B Cy ⟨Bf,P,E,uQ,M,h0,A,J,Da,Bn⟩;refine c_seq (c_seq ?_);have V:=h0;have K:=A;refine c_mixT [(0,true),(1,true),(2,true),(3,true),(4,true),(5,true),(6,true),(7,true),(8,true),(10,true),(11,true),(12,true),(13,true),(9,false)] [14,15,16] (fun w'=>Md [] Cy w') mixed (by kernel_rfl) ?_;intro Dz F;refine⟨F.mono (by simp),?_⟩;have MC:=F.mono (T:=[]) (by simp);refine mo rfl (mo rfl (mz (fun w' X=>r_len rfl u47 A.shp) (mz (fun w' X=>r_ltN (a:=k) (b:=o.length) rfl rfl) (mo rfl ?_))));refine part_m (t:=34) rfl (fun C=>?_) (fun C=>?_)
              · (have Bw:=dq C);refine Go.Wk.m_g _ rfl rfl rfl C (fun w' X=>r_move rfl) (Go.Wk.m_g _ rfl rfl rfl C (fun w' X=>r_move rfl) (Go.Wk.m_g _ rfl rfl rfl C (fun w' X=>r_indexN (i:=k) 2 rfl rfl u47 el91 A.shp (by omega)) ?_));obtain⟨Bc,f⟩:=getE (l:=o) (i:=k) (by omega);obtain⟨Do,Ce,Ad⟩:=K.get f;obtain⟨_,rfl⟩:=tPr_un Ce;replace Ad:At _ v (k*2) (Pr.cells Bc):=Ad;refine Go.Wk.m_g _ rfl rfl rfl C (fun w' X=>r_loadEA (kk:=k*2) (Pr.cells Bc) 0 rfl rfl (by exact agg91) (Ad.md0 X) rfl) (Go.Wk.m_g _ rfl rfl rfl C (fun w' X=>r_move rfl) (Go.Wk.m_g _ rfl rfl rfl C (fun w' X=>r_move rfl) (Go.Wk.m_g _ rfl rfl rfl C (fun w' X=>r_indexN (i:=i) 2 rfl rfl u47 el91 h0.shp (by omega)) ?_)));obtain⟨Am,Be⟩:=getE (l:=l) (i:=i) (by omega);obtain⟨Dp,Cf,Ae⟩:=V.get Be;obtain⟨_,rfl⟩:=tPr_un Cf;replace Ae:At _ v0 (i*2) (Pr.cells Am):=Ae;refine Go.Wk.m_g _ rfl rfl rfl C (fun w' X=>r_loadEA (kk:=i*2) (Pr.cells Am) 0 rfl rfl (by exact agg91) (Ae.md0 X) rfl) ?_;have bq:=Ah _ (List.mem_of_getElem? f);replace h0:=h0.md0 F;replace A:=A.md0 F;replace J:=J.md0 F;replace uQ:=uQ.md F;replace M:=M.step0 F;refine m_e_g rfl rfl rfl C rfl ?_;have bq:=Ah _ (List.mem_of_getElem? f);refine st_call_g rfl rfl rfl C fn115 rfl (payload_any uQ Bc (by omega)) ?_;rintro en D0 ⟨Bp,rfl,I,As⟩;refine⟨_,rfl,?_⟩;replace h0:=h0.md0 I;replace A:=A.md0 I;replace J:=J.md0 I;replace uQ:=uQ.md I;replace M:=M.step0 I;replace MC:=MC.step0 I;have Ao:=payload_len Bc;rw[As]at Ao;try simp only[LL,Nat.reduceAdd,Nat.reduceMul]at Ao
                refine st_nil ⟨rfl,MC,?_⟩;refine m_nil ?_;clear K V;clear MC;have ex:=Option.some.inj (Be.symm.trans L);have bx:Am.name.length≤1000000∧Am.value.length≤1000000:=(by rw[ex];exact bd);refine st_call_g rfl rfl rfl C fn115 rfl (payload_any uQ Am (by omega)) ?_;rintro en D3 ⟨Bq,rfl,I,Au⟩;refine⟨_,rfl,?_⟩;replace h0:=h0.md0 I;replace A:=A.md0 I;replace J:=J.md0 I;replace uQ:=uQ.md I;replace M:=M.step0 I;have Ap:=payload_len Am;rw[Au]at Ap;try simp only[LL,Nat.reduceAdd,Nat.reduceMul]at Ap
                refine sg C (r_lssS (a:=Bp) (b:=Bq) rfl rfl) (st _ (r_pick_t rfl C rfl) (st_nil ?_));clear Ad;clear Ae;refine c_then ?_;refine c_if rfl (fun Bj=>?_) (fun Bj=>?_)
                · (have Aq:=Bj);refine c_skip (c_then (c_block (c_region (mv rfl (st _ (r_addN (a:=k) (b:=1) 9223372036854775808 rfl rfl rfl (by omega)) (asg rfl (st_nil (n_block (c_then ?_)))))))));refine next1 (x0:=(k+1)) (by omega) ⟨(fitI rfl (by omega)),rfl,rfl,rfl,tV⟩ ⟨Bf,P,E,uQ,M,h0,A,J,(by omega),(by have hh:=Bn;rw[rank_step f,if_pos (by rw[← ex,As,Au];exact Aq)]at hh;exact hh)⟩
                · (have Aq:=Bj);refine c_exit (x_then (x_then (x_hit ?_)));exact⟨rfl,cut_in k ⟨(fitI rfl (by omega)),rfl,rfl,rfl,tV⟩ ⟨Bf,P,E,uQ,M,h0,A,(by omega),(by rw[e,← Bn,rank_step f,if_neg (by rw[← ex,As,Au];simpa using Aq)])⟩⟩
              · (have Bw:=dF C);refine m_skip rfl rfl rfl C (m_skip rfl rfl rfl C (m_skip rfl rfl rfl C (m_skip rfl rfl rfl C (m_skip rfl rfl rfl C (m_skip rfl rfl rfl C (m_skip rfl rfl rfl C (m_skip rfl rfl rfl C (m_skip rfl rfl rfl C (m_nil ?_)))))))));replace h0:=h0.md0 F;replace A:=A.md0 F;replace uQ:=uQ.md F;replace M:=M.step0 F;clear K V;clear MC;refine sk C (sk C (st _ (r_pick_f rfl C rfl) (nt (c_if_f rfl rfl (c_exit (x_then (x_then (x_hit ?_))))))));exact⟨rfl,cut_in k ⟨(fitI rfl (by omega)),rfl,rfl,rfl,tV⟩ ⟨Bf,P,E,uQ,M,h0,A,(by omega),(by rw[e,← Bn,rank_end (by omega)])⟩⟩
      · (have W:=dF Bh);refine c_exit (x_then (x_then (x_hit (c_then (c_seq (ns (mv rfl (sL rfl u47 A.shp (st _ (r_gtN (a:=o.length) (b:=16) rfl rfl) (nt ?_))))))))));refine c_if rfl (fun Bm=>?_) (fun Bm=>?_)
        · (have d:=dq Bm);refine ns (asg rfl (asg rfl (nt (c_ret (r_then ?_)))));exact retL (vs:=[(.slice none 0 0),(.int .i64 ((21:Nat):Int))]) trivial rfl ⟨rfl,rfl,tV⟩ rfl ⟨_,[],21,rfl,M,(Ls.nil _ _ _),(by omega),(by(try (simp(disch:=first|omega|assumption|(simp;done)|fail) only [goL_end,SS,reduceIte,N,W,d]at u));rw[listF]<;>simp(disch:=first|omega|assumption|(simp;done)|fail) only [SS,reduceIte,N,Z,W,d,← u])⟩
        · (have d:=dF Bm);refine c_skip (c_then (ns (mv rfl (asg rfl (asg rfl (nt (c_ret ?_)))))));exact retL (vs:=[v,(.int .i64 ((0:Nat):Int))]) trivial rfl ⟨rfl,rfl,tV⟩ rfl ⟨_,o,0,rfl,M,(A.ls (fun b hb=>P b hb) (Fsh.up Cw)),(by omega),(by(try (simp(disch:=first|omega|assumption|(simp;done)|fail) only [goL_end,SS,reduceIte,N,W,d]at u));rw[listF]<;>simp(disch:=first|omega|assumption|(simp;done)|fail) only [SS,reduceIte,N,Z,W,d,← u])⟩
theorem fn10:isFn Tryz.prog 10=true:=by kernel_rfl
theorem off33_0:fieldOff Tryz.prog 33 0=some 0:=by kernel_rfl
theorem off33_1:fieldOff Tryz.prog 33 1=some 1:=by kernel_rfl
theorem one22:isOne Tryz.prog 22=true:=by kernel_rfl

theorem kNumber_any {w:World} {Q:Nat→Prop} (uQ:Up w Q) (k:Int) (a0:(-9223372036854775808≤k∧k<9223372036854775808)) (n:Nat) (a1:n<9223372036854775808) (p0:n≤1000000) :
    Calls Tryz.prog 10 #[(.int .i64 (k:Int)),(.int .i64 n)] w fun en w'=>∃r0:Nat,en = .returned (.int .i64 r0)∧Md [] w w'∧r0<9223372036854775808∧numF k n=r0:=by
  have M:=Md.refl [] w;have D:=uQ;refine enter (n:=14) Tryz.func10 rfl rfl rfl ?_;intro B;refine ns (asg rfl (nt (c_seq (ns (mv rfl (st _ (r_ltN (a:=n) (b:=1) rfl rfl) (nt ?_)))))));refine c_if rfl (fun C=>?_) (fun C=>?_)
  · (have A:=dq C);refine ns (asg rfl (nt (c_ret (r_then ?_))));exact ret1L (v:=(.int .i64 ((0:Nat):Int))) trivial rfl ⟨rfl,tV⟩ ⟨0,rfl,M,(by omega),(by rw[numF]<;>simp(disch:=first|omega|assumption|(simp;done)|fail) only [SS,reduceIte,A])⟩
  · (have A:=dF C);refine c_skip (c_then (ns (mv rfl (mv rfl (st _ (r_remZ (a:=k) (b:=((n:Nat):Int)) rfl rfl (by omega)) (mv rfl ?_))))));have E:=num_ge (k:=k) A;refine st _ (r_addI (a:=k.tmod (((n:Nat):Int))) (b:=((n:Nat):Int)) rfl rfl (by omega)) (mv rfl (st _ (((r_remZ (a:=k.tmod (((n:Nat):Int))+((n:Nat):Int)) (b:=((n:Nat):Int)) rfl rfl (by omega)).castI (Int.toNat_of_nonneg (Int.tmod_nonneg _ (by omega))).symm)) ?_));have F:=Int.tmod_lt_of_pos (k.tmod (n:Int)+(n:Int)) (show(0:Int)<n by omega);refine asg rfl (nt (c_ret ?_));exact ret1L (v:=(.int .i64 ((((k.tmod (((n:Nat):Int))+((n:Nat):Int)).tmod (((n:Nat):Int))).toNat:Nat):Int))) trivial rfl ⟨rfl,tV⟩ ⟨((k.tmod (((n:Nat):Int))+((n:Nat):Int)).tmod (((n:Nat):Int))).toNat,rfl,M,(by omega),(by rw[numF]<;>simp(disch:=first|omega|assumption|(simp;done)|fail) only [SS,reduceIte,A])⟩
theorem kMore_any {w:World} {Q:Nat→Prop} (uQ:Up w Q) {b0:Nat} {v0_0:Value} (s:Sq) (h0:Blk w b0 (Sq.cells s v0_0) 33) (n0:¬Q b0) (a0_0:Sq.ok s) (a0_1:Ls tInt w Q v0_0 s.l) :
    Calls Tryz.prog 28 #[.pointer (some ⟨b0,0,none⟩)] w fun en w'=>∃r0:Bool,∃m0:Sq,∃u50_0:Value,en = .returned (.bool r0)∧Md [b0] w w'∧Blk w' b0 (Sq.cells m0 u50_0) 33∧¬Q b0∧Sq.ok m0∧Ls tInt w' Q u50_0 m0.l∧s.more=(r0,m0):=by
  have E:=n0;have M:=Md.refl [b0] w;have I:=uQ;have H:∀b,Q b→Q b:=fun _ h=>h;refine enter (n:=13) Tryz.func28 rfl rfl rfl ?_;intro B;refine ns (asg rfl (nt (c_seq ?_)));have A:=h0;refine c_mixT (ml 9) [9,10] (fun w'=>Md [] w w') mixed (by kernel_rfl) ?_;intro K C;refine⟨C.mono (by simp),?_⟩;have F:=C.mono (T:=[]) (by simp);refine mo rfl (mz (fun w' D=>r_nil rfl) (mz (fun w' D=>r_field rfl off33_1) (mz (fun w' D=>(r_loadBlk rfl one3 (A.md0 D) rfl).to (b:=(.int .i64 s.pos)) rfl) ?_)));have J:s.pos<9223372036854775808:=a0_0;refine mo rfl (mz (fun w' D=>r_nil rfl) (mz (fun w' D=>r_field rfl off33_0) (mz (fun w' D=>(r_loadBlk rfl one22 (A.md0 D) rfl).to (b:=v0_0) rfl) (mz (fun w' D=>r_len rfl u22 a0_1.shp) (m_nil ?_)))));replace a0_1:=a0_1.md0 C;replace h0:=h0.md0 C;replace M:=M.step0 C;clear A;clear F;refine st _ (r_ltN (a:=s.pos) (b:=s.l.length) rfl rfl) (asg rfl (nt (c_ret ?_)));exact ret1L (v:=(.bool ((decide (s.pos<s.l.length))))) trivial rfl ⟨rfl,tV⟩ ⟨(decide (s.pos<s.l.length)),s,_,rfl,M,h0,n0,a0_0,(a0_1.sub (fun b G _=>H b G)),(by rw[Sq.more]<;>simp(disch:=first|omega|assumption|(simp;done)|fail) only [SS,reduceIte])⟩
theorem kN_any {w:World} {Q:Nat→Prop} (uQ:Up w Q) {b0:Nat} {v0_0:Value} (s:Sq) (h0:Blk w b0 (Sq.cells s v0_0) 33) (n0:¬Q b0) (a0_0:Sq.ok s) (a0_1:Ls tInt w Q v0_0 s.l) (n:Nat) (a1:n<9223372036854775808) (p0:n≤1000000) :
    Calls Tryz.prog 48 #[.pointer (some ⟨b0,0,none⟩),(.int .i64 n)] w fun en w'=>∃r0:Nat,∃m0:Sq,∃u50_0:Value,en = .returned (.int .i64 r0)∧Md [b0] w w'∧r0<9223372036854775808∧Blk w' b0 (Sq.cells m0 u50_0) 33∧¬Q b0∧Sq.ok m0∧Ls tInt w' Q u50_0 m0.l∧s.num n=(r0,m0):=by
  have t:=a0_1.len63;have U:=n0;have V:Fsh [b0] w b0:=.inl (by simp);have M:=Md.refl [b0] w;have k:=uQ;have g:∀b,Q b→Q b:=fun _ h=>h;refine enter (n:=35) Tryz.func48 rfl rfl rfl ?_;intro B;refine ns (asg rfl (nt (c_seq (c_seq ?_))));have C:=a0_1;have D:=h0;refine c_mixT (ml 9) [9] (fun w'=>Md [] w w') mixed (by kernel_rfl) ?_;intro w1 A;refine⟨A.mono (by simp),?_⟩;have X:=A.mono (T:=[]) (by simp);refine mo rfl (mz (fun w' E=>r_nil rfl) (mz (fun w' E=>r_field rfl off33_1) (mz (fun w' E=>(r_loadBlk rfl one3 (D.md0 E) rfl).to (b:=(.int .i64 s.pos)) rfl) ?_)));have z:s.pos<9223372036854775808:=a0_0;refine mo rfl (mz (fun w' E=>r_nil rfl) (mz (fun w' E=>r_field rfl off33_0) (mz (fun w' E=>(r_loadBlk rfl one22 (D.md0 E) rfl).to (b:=v0_0) rfl) (mz (fun w' E=>r_len rfl u22 a0_1.shp) (m_nil ?_)))));replace a0_1:=a0_1.md0 A;replace h0:=h0.md0 A;replace uQ:=uQ.md A;replace M:=M.step0 A;clear C D;clear X;refine st _ (r_geN (a:=s.pos) (b:=s.l.length) rfl rfl) (nt ?_);refine c_if rfl (fun N=>?_) (fun N=>?_)
  · (have H:=dq N);refine ns (asg rfl (nt (c_ret (r_then ?_))));exact ret1L (v:=(.int .i64 ((0:Nat):Int))) trivial rfl ⟨rfl,tV⟩ ⟨0,s,_,rfl,M,(by omega),h0,n0,a0_0,(a0_1.sub (fun b S _=>g b S)),(by rw[Sq.num]<;>simp(disch:=first|omega|assumption|(simp;done)|fail) only [SS,reduceIte,H])⟩
  · (have H:=dF N);refine c_skip (c_then (ns (mv rfl (sn rfl (sf rfl off33_1 (sl (u:=(.int .i64 s.pos)) rfl one3 h0 rfl (st _ (r_addN (a:=s.pos) (b:=1) 9223372036854775808 rfl rfl rfl (by omega)) (sn rfl (sf rfl off33_1 (st_store rfl rfl one3 rfl h0 (lq rfl) ?_))))))))));have Y:=h0;clear h0;intro o P h0;have c:∀b∈[b0],¬Q b:=(by intro b S;simp at S;subst S;exact U);replace a0_1:=a0_1.md P c;replace uQ:=uQ.md P;replace M:=M.step P (all_cons V all_nil);clear Y c;obtain⟨G,F⟩:∃y,y=({s with pos:=s.pos+1}:Sq):=⟨_,rfl⟩;replace h0:Blk _ _ (Sq.cells ({s with pos:=s.pos+1}) v0_0) _:=h0;rw[← F]at h0;have K:Sq.ok G:=(by rw[F];exact(by unfold Sq.ok;exact(by(simp<;>omega))));rw[show s.l=G.l by rw[F]]at a0_1;refine nt (c_seq ?_);have C:=a0_1;have D:=h0;refine c_mixT (ml 12) [12,13] (fun w'=>Md [] o w') mixed (by kernel_rfl) ?_;intro w5 A;refine⟨A.mono (by simp),?_⟩;have X:=A.mono (T:=[]) (by simp);have p:G.pos=s.pos+1:=(by rw[F]);have r:G.l=s.l:=(by rw[F]);have z3:G.l.length=s.l.length:=(by rw[F]);refine mo rfl (mz (fun w' E=>r_nil rfl) (mz (fun w' E=>r_field rfl off33_0) (mz (fun w' E=>(r_loadBlk rfl one22 (D.md0 E) rfl).to (b:=v0_0) rfl) (mo rfl (mz (fun w' E=>r_nil rfl) (mz (fun w' E=>r_field rfl off33_1) (mz (fun w' E=>(r_loadBlk rfl one3 (D.md0 E) rfl).to (b:=(.int .i64 G.pos)) rfl) ?_)))))));have q6:G.pos<9223372036854775808:=K;refine mz (fun w' E=>r_subN (a:=G.pos) (b:=1) 9223372036854775808 rfl rfl rfl (by omega)) (mz (fun w' E=>r_indexN (i:=G.pos-1) 1 rfl rfl u22 el3 a0_1.shp (by omega)) ?_)
    obtain⟨W,R⟩:=getE (l:=G.l) (i:=G.pos-1) (by omega);obtain⟨x,Z,I⟩:=C.get R;obtain⟨rfl,e⟩:=Z;replace I:At _ v0_0 ((G.pos-1)*1) [(.int .i64 (W:Int))]:=I;refine mz (fun w' E=>(r_loadE (kk:=(G.pos-1)*1) 0 rfl rfl one3 (I.md0 E) rfl).to (b:=(.int .i64 (W:Int))) rfl) (mo rfl (m_nil ?_));replace a0_1:=a0_1.md0 A;replace h0:=h0.md0 A;replace uQ:=uQ.md A;replace M:=M.step0 A;clear C D;clear X
    have j:s.l.getD s.pos 0=W:=by
      have d:=R;rw[r,p,Nat.add_sub_cancel]at d;simp[List.getD,d]
    refine st_call fn10 rfl (kNumber_any uQ (W) (by omega) n (by omega) (by omega)) ?_;rintro en w9 ⟨L,rfl,P,f,O⟩;refine⟨_,rfl,?_⟩;replace a0_1:=a0_1.md0 P;replace h0:=h0.md0 P;replace M:=M.step0 P;have J:=numF_lt W n;rw[O]at J;try simp only[LL,Nat.reduceAdd,Nat.reduceMul]at J
    refine asg rfl (st_nil ?_);clear I;refine c_then (c_ret ?_);exact ret1L (v:=(.int .i64 L)) trivial rfl ⟨rfl,tV⟩ ⟨L,G,_,rfl,M,(by assumption),h0,n0,K,(a0_1.sub (fun b S _=>g b S)),(by(try simp only[F]at O);rw[Sq.num]<;>simp(disch:=first|omega|assumption|(simp;done)|fail) only [SS,reduceIte,H,F,R,j,O])⟩
theorem elT9:elT Tryz.prog 9 1 16=true:=by kernel_rfl
theorem u88:Tryz.prog.underlying 88=some (.slice 9):=by kernel_rfl
theorem z27:zcells Tryz.prog 27=some (List.replicate 16 (.int .u8 0)):=by kernel_rfl

theorem kNames_any {w:World} {Q:Nat→Prop} (uQ:Up w Q)  :
    Calls Tryz.prog 161 #[] w fun en w'=>∃u0:Value,∃r0:List (List UInt8),en = .returned (u0)∧Md [] w w'∧Ls tStr w' Q u0 r0∧namesF=r0:=by
  have M:=Md.refl [] w;have J:=uQ;have I:∀b,Q b→Q b:=fun _ h=>h;refine enter (n:=2) Tryz.func161 rfl rfl rfl ?_;intro B;refine ns (asg rfl (nt (ns (st_buildSliceG [[(str (([65]:Ly)))],[(str (([66]:Ly)))],[(str (([77,69,83,83,65,71,69]:Ly)))],[(str (([95,80,73,68]:Ly)))],[(str (([88,95,49]:Ly)))],[(str (([80,82,73,79,82,73,84,89]:Ly)))]] u88 elT9 (by decide) (by decide) rfl rfl ⟨rfl,rfl,rfl,rfl,rfl,rfl,tV⟩ ⟨rfl,rfl,rfl,rfl,rfl,rfl,tV⟩ rfl (by decide) ?_))));intro C K D H G A;have E:=uQ _ D;replace M:=M.step0 G;replace A:=Ls.of_blk (m:=6) (R:=Q) (T:=tStr) (xs:=[([65]:Ly),([66]:Ly),([77,69,83,83,65,71,69]:Ly),([95,80,73,68]:Ly),([88,95,49]:Ly),([80,82,73,79,82,73,84,89]:Ly)]) A ⟨_,_,rfl,⟨rfl,tV⟩,⟨_,_,rfl,⟨rfl,tV⟩,⟨_,_,rfl,⟨rfl,tV⟩,⟨_,_,rfl,⟨rfl,tV⟩,⟨_,_,rfl,⟨rfl,tV⟩,⟨_,_,rfl,⟨rfl,tV⟩,rfl⟩⟩⟩⟩⟩⟩ rfl (by decide) E;refine asg rfl (nt (c_ret ?_));exact ret1L (v:=(.slice (some ⟨C,0,none⟩) 6 6)) trivial rfl ⟨rfl,tV⟩ ⟨_,([([65]:Ly),([66]:Ly),([77,69,83,83,65,71,69]:Ly),([95,80,73,68]:Ly),([88,95,49]:Ly),([80,82,73,79,82,73,84,89]:Ly)]),rfl,M,(A.sub (fun b F _=>I b F)),(by rw[namesF]<;>simp(disch:=first|omega|assumption|(simp;done)|fail) only [SS,reduceIte])⟩
theorem kValues_any {w:World} {Q:Nat→Prop} (uQ:Up w Q)  :
    Calls Tryz.prog 162 #[] w fun en w'=>∃u0:Value,∃r0:List (List UInt8),en = .returned (u0)∧Md [] w w'∧Ls tStr w' Q u0 r0∧valuesF=r0:=by
  have M:=Md.refl [] w;have J:=uQ;have I:∀b,Q b→Q b:=fun _ h=>h;refine enter (n:=2) Tryz.func162 rfl rfl rfl ?_;intro B;refine ns (asg rfl (nt (ns (st_buildSliceG [[(str (([]:Ly)))],[(str (([48]:Ly)))],[(str (([49]:Ly)))],[(str (([50,50]:Ly)))],[(str (([97,61,98]:Ly)))],[(str (([111,110,101,10,116,119,111]:Ly)))],[(str (([0,255]:Ly)))],[(str (([116,97,98,9,104,101,114,101]:Ly)))],[(str (([108,111,110,103,32,108,111,110,103,32,108,111,110,103,32,108,111,110,103,32,108,111,110,103,32,108,111,110,103,32,108,111,110,103]:Ly)))],[(str (([126,127,128]:Ly)))]] u88 elT9 (by decide) (by decide) rfl rfl ⟨rfl,rfl,rfl,rfl,rfl,rfl,rfl,rfl,rfl,rfl,tV⟩ ⟨rfl,rfl,rfl,rfl,rfl,rfl,rfl,rfl,rfl,rfl,tV⟩ rfl (by decide) ?_))));intro C K D H G A;have E:=uQ _ D;replace M:=M.step0 G;replace A:=Ls.of_blk (m:=10) (R:=Q) (T:=tStr) (xs:=[([]:Ly),([48]:Ly),([49]:Ly),([50,50]:Ly),([97,61,98]:Ly),([111,110,101,10,116,119,111]:Ly),([0,255]:Ly),([116,97,98,9,104,101,114,101]:Ly),([108,111,110,103,32,108,111,110,103,32,108,111,110,103,32,108,111,110,103,32,108,111,110,103,32,108,111,110,103,32,108,111,110,103]:Ly),([126,127,128]:Ly)]) A ⟨_,_,rfl,⟨rfl,tV⟩,⟨_,_,rfl,⟨rfl,tV⟩,⟨_,_,rfl,⟨rfl,tV⟩,⟨_,_,rfl,⟨rfl,tV⟩,⟨_,_,rfl,⟨rfl,tV⟩,⟨_,_,rfl,⟨rfl,tV⟩,⟨_,_,rfl,⟨rfl,tV⟩,⟨_,_,rfl,⟨rfl,tV⟩,⟨_,_,rfl,⟨rfl,tV⟩,⟨_,_,rfl,⟨rfl,tV⟩,rfl⟩⟩⟩⟩⟩⟩⟩⟩⟩⟩ rfl (by decide) E;refine asg rfl (nt (c_ret ?_));exact ret1L (v:=(.slice (some ⟨C,0,none⟩) 10 10)) trivial rfl ⟨rfl,tV⟩ ⟨_,([([]:Ly),([48]:Ly),([49]:Ly),([50,50]:Ly),([97,61,98]:Ly),([111,110,101,10,116,119,111]:Ly),([0,255]:Ly),([116,97,98,9,104,101,114,101]:Ly),([108,111,110,103,32,108,111,110,103,32,108,111,110,103,32,108,111,110,103,32,108,111,110,103,32,108,111,110,103,32,108,111,110,103]:Ly),([126,127,128]:Ly)]),rfl,M,(A.sub (fun b F _=>I b F)),(by rw[valuesF]<;>simp(disch:=first|omega|assumption|(simp;done)|fail) only [SS,reduceIte])⟩
theorem kID_any {w:World} {Q:Nat→Prop} (uQ:Up w Q) (k:Int) (a0:(-9223372036854775808≤k∧k<9223372036854775808)) :
    Calls Tryz.prog 47 #[(.int .i64 (k:Int))] w fun en w'=>∃r0:List UInt8,en = .returned (.agg (idc r0).toArray)∧Md [] w w'∧r0.length=16∧idF k=r0:=by
  have M:=Md.refl [] w;have c:=uQ;refine enter (n:=10) Tryz.func47 rfl rfl rfl ?_;intro B;refine ns (st_alloc z27 ?_);intro N f I U E A;obtain⟨d,Y,Z,W,H⟩:=exQ uQ I U E;replace I:=lv M.size I;replace uQ:=uQ.md E;replace M:=M.step0 E;replace uQ:=H;clear H Y Z;have L:Fsh [] w N:=.inr I;replace A:Blk _ _ (idc idZ) _:=A;refine nt (ns (st_alloc z27 ?_));intro O g J V E C;have S:N≠O:=(by have:=A.lt;omega);obtain⟨e,Y,Z,X,H⟩:=exQ uQ J V E;replace J:=lv M.size J;replace A:=A.md0 E;replace uQ:=uQ.md E;replace M:=M.step0 E;replace uQ:=H;clear H Y Z;have G:Fsh [] w O:=.inr J;replace C:Blk _ _ (idc idZ) _:=C;refine nt (ns (mv rfl (st_call fn10 rfl (kNumber_any uQ (k) (by omega) 5 (by omega) (by omega)) ?_)));rintro en h ⟨D,rfl,E,b,P⟩;refine⟨_,rfl,?_⟩;replace A:=A.md0 E;replace C:=C.md0 E;replace M:=M.step0 E;have K:=numF_lt k 5;rw[P]at K;try simp only[LL,Nat.reduceAdd,Nat.reduceMul]at K
  refine st _ ((r_convW (a:=D) 256 rfl rfl (by rw[u3];rfl) u5 rfl).to (b8_of _)) (st _ ((r_indexArrN (i:=0) 1 rfl rfl u27 el5 (by decide))) (st_store rfl rfl one5 rfl C (lq rfl) ?_));have F:=C;clear C;intro j E C;replace A:=A.md E (by intro T;simp at T;omega);replace M:=M.step E (all_cons G all_nil);clear F;replace C:Blk _ _ (idc (idZ.set 0 94)) _:=C;refine st _ ((r_indexArrN (i:=15) 1 rfl rfl u27 el5 (by decide))) (st_store rfl rfl one5 rfl C (lq rfl) ?_);have F:=C;clear C;intro l E C;replace A:=A.md E (by intro T;simp at T;omega);replace M:=M.step E (all_cons G all_nil);clear F;replace C:Blk _ _ (idc ((idZ.set 0 94).set 15 (UInt8.ofNat D))) _:=C;refine nt (ns (st _ (r_loadPart (idc ((idZ.set 0 94).set 15 (UInt8.ofNat D))) rfl (by exact agg27) C rfl) (st_storeAgg (us:=(idc ((idZ.set 0 94).set 15 (UInt8.ofNat D)))) rfl rfl (by exact agg27) (by exact one_idc _) A (lq rfl) ?_)));have R:=A;clear A;intro o E A;replace M:=M.step E (all_cons L all_nil);clear R;replace A:Blk _ _ (idc ((idZ.set 0 94).set 15 (UInt8.ofNat D))) _:=A;refine nt (c_ret ?_);exact ret1L (v:=(.agg (idc ((idZ.set 0 94).set 15 (UInt8.ofNat D))).toArray)) trivial rfl ⟨⟨_,rfl,load_agg (cs:=(idc ((idZ.set 0 94).set 15 (UInt8.ofNat D)))) (by exact agg27) A⟩,tV⟩ ⟨(idZ.set 0 94).set 15 (UInt8.ofNat D),rfl,M,(by rfl),(by rw[idF]<;>simp(disch:=first|omega|assumption|(simp;done)|fail) only [idZ,SS,reduceIte,P])⟩
theorem el9:elemIs Tryz.prog 9 1=true:=by kernel_rfl
theorem fn161:isFn Tryz.prog 161=true:=by kernel_rfl
theorem fn162:isFn Tryz.prog 162=true:=by kernel_rfl
theorem fn48:isFn Tryz.prog 48=true:=by kernel_rfl

theorem kPair_any {w:World} {Q:Nat→Prop} (uQ:Up w Q) {b0:Nat} {v0_0:Value} (s:Sq) (h0:Blk w b0 (Sq.cells s v0_0) 33) (n0:¬Q b0) (a0_0:Sq.ok s) (a0_1:Ls tInt w Q v0_0 s.l) :
    Calls Tryz.prog 113 #[.pointer (some ⟨b0,0,none⟩)] w fun en w'=>∃r0:Pr,∃m0:Sq,∃u50_0:Value,en = .returned (.agg (Pr.cells r0).toArray)∧Md [b0] w w'∧Blk w' b0 (Sq.cells m0 u50_0) 33∧¬Q b0∧Sq.ok m0∧Ls tInt w' Q u50_0 m0.l∧s.pair=(r0,m0):=by
  have C:=n0;have y:Fsh [b0] w b0:=.inl (by simp);have M:=Md.refl [b0] w;have Bg:=uQ;have tQ:∀b,Q b→Q b:=fun _ h=>h;refine enter (n:=14) Tryz.func113 rfl rfl rfl ?_;intro B;refine ns (st_alloc z91 ?_);intro U w1 d A0 D A;have Ax:b0≠U:=(by have:=h0.lt;omega);obtain⟨Q2,sQ,sT,Ab,Aq⟩:=exQ uQ d A0 D;replace a0_1:=a0_1.sub sQ;replace C:=fun hh=>C (sT _ hh);replace tQ:=fun b r=>tQ b (sT b r);replace d:=lv M.size d;replace a0_1:=a0_1.md0 D;replace h0:=h0.md0 D;replace uQ:=uQ.md D;replace M:=M.step0 D;replace uQ:=Aq;clear Aq sQ sT;have Ac:Fsh [] w U:=.inr d;replace A:Blk _ _ (Pr.cells (({name:=[],value:=[]}:Pr))) _:=A;refine nt (c_seq ?_);have Ai:∀b∈[b0],¬Q2 b:=all_cons C all_nil;refine c_mixT [(1,true),(6,true),(0,false),(2,false),(3,true),(4,true),(5,false),(7,false),(8,true),(9,true)] [10,11] (fun w'=>Md [b0] w1 w') mixed (by kernel_rfl) ?_;intro w3 O;refine⟨O.mono (by simp),?_⟩;have J:=O.mono (T:=[b0]) (by simp);refine mo rfl (mo rfl ?_);replace a0_1:=a0_1.md0 O;replace h0:=h0.md0 O;replace A:=A.md0 O;replace uQ:=uQ.md O;replace M:=M.step0 O;refine m_c ?_ rfl;refine st_call fn161 rfl (kNames_any uQ) ?_;rintro en w4 ⟨Ar,Au,rfl,D,L,Ad⟩;refine⟨_,rfl,?_⟩;replace a0_1:=a0_1.md0 D;replace h0:=h0.md0 D;replace A:=A.md0 D;replace uQ:=uQ.md D;replace M:=M.step0 D;replace J:=J.step0 D;have g:=namesF_len;rw[Ad]at g;try simp only[LL,Nat.reduceAdd,Nat.reduceMul]at g
  refine st_nil ⟨rfl,J,fun w'=>Md [b0] w4 w',Md.refl _ _,fun x z=>J.trans z,?_⟩;have F:=L;replace J:=Md.refl [b0] w4;refine m_c ?_ rfl;refine st_call fn48 rfl (kN_any uQ s h0 C a0_0 a0_1 6 (by omega) (by omega)) ?_;rintro en w5 ⟨R,t,Ao,rfl,D,A6,W,Y,a,H,Ae⟩;refine⟨_,rfl,?_⟩;have hP:∀i∈[b0],Fsh [b0] w i:=(all_cons y all_nil);have p:∀i∈[b0],¬Q2 i:=(all_cons C all_nil);have E:U∉[b0]:=(nin_cons (by omega) (by simp));replace A:=A.md D E;clear E;replace L:=L.md D p;replace M:=M.step D hP;replace J:=J.step D (fun i hi=>Or.inl (by simpa using hi));replace uQ:=uQ.md D;clear hP p h0 C;have h0:=W;have C:=Y;clear W Y;have j:=Sq.num_le s 6;rw[Ae]at j;try simp only[LL,Nat.reduceAdd,Nat.reduceMul]at j
  refine st_nil ⟨rfl,J,fun w'=>Md [b0] w5 w',Md.refl _ _,fun x z=>J.trans z,?_⟩;replace F:=L;replace J:=Md.refl [b0] w5;refine mz (fun w' hc=>r_indexN (i:=R) 1 rfl rfl u88 el9 L.shp (by omega)) ?_;obtain⟨f,Aa⟩:=getE (l:=Au) (i:=R) (by omega);obtain⟨c7,Az,e⟩:=F.get Aa;obtain⟨rfl,_⟩:=Az;replace e:At _ Ar (R*1) [(str f)]:=e;refine mz (fun w' hc=>(r_loadE (kk:=R*1) 0 rfl rfl one9 (e.md hc (F.offS Aa Ai)) rfl).to (b:=(str f)) rfl) ?_;refine m_c ?_ rfl;refine st_call fn162 rfl (kValues_any uQ) ?_;rintro en w8 ⟨As,Av,rfl,D,N,Af⟩;refine⟨_,rfl,?_⟩;replace h0:=h0.md0 D;replace A:=A.md0 D;replace H:=H.md0 D;replace uQ:=uQ.md D;replace M:=M.step0 D;replace J:=J.step0 D;have k:=valuesF_len;rw[Af]at k;try simp only[LL,Nat.reduceAdd,Nat.reduceMul]at k
  refine st_nil ⟨rfl,J,fun w'=>Md [b0] w8 w',Md.refl _ _,fun x z=>J.trans z,?_⟩;clear F;have G:=N;replace J:=Md.refl [b0] w8;refine m_c ?_ rfl;refine st_call fn48 rfl (kN_any uQ t h0 C a H 10 (by omega) (by omega)) ?_;rintro en w9 ⟨S,Am,Ap,rfl,D,A7,X,Z,c,I,Ag⟩;refine⟨_,rfl,?_⟩;have hP:∀i∈[b0],Fsh [b0] w i:=(all_cons y all_nil);have p:∀i∈[b0],¬Q2 i:=(all_cons C all_nil);have E:U∉[b0]:=(nin_cons (by omega) (by simp));replace A:=A.md D E;clear E;replace N:=N.md D p;replace M:=M.step D hP;replace J:=J.step D (fun i hi=>Or.inl (by simpa using hi));clear hP p h0 C;have h0:=X;have C:=Z;clear X Z;have o:=Sq.num_le t 10;rw[Ag]at o;try simp only[LL,Nat.reduceAdd,Nat.reduceMul]at o
  refine st_nil ⟨rfl,J,fun w'=>Md [b0] w9 w',Md.refl _ _,fun x z=>J.trans z,?_⟩;replace G:=N;replace J:=Md.refl [b0] w9;refine mz (fun w' hc=>r_indexN (i:=S) 1 rfl rfl u88 el9 N.shp (by omega)) ?_;obtain⟨K,V⟩:=getE (l:=Av) (i:=S) (by omega);obtain⟨Bd,Al,P⟩:=G.get V;obtain⟨rfl,_⟩:=Al;replace P:At _ As (S*1) [(str K)]:=P;refine mz (fun w' hc=>(r_loadE (kk:=S*1) 0 rfl rfl one9 (P.md hc (G.offS V Ai)) rfl).to (b:=(str K)) rfl) (m_nil ?_);clear G;clear J;refine st _ (r_buildG (us:=[[(str f)],[(str K)]]) (cs:=(Pr.cells (({name:=f,value:=K}:Pr)))) [(0,0,1),(1,1,1)] z91 pl91 rfl rfl ⟨rfl,rfl,tV⟩ ⟨rfl,rfl,tV⟩ rfl rfl) (st_storeAgg (us:=(Pr.cells (({name:=f,value:=K}:Pr)))) rfl rfl (by exact agg91) (by exact fun u hu=>one_cells (Pr.one) u hu) A (lq rfl) ?_);have Aj:=A;clear A;intro Bi D A;have p:∀b∈[U],¬Q2 b:=(by intro b r;simp at r;subst r;exact Ab);replace h0:=h0.md D (by intro r;simp at r;omega);replace I:=I.md D p;replace M:=M.step D (all_cons (Fsh.wid Ac) all_nil);clear Aj p;replace A:Blk _ _ (Pr.cells (({name:=f,value:=K}:Pr))) _:=A;refine st_nil ?_;clear e;clear P;refine c_then (c_ret ?_);exact ret1L (v:=(.agg (Pr.cells (({name:=f,value:=K}:Pr))).toArray)) trivial rfl ⟨⟨_,rfl,load_agg (cs:=(Pr.cells (({name:=f,value:=K}:Pr)))) (by exact agg91) A⟩,tV⟩ ⟨(({name:=f,value:=K}:Pr)),Am,_,rfl,M,h0,n0,c,(I.sub (fun b r _=>tQ b r)),(by rw[Sq.pair]<;>simp(disch:=first|omega|assumption|(simp;done)|fail) only [List.getD_eq_getElem?_getD,SS,reduceIte,Ad,Ae,Aa,Af,Ag,V])⟩
theorem fn113:isFn Tryz.prog 113=true:=by kernel_rfl

theorem kPairs_any {w:World} {Q:Nat→Prop} (uQ:Up w Q) {b0:Nat} {v0_0:Value} (s:Sq) (h0:Blk w b0 (Sq.cells s v0_0) 33) (n0:¬Q b0) (a0_0:Sq.ok s) (a0_1:Ls tInt w Q v0_0 s.l) (most:Nat) (a1:most<9223372036854775808) (p0:most≤1000000) :
    Calls Tryz.prog 58 #[.pointer (some ⟨b0,0,none⟩),(.int .i64 most)] w fun en w'=>∃u0:Value,∃r0:List Pr,∃m0:Sq,∃u50_0:Value,en = .returned (u0)∧Md [b0] w w'∧Ls tPr w' Q u0 r0∧Blk w' b0 (Sq.cells m0 u50_0) 33∧¬Q b0∧Sq.ok m0∧Ls tInt w' Q u50_0 m0.l∧s.pairs most=(r0,m0):=by
  have C:=n0;have p:Fsh [b0] w b0:=.inl (by simp);have M:=Md.refl [b0] w;have Am:=uQ;have t:∀b,Q b→Q b:=fun _ h=>h;have J:∀b,Q b→b<w.heap.size→Q b:=fun _ h _=>h;refine enter (n:=21) Tryz.func58 rfl rfl rfl ?_;intro B;refine ns (asg rfl (nt (ns (asg rfl (nt (c_seq (ns (mv rfl (mv rfl (st_call fn48 rfl (kN_any uQ s h0 C a0_0 a0_1 most (by omega) (by omega)) ?_))))))))));rintro en w1 ⟨d,k,Z,rfl,E,Av,S,V,X,F,N⟩;refine⟨_,rfl,?_⟩;have hP:∀i∈[b0],Fsh [b0] w i:=(all_cons p all_nil);have y:∀i∈[b0],¬Q i:=(all_cons C all_nil);replace M:=M.step E hP;replace uQ:=uQ.md E;clear hP y h0 C;have h0:=S;have C:=V;clear S V;have f:=Sq.num_le s most;rw[N]at f;try simp only[LL,Nat.reduceAdd,Nat.reduceMul]at f
  refine st _ (r_addN (a:=d) (b:=1) 9223372036854775808 rfl rfl rfl (by omega)) (asg rfl (nt (c_block ?_)));obtain⟨r0,H⟩:∃r,pairsL (d+1) k ([]:List Pr)=r:=⟨_,rfl⟩;have Ar:=H
  try simp only[List.nil_append,N]at H
  refine loop5 (fun(x:Sq) (G:Value) (vo:Value) (o:List Pr) (n:Nat)=>[(5,vo),(6,(.int .i64 n)),(0,(.pointer (some ⟨b0,0,none⟩)))]) (fun(x:Sq) (G:Value) (vo:Value) (o:List Pr) (n:Nat) w'=>∃Q':Nat→Prop,(∀b,Q' b→Q b)∧(∀b,Q b→b<w.heap.size→Q' b)∧Up w' Q'∧Md [b0] w w'∧Blk w' b0 (Sq.cells x G) 33∧Ls tInt w' Q' G x.l∧Sq.ok x∧Ow tPr 91 (Fsh [] w) w' Q' vo o∧¬Q' b0∧n+o.length≤1000001∧pairsL n x o=r0) (fun(x:Sq) (G:Value) (vo:Value) (o:List Pr) (n:Nat)=>n) (x0:=k) (x1:=Z) (x2:=(.slice none 0 0)) (x3:=([]:List Pr)) (x4:=(d+1)) ?_ ?_ ?_
  · exact⟨rfl,rfl,rfl,tV⟩
  · exact⟨Q,t,J,uQ,M,h0,F,X,(Ow.nil _ _ _ _ _),C,(by simp only[List.length_nil];omega),(by have z:=H;exact z)⟩
  · clear M uQ t J C a0_1 h0 F
    rintro x G vo o n B w2 ⟨Q3,t,J,uQ,M,h0,K,j,D,C,As,Aa⟩;refine c_seq (ns (mv rfl (st _ (r_gtN (a:=n) (b:=0) rfl rfl) (nt ?_))));refine c_if rfl (fun u=>?_) (fun u=>?_)
    · (have L:=dq u);refine c_skip (c_then (c_seq (c_block (c_region (mv rfl (mv rfl (st_call fn113 rfl (kPair_any uQ x h0 C j K) ?_)))))));rintro en w4 ⟨e,Ae,c,rfl,E,U,W,Y,A,Ah⟩;refine⟨_,rfl,?_⟩;have hP:∀i∈[b0],Fsh [b0] w i:=(all_cons p all_nil);have y:∀i∈[b0],¬Q3 i:=(all_cons C all_nil);have I:∀b,vblock vo=some b→b∉[b0]:=fun b P=>(nin_cons (D.blk_ne h0 (by decide) b P) (by simp));replace D:=D.md E I y;clear I;replace M:=M.step E hP;replace uQ:=uQ.md E;clear hP y h0 C;have h0:=U;have C:=W;clear U W;refine st_buildSliceG [(Pr.cells e)] u47 elT91 (by decide) (by decide) rfl rfl ⟨rfl,tV⟩ ⟨rfl,tV⟩ rfl (by decide) ?_;intro Ap w5 Ac Au E O;have Ag:=uQ _ Ac;replace h0:=h0.md0 E;replace D:=D.md0 E;replace A:=A.md0 E;replace uQ:=uQ.md E;replace M:=M.step0 E;replace O:=Ls.of_blk (m:=1) (R:=Q3) (T:=tPr) (xs:=[e]) O ⟨_,_,rfl,(tPr_mk),rfl⟩ rfl (by decide) Ag;refine st_ap (sz:=2) (by rfl) u47 elT91 rfl rfl D O (fun _ h _=>h) uQ (Fsh.new M) (by(simp<;>omega)) (by(simp<;>omega)) ?_;intro v7 w8 Q9 sQ sT Af Ai E y _ Aj;have g:=D;clear D;replace C:=fun z=>C (sT _ z);replace A:=A.sub sQ;replace t:=fun b P=>t b (sT b P);replace J:=fun b P hl=>sQ b (J b P hl) (ly hl M.size);replace h0:=h0.md E (apart_ow g h0 (by decide));replace A:=A.md E y;replace uQ:=uQ.md E;replace M:=M.stepO E (fun b P=>Fsh.wid (g.2 b P).1);replace uQ:=Af;clear Af sQ sT y Aj;refine asg rfl (st_nil (n_block (c_then (c_region (mv rfl (st _ (r_subN (a:=n) (b:=1) 9223372036854775808 rfl rfl rfl (by omega)) (asg rfl (st_nil ?_))))))))
      refine c_then ?_;refine next5 (x0:=Ae) (x1:=c) (x2:=v7) (x3:=(o ++ ([e]))) (x4:=(n-1)) (by omega) ⟨rfl,(fitI rfl (by omega)),rfl,tV⟩ ⟨Q9,t,J,uQ,M,h0,A,Y,Ai,C,(by simp only[List.length_append,List.length_singleton];omega),(by have z:=Aa;rw[pairs_step (by omega)]at z;simp only[N,Ah]at z;exact z)⟩
    · (have L:=dF u);refine c_exit (x_then (x_then (x_hit (c_then (ns (mv rfl (asg rfl (nt (c_ret ?_)))))))));exact ret1L (v:=vo) trivial rfl ⟨rfl,tV⟩ ⟨_,o,x,_,rfl,M,(D.ls (fun b P=>t b P) (Fsh.up Am)),h0,n0,j,(K.sub (fun b P _=>t b P)),(by(try (simp(disch:=first|omega|assumption|(simp;done)|fail) only [pairs_end,SS,reduceIte,N,L]at Aa));rw[Sq.pairs]<;>simp(disch:=first|omega|assumption|(simp;done)|fail) only [SS,reduceIte,N,H,L,← Aa])⟩

set_option maxHeartbeats 4000000 in
theorem name_any (s:Ly) (w:World):Calls Tryz.prog 146 #[str s] w fun e w'=>e = .returned (.bool (isName s))∧w=w':=by
  have M:=Md.refl [] w;refine enter (n:=51) Tryz.func146 rfl rfl rfl ?_;intro B;refine ns (asg rfl (nt (c_seq (ns (mv rfl (st _ (r_lenS rfl u9) (st _ (r_lt rfl rfl) (mv rfl ?_))))))));refine part_n (t:=8) rfl (fun V=>?_) (fun V=>?_)
  · (have f:=dq V);refine sk V (sk V (sk V (st _ (r_pick_t rfl V rfl) (mv rfl (sk rfl (sk rfl (sk rfl (sk rfl (st_skipU rfl rfl rfl (st_skipU rfl rfl rfl (st_skipU rfl rfl rfl (sk rfl (st _ (r_pick_t rfl rfl rfl) ?_)))))))))))));refine nt (c_if_t rfl rfl (ns (asg rfl (nt (c_ret (r_then ?_))))));exact ret1 trivial rfl rfl ⟨retB (by cases hh:isName s with|false=>rfl|true=>(exfalso;have Y:=name_len hh;have W:=name_dig hh;omega)),rfl⟩
  · (have f:=dF V);refine sg V (r_move rfl) (sg V (r_lenS rfl u9) (sg V (r_gt rfl rfl) (st _ (r_pick_f rfl V rfl) (mv rfl ?_))));refine part_n (t:=13) rfl (fun H=>?_) (fun H=>?_)
    · (have b:=dq H);refine sk H (sk H (sk H (sk H (st_skipU rfl rfl rfl (st_skipU rfl rfl rfl (st_skipU rfl rfl rfl (sk H (st _ (r_pick_t rfl H rfl) (nt (c_if_t rfl rfl (ns (asg rfl (nt ?_)))))))))))));refine c_ret (r_then ?_);exact ret1 trivial rfl rfl ⟨retB (by cases hh:isName s with|false=>rfl|true=>(exfalso;have Y:=name_len hh;have W:=name_dig hh;omega)),rfl⟩
    · (have b:=dF H);refine sg H (r_move rfl) (st_g (b8 (s.getD 0 0)) rfl rfl rfl H (r_idxSN (s:=s) (i:=0) rfl rfl u9 (by omega)) (sg H (r_ge rfl rfl) (sg H (r_move rfl) ?_)));refine part_n (t:=17) rfl (fun J=>?_) (fun J=>?_)
      · (have c:=dq J);refine sg J (r_move rfl) (st_g (b8 (s.getD 0 0)) rfl rfl rfl J (r_idxSN (s:=s) (i:=0) rfl rfl u9 (by omega)) (sg J (r_le rfl rfl) (sg H (r_pick_t rfl J rfl) (st _ (r_pick_f rfl H rfl) (nt ?_)))));refine c_if rfl (fun Z=>?_) (fun Z=>?_)
        · (have d:=dq Z);refine ns (asg rfl (nt (c_ret (r_then ?_))));exact ret1 trivial rfl rfl ⟨retB (by cases hh:isName s with|false=>rfl|true=>(exfalso;have Y:=name_len hh;have W:=name_dig hh;omega)),rfl⟩
        · (have d:=dF Z);refine c_skip (c_then (c_seq (ns (mv rfl (st _ (r_lenS rfl u9) (mv rfl (nt (c_block ?_))))))));refine c_loop (X:=Nat) (fun i=>[(0,str s),(24,.int .i64 s.length),(25,.int .i64 i)]) (fun i w'=>w=w'∧i≤s.length∧1≤s.length∧s.length≤64∧digit (s.getD 0 0)=false∧∀j,j<i→nameC (s.getD j 0)=true) (fun i=>s.length-i) 0 ?_ ?_ ?_
          · exact⟨rfl,rfl,rfl,tV⟩
          · exact⟨rfl,by omega,by omega,by omega,by unfold digit;exact decide_eq_false (by omega),fun j I=>by omega⟩
          · clear M
            rintro i B k ⟨rfl,g,N,O,P,Q⟩;have M:=Md.refl [] w;refine ns (st _ (r_lt rfl rfl) (nt (c_seq ?_)));refine c_if rfl (fun R=>?_) (fun R=>?_)
            · (have S:=dq R);refine c_skip (c_then (c_seq (c_block (ns (mv rfl (asg rfl (nt (ns (mv rfl (mv rfl (st _ (r_idxSN rfl rfl u9 (by omega)) (asg rfl (nt ?_)))))))))))));refine ns (mv rfl (st _ (r_ge rfl rfl) (mv rfl ?_)));refine part_n (t:=33) rfl (fun G=>?_) (fun G=>?_)
              · (have T:=dq G);refine sg G (r_move rfl) (sg G (r_le rfl rfl) (st _ (r_pick_t rfl G rfl) (mv rfl ?_)));refine part_n (t:=37) rfl (fun D=>?_) (fun D=>?_)
                · (have U:=dq D);refine sk D (sk D (sk D (st_skipU rfl rfl rfl (st_skipU rfl rfl rfl (sk D (st _ (r_pick_t rfl D rfl) (mv rfl (sk rfl (sk rfl (st _ (r_pick_t rfl rfl rfl) (st _ (r_not rfl) (nt (c_if_f rfl rfl ?_)))))))))))));refine c_skip (n_block (c_then (c_region (st _ (r_addI rfl rfl (by omega)) (mv rfl (nt (next (i+1) (by omega) ⟨rfl,rfl,fitI rfl (by simp),tV⟩ ?_)))))))
                  exact⟨rfl,by omega,N,O,P,fun j I=>by
                    rcases Nat.lt_or_eq_of_le (Nat.le_of_lt_succ I)with h|h
                    · exact Q j h
                    · subst h;unfold nameC;exact decide_eq_true (by omega)⟩
                · (have U:=dF D);refine sg D (r_move rfl) (sg D (r_ge rfl rfl) (sg D (r_move rfl) ?_));refine part_n (t:=40) rfl (fun A=>?_) (fun A=>?_)
                  · (have K:=dq A);refine sg A (r_move rfl) (sg A (r_le rfl rfl) (sg D (r_pick_t rfl A rfl) (st _ (r_pick_f rfl D rfl) (mv rfl ?_))));refine part_n (t:=45) rfl (fun C=>?_) (fun C=>?_)
                    · (have L:=dq C);refine sk C (sk C (st _ (r_pick_t rfl C rfl) (st _ (r_not rfl) (nt (c_if_f rfl rfl (c_skip (n_block (c_then (c_region (st _ (r_addI rfl rfl (by omega)) (mv rfl (nt (next (i+1) (by omega) ⟨rfl,rfl,fitI rfl (by simp),tV⟩ ?_)))))))))))))
                      exact⟨rfl,by omega,N,O,P,fun j I=>by
                        rcases Nat.lt_or_eq_of_le (Nat.le_of_lt_succ I)with h|h
                        · exact Q j h
                        · subst h;unfold nameC;exact decide_eq_true (by omega)⟩
                    · (have L:=dF C);refine sg C (r_move rfl) (sg C (r_eq rfl rfl) (st _ (r_pick_f rfl C rfl) (st _ (r_not rfl) (nt ?_))));refine c_if rfl (fun E=>?_) (fun E=>?_)
                      · (have F:=dF (bnt E));refine ns (asg rfl (nt (c_ret (r_block (r_then (r_then (r_block (r_then ?_))))))));exact ret1 trivial rfl rfl ⟨retB (by cases hh:isName s with|false=>rfl|true=>(exfalso;have Y:=name_len hh;have W:=name_dig hh;have a:=name_at hh i (by omega);omega)),rfl⟩
                      · (have F:=dq (bnf E));refine c_skip (n_block (c_then (c_region (st _ (r_addI rfl rfl (by omega)) (mv rfl (nt (next (i+1) (by omega) ⟨rfl,rfl,fitI rfl (by simp),tV⟩ ?_)))))))
                        exact⟨rfl,by omega,N,O,P,fun j I=>by
                          rcases Nat.lt_or_eq_of_le (Nat.le_of_lt_succ I)with h|h
                          · exact Q j h
                          · subst h;unfold nameC;exact decide_eq_true (by omega)⟩
                  · (have K:=dF A);refine sk A (sk A (sg D (r_pick_f rfl A rfl) (st _ (r_pick_f rfl D rfl) (mv rfl (sg rfl (r_move rfl) (sg rfl (r_eq rfl rfl) (st _ (r_pick_f rfl rfl rfl) (st _ (r_not rfl) (nt ?_)))))))));refine c_if rfl (fun E=>?_) (fun E=>?_)
                    · (have F:=dF (bnt E));refine ns (asg rfl (nt (c_ret (r_block (r_then (r_then (r_block (r_then ?_))))))));exact ret1 trivial rfl rfl ⟨retB (by cases hh:isName s with|false=>rfl|true=>(exfalso;have Y:=name_len hh;have W:=name_dig hh;have a:=name_at hh i (by omega);omega)),rfl⟩
                    · (have F:=dq (bnf E));refine c_skip (n_block (c_then (c_region (st _ (r_addI rfl rfl (by omega)) (mv rfl (nt (next (i+1) (by omega) ⟨rfl,rfl,fitI rfl (by simp),tV⟩ ?_)))))))
                      exact⟨rfl,by omega,N,O,P,fun j I=>by
                        rcases Nat.lt_or_eq_of_le (Nat.le_of_lt_succ I)with h|h
                        · exact Q j h
                        · subst h;unfold nameC;exact decide_eq_true (by omega)⟩
              · (have T:=dF G);refine sk G (sk G (st _ (r_pick_f rfl G rfl) (mv rfl (sg rfl (r_move rfl) (sg rfl (r_ge rfl rfl) (sg rfl (r_move rfl) ?_))))));refine part_n (t:=40) rfl (fun A=>?_) (fun A=>?_)
                · (have K:=dq A);refine sg A (r_move rfl) (sg A (r_le rfl rfl) (sg rfl (r_pick_t rfl A rfl) (st _ (r_pick_f rfl rfl rfl) (mv rfl ?_))));refine part_n (t:=45) rfl (fun C=>?_) (fun C=>?_)
                  · (have L:=dq C);refine sk C (sk C (st _ (r_pick_t rfl C rfl) (st _ (r_not rfl) (nt (c_if_f rfl rfl (c_skip (n_block (c_then (c_region (st _ (r_addI rfl rfl (by omega)) (mv rfl (nt (next (i+1) (by omega) ⟨rfl,rfl,fitI rfl (by simp),tV⟩ ?_)))))))))))))
                    exact⟨rfl,by omega,N,O,P,fun j I=>by
                      rcases Nat.lt_or_eq_of_le (Nat.le_of_lt_succ I)with h|h
                      · exact Q j h
                      · subst h;unfold nameC;exact decide_eq_true (by omega)⟩
                  · (have L:=dF C);refine sg C (r_move rfl) (sg C (r_eq rfl rfl) (st _ (r_pick_f rfl C rfl) (st _ (r_not rfl) (nt ?_))));refine c_if rfl (fun E=>?_) (fun E=>?_)
                    · (have F:=dF (bnt E));refine ns (asg rfl (nt (c_ret (r_block (r_then (r_then (r_block (r_then ?_))))))));exact ret1 trivial rfl rfl ⟨retB (by cases hh:isName s with|false=>rfl|true=>(exfalso;have Y:=name_len hh;have W:=name_dig hh;have a:=name_at hh i (by omega);omega)),rfl⟩
                    · (have F:=dq (bnf E));refine c_skip (n_block (c_then (c_region (st _ (r_addI rfl rfl (by omega)) (mv rfl (nt (next (i+1) (by omega) ⟨rfl,rfl,fitI rfl (by simp),tV⟩ ?_)))))))
                      exact⟨rfl,by omega,N,O,P,fun j I=>by
                        rcases Nat.lt_or_eq_of_le (Nat.le_of_lt_succ I)with h|h
                        · exact Q j h
                        · subst h;unfold nameC;exact decide_eq_true (by omega)⟩
                · (have K:=dF A);refine sk A (sk A (sg rfl (r_pick_f rfl A rfl) (st _ (r_pick_f rfl rfl rfl) (mv rfl (sg rfl (r_move rfl) (sg rfl (r_eq rfl rfl) (st _ (r_pick_f rfl rfl rfl) (st _ (r_not rfl) (nt ?_)))))))));refine c_if rfl (fun E=>?_) (fun E=>?_)
                  · (have F:=dF (bnt E));refine ns (asg rfl (nt (c_ret (r_block (r_then (r_then (r_block (r_then ?_))))))));exact ret1 trivial rfl rfl ⟨retB (by cases hh:isName s with|false=>rfl|true=>(exfalso;have Y:=name_len hh;have W:=name_dig hh;have a:=name_at hh i (by omega);omega)),rfl⟩
                  · (have F:=dq (bnf E));refine c_skip (n_block (c_then (c_region (st _ (r_addI rfl rfl (by omega)) (mv rfl (nt (next (i+1) (by omega) ⟨rfl,rfl,fitI rfl (by simp),tV⟩ ?_)))))))
                    exact⟨rfl,by omega,N,O,P,fun j I=>by
                      rcases Nat.lt_or_eq_of_le (Nat.le_of_lt_succ I)with h|h
                      · exact Q j h
                      · subst h;unfold nameC;exact decide_eq_true (by omega)⟩
            · (have S:=dF R);refine c_exit (x_then (x_then (x_hit (c_then (ns (asg rfl (nt (c_ret ?_))))))));exact ret1 trivial rfl rfl ⟨retB (name_ok N O P (fun j I=>Q j (by omega))).symm,rfl⟩
      · (have c:=dF J);refine sk J (sk J (sk J (sg H (r_pick_f rfl J rfl) (st _ (r_pick_f rfl H rfl) (nt (c_if_f rfl rfl (c_skip (c_then (c_seq (ns (mv rfl (st _ (r_lenS rfl u9) (mv rfl ?_)))))))))))));refine nt (c_block ?_);refine c_loop (X:=Nat) (fun i=>[(0,str s),(24,.int .i64 s.length),(25,.int .i64 i)]) (fun i w'=>w=w'∧i≤s.length∧1≤s.length∧s.length≤64∧digit (s.getD 0 0)=false∧∀j,j<i→nameC (s.getD j 0)=true) (fun i=>s.length-i) 0 ?_ ?_ ?_
        · exact⟨rfl,rfl,rfl,tV⟩
        · exact⟨rfl,by omega,by omega,by omega,by unfold digit;exact decide_eq_false (by omega),fun j I=>by omega⟩
        · clear M
          rintro i B l ⟨rfl,g,N,O,P,Q⟩;have M:=Md.refl [] w;refine ns (st _ (r_lt rfl rfl) (nt (c_seq ?_)));refine c_if rfl (fun R=>?_) (fun R=>?_)
          · (have S:=dq R);refine c_skip (c_then (c_seq (c_block (ns (mv rfl (asg rfl (nt (ns (mv rfl (mv rfl (st _ (r_idxSN rfl rfl u9 (by omega)) (asg rfl (nt ?_)))))))))))));refine ns (mv rfl (st _ (r_ge rfl rfl) (mv rfl ?_)));refine part_n (t:=33) rfl (fun G=>?_) (fun G=>?_)
            · (have T:=dq G);refine sg G (r_move rfl) (sg G (r_le rfl rfl) (st _ (r_pick_t rfl G rfl) (mv rfl ?_)));refine part_n (t:=37) rfl (fun D=>?_) (fun D=>?_)
              · (have U:=dq D);refine sk D (sk D (sk D (st_skipU rfl rfl rfl (st_skipU rfl rfl rfl (sk D (st _ (r_pick_t rfl D rfl) (mv rfl (sk rfl (sk rfl (st _ (r_pick_t rfl rfl rfl) (st _ (r_not rfl) (nt (c_if_f rfl rfl ?_)))))))))))));refine c_skip (n_block (c_then (c_region (st _ (r_addI rfl rfl (by omega)) (mv rfl (nt (next (i+1) (by omega) ⟨rfl,rfl,fitI rfl (by simp),tV⟩ ?_)))))))
                exact⟨rfl,by omega,N,O,P,fun j I=>by
                  rcases Nat.lt_or_eq_of_le (Nat.le_of_lt_succ I)with h|h
                  · exact Q j h
                  · subst h;unfold nameC;exact decide_eq_true (by omega)⟩
              · (have U:=dF D);refine sg D (r_move rfl) (sg D (r_ge rfl rfl) (sg D (r_move rfl) ?_));refine part_n (t:=40) rfl (fun A=>?_) (fun A=>?_)
                · (have K:=dq A);refine sg A (r_move rfl) (sg A (r_le rfl rfl) (sg D (r_pick_t rfl A rfl) (st _ (r_pick_f rfl D rfl) (mv rfl ?_))));refine part_n (t:=45) rfl (fun C=>?_) (fun C=>?_)
                  · (have L:=dq C);refine sk C (sk C (st _ (r_pick_t rfl C rfl) (st _ (r_not rfl) (nt (c_if_f rfl rfl (c_skip (n_block (c_then (c_region (st _ (r_addI rfl rfl (by omega)) (mv rfl (nt (next (i+1) (by omega) ⟨rfl,rfl,fitI rfl (by simp),tV⟩ ?_)))))))))))))
                    exact⟨rfl,by omega,N,O,P,fun j I=>by
                      rcases Nat.lt_or_eq_of_le (Nat.le_of_lt_succ I)with h|h
                      · exact Q j h
                      · subst h;unfold nameC;exact decide_eq_true (by omega)⟩
                  · (have L:=dF C);refine sg C (r_move rfl) (sg C (r_eq rfl rfl) (st _ (r_pick_f rfl C rfl) (st _ (r_not rfl) (nt ?_))));refine c_if rfl (fun E=>?_) (fun E=>?_)
                    · (have F:=dF (bnt E));refine ns (asg rfl (nt (c_ret (r_block (r_then (r_then (r_block (r_then ?_))))))));exact ret1 trivial rfl rfl ⟨retB (by cases hh:isName s with|false=>rfl|true=>(exfalso;have Y:=name_len hh;have W:=name_dig hh;have a:=name_at hh i (by omega);omega)),rfl⟩
                    · (have F:=dq (bnf E));refine c_skip (n_block (c_then (c_region (st _ (r_addI rfl rfl (by omega)) (mv rfl (nt (next (i+1) (by omega) ⟨rfl,rfl,fitI rfl (by simp),tV⟩ ?_)))))))
                      exact⟨rfl,by omega,N,O,P,fun j I=>by
                        rcases Nat.lt_or_eq_of_le (Nat.le_of_lt_succ I)with h|h
                        · exact Q j h
                        · subst h;unfold nameC;exact decide_eq_true (by omega)⟩
                · (have K:=dF A);refine sk A (sk A (sg D (r_pick_f rfl A rfl) (st _ (r_pick_f rfl D rfl) (mv rfl (sg rfl (r_move rfl) (sg rfl (r_eq rfl rfl) (st _ (r_pick_f rfl rfl rfl) (st _ (r_not rfl) (nt ?_)))))))));refine c_if rfl (fun E=>?_) (fun E=>?_)
                  · (have F:=dF (bnt E));refine ns (asg rfl (nt (c_ret (r_block (r_then (r_then (r_block (r_then ?_))))))));exact ret1 trivial rfl rfl ⟨retB (by cases hh:isName s with|false=>rfl|true=>(exfalso;have Y:=name_len hh;have W:=name_dig hh;have a:=name_at hh i (by omega);omega)),rfl⟩
                  · (have F:=dq (bnf E));refine c_skip (n_block (c_then (c_region (st _ (r_addI rfl rfl (by omega)) (mv rfl (nt (next (i+1) (by omega) ⟨rfl,rfl,fitI rfl (by simp),tV⟩ ?_)))))))
                    exact⟨rfl,by omega,N,O,P,fun j I=>by
                      rcases Nat.lt_or_eq_of_le (Nat.le_of_lt_succ I)with h|h
                      · exact Q j h
                      · subst h;unfold nameC;exact decide_eq_true (by omega)⟩
            · (have T:=dF G);refine sk G (sk G (st _ (r_pick_f rfl G rfl) (mv rfl (sg rfl (r_move rfl) (sg rfl (r_ge rfl rfl) (sg rfl (r_move rfl) ?_))))));refine part_n (t:=40) rfl (fun A=>?_) (fun A=>?_)
              · (have K:=dq A);refine sg A (r_move rfl) (sg A (r_le rfl rfl) (sg rfl (r_pick_t rfl A rfl) (st _ (r_pick_f rfl rfl rfl) (mv rfl ?_))));refine part_n (t:=45) rfl (fun C=>?_) (fun C=>?_)
                · (have L:=dq C);refine sk C (sk C (st _ (r_pick_t rfl C rfl) (st _ (r_not rfl) (nt (c_if_f rfl rfl (c_skip (n_block (c_then (c_region (st _ (r_addI rfl rfl (by omega)) (mv rfl (nt (next (i+1) (by omega) ⟨rfl,rfl,fitI rfl (by simp),tV⟩ ?_)))))))))))))
                  exact⟨rfl,by omega,N,O,P,fun j I=>by
                    rcases Nat.lt_or_eq_of_le (Nat.le_of_lt_succ I)with h|h
                    · exact Q j h
                    · subst h;unfold nameC;exact decide_eq_true (by omega)⟩
                · (have L:=dF C);refine sg C (r_move rfl) (sg C (r_eq rfl rfl) (st _ (r_pick_f rfl C rfl) (st _ (r_not rfl) (nt ?_))));refine c_if rfl (fun E=>?_) (fun E=>?_)
                  · (have F:=dF (bnt E));refine ns (asg rfl (nt (c_ret (r_block (r_then (r_then (r_block (r_then ?_))))))));exact ret1 trivial rfl rfl ⟨retB (by cases hh:isName s with|false=>rfl|true=>(exfalso;have Y:=name_len hh;have W:=name_dig hh;have a:=name_at hh i (by omega);omega)),rfl⟩
                  · (have F:=dq (bnf E));refine c_skip (n_block (c_then (c_region (st _ (r_addI rfl rfl (by omega)) (mv rfl (nt (next (i+1) (by omega) ⟨rfl,rfl,fitI rfl (by simp),tV⟩ ?_)))))))
                    exact⟨rfl,by omega,N,O,P,fun j I=>by
                      rcases Nat.lt_or_eq_of_le (Nat.le_of_lt_succ I)with h|h
                      · exact Q j h
                      · subst h;unfold nameC;exact decide_eq_true (by omega)⟩
              · (have K:=dF A);refine sk A (sk A (sg rfl (r_pick_f rfl A rfl) (st _ (r_pick_f rfl rfl rfl) (mv rfl (sg rfl (r_move rfl) (sg rfl (r_eq rfl rfl) (st _ (r_pick_f rfl rfl rfl) (st _ (r_not rfl) (nt ?_)))))))));refine c_if rfl (fun E=>?_) (fun E=>?_)
                · (have F:=dF (bnt E));refine ns (asg rfl (nt (c_ret (r_block (r_then (r_then (r_block (r_then ?_))))))));exact ret1 trivial rfl rfl ⟨retB (by cases hh:isName s with|false=>rfl|true=>(exfalso;have Y:=name_len hh;have W:=name_dig hh;have a:=name_at hh i (by omega);omega)),rfl⟩
                · (have F:=dq (bnf E));refine c_skip (n_block (c_then (c_region (st _ (r_addI rfl rfl (by omega)) (mv rfl (nt (next (i+1) (by omega) ⟨rfl,rfl,fitI rfl (by simp),tV⟩ ?_)))))))
                  exact⟨rfl,by omega,N,O,P,fun j I=>by
                    rcases Nat.lt_or_eq_of_le (Nat.le_of_lt_succ I)with h|h
                    · exact Q j h
                    · subst h;unfold nameC;exact decide_eq_true (by omega)⟩
          · (have S:=dF R);refine c_exit (x_then (x_then (x_hit (c_then (ns (asg rfl (nt (c_ret ?_))))))));exact ret1 trivial rfl rfl ⟨retB (name_ok N O P (fun j I=>Q j (by omega))).symm,rfl⟩
theorem fn146:isFn Tryz.prog 146=true:=by kernel_rfl
theorem fn147:isFn Tryz.prog 147=true:=by kernel_rfl

theorem kName_any {w:World} {Q:Nat→Prop} (uQ:Up w Q) (s:Ly) :
    Calls Tryz.prog 146 #[str s] w fun en w'=>∃r0:Bool,en = .returned (.bool r0)∧Md [] w w'∧isName s=r0:=by
  refine(name_any s w).mono fun en w' ⟨he,hm⟩=>⟨isName s,by rw[he],hm ▸ Md.refl [] w,rfl⟩
theorem kWhole_any {w:World} {Q:Nat→Prop} (uQ:Up w Q) (p:Pr) (p0:p.name.length+p.value.length≤4611686018427387904) :
    Calls Tryz.prog 147 #[.agg (Pr.cells p).toArray] w fun en w'=>∃r0:List UInt8,en = .returned (str r0)∧Md [] w w'∧payload p=r0:=by
  have M:=Md.refl [] w;have H:=uQ;refine enter (n:=9) Tryz.func147 rfl rfl rfl ?_;intro B;refine ns (st_box (cs:=(Pr.cells p)) rfl rfl ?_);intro E I A G F C;have D:=uQ _ A;replace A:=lv M.size A;replace M:=M.step0 F;refine asg rfl (nt (ns (sf rfl off91_0 (sl (u:=(str p.name)) rfl one9 C rfl (st _ (r_addS (a:=p.name) (b:=(([61]:Ly))) rfl rfl (by(simp<;>omega))) (sf rfl off91_1 (sl (u:=(str p.value)) rfl one9 C rfl (st _ (r_addS (a:=(p.name ++ (([61]:Ly)))) (b:=p.value) rfl rfl (by(simp<;>omega))) (asg rfl (nt (c_ret ?_)))))))))));exact ret1L (v:=(str ((p.name ++ (([61]:Ly))) ++ p.value))) trivial rfl ⟨rfl,tV⟩ ⟨(p.name ++ (([61]:Ly))) ++ p.value,rfl,M,(by rw[payload]<;>simp(disch:=first|omega|assumption|(simp;done)|fail) only [SS,reduceIte])⟩
theorem kJoin_any {w:World} {Q:Nat→Prop} (uQ:Up w Q) (p:Pr) :
    Calls Tryz.prog 100 #[.agg (Pr.cells p).toArray] w fun en w'=>∃u0:Value,∃r0:List UInt8,∃r1:Nat,en = .returned (.tuple #[u0,(.int .i64 r1)])∧Md [] w w'∧Ls tB8 w' Q u0 r0∧r1<9223372036854775808∧joinF p=(r0,r1):=by
  have M:=Md.refl [] w;have X:=uQ;have W:∀b,Q b→Q b:=fun _ h=>h;refine enter (n:=17) Tryz.func100 rfl rfl rfl ?_;intro B;refine ns (st_box (cs:=(Pr.cells p)) rfl rfl ?_);intro U Z J V E C;have S:=uQ _ J;replace J:=lv M.size J;replace uQ:=uQ.md E;replace M:=M.step0 E;refine asg rfl (asg rfl (nt (c_seq (c_block (ns (sf rfl off91_0 (sl (u:=(str p.name)) rfl one9 C rfl (st_call fn146 rfl (kName_any uQ p.name) ?_))))))));rintro en c ⟨T,rfl,E,L⟩;refine⟨_,rfl,?_⟩;replace C:=C.md0 E;replace uQ:=uQ.md E;replace M:=M.step0 E;refine st _ (r_not rfl) (asg rfl (nt ?_));refine c_if rfl (fun P=>?_) (fun P=>?_)
  · (have F:=bnt P);refine ns (asg rfl (asg rfl (nt (c_ret (r_block (r_then ?_))))));exact retL (vs:=[(.slice none 0 0),(.int .i64 ((1:Nat):Int))]) trivial rfl ⟨rfl,rfl,tV⟩ rfl ⟨_,[],1,rfl,M,(Ls.nil _ _ _),(by omega),(by rw[joinF]<;>simp(disch:=first|omega|assumption|(simp;done)|fail) only [SS,reduceIte,L,F])⟩
  · (have F:=bnf P);refine ns (sf rfl off91_1 (sl (u:=(str p.value)) rfl one9 C rfl (st _ (r_lenS (s:=p.value) rfl u9) (st _ (r_gtN (a:=p.value.length) (b:=256) rfl rfl) (asg rfl (nt ?_))))));refine c_if rfl (fun R=>?_) (fun R=>?_)
    · (have K:=dq R);refine ns (asg rfl (asg rfl (nt (c_ret (r_block (r_then ?_))))));exact retL (vs:=[(.slice none 0 0),(.int .i64 ((21:Nat):Int))]) trivial rfl ⟨rfl,rfl,tV⟩ rfl ⟨_,[],21,rfl,M,(Ls.nil _ _ _),(by omega),(by rw[joinF]<;>simp(disch:=first|omega|assumption|(simp;done)|fail) only [SS,reduceIte,L,F,K])⟩
    · (have K:=dF R);refine c_skip (n_block (c_then (ns ?_)));have Y:=(name_len (s:=p.name) (by simp_all)).2;refine st _ (r_loadPart (Pr.cells p) rfl (by exact agg91) C rfl) (st_call fn147 rfl (kWhole_any uQ p (by omega)) ?_);rintro en d ⟨I,rfl,E,N⟩;refine⟨_,rfl,?_⟩;replace uQ:=uQ.md E;replace M:=M.step0 E;have G:=payload_len p;rw[N]at G;try simp only[LL,Nat.reduceAdd,Nat.reduceMul]at G
      refine st_convSB (s:=I) u9 u45 u5 rfl (by simp[maxLen];omega) ?_;intro H e E D A;replace D:=Ls.of_by (Q:=Q) D (fun b O _=>uQ b (A b O).1);replace A:∀b,vblock H=some b→w.heap.size≤b:=fun b O=>lv M.size (A b O).1;replace M:=M.step0 E;refine asg rfl (asg rfl (nt (c_ret ?_)));exact retL (vs:=[H,(.int .i64 ((0:Nat):Int))]) trivial rfl ⟨rfl,rfl,tV⟩ rfl ⟨_,I,0,rfl,M,(D.sub (fun b O _=>W b O)),(by omega),(by rw[joinF]<;>simp(disch:=first|omega|assumption|(simp;done)|fail) only [SS,reduceIte,L,F,K,N])⟩
theorem elT45:elT Tryz.prog 45 1 24=true:=by kernel_rfl
theorem fn100:isFn Tryz.prog 100=true:=by kernel_rfl

theorem wPays_any {w:World} {Q:Nat→Prop} (uQ:Up w Q) {v0:Value} {l:List Pr} (h0:Ls tPr w Q v0 l) (p0:l.length≤1000) :
    Calls Tryz.prog 105 #[v0] w fun en w'=>∃u0:Value,∃r0:List (List UInt8),en = .returned (u0)∧Md [] w w'∧Ls (tSl tB8) w' Q u0 r0∧(l.map fun q=>(joinF q).1)=r0:=by
  have L0:=h0.len63;have M:=Md.refl [] w;have Ac:=uQ;have N:∀b,Q b→Q b:=fun _ h=>h;have E:∀b,Q b→b<w.heap.size→Q b:=fun _ h _=>h;refine enter (n:=25) Tryz.func105 rfl rfl rfl ?_;intro B;refine ns (asg rfl (nt (ns (asg rfl (nt (c_seq (ns (mv rfl (sL rfl u47 h0.shp (mv rfl (nt (c_block ?_))))))))))));refine loop3 (fun(Z:Value) (o:List (List UInt8)) (i:Nat)=>[(3,Z),(10,(.int .i64 i)),(8,v0),(9,(.int .i64 l.length))]) (fun(Z:Value) (o:List (List UInt8)) (i:Nat) w'=>∃Q':Nat→Prop,(∀b,Q' b→Q b)∧(∀b,Q b→b<w.heap.size→Q' b)∧Up w' Q'∧Md [] w w'∧Ow (tSl tB8) 45 (Fsh [] w) w' Q' Z o∧Ls tPr w' Q' v0 l∧i≤l.length∧o=(l.take i).map fun q=>(joinF q).1) (fun(Z:Value) (o:List (List UInt8)) (i:Nat)=>l.length-i) (x0:=(.slice none 0 0)) (x1:=([]:List (List UInt8))) (x2:=0) ?_ ?_ ?_
  · exact⟨rfl,rfl,rfl,rfl,tV⟩
  · exact⟨Q,N,E,uQ,M,(Ow.nil _ _ _ _ _),h0,(by omega),(by simp)⟩
  · clear M uQ N E h0
    rintro Z o i B w1 ⟨Q2,N,E,uQ,M,A,h0,Ag,I⟩;have ol:=congrArg List.length I;simp only[List.length_map,List.length_take]at ol;refine ns (st _ (r_ltN (a:=i) (b:=l.length) rfl rfl) (nt (c_seq ?_)));refine c_if rfl (fun U=>?_) (fun U=>?_)
    · (have g:=dq U);refine c_skip (c_then (c_seq (c_block (ns (st _ (r_indexN (i:=i) 2 rfl rfl u47 el91 h0.shp (by omega)) ?_)))));obtain⟨c,p⟩:=getE (l:=l) (i:=i) (by omega);obtain⟨c4,z,L⟩:=h0.get p;obtain⟨_,rfl⟩:=tPr_un z;replace L:At _ v0 (i*2) (Pr.cells c):=L;refine st _ (r_loadEA (kk:=i*2) (Pr.cells c) 0 rfl rfl (by exact agg91) L rfl) (st_alloc z91 ?_);intro d w5 K Ab C D;obtain⟨Q6,P,Y,V,J⟩:=exQ uQ K Ab C;replace A:=A.sub P Y;replace h0:=h0.sub P;replace N:=fun b G=>N b (Y b G);replace E:=fun b G k=>P b (E b G k) (ly k M.size);replace K:=lv M.size K;replace A:=A.md0 C;replace h0:=h0.md0 C;replace uQ:=uQ.md C;replace M:=M.step0 C;replace uQ:=J;clear J P Y;have W:Fsh [] w d:=.inr K;replace D:Blk _ _ (Pr.cells (({name:=[],value:=[]}:Pr))) _:=D;refine st_storeAgg (us:=(Pr.cells c)) rfl rfl (by exact agg91) (by exact fun u hu=>one_cells (Pr.one) u hu) D (lq rfl) ?_;have O:=D;clear D;intro w7 C D;have X:∀b∈[d],¬Q6 b:=(by intro b G;simp at G;subst G;exact V);replace A:=A.md C (apart_bo O A (by decide)) X;replace h0:=h0.md C X;clear L;replace uQ:=uQ.md C;replace M:=M.step C (all_cons W all_nil);clear O X;replace D:Blk _ _ (Pr.cells c) _:=D;refine nt (ns (st _ (r_loadPart (Pr.cells c) rfl (by exact agg91) D rfl) (st_call fn100 rfl (kJoin_any uQ c) ?_)));rintro en w8 ⟨r,S,Aj,rfl,C,F,Ai,y⟩;refine⟨_,rfl,?_⟩;replace A:=A.md0 C;replace h0:=h0.md0 C;replace uQ:=uQ.md C;replace M:=M.step0 C;refine mv rfl (se rfl rfl (se rfl rfl (asg rfl (asg rfl (nt (c_region (mv rfl (mv rfl (st_buildSliceG [[r]] u127 elT45 (by decide) (by decide) rfl rfl ⟨(cells_one F.oneCell),tV⟩ ⟨rfl,tV⟩ rfl (by decide) ?_)))))))))
      intro Af w9 f Ah C H;have t:=uQ _ f;replace A:=A.md0 C;replace h0:=h0.md0 C;replace F:=F.md0 C;replace uQ:=uQ.md C;replace M:=M.step0 C;replace H:=Ls.of_blk (m:=1) (R:=Q6) (T:=(tSl tB8)) (xs:=[S]) H ⟨_,_,rfl,⟨_,rfl,F⟩,rfl⟩ rfl (by decide) t;refine st_ap (sz:=1) (by rfl) u127 elT45 rfl rfl A H (fun _ h _=>h) uQ (Fsh.new M) (by(simp<;>omega)) (by(simp<;>omega)) ?_;intro Ad Am x P Y J j C X _ Aa;have e:=A;clear A;replace h0:=h0.sub P;replace N:=fun b G=>N b (Y b G);replace E:=fun b G k=>P b (E b G k) (ly k M.size);replace h0:=h0.md C X;replace uQ:=uQ.md C;replace M:=M.stepO C (fun b G=>(e.2 b G).1);replace uQ:=J;clear J P Y X Aa;refine asg rfl (st_nil (n_block (c_then (c_region (st _ (r_addN (a:=i) (b:=1) 9223372036854775808 rfl rfl rfl (by omega)) (mv rfl (nt ?_)))))));refine next3 (x0:=Ad) (x1:=(o ++ ([S]))) (x2:=(i+1)) (by omega) ⟨rfl,(fitI rfl (by omega)),rfl,rfl,tV⟩ ⟨x,N,E,uQ,M,j,h0,(by omega),(by rw[List.take_add_one,p,I];simp[y])⟩
    · (have g:=dF U);refine c_exit (x_then (x_then (x_hit (c_then (ns (mv rfl (asg rfl (nt (c_ret ?_)))))))));exact ret1L (v:=Z) trivial rfl ⟨rfl,tV⟩ ⟨_,o,rfl,M,(A.ls (fun b G=>N b G) (Fsh.up Ac)),(by rw[I,List.take_of_length_le (by omega)])⟩

theorem eXor_any {w:World} {Q:Nat→Prop} (uQ:Up w Q) {v0:Value} {l:List (List UInt8)} (h0:Ls (tSl tB8) w Q v0 l) (p0:∀x∈l,x.length≤1048576) :
    Calls Tryz.prog 110 #[v0] w fun en w'=>∃r0:Nat,en = .returned (.int .u64 r0)∧Md [] w w'∧r0<18446744073709551616∧xorF 0 l=r0:=by
  have X:=h0.len63;have M:=Md.refl [] w;have W:=uQ;have J:∀b,Q b→Q b:=fun _ h=>h;have E:∀b,Q b→b<w.heap.size→Q b:=fun _ h _=>h;refine enter (n:=18) Tryz.func110 rfl rfl rfl ?_;intro B;refine ns (asg rfl (nt (ns (asg rfl (nt (c_seq (ns (mv rfl (sL rfl u127 h0.shp (mv rfl (nt (c_block ?_))))))))))));obtain⟨r0,A⟩:∃r,xorF 0 l=r:=⟨_,rfl⟩;have R:=A
  try simp only[List.nil_append]at A
  refine loop2 (fun(v:Nat) (i:Nat)=>[(3,(.int .u64 v)),(8,(.int .i64 i)),(6,v0),(7,(.int .i64 l.length))]) (fun(v:Nat) (i:Nat) w'=>∃Q':Nat→Prop,(∀b,Q' b→Q b)∧(∀b,Q b→b<w.heap.size→Q' b)∧Up w' Q'∧Md [] w w'∧Ls (tSl tB8) w' Q' v0 l∧v<18446744073709551616∧xorF v (l.drop i)=r0) (fun(v:Nat) (i:Nat)=>l.length-i) (x0:=0) (x1:=0) ?_ ?_ ?_
  · exact⟨rfl,rfl,rfl,rfl,tV⟩
  · exact⟨Q,J,E,uQ,M,h0,(by omega),(by have I:=A;exact I)⟩
  · clear M uQ J E h0
    rintro v i B Z ⟨V,J,E,uQ,M,h0,S,G⟩;refine ns (st _ (r_ltN (a:=i) (b:=l.length) rfl rfl) (nt (c_seq ?_)));refine c_if rfl (fun K=>?_) (fun K=>?_)
    · (have C:=dq K);refine c_skip (c_then (c_seq (c_block (ns (st _ (r_indexN (i:=i) 1 rfl rfl u127 el45 h0.shp (by omega)) ?_)))));obtain⟨d,H⟩:=getE (l:=l) (i:=i) (by omega);obtain⟨Y,P,D⟩:=h0.get H;obtain⟨U,rfl,N⟩:=P;replace D:At _ v0 (i*1) [U]:=D;refine st _ ((r_loadE (kk:=i*1) 0 rfl rfl one45 D rfl).to (b:=U) rfl) (asg rfl (st_nil ?_));clear D;refine c_then (c_region (mv rfl (mv rfl (st_call fn159 rfl (hLook_any uQ N (by exact lv (p0 _ (List.mem_of_getElem? (by assumption))) (by decide))) ?_))));rintro en c ⟨F,rfl,O,T,L⟩;refine⟨_,rfl,?_⟩;replace h0:=h0.md0 O;replace uQ:=uQ.md O;replace M:=M.step0 O;refine st _ (r_xorN (a:=v) (b:=F) 18446744073709551616 rfl rfl rfl rfl (by omega)) (asg rfl (st_nil (n_block (c_then (c_region (st _ (r_addN (a:=i) (b:=1) 9223372036854775808 rfl rfl rfl (by omega)) (mv rfl (nt ?_))))))));refine next2 (x0:=(v ^^^ F)) (x1:=(i+1)) (by omega) ⟨(fitI rfl (by rfl)),(fitI rfl (by omega)),rfl,rfl,tV⟩ ⟨V,J,E,uQ,M,h0,(xor64_lt (by assumption) (by assumption)),(by have I:=G;simp(disch:=first|omega|assumption|(simp;done)|fail) only [xor_end,xor_step H,SS,reduceIte,C,H,L]at I;exact I)⟩
    · (have C:=dF K);refine c_exit (x_then (x_then (x_hit (c_then (ns (mv rfl (asg rfl (nt (c_ret ?_)))))))));exact ret1L (v:=(.int .u64 v)) trivial rfl ⟨rfl,tV⟩ ⟨v,rfl,M,(by assumption),(by(try (simp(disch:=first|omega|assumption|(simp;done)|fail) only [xor_end,SS,reduceIte,C]at G));simp(disch:=first|omega|assumption|(simp;done)|fail) only [SS,reduceIte,A,C,← G])⟩

theorem wRight_any {w:World} {Q:Nat→Prop} (uQ:Up w Q) (n:Int) (a0:(-9223372036854775808≤n∧n<9223372036854775808)) :
    Calls Tryz.prog 49 #[(.int .i64 (n:Int))] w fun en w'=>∃r0:Bool,en = .returned (.bool r0)∧Md [] w w'∧decide (1≤n∧n≤64)=r0:=by
  have M:=Md.refl [] w;have D:=uQ;refine enter (n:=9) Tryz.func49 rfl rfl rfl ?_;intro B;refine ns (asg rfl (nt (ns (mv rfl (st _ (r_ge (a:=n) (b:=1) rfl rfl) (mv rfl ?_))))));refine part_n (t:=5) rfl (fun A=>?_) (fun A=>?_)
  · (have C:=dq A);refine sg A (r_move rfl) (sg A (r_le (a:=n) (b:=64) rfl rfl) (st _ (r_pick_t rfl A rfl) (asg rfl (nt (c_ret ?_)))));exact ret1L (v:=(.bool ((decide (n≤64))))) trivial rfl ⟨rfl,tV⟩ ⟨(decide (n≤64)),rfl,M,(by simp_all)⟩
  · (have C:=dF A);refine sk A (sk A (st _ (r_pick_f rfl A rfl) (asg rfl (nt (c_ret ?_)))));exact ret1L (v:=(.bool false)) trivial rfl ⟨rfl,tV⟩ ⟨false,rfl,M,(by exact decide_eq_false (by omega))⟩

theorem bpClone_any {w:World} {Q:Nat→Prop} (uQ:Up w Q) {v0:Value} {l:Ly} (h0:Ls tB8 w Q v0 l) (p0:l.length≤140737488355328) :
    Calls Tryz.prog 72 #[v0] w fun en w'=>∃u0:Value,∃r0:List UInt8,∃Q':Nat→Prop,en = .returned (u0)∧Md [] w w'∧NewQ w w' Q Q'∧Ow tB8 5 (Fsh [] w) w' Q' u0 r0∧l=r0:=by
  obtain⟨a,A,T,R,V⟩:∃a A,v0 = .slice a l.length A∧l.length≤A∧(a=none→l=[]):=by
    obtain⟨a,A,j,e,M,k,N,_⟩:=h0;exact⟨a,A,e,M,fun h=>List.eq_nil_of_length_eq_zero (by have:=N h;omega)⟩
  refine enter (n:=8) Tryz.func72 rfl rfl rfl ?_;intro B;refine ns (asg rfl (nt (c_seq (ns (mv rfl (st (.bool a.isNone) (by exact r_eqlSN (a:=a) (m:=l.length) (c:=A) (by rw[← T];rfl) u45) (nt ?_)))))));refine c_if rfl (fun H=>?_) (fun H=>?_)
  · have S:l=[]:=V (Option.isNone_iff_eq_none.1 H)
    refine ns (asg rfl (nt (c_ret (r_then ?_))));exact ret1 trivial rfl rfl ⟨_,[],Q,rfl,Md.refl [] w,⟨fun x h _=>h,fun x h=>h,uQ⟩,Ow.nil _ _ _ _ _,S⟩
  · refine c_skip ?_
    refine c_then (ns (st_build0 u45 elT5 ?_));intro b i D W C O;obtain⟨K,J,Z,X,f⟩:=exQ uQ D W C;have P:Ow tB8 5 (Fsh [] w) i K (.slice (some ⟨b,0,none⟩) 0 0) []:=Ow.of_blk (m:=0) O rfl rfl (by simp[maxLen]) (.inr D) X;replace h0:=(h0.sub J).md0 C;refine mv rfl (st_apZ (sz:=1) rfl u45 elT5 rfl rfl P h0.lz f (Fsh.new C) (by simp;omega) (by simp;omega) ?_);intro p r L Y d g E F o _ U;refine asg rfl (nt (c_ret ?_));exact ret1 trivial rfl rfl ⟨_,_,L,rfl,C.step1 F D,⟨fun x G I=>Y x (J x G I) (ly I C.size),fun x G=>Z x (d x G),g⟩,E,by simp⟩
theorem bpClone_any_ls {w:World} {Q:Nat→Prop} (uQ:Up w Q) {v0:Value} {l:Ly} (h0:Ls tB8 w Q v0 l) (p0:l.length≤140737488355328) :
    Calls Tryz.prog 72 #[v0] w fun en w'=>∃u0:Value,∃r0:List UInt8,en = .returned (u0)∧Md [] w w'∧Ls tB8 w' Q u0 r0∧l=r0 :=
  (bpClone_any uQ h0 p0).mono fun en w' ⟨u0,r0,Q2,he,hm,kq,k0,hF⟩=>⟨u0,r0,he,hm,k0.ls kq.2.1 (Fsh.up uQ),hF⟩

theorem dTwinP_any {w:World} {Q:Nat→Prop} (uQ:Up w Q) {v0:Value} {m:Drf} (h0:Pt tDrf 107 w Q v0 m) (p0:m.b.length≤1000000) :
    Calls Tryz.prog 56 #[v0] w fun en w'=>∃o0:Nat,∃u0_0:Value,∃r0:Drf,∃Q':Nat→Prop,en = .returned (.pointer (some ⟨o0,0,none⟩))∧Md [] w w'∧NewQ w w' Q Q'∧Blk w' o0 (Drf.cells r0 u0_0) 107∧¬Q' o0∧w.heap.size≤o0∧Drf.ok r0∧Ow tB8 5 (Fsh [] w) w' Q' u0_0 r0.b∧m=r0:=by
  obtain⟨c,g,rfl,e,h0,d⟩:=h0;obtain⟨k,rfl,o,P⟩:=tDrf_un d;have M:=Md.refl [] w;have j:=uQ;have Y:∀b,Q b→Q b:=fun _ h=>h;have H:∀b,Q b→b<w.heap.size→Q b:=fun _ h _=>h;refine enter (n:=14) Tryz.func56 rfl rfl rfl ?_;intro B;refine ns (asg rfl (nt (c_seq ?_)));have G:=h0;refine c_mixT [(0,true),(1,true),(2,true),(3,true),(5,true),(6,true),(7,true),(8,true),(4,false)] [9,10,11] (fun w'=>Md [] w w') mixed (by kernel_rfl) ?_;intro p E;refine⟨E.mono (by simp),?_⟩;have U:=E.mono (T:=[]) (by simp);refine mo rfl (mz (fun w' O=>r_nil rfl) (mz (fun w' O=>r_field rfl off107_0) (mz (fun w' O=>(r_loadBlk rfl one45 (G.md0 O) rfl).to (b:=k) rfl) (mo rfl (mz (fun w' O=>r_nil rfl) (mz (fun w' O=>r_field rfl off107_1) (mz (fun w' O=>r_loadPart (PHead.cells m.h) rfl (by exact agg105) (G.md0 O) rfl) ?_)))))));replace P:=P.md0 E;replace h0:=h0.md0 E;replace uQ:=uQ.md E;replace M:=M.step0 E;refine m_e ?_ rfl;refine st_call fn72 rfl (bpClone_any uQ P (by omega)) ?_;rintro en r ⟨D,J,l,rfl,L,⟨R,S,I⟩,A,i⟩;refine⟨_,rfl,?_⟩;have Z:∀b,vblock D=some b→b∈[]∨_:=fun b K=>Or.inr (lv U.size ((A.2 b K).1.elim (fun h=>by simp at h) id));replace Y:=fun b K=>Y b (S b K);replace H:=fun b K W=>R b (H b K W) (ly W M.size);replace A:=A.lower (Fsh.lift (S':=[]) M);replace h0:=h0.md0 L;replace uQ:=uQ.md L;replace M:=M.step0 L;replace U:=U.step0 L;replace uQ:=I;clear I R S;refine st_nil ⟨rfl,U,?_⟩;refine m_nil ?_;clear G;clear U;refine st _ (r_buildG (us:=[[D],(PHead.cells m.h)]) (cs:=(Drf.cells (({b:=J,h:=m.h}:Drf)) D)) [(0,0,1),(1,1,91)] z107 pl107 rfl rfl ⟨(cells_one A.oneCell),rfl,tV⟩ ⟨rfl,rfl,tV⟩ rfl rfl) (st_box (cs:=(Drf.cells (({b:=J,h:=m.h}:Drf)) D)) rfl rfl ?_);intro F t C X L V
  have a:c≠F:=(by have:=h0.lt;omega);obtain⟨f,R,S,N,I⟩:=exQ uQ C X L;replace A:=A.sub R S;replace Y:=fun b K=>Y b (S b K);replace H:=fun b K W=>R b (H b K W) (ly W M.size);replace C:=lv M.size C;replace A:=A.md0 L;replace uQ:=uQ.md L;replace M:=M.step0 L;replace uQ:=I;clear I R S;refine asg rfl (nt (c_ret ?_));exact ret1L (v:=(.pointer (some ⟨F,0,none⟩))) trivial rfl ⟨rfl,tV⟩ ⟨F,_,(({b:=J,h:=m.h}:Drf)),f,rfl,M,⟨H,Y,uQ⟩,V,N,C,(by assumption),A,(by cases m;simp_all)⟩
end Go.Proofs.YtfadcpfgenjbeaaGreat
namespace Go.Wk
open Go Go.RowKit
def okC (c:UInt8):Bool:=decide (33≤c.toNat) && decide (c.toNat≤126)
/-- May it be a file's name? -/
def fnameF (s:Ly):Bool:=decide (1≤s.length) && decide (s.length≤96) && s.all okC
theorem all_end {s:Ly} {i:Nat} (h:¬i<s.length):(s.drop i).all okC=true:=by rw[List.drop_of_length_le (by omega)];rfl
theorem all_get {s:Ly} {i:Nat} (h:i<s.length):(s.drop i).all okC=(okC (s.getD i 0) && (s.drop (i+1)).all okC):=by
  rw[List.drop_eq_getElem_cons h,List.all_cons]
  simp[List.getD_eq_getElem?_getD,List.getElem?_eq_getElem h]
theorem okC_no {c:UInt8} (h:c.toNat<33∨126<c.toNat):okC c=false:=by unfold okC;rcases h with h|h<;>simp<;>omega
theorem okC_yes {c:UInt8} (h:¬c.toNat<33) (h2:¬126<c.toNat):okC c=true:=by unfold okC;simp;omega
def nptr:Option Nat→Value
  | some b=>.pointer (some ⟨b,0,none⟩)
  | none=>.pointer none
def tNp:Dt Nat:=tOne (fun b=>.pointer (some ⟨b,0,none⟩)) (fun _=>rfl) (fun _=>True)
theorem nptr_one (x:Option Nat):(nptr x).oneCell'=true:=by cases x<;>rfl
def tNpo:Dt (Option Nat):=tOne nptr nptr_one (fun _=>True)
theorem nptr_ptr (o:Option Nat):∃p,nptr o = .pointer p∧p.isNone=o.isNone:=by cases o<;>exact⟨_,rfl,rfl⟩
section
variable {P:Program} {n:Nat} {A:Fr n} {D:List Deferred} {l:List (Nat × Value)} {w:World} {d:Option Tmp} {ty:TypeId} {ps:String} {af:Array Edge} {g:Option (Nat × Bool)}
theorem r_eqlNp {x:Operand} {t u e:TypeId} {o:Option Nat} (hx:ev n l x=some (nptr o)) (hT:P.underlying t=some (.pointer e)) :
    RunV P ⟨d,.binOp .eql t x (.const (.pointer none)) u,ty,ps,af,g⟩ (over A D l).eval w (.bool o.isNone):=by
  obtain⟨p,C,B⟩:=nptr_ptr o
  rw[C]at hx
  have G:P.underlying t=some (.pointer (P.pointee t)):=by rw[hT];simp[Program.pointee,hT]
  have h:=run_eql_pointer_nil (P:=P) w t p G
  have E:(over A D l).eval (.const (.pointer none)) = .pointer none:=rfl
  have F:(eqGuard .eql t x (.const (.pointer none)) (.pointer p) (.pointer none)).run P w = .ok () w:=by unfold eqGuard;simp
  simp[RunV,execOp,ev_eval hx,E,F,h,← B]
theorem r_neqNp {x:Operand} {t u e:TypeId} {o:Option Nat} (hx:ev n l x=some (nptr o)) (hT:P.underlying t=some (.pointer e)) :
    RunV P ⟨d,.binOp .neq t x (.const (.pointer none)) u,ty,ps,af,g⟩ (over A D l).eval w (.bool o.isSome):=by
  obtain⟨p,B,G⟩:=nptr_ptr o
  rw[B]at hx
  have F:P.underlying t=some (.pointer (P.pointee t)):=by rw[hT];simp[Program.pointee,hT]
  have h:=run_neq_pointer_nil (P:=P) w t p F
  have C:(over A D l).eval (.const (.pointer none)) = .pointer none:=rfl
  have E:(eqGuard .neq t x (.const (.pointer none)) (.pointer p) (.pointer none)).run P w = .ok () w:=by unfold eqGuard;simp
  have e:o.isSome=p.isSome:=by cases o <;> cases p <;> simp_all
  simp[RunV,execOp,ev_eval hx,C,E,h,e]
end
/-- What each call with names tells first. -/
def mayF (off:Bool) (l:List (List UInt8)):Nat:=if off=true then 18 else if l.all fnameF=true then 0 else 1
theorem mayF_off {off:Bool} {l:List (List UInt8)} (h:off=true):mayF off l=18:=by unfold mayF;rw[if_pos h]
theorem mayF_of {off b:Bool} {l:List (List UInt8)} (h:¬off=true) (hb:l.all fnameF=b):mayF off l=if b=true then 0 else 1:=by unfold mayF;rw[if_neg h,hb]
theorem alln_end {l:List (List UInt8)} {i:Nat} (h:¬i<l.length):(l.drop i).all fnameF=true:=by rw[List.drop_of_length_le (by omega)];rfl
theorem alln_get {l:List (List UInt8)} {i:Nat} {s:Ly} (h:l[i]? = some s):(l.drop i).all fnameF=(fnameF s && (l.drop (i+1)).all fnameF):=by
  obtain⟨A,B⟩:=List.getElem?_eq_some_iff.1 h
  rw[List.drop_eq_getElem_cons A,B,List.all_cons]
theorem alln_yes {l:List (List UInt8)} {i:Nat} {s:Ly} (h:l[i]? = some s) (hs:fnameF s=true):(l.drop i).all fnameF=(l.drop (i+1)).all fnameF:=by rw[alln_get h,hs,Bool.true_and]
theorem alln_no {l:List (List UInt8)} {i:Nat} {s:Ly} (h:l[i]? = some s) (hs:fnameF s=false):(l.drop i).all fnameF=false:=by rw[alln_get h,hs,Bool.false_and]
end Go.Wk
namespace Go.Proofs.YtfadcpfgenjbeaaGreat
open Go Go.Wk Go.RowKit
set_option linter.unusedVariables false
set_option linter.unusedSimpArgs false
attribute [local irreducible] wpList wpQuiet wpStill wpMix Code.wp Calls bodyPost

theorem fRight_any {w:World} {Q:Nat→Prop} (uQ:Up w Q) (s:Ly) (p0:s.length≤1000000) :
    Calls Tryz.prog 126 #[(str s)] w fun en w'=>∃r0:Bool,en = .returned (.bool r0)∧Md [] w w'∧fnameF s=r0:=by
  have M:=Md.refl [] w;have V:=uQ;have S:∀b,Q b→Q b:=fun _ h=>h;have P:∀b,Q b→b<w.heap.size→Q b:=fun _ h _=>h;refine enter (n:=28) Tryz.func126 rfl rfl rfl ?_;intro B;refine ns (asg rfl (nt (c_seq (ns (mv rfl (st _ (r_lenS (s:=s) rfl u9) (st _ (r_ltN (a:=s.length) (b:=1) rfl rfl) (mv rfl ?_))))))));refine part_n (t:=7) rfl (fun J=>?_) (fun J=>?_)
  · (first|(have K:=dq J)|(have K:=dF (bnt J))|(have K:=bnt J)|(have K:=J));refine sk J (sk J (sk J (st _ (r_pick_t rfl J rfl) (nt (c_if_t rfl rfl (ns (asg rfl (nt (c_ret (r_then ?_))))))))));exact ret1L (v:=(.bool false)) trivial rfl ⟨rfl,tV⟩ ⟨false,rfl,M,(by unfold fnameF;simp;omega)⟩
  · (first|(have K:=dF J)|(have K:=dq (bnf J))|(have K:=bnf J)|(have K:=J));refine sg J (r_move rfl) (sg J (r_lenS (s:=s) rfl u9) (sg J (r_gtN (a:=s.length) (b:=96) rfl rfl) (st _ (r_pick_f rfl J rfl) (nt ?_))));refine c_if rfl (fun G=>?_) (fun G=>?_)
    · (first|(have C:=dq G)|(have C:=dF (bnt G))|(have C:=bnt G)|(have C:=G));refine ns (asg rfl (nt (c_ret (r_then ?_))));exact ret1L (v:=(.bool false)) trivial rfl ⟨rfl,tV⟩ ⟨false,rfl,M,(by unfold fnameF;simp;omega)⟩
    · (first|(have C:=dF G)|(have C:=dq (bnf G))|(have C:=bnf G)|(have C:=G));refine c_skip (c_then (c_seq (ns (mv rfl (st _ (r_lenS (s:=s) rfl u9) (mv rfl (nt (c_block ?_))))))));obtain⟨r0,N⟩:∃r,s.all okC=r:=⟨_,rfl⟩;have L:=N
      try simp only[List.nil_append]at N
      refine loop1 (fun(i:Nat)=>[(14,(.int .i64 i)),(0,(str s)),(13,(.int .i64 s.length))]) (fun(i:Nat) w'=>∃Q':Nat→Prop,(∀b,Q' b→Q b)∧(∀b,Q b→b<w.heap.size→Q' b)∧Up w' Q'∧Md [] w w'∧i≤s.length∧(s.drop i).all okC=r0) (fun(i:Nat)=>s.length-i) (x0:=0) ?_ ?_ ?_
      · exact⟨rfl,rfl,rfl,tV⟩
      · exact⟨Q,S,P,uQ,M,(by omega),(by have R:=N;first|exact R|exact L|(simp only[List.nil_append]at R;exact R))⟩
      · clear M uQ S P
        rintro i B W ⟨U,S,P,uQ,M,T,O⟩;refine ns (st _ (r_ltN (a:=i) (b:=s.length) rfl rfl) (nt (c_seq ?_)));refine c_if rfl (fun H=>?_) (fun H=>?_)
        · (first|(have D:=dq H)|(have D:=dF (bnt H))|(have D:=bnt H)|(have D:=H));refine c_skip (c_then (c_seq (c_block (ns (mv rfl (asg rfl (nt (ns (mv rfl (mv rfl (st _ (r_idxSN (s:=s) (i:=i) rfl rfl u9 (by omega)) (st _ (r_ltN (a:=((s.getD i 0).toNat)) (b:=33) rfl rfl) (mv rfl ?_)))))))))))));refine part_n (t:=21) rfl (fun A=>?_) (fun A=>?_)
          · (first|(have E:=dq A)|(have E:=dF (bnt A))|(have E:=bnt A)|(have E:=A));refine sk A (sk A (sk A (sk A (st _ (r_pick_t rfl A rfl) (nt (c_if_t rfl rfl (ns (asg rfl (nt (c_ret (r_block (r_then (r_then ?_)))))))))))));refine r_block (r_then ?_);exact ret1L (v:=(.bool false)) trivial rfl ⟨rfl,tV⟩ ⟨false,rfl,M,(by have e:=L.trans (O.symm.trans (show _=false from by rw[all_get (by omega),okC_no (by omega)];rfl));unfold fnameF;rw[e];simp)⟩
          · (first|(have E:=dF A)|(have E:=dq (bnf A))|(have E:=bnf A)|(have E:=A));refine sg A (r_move rfl) (sg A (r_move rfl) (sg A (r_idxSN (s:=s) (i:=i) rfl rfl u9 (by omega)) (sg A (r_gtN (a:=((s.getD i 0).toNat)) (b:=126) rfl rfl) (st _ (r_pick_f rfl A rfl) (nt ?_)))));refine c_if rfl (fun I=>?_) (fun I=>?_)
            · (first|(have F:=dq I)|(have F:=dF (bnt I))|(have F:=bnt I)|(have F:=I));refine ns (asg rfl (nt (c_ret (r_block (r_then (r_then (r_block (r_then ?_))))))));exact ret1L (v:=(.bool false)) trivial rfl ⟨rfl,tV⟩ ⟨false,rfl,M,(by have e:=L.trans (O.symm.trans (show _=false from by rw[all_get (by omega),okC_no (by omega)];rfl));unfold fnameF;rw[e];simp)⟩
            · (first|(have F:=dF I)|(have F:=dq (bnf I))|(have F:=bnf I)|(have F:=I));refine c_skip (n_block (c_then (c_region (st _ (r_addN (a:=i) (b:=1) 9223372036854775808 rfl rfl rfl (by omega)) (mv rfl (nt ?_))))));refine next1 (x0:=(i+1)) (by omega) ⟨(fitI rfl (by omega)),rfl,rfl,tV⟩ ⟨U,S,P,uQ,M,(by omega),(by have R:=O;rw[all_get (by omega),okC_yes (by omega) (by omega),Bool.true_and]at R;exact R)⟩
        · (first|(have D:=dF H)|(have D:=dq (bnf H))|(have D:=bnf H)|(have D:=H));refine c_exit (x_then (x_then (x_hit (c_then (ns (asg rfl (nt (c_ret ?_))))))));exact ret1L (v:=(.bool true)) trivial rfl ⟨rfl,tV⟩ ⟨true,rfl,M,(by have e:=L.trans (O.symm.trans (all_end (by omega)));unfold fnameF;rw[e];simp;omega)⟩
theorem off102_3:fieldOff Tryz.prog 102 3=some 3:=by kernel_rfl
theorem off102_4:fieldOff Tryz.prog 102 4=some 4:=by kernel_rfl
theorem one99:isOne Tryz.prog 99=true:=by kernel_rfl

structure Wri where
  fs:Nat
  name:List UInt8
  most:Nat
  d:Drf
  waiting:Nat
  archived:Bool
def Wri.cells (x:Wri) (v0:Value):List Value :=
  [(.pointer (some ⟨x.fs,0,none⟩))] ++ ([(str x.name)] ++ ([(.int .i64 x.most)] ++ ([v0] ++ ([(.int .i64 x.waiting)] ++ ([(.bool x.archived)])))))
def Wri.ok (x:Wri):Prop:=x.most<9223372036854775808∧x.waiting<9223372036854775808
def Wri.entE (m:Wri) (real mono:Nat) (boot:Ly):Ent:={seq:=m.d.num 9+1,real:=real,mono:=mono,boot:=boot,xor:=0,items:=[]}
/-- An entry more: its number, or a refusal. -/
def Wri.append (m:Wri) (l:List Pr) (real mono:Nat) (boot:Ly):Nat × Nat × Wri :=
  if m.archived=true then(0,8,m)else
  if(plistF l).2≠0 then(0,(plistF l).2,m)else
  if m.d.num 9=18446744073709551615 then(0,1,m)else
  if m.most<(m.d.entry (plistF l).1 (m.entE real mono boot)).b.length then(0,15,m)else
    ((m.d.entry (plistF l).1 (m.entE real mono boot)).num 9,0,{m with d:=m.d.entry (plistF l).1 (m.entE real mono boot),waiting:=m.waiting+1})
/-- An entry can be put. -/
def Wri.okApp (m:Wri) (l:List Pr) (real mono:Nat) (boot:Ly):Prop :=
  m.archived=false→(plistF l).2=0→m.d.num 9≠18446744073709551615→m.d.okEnt (plistF l).1 (m.entE real mono boot)∧(1≤(plistF l).1.length∧(plistF l).1.length≤1000)∧∀q∈(plistF l).1,(joinF q).1.length≤1000
theorem wTail_any {w:World} {Q:Nat→Prop} (uQ:Up w Q) {b0:Nat} {v0_0:Value} (m:Wri) (h0:Blk w b0 (Wri.cells m v0_0) 102) (n0:¬Q b0) (a0_0:Wri.ok m) (a0_1:Pt tDrf 107 w Q v0_0 m.d) :
    Calls Tryz.prog 25 #[.pointer (some ⟨b0,0,none⟩)] w fun en w'=>∃r0:Nat,en = .returned (.int .u64 r0)∧Md [] w w'∧r0<18446744073709551616∧m.d.num 9=r0:=by
  have G:=n0;have M:=Md.refl [] w;have J:=uQ;refine enter (n:=11) Tryz.func25 rfl rfl rfl ?_;intro B;refine ns (asg rfl (nt (ns (mv rfl (sn rfl (sf rfl off102_3 (sl (u:=v0_0) rfl one99 h0 rfl ?_)))))));have A:=a0_1;obtain⟨E,F,rfl,D,A,C⟩:=A;obtain⟨L,rfl,I,H⟩:=tDrf_un C;refine sn rfl (sf rfl off107_1 (sf rfl off105_16 (sl (u:=(.int .u64 ((m.d.h.n.getD 9 0:Nat):Int))) rfl one23 A rfl ?_)));have K:m.d.h.n.getD 9 0<18446744073709551616:=(nums_bd I.2.2.2.2.2.2.2.1 9);refine asg rfl (nt (c_ret ?_));exact ret1L (v:=(.int .u64 ((m.d.h.n.getD 9 0:Nat):Int))) trivial rfl ⟨rfl,tV⟩ ⟨m.d.h.n.getD 9 0,rfl,M,(by assumption),rfl⟩
theorem wWait_any {w:World} {Q:Nat→Prop} (uQ:Up w Q) {b0:Nat} {v0_0:Value} (m:Wri) (h0:Blk w b0 (Wri.cells m v0_0) 102) (n0:¬Q b0) (a0_0:Wri.ok m) (a0_1:Pt tDrf 107 w Q v0_0 m.d) :
    Calls Tryz.prog 27 #[.pointer (some ⟨b0,0,none⟩)] w fun en w'=>∃r0:Nat,en = .returned (.int .i64 r0)∧Md [] w w'∧r0<9223372036854775808∧m.waiting=r0:=by
  have A:=n0;have M:=Md.refl [] w;have C:=uQ;refine enter (n:=7) Tryz.func27 rfl rfl rfl ?_;intro B;refine ns (asg rfl (nt (ns (mv rfl (sn rfl (sf rfl off102_4 (sl (u:=(.int .i64 m.waiting)) rfl one3 h0 rfl ?_)))))));have D:m.waiting<9223372036854775808:=a0_0.2;refine asg rfl (nt (c_ret ?_));exact ret1L (v:=(.int .i64 m.waiting)) trivial rfl ⟨rfl,tV⟩ ⟨m.waiting,rfl,M,(by assumption),rfl⟩
theorem wImage_any {w:World} {Q:Nat→Prop} (uQ:Up w Q) {b0:Nat} {v0_0:Value} (m:Wri) (h0:Blk w b0 (Wri.cells m v0_0) 102) (n0:¬Q b0) (a0_0:Wri.ok m) (a0_1:Pt tDrf 107 w Q v0_0 m.d) (p0:m.d.b.length≤1000000) :
    Calls Tryz.prog 24 #[.pointer (some ⟨b0,0,none⟩)] w fun en w'=>∃u0:Value,∃r0:List UInt8,en = .returned (u0)∧Md [] w w'∧Ls tB8 w' Q u0 r0∧m.d.b=r0:=by
  have L:=n0;have M:=Md.refl [] w;have R:=uQ;have P:∀b,Q b→Q b:=fun _ h=>h;refine enter (n:=11) Tryz.func24 rfl rfl rfl ?_;intro B;refine ns (asg rfl (nt (ns (mv rfl (sn rfl (sf rfl off102_3 (sl (u:=v0_0) rfl one99 h0 rfl ?_)))))));have A:=a0_1;obtain⟨J,K,rfl,I,A,D⟩:=A;obtain⟨S,rfl,T,H⟩:=tDrf_un D;refine sn rfl (sf rfl off107_0 (sl (u:=S) rfl one45 A rfl (st_call fn72 rfl (bpClone_any_ls uQ H (by omega)) ?_)));rintro en U ⟨E,F,rfl,O,C,G⟩;refine⟨_,rfl,?_⟩;replace M:=M.step0 O;refine asg rfl (nt (c_ret ?_));exact ret1L (v:=E) trivial rfl ⟨rfl,tV⟩ ⟨_,F,rfl,M,(C.sub (fun b N _=>P b N)),G⟩

structure SNo where
  nm:List UInt8
  there:Bool
  fid:Nat
def SNo.cells (x:SNo):List Value :=
  [(str x.nm)] ++ ([(.bool x.there)] ++ ([(.pointer (some ⟨x.fid,0,none⟩))]))
/-- A node: its block, what it says, its file. -/
structure SNd where
  id:Nat
  no:SNo
  fl:SFl
def tNd:Dt SNd:=tOne (fun x=>.pointer (some ⟨x.id,0,none⟩)) (fun _=>rfl) (fun _=>True)
structure SCh where
  kind:Nat
  n:Nat
  old:List UInt8
  over:Option Nat
def SCh.cells (x:SCh):List Value :=
  [(.int .i64 x.kind)] ++ ([(.pointer (some ⟨x.n,0,none⟩))] ++ ([(str x.old)] ++ ([(nptr x.over)])))
def tSCh:Dt SCh:=tPull (fun x=>(x.kind,x.n,x.old,x.over)) (tProd tNat (tProd tNp (tProd tStr tNpo)))
def SCh.ok (x:SCh):Prop:=x.kind<9223372036854775808
theorem tSCh_mk {w:World} {Q:Nat→Prop} {x:SCh} (c0:SCh.ok x):tSCh.rep w Q (x.cells) x :=
  ⟨_,_,rfl,⟨rfl,c0⟩,⟨_,_,rfl,⟨rfl,tV⟩,⟨_,_,rfl,⟨rfl,tV⟩,⟨rfl,tV⟩⟩⟩⟩
structure SFs where
  room:Int
  fuse:Int
  off:Bool
  nodes:List SNd
  pend:List SCh
def SFs.cells (x:SFs) (v0:Value) (v1:Value):List Value :=
  [(.int .i64 (x.room:Int))] ++ ([(.int .i64 (x.fuse:Int))] ++ ([(.bool x.off)] ++ ([v0] ++ ([v1]))))
def SFs.ok (x:SFs):Prop:=(-9223372036854775808≤x.room∧x.room<9223372036854775808)∧(-9223372036854775808≤x.fuse∧x.fuse<9223372036854775808)
/-- A node's block and its file's, own; its file's bytes stay. -/
def NdR (nd fd:TypeId) (lo:Nat→Prop) (w:World) (Q:Nat→Prop) (x:SNd):Prop :=
  Blk w x.id x.no.cells nd∧(∃v0 v1,Blk w x.no.fid (x.fl.cells v0 v1) fd∧Ls tB8 w Q v0 x.fl.b∧Ls tB8 w Q v1 x.fl.safe)∧¬Q x.id∧¬Q x.no.fid∧lo x.id∧lo x.no.fid
structure Nds (nd fd:TypeId) (lo:Nat→Prop) (w:World) (Q:Nat→Prop) (l:List SNd):Prop where
  all:∀x∈l,NdR nd fd lo w Q x
  ids:(l.map (·.id)).Nodup
  fids:(l.map (·.no.fid)).Nodup
section
variable {nd fd:TypeId} {lo lo':Nat→Prop} {w w':World} {Q Q':Nat→Prop} {l:List SNd} {x:SNd} {S:List Nat}
theorem NdR.md (h:NdR nd fd lo w Q x) (m:Md S w w') (ha:x.id∉S∧x.no.fid∉S) (hs:∀b∈S,¬Q b):NdR nd fd lo w' Q x:=by
  obtain⟨A,⟨F,G,B,C,D⟩,E⟩:=h;exact⟨A.md m ha.1,⟨F,G,B.md m ha.2,C.md m hs,D.md m hs⟩,E⟩
theorem NdR.sub (h:NdR nd fd lo w Q x) (s:∀b,Q b→b<w.heap.size→Q' b) (t:∀b,Q' b→Q b):NdR nd fd lo w Q' x:=by
  obtain⟨B,⟨I,J,C,D,E⟩,F,G,H⟩:=h;exact⟨B,⟨I,J,C,D.sub s,E.sub s⟩,fun A=>F (t _ A),fun A=>G (t _ A),H⟩
theorem NdR.reP (h:NdR nd fd lo w Q x) (t:∀b,lo b→lo' b):NdR nd fd lo' w Q x:=by
  obtain⟨A,B,C,D,E,F⟩:=h;exact⟨A,B,C,D,t _ E,t _ F⟩
theorem Nds.md (h:Nds nd fd lo w Q l) (m:Md S w w') (ha:∀x∈l,x.id∉S∧x.no.fid∉S) (hs:∀b∈S,¬Q b):Nds nd fd lo w' Q l:=⟨fun x hx=>(h.all x hx).md m (ha x hx) hs,h.ids,h.fids⟩
theorem Nds.md0 (h:Nds nd fd lo w Q l) (m:Md [] w w'):Nds nd fd lo w' Q l:=h.md m (fun _ _=>⟨List.not_mem_nil,List.not_mem_nil⟩) (fun _ hb=>absurd hb List.not_mem_nil)
theorem Nds.sub (h:Nds nd fd lo w Q l) (s:∀b,Q b→b<w.heap.size→Q' b) (t:∀b,Q' b→Q b):Nds nd fd lo w Q' l:=⟨fun x hx=>(h.all x hx).sub s t,h.ids,h.fids⟩
theorem Nds.reP (h:Nds nd fd lo w Q l) (t:∀b,lo b→lo' b):Nds nd fd lo' w Q l:=⟨fun x hx=>(h.all x hx).reP t,h.ids,h.fids⟩
theorem blk_ty {b:Nat} {cs cs':List Value} {t t':TypeId} (h:Blk w b cs t) (h':Blk w b cs' t'):t=t':=by unfold Blk at h h';rw[h]at h';cases h';rfl
theorem Nds.ap1 (h:Nds nd fd lo w Q l) {b:Nat} {cs:List Value} {ty:TypeId} (hB:Blk w b cs ty) (h1:Nat.beq nd ty=false) (h2:Nat.beq fd ty=false):∀x∈l,x.id∉[b]∧x.no.fid∉[b]:=by
  intro x D;obtain⟨B,⟨E,F,C,_⟩,_⟩:=h.all x D;refine⟨fun A=>?_,fun A=>?_⟩
  · rw[List.mem_singleton]at A;rw[A]at B;rw[blk_ty B hB]at h1;simp at h1
  · rw[List.mem_singleton]at A;rw[A]at C;rw[blk_ty C hB]at h2;simp at h2
theorem Nds.get (h:Nds nd fd lo w Q l) (hx:x∈l):Blk w x.id x.no.cells nd∧x.id<w.heap.size∧¬Q x.id:=⟨(h.all x hx).1,(h.all x hx).1.lt,(h.all x hx).2.2.1⟩
theorem Nds.file (h:Nds nd fd lo w Q l) (hx:x∈l):∃v0 v1,Blk w x.no.fid (x.fl.cells v0 v1) fd∧¬Q x.no.fid∧Ls tB8 w Q v0 x.fl.b∧Ls tB8 w Q v1 x.fl.safe:=by
  obtain⟨_,⟨v0,v1,A,B,C⟩,_,D,_⟩:=h.all x hx;exact⟨v0,v1,A,D,B,C⟩
end
/-- The node that is there by a name. -/
def findN:List SNd→List UInt8→Option SNd
  | [],_=>none
  | x :: l,s=>if x.no.there=true∧x.no.nm=s then some x else findN l s
theorem findN_end {l:List SNd} {s:Ly} {i:Nat} (h:¬i<l.length):findN (l.drop i) s=none:=by rw[List.drop_of_length_le (by omega)];rfl
theorem findN_get {l:List SNd} {i:Nat} {x:SNd} (h:l[i]? = some x):l.drop i=x :: l.drop (i+1):=by
  obtain⟨A,B⟩:=List.getElem?_eq_some_iff.1 h;rw[← B];exact List.drop_eq_getElem_cons A
theorem findN_yes {l:List SNd} {s:Ly} {i:Nat} {x:SNd} (h:l[i]? = some x) (h1:x.no.there=true) (h2:x.no.nm=s):findN (l.drop i) s=some x:=by rw[findN_get h,findN,if_pos ⟨h1,h2⟩]
theorem findN_no {l:List SNd} {s:Ly} {i:Nat} {x:SNd} (h:l[i]? = some x) (h1:¬(x.no.there=true∧x.no.nm=s)):findN (l.drop i) s=findN (l.drop (i+1)) s:=by rw[findN_get h,findN,if_neg h1]
theorem findN_mem:∀{l:List SNd} {s:Ly} {x:SNd},findN l s=some x→x∈l∧x.no.there=true∧x.no.nm=s
  | [],_,_,h=>by cases h
  | y :: l,s,x,h=>by
    rw[findN]at h;by_cases hc:y.no.there=true∧y.no.nm=s
    · rw[if_pos hc]at h;cases h;exact⟨List.mem_cons_self,hc⟩
    · rw[if_neg hc]at h;obtain⟨h1,h2⟩:=findN_mem h;exact⟨List.mem_cons_of_mem _ h1,h2⟩
/-- How many are there, and how many bytes they have. -/
def totF:List SNd→Nat × Nat
  | []=>(0,0)
  | x :: l=>if x.no.there=true then((totF l).1+1,(totF l).2+x.fl.b.length)else totF l
theorem totF_end {l:List SNd} {i:Nat} (h:¬i<l.length):totF (l.drop i)=(0,0):=by rw[List.drop_of_length_le (by omega)];rfl
theorem totF_yes {l:List SNd} {i:Nat} {x:SNd} (h:l[i]? = some x) (h1:x.no.there=true):totF (l.drop i)=((totF (l.drop (i+1))).1+1,(totF (l.drop (i+1))).2+x.fl.b.length):=by rw[findN_get h,totF,if_pos h1]
theorem totF_no {l:List SNd} {i:Nat} {x:SNd} (h:l[i]? = some x) (h1:¬x.no.there=true):totF (l.drop i)=totF (l.drop (i+1)):=by rw[findN_get h,totF,if_neg h1]
theorem totF_le:∀l:List SNd,(totF l).1≤l.length
  | []=>Nat.le_refl _
  | x :: l=>by
    have:=totF_le l;rw[totF];by_cases h:x.no.there=true
    · rw[if_pos h];simpa using this
    · rw[if_neg h];simp;omega
/-- The node of a name, or why there is none. -/
def gtF (off:Bool) (l:List SNd) (s:Ly):Option Nat × Nat :=
  if mayF off [s]≠0 then(none,mayF off [s])else match findN l s with
    | some x=>(some x.id,0)
    | none=>(none,16)
theorem gtF_no {off:Bool} {l:List SNd} {s:Ly} {c:Nat} (h:mayF off [s]=c) (hc:c≠0):gtF off l s=(none,c):=by subst h;unfold gtF;rw[if_pos hc]
theorem gtF_in {off:Bool} {l:List SNd} {s:Ly} {c:Nat} {o:Option Nat} (h:mayF off [s]=c) (hc:c=0) (hf:(findN l s).map (·.id)=o) (ho:o.isSome=true):gtF off l s=(o,0):=by
  subst hf;unfold gtF;rw[if_neg (by omega)]
  cases hq:findN l s with
  | none=>rw[hq]at ho;cases ho
  | some x=>rfl
theorem gtF_out {off:Bool} {l:List SNd} {s:Ly} {c:Nat} {o:Option Nat} (h:mayF off [s]=c) (hc:c=0) (hf:(findN l s).map (·.id)=o) (ho:o.isSome=false):gtF off l s=(none,16):=by
  subst hf;unfold gtF;rw[if_neg (by omega)]
  cases hq:findN l s with
  | none=>rfl
  | some x=>rw[hq]at ho;cases ho
section
variable {nd fd:TypeId} {lo lo1 lo2:Nat→Prop} {w:World} {Q:Nat→Prop} {l:List SNd} {α β:Type} {T:Dt α} {U:Dt β}
theorem Nds.apO (h:Nds nd fd lo w Q l) {e:Nat} {v:Value} {xs:List α} {Q1:Nat→Prop} (hO:Ow T e lo1 w Q1 v xs) (h1:Nat.beq e nd=false) (h2:Nat.beq e fd=false):∀x∈l,x.id∉(vblock v).toList∧x.no.fid∉(vblock v).toList:=by
  intro x D;obtain⟨B,⟨E,F,C,_⟩,_⟩:=h.all x D;refine⟨fun A=>?_,fun A=>?_⟩
  · exact hO.blk_ne B h1 x.id (by simpa using A) rfl
  · exact hO.blk_ne C h2 x.no.fid (by simpa using A) rfl
theorem Nds.apF (h:Nds nd fd lo w Q l) {b:Nat} {cs:List Value} {ty e1 e2:TypeId} {v1 v2:Value} {x1:List α} {x2:List β} {Q1 Q2:Nat→Prop} (hB:Blk w b cs ty) (hO:Ow T e1 lo1 w Q1 v1 x1) (hP:Ow U e2 lo2 w Q2 v2 x2) (h1:Nat.beq nd ty=false) (h2:Nat.beq fd ty=false) (h3:Nat.beq e1 nd=false) (h4:Nat.beq e1 fd=false) (h5:Nat.beq e2 nd=false) (h6:Nat.beq e2 fd=false) :
    ∀x∈l,x.id∉(b :: (vblock v1).toList ++ ((vblock v2).toList))∧x.no.fid∉(b :: (vblock v1).toList ++ ((vblock v2).toList)):=by
  intro x C;have A:=h.ap1 hB h1 h2 x C;have D:=h.apO hO h3 h4 x C;have E:=h.apO hP h5 h6 x C;simp only[List.mem_append,List.mem_cons,List.mem_singleton,List.not_mem_nil,or_false]at A ⊢;exact⟨fun B=>B.elim (fun q=>q.elim A.1 D.1) E.1,fun B=>B.elim (fun q=>q.elim A.2 D.2) E.2⟩
end
def burnF (f:SFs):Nat × SFs:=if f.fuse=0 then(18,{f with off:=true})else if 0<f.fuse then(0,{f with fuse:=f.fuse-1})else(0,f)
theorem burn_0 {f:SFs} (h:f.fuse=0):burnF f=(18,{f with off:=true}):=by unfold burnF;rw[if_pos h]
theorem burn_1 {f:SFs} (h:¬f.fuse=0) (h1:0<f.fuse):burnF f=(0,{f with fuse:=f.fuse-1}):=by unfold burnF;rw[if_neg h,if_pos h1]
theorem burn_2 {f:SFs} (h:¬f.fuse=0) (h1:¬0<f.fuse):burnF f=(0,f):=by unfold burnF;rw[if_neg h,if_neg h1]
theorem gtF_some {off:Bool} {l:List SNd} {s:Ly} {c:Nat} {o:Option Nat} (h:gtF off l s=(o,c)) (hc:c=0):∃x,x∈l∧o=some x.id∧(mayF off [s]=0∧findN l s=some x):=by
  subst hc;unfold gtF at h;by_cases h1:mayF off [s]≠0
  · rw[if_pos h1]at h;exact absurd (congrArg Prod.snd h) h1
  · rw[if_neg h1]at h
    cases hq:findN l s with
    | none=>rw[hq]at h;cases h
    | some x=>rw[hq]at h;exact⟨x,(findN_mem hq).1,(congrArg Prod.fst h).symm,by omega,rfl⟩
def allF (off:Bool) (l:List SNd) (s:Ly):List UInt8 × Nat :=
  if(gtF off l s).2≠0 then([],(gtF off l s).2)else match findN l s with|some x=>(x.fl.b,0)|none=>([],0)
theorem allF_no {off:Bool} {l:List SNd} {s:Ly} {c:Nat} {o:Option Nat} (h:gtF off l s=(o,c)) (hc:c≠0):allF off l s=([],c):=by unfold allF;rw[h];rw[if_pos hc]
theorem gtF_0 {off:Bool} {l:List SNd} {s:Ly} {x:SNd} (h:mayF off [s]=0∧findN l s=some x):gtF off l s=(some x.id,0):=by unfold gtF;rw[h.1,h.2];rfl
theorem allF_in {off:Bool} {l:List SNd} {s b:Ly} {x:SNd} (h:mayF off [s]=0∧findN l s=some x) (hb:x.fl.b=b):allF off l s=(b,0):=by unfold allF;rw[gtF_0 h,h.2,← hb];rfl
def lenF (off:Bool) (l:List SNd) (s:Ly):Nat × Nat :=
  if(gtF off l s).2≠0 then(0,(gtF off l s).2)else match findN l s with|some x=>(x.fl.b.length,0)|none=>(0,0)
theorem lenF_no {off:Bool} {l:List SNd} {s:Ly} {c:Nat} {o:Option Nat} (h:gtF off l s=(o,c)) (hc:c≠0):lenF off l s=(0,c):=by unfold lenF;rw[h];rw[if_pos hc]
theorem lenF_in {off:Bool} {l:List SNd} {s:Ly} {n:Nat} {x:SNd} (h:mayF off [s]=0∧findN l s=some x) (hb:x.fl.b.length=n):lenF off l s=(n,0):=by unfold lenF;rw[gtF_0 h,h.2,← hb];rfl
def freeF (f:SFs):Int:=if f.off=true then 0 else if 0<f.room-((totF f.nodes).2:Int)then f.room-((totF f.nodes).2:Int)else 0
theorem freeF_off {f:SFs} (h:f.off=true):freeF f=0:=by unfold freeF;rw[if_pos h]
theorem freeF_on {f:SFs} {a b:Nat} (h:f.off=false) (ht:totF f.nodes=(a,b)):freeF f=if f.room-(b:Int)<0 then 0 else f.room-(b:Int):=by
  unfold freeF;rw[h,ht];simp only[Bool.false_eq_true,if_false]
  split <;> split <;> omega
theorem Nds.subF {nd fd:TypeId} {lo:Nat→Prop} {w:World} {Q Q':Nat→Prop} {l:List SNd} {v:Value} (h:Nds nd fd lo w Q l) (fQ:∀b,Q b→Q' b) (fT:∀b,Q' b→Q b∨vblock v=some b) (ap:∀x∈l,x.id∉(vblock v).toList∧x.no.fid∉(vblock v).toList):Nds nd fd lo w Q' l:=by
  refine⟨fun x D=>?_,h.ids,h.fids⟩;obtain⟨E,⟨L,M,F,G,H⟩,I,J,K⟩:=h.all x D;have a:=ap x D;exact⟨E,⟨L,M,F,G.sub (fun b A _=>fQ b A),H.sub (fun b A _=>fQ b A)⟩,fun B=>(fT _ B).elim I (fun C=>a.1 (by simp[C])),fun B=>(fT _ B).elim J (fun C=>a.2 (by simp[C])),K⟩

theorem el143:elemIs Tryz.prog 143 1=true:=by kernel_rfl
theorem off148_0:fieldOff Tryz.prog 148 0=some 0:=by kernel_rfl
theorem off148_1:fieldOff Tryz.prog 148 1=some 1:=by kernel_rfl
theorem off97_3:fieldOff Tryz.prog 97 3=some 3:=by kernel_rfl
theorem one143:isOne Tryz.prog 143=true:=by kernel_rfl
theorem one94:isOne Tryz.prog 94=true:=by kernel_rfl
theorem u94:Tryz.prog.underlying 94=some (.slice 143):=by kernel_rfl

theorem fFind_any {w:World} {Q:Nat→Prop} (uQ:Up w Q) {b0:Nat} {v0_0:Value} {v0_1:Value} (f:SFs) (h0:Blk w b0 (SFs.cells f v0_0 v0_1) 97) (n0:¬Q b0) (a0_0:SFs.ok f) (a0_1:Ow tNd 143 (fun _=>True) w Q v0_0 f.nodes) (a0_2:Ow tSCh 153 (fun _=>True) w Q v0_1 f.pend) (s:Ly) (p0:Nds 148 203 (fun _=>True) w Q f.nodes) :
    Calls Tryz.prog 92 #[.pointer (some ⟨b0,0,none⟩),(str s)] w fun en w'=>∃r0:Option Nat,en = .returned (nptr r0)∧Md [] w w'∧(findN f.nodes s).map (·.id)=r0:=by
  have P:=p0;have Y:=a0_1.read.len63;have S:=n0;have M:=Md.refl [] w;have X:=uQ;have T:∀b,Q b→Q b:=fun _ h=>h;have K:∀b,Q b→b<w.heap.size→Q b:=fun _ h _=>h;refine enter (n:=30) Tryz.func92 rfl rfl rfl ?_;intro B;refine ns (asg rfl (nt (c_seq (ns (mv rfl (sn rfl (sf rfl off97_3 (sl (u:=v0_0) rfl one94 h0 rfl (sL rfl u94 a0_1.shp (mv rfl (nt (c_block ?_))))))))))));obtain⟨r0,I⟩:∃r,findN f.nodes s=r:=⟨_,rfl⟩;have J:=I
  try simp only[List.nil_append]at I
  refine loop1 (fun(i:Nat)=>[(12,(.int .i64 i)),(1,(str s)),(10,v0_0),(11,(.int .i64 f.nodes.length))]) (fun(i:Nat) w'=>∃Q':Nat→Prop,(∀b,Q' b→Q b)∧(∀b,Q b→b<w.heap.size→Q' b)∧Up w' Q'∧Md [] w w'∧Ow tNd 143 (fun _=>True) w' Q' v0_0 f.nodes∧Nds 148 203 (fun _=>True) w' Q' f.nodes∧i≤f.nodes.length∧findN (f.nodes.drop i) s=r0) (fun(i:Nat)=>f.nodes.length-i) (x0:=0) ?_ ?_ ?_
  · exact⟨rfl,rfl,rfl,rfl,tV⟩
  · exact⟨Q,T,K,uQ,M,a0_1,P,(by omega),(by have N:=I;first|exact N|exact J|(simp only[List.nil_append]at N;exact N))⟩
  · clear M uQ T K S a0_1 a0_2 h0 P
    rintro i B c ⟨V,T,K,uQ,M,a0_1,P,W,O⟩;refine ns (st _ (r_ltN (a:=i) (b:=f.nodes.length) rfl rfl) (nt (c_seq ?_)));refine c_if rfl (fun F=>?_) (fun F=>?_)
    · (first|(have C:=dq F)|(have C:=dF (bnt F))|(have C:=bnt F)|(have C:=F));refine c_skip (c_then (c_seq (c_block (ns (st _ (r_indexN (i:=i) 1 rfl rfl u94 el143 a0_1.shp (by omega)) ?_)))));obtain⟨R,H⟩:=getE (l:=f.nodes) (i:=i) (by first|omega|(simp<;>omega));obtain⟨Z,U,L⟩:=a0_1.get H;obtain⟨rfl,_⟩:=U;replace L:At _ v0_0 (i*1) [(.pointer (some ⟨R.id,0,none⟩))]:=L;refine st _ ((r_loadE (kk:=i*1) 0 rfl rfl one143 L rfl).to (b:=(.pointer (some ⟨R.id,0,none⟩))) rfl) (asg rfl (st_nil ?_));clear L;refine c_then (ns (mv rfl (sn rfl (sf rfl off148_1 (st _ ((r_loadBlk rfl one4 (P.get (List.mem_of_getElem? H)).1 rfl).to (b:=(.bool R.no.there)) rfl) (mv rfl ?_))))));refine part_n (t:=20) rfl (fun A=>?_) (fun A=>?_)
      · (first|(have D:=dq A)|(have D:=dF (bnt A))|(have D:=bnt A)|(have D:=A));refine sg A (r_move rfl) (sg A (r_nil rfl) (sg A (r_field rfl off148_0) (sg A ((r_loadBlk rfl one9 (P.get (List.mem_of_getElem? H)).1 rfl).to (b:=(str R.no.nm)) rfl) (sg A (r_move rfl) (sg A (r_eqlS (a:=R.no.nm) (b:=s) rfl rfl) (st _ (r_pick_t rfl A rfl) (nt ?_)))))));refine c_if rfl (fun G=>?_) (fun G=>?_)
        · (first|(have E:=dq G)|(have E:=dF (bnt G))|(have E:=bnt G)|(have E:=G));refine ns (mv rfl (asg rfl (nt (c_ret (r_block (r_then (r_then (r_block (r_then ?_)))))))));exact ret1L (v:=(nptr ((some R.id)))) trivial rfl ⟨rfl,tV⟩ ⟨(some R.id),rfl,M,(by have e:=J.trans (O.symm.trans (findN_yes H (by simp_all) (by simp_all)));rw[e];rfl)⟩
        · (first|(have E:=dF G)|(have E:=dq (bnf G))|(have E:=bnf G)|(have E:=G));refine c_skip (n_block (c_then (c_region (st _ (r_addN (a:=i) (b:=1) 9223372036854775808 rfl rfl rfl (by omega)) (mv rfl (nt ?_))))));refine next1 (x0:=(i+1)) (by omega) ⟨(fitI rfl (by omega)),rfl,rfl,rfl,tV⟩ ⟨V,T,K,uQ,M,a0_1,P,(by omega),(by have N:=O;rw[findN_no H (by simp_all)]at N;exact N)⟩
      · (first|(have D:=dF A)|(have D:=dq (bnf A))|(have D:=bnf A)|(have D:=A));refine sk A (sk A (sk A (sk A (sk A (sk A (st _ (r_pick_f rfl A rfl) (nt (c_if_f rfl rfl (c_skip (n_block (c_then (c_region (st _ (r_addN (a:=i) (b:=1) 9223372036854775808 rfl rfl rfl (by omega)) ?_)))))))))))));refine mv rfl (nt ?_);refine next1 (x0:=(i+1)) (by omega) ⟨(fitI rfl (by omega)),rfl,rfl,rfl,tV⟩ ⟨V,T,K,uQ,M,a0_1,P,(by omega),(by have N:=O;rw[findN_no H (by simp_all)]at N;exact N)⟩
    · (first|(have C:=dF F)|(have C:=dq (bnf F))|(have C:=bnf F)|(have C:=F));refine c_exit (x_then (x_then (x_hit (c_then (ns (asg rfl (nt (c_ret ?_))))))));exact ret1L (v:=(nptr ((none:Option Nat)))) trivial rfl ⟨rfl,tV⟩ ⟨(none:Option Nat),rfl,M,(by have e:=J.trans (O.symm.trans (findN_end (by omega)));rw[e];rfl)⟩
theorem fn76:isFn Tryz.prog 76=true:=by kernel_rfl
theorem off148_2:fieldOff Tryz.prog 148 2=some 2:=by kernel_rfl
theorem one146:isOne Tryz.prog 146=true:=by kernel_rfl

theorem fTotal_any {w:World} {Q:Nat→Prop} (uQ:Up w Q) {b0:Nat} {v0_0:Value} {v0_1:Value} (f:SFs) (h0:Blk w b0 (SFs.cells f v0_0 v0_1) 97) (n0:¬Q b0) (a0_0:SFs.ok f) (a0_1:Ow tNd 143 (fun _=>True) w Q v0_0 f.nodes) (a0_2:Ow tSCh 153 (fun _=>True) w Q v0_1 f.pend) (p0:Nds 148 203 (fun _=>True) w Q f.nodes) (p1:(totF f.nodes).2≤1000000000000) :
    Calls Tryz.prog 73 #[.pointer (some ⟨b0,0,none⟩)] w fun en w'=>∃r0:Nat,∃r1:Nat,en = .returned (.tuple #[(.int .i64 r0),(.int .i64 r1)])∧Md [] w w'∧r0<9223372036854775808∧r1<9223372036854775808∧totF f.nodes=(r0,r1):=by
  have K:=p0;have r:=a0_1.read.len63;have S:=n0;have M:=Md.refl [] w;have p:=uQ;have T:∀b,Q b→Q b:=fun _ h=>h;have J:∀b,Q b→b<w.heap.size→Q b:=fun _ h _=>h;refine enter (n:=33) Tryz.func73 rfl rfl rfl ?_;intro B;refine ns ?_;have v:=totF_le f.nodes;refine asg rfl (asg rfl (nt (ns (asg rfl (asg rfl (nt (c_seq (ns (mv rfl (sn rfl (sf rfl off97_3 (sl (u:=v0_0) rfl one94 h0 rfl (sL rfl u94 a0_1.shp ?_)))))))))))));refine mv rfl (nt (c_block ?_));refine loop3 (fun(a:Nat) (z:Nat) (i:Nat)=>[(4,(.int .i64 a)),(5,(.int .i64 z)),(13,(.int .i64 i)),(11,v0_0),(12,(.int .i64 f.nodes.length))]) (fun(a:Nat) (z:Nat) (i:Nat) w'=>∃Q':Nat→Prop,(∀b,Q' b→Q b)∧(∀b,Q b→b<w.heap.size→Q' b)∧Up w' Q'∧Md [] w w'∧Ow tNd 143 (fun _=>True) w' Q' v0_0 f.nodes∧Nds 148 203 (fun _=>True) w' Q' f.nodes∧i≤f.nodes.length∧a+(totF (f.nodes.drop i)).1=(totF f.nodes).1∧z+(totF (f.nodes.drop i)).2=(totF f.nodes).2) (fun(a:Nat) (z:Nat) (i:Nat)=>f.nodes.length-i) (x0:=0) (x1:=0) (x2:=0) ?_ ?_ ?_
  · exact⟨rfl,rfl,rfl,rfl,rfl,tV⟩
  · exact⟨Q,T,J,uQ,M,a0_1,K,(by omega),(by simp),(by simp)⟩
  · clear M uQ T J S a0_1 a0_2 h0 K
    rintro a z i B x ⟨Z,T,J,uQ,M,a0_1,K,c,D,E⟩;refine ns (st _ (r_ltN (a:=i) (b:=f.nodes.length) rfl rfl) (nt (c_seq ?_)));refine c_if rfl (fun F=>?_) (fun F=>?_)
    · (first|(have A:=dq F)|(have A:=dF (bnt F))|(have A:=bnt F)|(have A:=F));refine c_skip (c_then (c_seq (c_block (ns (st _ (r_indexN (i:=i) 1 rfl rfl u94 el143 a0_1.shp (by omega)) ?_)))));obtain⟨U,H⟩:=getE (l:=f.nodes) (i:=i) (by first|omega|(simp<;>omega));obtain⟨t,W,L⟩:=a0_1.get H;obtain⟨rfl,_⟩:=W;replace L:At _ v0_0 (i*1) [(.pointer (some ⟨U.id,0,none⟩))]:=L;refine st _ ((r_loadE (kk:=i*1) 0 rfl rfl one143 L rfl).to (b:=(.pointer (some ⟨U.id,0,none⟩))) rfl) (asg rfl (st_nil ?_));clear L;refine c_then (ns (mv rfl (sn rfl (sf rfl off148_1 (st _ ((r_loadBlk rfl one4 (K.get (List.mem_of_getElem? H)).1 rfl).to (b:=(.bool U.no.there)) rfl) (nt ?_))))));refine c_if rfl (fun G=>?_) (fun G=>?_)
      · (first|(have C:=dq G)|(have C:=dF (bnt G))|(have C:=bnt G)|(have C:=G));have g:=totF_yes H (by simp_all);have X:=congrArg Prod.fst g;have Y:=congrArg Prod.snd g;simp only at X Y;refine ns (mv rfl (st _ (r_addN (a:=a) (b:=1) 9223372036854775808 rfl rfl rfl (by omega)) (asg rfl (nt (c_region (mv rfl (mv rfl (sn rfl (sf rfl off148_2 ?_)))))))));obtain⟨j,k,R,I,O,P⟩:=K.file (List.mem_of_getElem? H);refine st _ ((r_loadBlk rfl one146 (K.get (List.mem_of_getElem? H)).1 rfl).to (b:=(.pointer (some ⟨U.no.fid,0,none⟩))) rfl) (st_call fn76 rfl (sLen_any uQ U.fl R I O P) ?_);rintro en y ⟨N,rfl,V,d,o⟩;refine⟨_,rfl,?_⟩;replace a0_1:=a0_1.md0 V;replace K:=K.md0 V;replace uQ:=uQ.md V;replace M:=M.step0 V;refine st _ (r_addN (a:=z) (b:=N) 9223372036854775808 rfl rfl rfl (by omega)) (asg rfl (st_nil ?_));clear R I O P;refine n_block (c_then (c_region (st _ (r_addN (a:=i) (b:=1) 9223372036854775808 rfl rfl rfl (by omega)) (mv rfl (nt ?_)))));refine next3 (x0:=(a+1)) (x1:=(z+N)) (x2:=(i+1)) (by omega) ⟨(fitI rfl (by omega)),(fitI rfl (by omega)),(fitI rfl (by omega)),rfl,rfl,tV⟩ ⟨Z,T,J,uQ,M,a0_1,K,(by omega),(by have e:=totF_yes H (by simp_all);rw[e]at D;simp only at D;omega),(by have e:=totF_yes H (by simp_all);rw[e]at E;simp only at E;omega)⟩
      · (first|(have C:=dF G)|(have C:=dq (bnf G))|(have C:=bnf G)|(have C:=G));refine c_skip (n_block (c_then (c_region (st _ (r_addN (a:=i) (b:=1) 9223372036854775808 rfl rfl rfl (by omega)) (mv rfl (nt ?_))))));refine next3 (x0:=a) (x1:=z) (x2:=(i+1)) (by omega) ⟨(fitI rfl (by omega)),(fitI rfl (by omega)),(fitI rfl (by omega)),rfl,rfl,tV⟩ ⟨Z,T,J,uQ,M,a0_1,K,(by omega),(by have e:=totF_no H (by simp_all);rw[e]at D;exact D),(by have e:=totF_no H (by simp_all);rw[e]at E;exact E)⟩
    · (first|(have A:=dF F)|(have A:=dq (bnf F))|(have A:=bnf F)|(have A:=F));refine c_exit (x_then (x_then (x_hit (c_then (ns (mv rfl (mv rfl (asg rfl (asg rfl (nt (c_ret ?_)))))))))));exact retL (vs:=[(.int .i64 a),(.int .i64 z)]) trivial rfl ⟨rfl,rfl,tV⟩ rfl ⟨a,z,rfl,M,(by first|assumption|omega|simp_all),(by first|assumption|omega|simp_all),(by rw[totF_end (by omega)]at D E;exact Prod.ext D.symm E.symm)⟩
theorem fn126:isFn Tryz.prog 126=true:=by kernel_rfl
theorem fn79:isFn Tryz.prog 79=true:=by kernel_rfl
theorem fn92:isFn Tryz.prog 92=true:=by kernel_rfl
theorem off97_2:fieldOff Tryz.prog 97 2=some 2:=by kernel_rfl
theorem u143:Tryz.prog.underlying 143=some (.pointer 148):=by kernel_rfl

theorem fMay_any {w:World} {Q:Nat→Prop} (uQ:Up w Q) {b0:Nat} {v0_0:Value} {v0_1:Value} (f:SFs) (h0:Blk w b0 (SFs.cells f v0_0 v0_1) 97) (n0:¬Q b0) (a0_0:SFs.ok f) (a0_1:Ow tNd 143 (fun _=>True) w Q v0_0 f.nodes) (a0_2:Ow tSCh 153 (fun _=>True) w Q v0_1 f.pend) {v1:Value} {l:List (List UInt8)} (h1:Ls tStr w Q v1 l) (p0:∀s∈l,s.length≤1000000) :
    Calls Tryz.prog 79 #[.pointer (some ⟨b0,0,none⟩),v1] w fun en w'=>∃r0:Nat,en = .returned (.int .i64 r0)∧Md [] w w'∧r0<9223372036854775808∧mayF f.off l=r0:=by
  have c:=h1.len63;have P:=n0;have M:=Md.refl [] w;have Z:=uQ;have R:∀b,Q b→Q b:=fun _ h=>h;have L:∀b,Q b→b<w.heap.size→Q b:=fun _ h _=>h;refine enter (n:=21) Tryz.func79 rfl rfl rfl ?_;intro B;refine ns (asg rfl (nt (c_seq (ns (mv rfl (sn rfl (sf rfl off97_2 (sl (u:=(.bool f.off)) rfl one4 h0 rfl (nt ?_)))))))));refine c_if rfl (fun E=>?_) (fun E=>?_)
  · (first|(have A:=dq E)|(have A:=dF (bnt E))|(have A:=bnt E)|(have A:=E));refine ns (asg rfl (nt (c_ret (r_then ?_))));exact ret1L (v:=(.int .i64 ((18:Nat):Int))) trivial rfl ⟨rfl,tV⟩ ⟨18,rfl,M,(by first|assumption|omega|simp_all),(mayF_off (by simp_all))⟩
  · (first|(have A:=dF E)|(have A:=dq (bnf E))|(have A:=bnf E)|(have A:=E));refine c_skip (c_then (c_seq (ns (mv rfl (sL rfl u88 h1.shp (mv rfl (nt (c_block ?_))))))));obtain⟨r0,H⟩:∃r,l.all fnameF=r:=⟨_,rfl⟩;have I:=H
    try simp only[List.nil_append]at H
    refine loop1 (fun(i:Nat)=>[(13,(.int .i64 i)),(11,v1),(12,(.int .i64 l.length))]) (fun(i:Nat) w'=>∃Q':Nat→Prop,(∀b,Q' b→Q b)∧(∀b,Q b→b<w.heap.size→Q' b)∧Up w' Q'∧Md [] w w'∧Ls tStr w' Q' v1 l∧i≤l.length∧(l.drop i).all fnameF=r0) (fun(i:Nat)=>l.length-i) (x0:=0) ?_ ?_ ?_
    · exact⟨rfl,rfl,rfl,tV⟩
    · exact⟨Q,R,L,uQ,M,h1,(by omega),(by have O:=H;first|exact O|exact I|(simp only[List.nil_append]at O;exact O))⟩
    · clear M uQ R L P a0_1 a0_2 h0 h1
      rintro i B j ⟨X,R,L,uQ,M,h1,V,N⟩;refine ns (st _ (r_ltN (a:=i) (b:=l.length) rfl rfl) (nt (c_seq ?_)));refine c_if rfl (fun F=>?_) (fun F=>?_)
      · (first|(have C:=dq F)|(have C:=dF (bnt F))|(have C:=bnt F)|(have C:=F));refine c_skip (c_then (c_seq (c_block (ns (st _ (r_indexN (i:=i) 1 rfl rfl u88 el9 h1.shp (by omega)) ?_)))));obtain⟨U,K⟩:=getE (l:=l) (i:=i) (by first|omega|(simp<;>omega));obtain⟨d,T,J⟩:=h1.get K;obtain⟨rfl,_⟩:=T;replace J:At _ v1 (i*1) [(str U)]:=J;refine st _ ((r_loadE (kk:=i*1) 0 rfl rfl one9 J rfl).to (b:=(str U)) rfl) (asg rfl (st_nil ?_));clear J;refine c_then (ns ?_);have g:=p0 _ (List.mem_of_getElem? K);refine mv rfl (st_call fn126 rfl (fRight_any uQ U (by first|omega|(simp<;>omega)|(simp at *<;>omega))) ?_);rintro en k ⟨W,rfl,S,Y⟩;refine⟨_,rfl,?_⟩;replace h1:=h1.md0 S;replace uQ:=uQ.md S;replace M:=M.step0 S;refine st _ (r_not rfl) (nt ?_);refine c_if rfl (fun G=>?_) (fun G=>?_)
        · (first|(have D:=dq G)|(have D:=dF (bnt G))|(have D:=bnt G)|(have D:=G));refine ns (asg rfl (nt (c_ret (r_block (r_then (r_then (r_block (r_then ?_))))))));exact ret1L (v:=(.int .i64 ((1:Nat):Int))) trivial rfl ⟨rfl,tV⟩ ⟨1,rfl,M,(by first|assumption|omega|simp_all),(by have e:=I.trans (N.symm.trans (alln_no K (by simp_all)));exact mayF_of (by simp_all) e)⟩
        · (first|(have D:=dF G)|(have D:=dq (bnf G))|(have D:=bnf G)|(have D:=G));refine c_skip (n_block (c_then (c_region (st _ (r_addN (a:=i) (b:=1) 9223372036854775808 rfl rfl rfl (by omega)) (mv rfl (nt ?_))))));refine next1 (x0:=(i+1)) (by omega) ⟨(fitI rfl (by omega)),rfl,rfl,tV⟩ ⟨X,R,L,uQ,M,h1,(by omega),(by have O:=N;rw[alln_yes K (by simp_all)]at O;exact O)⟩
      · (first|(have C:=dF F)|(have C:=dq (bnf F))|(have C:=bnf F)|(have C:=F));refine c_exit (x_then (x_then (x_hit (c_then (ns (asg rfl (nt (c_ret ?_))))))));exact ret1L (v:=(.int .i64 ((0:Nat):Int))) trivial rfl ⟨rfl,tV⟩ ⟨0,rfl,M,(by first|assumption|omega|simp_all),(by have e:=I.trans (N.symm.trans (alln_end (by omega)));exact mayF_of (by simp_all) e)⟩
theorem fGet_any {w:World} {Q:Nat→Prop} (uQ:Up w Q) {b0:Nat} {v0_0:Value} {v0_1:Value} (f:SFs) (h0:Blk w b0 (SFs.cells f v0_0 v0_1) 97) (n0:¬Q b0) (a0_0:SFs.ok f) (a0_1:Ow tNd 143 (fun _=>True) w Q v0_0 f.nodes) (a0_2:Ow tSCh 153 (fun _=>True) w Q v0_1 f.pend) (s:Ly) (p0:Nds 148 203 (fun _=>True) w Q f.nodes) (p1:s.length≤1000000) :
    Calls Tryz.prog 70 #[.pointer (some ⟨b0,0,none⟩),(str s)] w fun en w'=>∃r0:Option Nat,∃r1:Nat,en = .returned (.tuple #[(nptr r0),(.int .i64 r1)])∧Md [] w w'∧r1<9223372036854775808∧gtF f.off f.nodes s=(r0,r1):=by
  have O:=p0;have Y:=a0_1.read.len63;have J:=n0;have M:=Md.refl [] w;have X:=uQ;refine enter (n:=21) Tryz.func70 rfl rfl rfl ?_;intro B;refine ns (asg rfl (asg rfl (nt (c_seq (ns (mv rfl (mv rfl (st_buildSliceG [[(str s)]] u88 elT9 (by decide) (by decide) rfl rfl ⟨rfl,tV⟩ ⟨rfl,tV⟩ rfl (by decide) ?_))))))));intro S Z L V F G;have P:=uQ _ L;replace a0_1:=a0_1.md0 F;replace a0_2:=a0_2.md0 F;replace h0:=h0.md0 F;replace O:=O.md0 F;replace uQ:=uQ.md F;replace M:=M.step0 F;replace G:=Ls.of_blk (m:=1) (R:=Q) (T:=tStr) (xs:=[s]) G ⟨_,_,rfl,⟨rfl,tV⟩,rfl⟩ rfl (by decide) P;refine st_call fn79 rfl (fMay_any uQ f h0 J a0_0 (a0_1.reP (fun _ _=>trivial)) (a0_2.reP (fun _ _=>trivial)) G (by(intro q U;simp at U;subst U;exact p1))) ?_;rintro en c ⟨H,rfl,F,W,K⟩;refine⟨_,rfl,?_⟩;replace a0_1:=a0_1.md0 F;replace a0_2:=a0_2.md0 F;replace h0:=h0.md0 F;replace O:=O.md0 F;replace uQ:=uQ.md F;replace M:=M.step0 F;refine asg rfl (nt (ns (mv rfl (st _ (r_neN (a:=H) (b:=0) rfl rfl) (nt ?_)))));refine c_if rfl (fun D=>?_) (fun D=>?_)
  · (first|(have A:=dq D)|(have A:=dF (bnt D))|(have A:=bnt D)|(have A:=D));refine ns (mv rfl (asg rfl (asg rfl (nt (c_ret (r_then ?_))))));exact retL (vs:=[(nptr ((none:Option Nat))),(.int .i64 H)]) trivial rfl ⟨rfl,rfl,tV⟩ rfl ⟨(none:Option Nat),H,rfl,M,(by first|assumption|omega|simp_all),(gtF_no K (by omega))⟩
  · (first|(have A:=dF D)|(have A:=dq (bnf D))|(have A:=bnf D)|(have A:=D));refine c_skip (c_then (c_seq (ns (mv rfl (mv rfl (st_call fn92 rfl (fFind_any uQ f h0 J a0_0 (a0_1.reP (fun _ _=>trivial)) (a0_2.reP (fun _ _=>trivial)) s (by exact O.reP (fun _ _=>trivial))) ?_))))));rintro en d ⟨I,rfl,F,N⟩;refine⟨_,rfl,?_⟩;replace M:=M.step0 F;refine asg rfl (nt (ns (mv rfl (st _ (r_neqNp (o:=I) rfl u143) (nt ?_)))));refine c_if rfl (fun E=>?_) (fun E=>?_)
    · (first|(have C:=dq E)|(have C:=dF (bnt E))|(have C:=bnt E)|(have C:=E));refine ns (mv rfl (asg rfl (asg rfl (nt (c_ret (r_then ?_))))));exact retL (vs:=[(nptr I),(.int .i64 ((0:Nat):Int))]) trivial rfl ⟨rfl,rfl,tV⟩ rfl ⟨I,0,rfl,M,(by first|assumption|omega|simp_all),(gtF_in K (by omega) N (by simp_all))⟩
    · (first|(have C:=dF E)|(have C:=dq (bnf E))|(have C:=bnf E)|(have C:=E));refine c_skip (c_then (ns (asg rfl (asg rfl (nt (c_ret ?_))))));exact retL (vs:=[(nptr ((none:Option Nat))),(.int .i64 ((16:Nat):Int))]) trivial rfl ⟨rfl,rfl,tV⟩ rfl ⟨(none:Option Nat),16,rfl,M,(by first|assumption|omega|simp_all),(gtF_out K (by omega) N (by simp_all))⟩
theorem off97_1:fieldOff Tryz.prog 97 1=some 1:=by kernel_rfl

theorem fBurn_any {w:World} {Q:Nat→Prop} (uQ:Up w Q) {b0:Nat} {v0_0:Value} {v0_1:Value} (f:SFs) (h0:Blk w b0 (SFs.cells f v0_0 v0_1) 97) (n0:¬Q b0) (a0_0:SFs.ok f) (a0_1:Ow tNd 143 (fun _=>True) w Q v0_0 f.nodes) (a0_2:Ow tSCh 153 (fun _=>True) w Q v0_1 f.pend) :
    Calls Tryz.prog 74 #[.pointer (some ⟨b0,0,none⟩)] w fun en w'=>∃r0:Nat,∃m0:SFs,∃u50_0:Value,∃u50_1:Value,∃Q':Nat→Prop,en = .returned (.int .i64 r0)∧Md (b0 :: (vblock v0_0).toList ++ ((vblock v0_1).toList)) w w'∧NewQ w w' Q Q'∧r0<9223372036854775808∧Blk w' b0 (SFs.cells m0 u50_0 u50_1) 97∧¬Q' b0∧SFs.ok m0∧Ow tNd 143 (Fsh (b0 :: (vblock v0_0).toList ++ ((vblock v0_1).toList)) w) w' Q' u50_0 m0.nodes∧Ow tSCh 153 (Fsh (b0 :: (vblock v0_0).toList ++ ((vblock v0_1).toList)) w) w' Q' u50_1 m0.pend∧burnF f=(r0,m0):=by
  have D:=n0;have L:Fsh (b0 :: (vblock v0_0).toList ++ ((vblock v0_1).toList)) w b0:=.inl (by simp);replace a0_1:=a0_1.reP (lo':=Fsh (b0 :: (vblock v0_0).toList ++ ((vblock v0_1).toList)) w) (fun b J=>.inl (by simp[J]));replace a0_2:=a0_2.reP (lo':=Fsh (b0 :: (vblock v0_0).toList ++ ((vblock v0_1).toList)) w) (fun b J=>.inl (by simp[J]));have M:=Md.refl (b0 :: (vblock v0_0).toList ++ ((vblock v0_1).toList)) w;have V:=uQ;have U:∀b,Q b→Q b:=fun _ h=>h;have O:∀b,Q b→b<w.heap.size→Q b:=fun _ h _=>h;refine enter (n:=25) Tryz.func74 rfl rfl rfl ?_;intro B;refine ns (asg rfl (nt (c_seq (c_block (ns (mv rfl (sn rfl (sf rfl off97_1 (sl (u:=(.int .i64 (f.fuse:Int))) rfl one3 h0 rfl ?_)))))))));have W:(-9223372036854775808≤f.fuse∧f.fuse<9223372036854775808):=a0_0.2;refine st _ (r_eq (a:=f.fuse) (b:=0) rfl rfl) (asg rfl (nt ?_));refine c_if rfl (fun I=>?_) (fun I=>?_)
  · (first|(have F:=dq I)|(have F:=dF (bnt I))|(have F:=bnt I)|(have F:=I));refine ns (mv rfl (sn rfl (sf rfl off97_2 (st_store rfl rfl one4 rfl h0 (lq rfl) ?_))));have E:=h0;clear h0;intro X K h0;have N:∀b∈[b0],¬Q b:=(by intro b J;simp at J;subst J;exact D);replace a0_1:=a0_1.md K (apart_bo E a0_1 (by decide)) N;replace a0_2:=a0_2.md K (apart_bo E a0_2 (by decide)) N;replace uQ:=uQ.md K;replace M:=M.step K (all_cons L all_nil);clear E N;obtain⟨S,G⟩:∃y,y=({f with off:=true}:SFs):=⟨_,rfl⟩;replace h0:Blk _ _ (SFs.cells ({f with off:=true}) v0_0 v0_1) _:=h0;rw[← G]at h0;have P:SFs.ok S:=(by rw[G];exact⟨a0_0.1,a0_0.2⟩);rw[show f.nodes=S.nodes by rw[G]]at a0_1;rw[show f.pend=S.pend by rw[G]]at a0_2;refine nt (ns (asg rfl (nt (c_ret (r_block (r_then ?_))))));exact ret1L (v:=(.int .i64 ((18:Nat):Int))) trivial rfl ⟨rfl,tV⟩ ⟨18,S,_,_,Q,rfl,M,⟨O,U,uQ⟩,(by first|assumption|omega|simp_all),h0,D,P,a0_1,a0_2,(by rw[burn_0 (by omega),G])⟩
  · (first|(have F:=dF I)|(have F:=dq (bnf I))|(have F:=bnf I)|(have F:=I));refine ns (mv rfl (sn rfl (sf rfl off97_1 (sl (u:=(.int .i64 (f.fuse:Int))) rfl one3 h0 rfl (st _ (r_gt (a:=f.fuse) (b:=0) rfl rfl) (asg rfl (nt ?_)))))));refine c_if rfl (fun C=>?_) (fun C=>?_)
    · (first|(have A:=dq C)|(have A:=dF (bnt C))|(have A:=bnt C)|(have A:=C));refine c_region (mv rfl (sn rfl (sf rfl off97_1 (sl (u:=(.int .i64 (f.fuse:Int))) rfl one3 h0 rfl (st _ (r_subI (a:=f.fuse) (b:=1) rfl rfl (by omega)) (sn rfl (sf rfl off97_1 (st_store rfl rfl one3 rfl h0 (lq rfl) ?_))))))));have E:=h0;clear h0;intro Y K h0;have N:∀b∈[b0],¬Q b:=(by intro b J;simp at J;subst J;exact D);replace a0_1:=a0_1.md K (apart_bo E a0_1 (by decide)) N;replace a0_2:=a0_2.md K (apart_bo E a0_2 (by decide)) N;replace uQ:=uQ.md K;replace M:=M.step K (all_cons L all_nil);clear E N;obtain⟨T,H⟩:∃y,y=({f with fuse:=f.fuse-1}:SFs):=⟨_,rfl⟩;replace h0:Blk _ _ (SFs.cells ({f with fuse:=f.fuse-1}) v0_0 v0_1) _:=h0;rw[← H]at h0;have R:SFs.ok T:=(by rw[H];exact⟨a0_0.1,(by first|omega|assumption|(simp<;>omega)|simp_all)⟩);rw[show f.nodes=T.nodes by rw[H]]at a0_1;rw[show f.pend=T.pend by rw[H]]at a0_2;refine st_nil (n_block (c_then (ns (asg rfl (nt (c_ret ?_))))));exact ret1L (v:=(.int .i64 ((0:Nat):Int))) trivial rfl ⟨rfl,tV⟩ ⟨0,T,_,_,Q,rfl,M,⟨O,U,uQ⟩,(by first|assumption|omega|simp_all),h0,D,R,a0_1,a0_2,(by rw[burn_1 (by omega) (by omega),H])⟩
    · (first|(have A:=dF C)|(have A:=dq (bnf C))|(have A:=bnf C)|(have A:=C));refine c_skip (n_block (c_then (ns (asg rfl (nt (c_ret ?_))))));exact ret1L (v:=(.int .i64 ((0:Nat):Int))) trivial rfl ⟨rfl,tV⟩ ⟨0,f,_,_,Q,rfl,M,⟨O,U,uQ⟩,(by first|assumption|omega|simp_all),h0,D,a0_0,a0_1,a0_2,(burn_2 (by omega) (by omega))⟩
theorem fOff_any {w:World} {Q:Nat→Prop} (uQ:Up w Q) {b0:Nat} {v0_0:Value} {v0_1:Value} (f:SFs) (h0:Blk w b0 (SFs.cells f v0_0 v0_1) 97) (n0:¬Q b0) (a0_0:SFs.ok f) (a0_1:Ow tNd 143 (fun _=>True) w Q v0_0 f.nodes) (a0_2:Ow tSCh 153 (fun _=>True) w Q v0_1 f.pend) :
    Calls Tryz.prog 51 #[.pointer (some ⟨b0,0,none⟩)] w fun en w'=>∃r0:Bool,en = .returned (.bool r0)∧Md [] w w'∧f.off=r0:=by
  have A:=n0;have M:=Md.refl [] w;have C:=uQ;refine enter (n:=7) Tryz.func51 rfl rfl rfl ?_;intro B;refine ns (asg rfl (nt (ns (mv rfl (sn rfl (sf rfl off97_2 (sl (u:=(.bool f.off)) rfl one4 h0 rfl (asg rfl (nt (c_ret ?_))))))))));exact ret1L (v:=(.bool f.off)) trivial rfl ⟨rfl,tV⟩ ⟨f.off,rfl,M,rfl⟩
end Go.Proofs.YtfadcpfgenjbeaaGreat
