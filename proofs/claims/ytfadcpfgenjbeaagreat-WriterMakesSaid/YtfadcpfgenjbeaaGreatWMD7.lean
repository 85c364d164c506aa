/- Part 7 of what the walk of a law stands on: VYd, VYe, OpensS, OpensR, OpensD, OpensE, VYf. No statement is proved here. -/
import Derived.Test.YtfadcpfgenjbeaaGreatWMD6
import Derived.Test.YtfadcpfgenjbeaaGreatRows
namespace Go.Proofs.YtfadcpfgenjbeaaGreat
open Go Go.Wk Go.RowKit
set_option linter.unusedVariables false
set_option linter.unusedSimpArgs false
attribute [local irreducible] wpList wpQuiet wpStill wpMix Code.wp Calls bodyPost
theorem fn14:isFn Tryz.prog 14=true:=by kernel_rfl
theorem fn15:isFn Tryz.prog 15=true:=by kernel_rfl
theorem fn22:isFn Tryz.prog 22=true:=by kernel_rfl
theorem fn23:isFn Tryz.prog 23=true:=by kernel_rfl
theorem fn35:isFn Tryz.prog 35=true:=by kernel_rfl
theorem fn36:isFn Tryz.prog 36=true:=by kernel_rfl
theorem fn37:isFn Tryz.prog 37=true:=by kernel_rfl
theorem fn8:isFn Tryz.prog 8=true:=by kernel_rfl
theorem u4:Tryz.prog.underlying 4=some (.bool):=by kernel_rfl

theorem lRight_any {w:World} {Q:Nat→Prop} (uQ:Up w Q) (c:Cfg) (a0_0:Cfg.ok c) (p0:1≤c.dataSlots∧c.dataSlots≤64∧1≤c.fieldSlots∧c.fieldSlots≤64∧4096≤c.most∧c.most≤32768) :
    Calls Tryz.prog 35 #[.agg (Cfg.cells c).toArray] w fun en w'=>∃r0:Bool,en = .returned (.bool r0)∧Md [] w w'∧true=r0:=by
  have M:=Md.refl [] w;have T:=uQ;refine enter (n:=31) Tryz.func35 rfl rfl rfl ?_;intro B;refine ns (st_box (cs:=(Cfg.cells c)) rfl rfl ?_);intro P X G S R F;have O:=uQ _ G;replace G:=lQ M.size G;replace M:=M.step0 R;refine asg rfl (nt (ns (sf rfl off29_3 (sl (u:=(.int .i64 c.dataSlots)) rfl one3 F rfl ?_))));have U:c.dataSlots<9223372036854775808:=a0_0.2.2.2.1;refine st _ (r_geN (a:=c.dataSlots) (b:=1) rfl rfl) (mv rfl ?_);refine part_n (t:=6) rfl (fun H=>?_) (fun H=>?_)
  · (have N:=dT H);refine sg H (r_field rfl off29_3) (sg H ((r_loadBlk rfl one3 F rfl).to (b:=(.int .i64 c.dataSlots)) rfl) (sg H (r_leN (a:=c.dataSlots) (b:=64) rfl rfl) (st _ (r_pick_t rfl H rfl) (mv rfl ?_))));refine part_n (t:=11) rfl (fun A=>?_) (fun A=>?_)
    · (have I:=dT A);refine sg A (r_field rfl off29_4) (sg A ((r_loadBlk rfl one3 F rfl).to (b:=(.int .i64 c.fieldSlots)) rfl) ?_);have V:c.fieldSlots<9223372036854775808:=a0_0.2.2.2.2.1;refine sg A (r_geN (a:=c.fieldSlots) (b:=1) rfl rfl) (st _ (r_pick_t rfl A rfl) (mv rfl ?_));refine part_n (t:=16) rfl (fun C=>?_) (fun C=>?_)
      · (have J:=dT C);refine sg C (r_field rfl off29_4) (sg C ((r_loadBlk rfl one3 F rfl).to (b:=(.int .i64 c.fieldSlots)) rfl) (sg C (r_leN (a:=c.fieldSlots) (b:=64) rfl rfl) (st _ (r_pick_t rfl C rfl) (mv rfl ?_))));refine part_n (t:=21) rfl (fun D=>?_) (fun D=>?_)
        · (have K:=dT D);refine sg D (r_field rfl off29_5) (sg D ((r_loadBlk rfl one3 F rfl).to (b:=(.int .i64 c.most)) rfl) ?_);have W:c.most<9223372036854775808:=a0_0.2.2.2.2.2;refine sg D (r_geN (a:=c.most) (b:=4096) rfl rfl) (st _ (r_pick_t rfl D rfl) (mv rfl ?_));refine part_n (t:=26) rfl (fun E=>?_) (fun E=>?_)
          · (have L:=dT E);refine sg E (r_field rfl off29_5) (sg E ((r_loadBlk rfl one3 F rfl).to (b:=(.int .i64 c.most)) rfl) (sg E (r_leN (a:=c.most) (b:=32768) rfl rfl) (st _ (r_pick_t rfl E rfl) (asg rfl (nt (c_ret ?_))))));exact ret1L (v:=(.bool ((decide (c.most≤32768))))) trivial rfl ⟨rfl,tV⟩ ⟨(decide (c.most≤32768)),rfl,M,(by exact(decide_eq_true (by omega)).symm)⟩
          · (have L:=dF E);exfalso;omega
        · (have K:=dF D);exfalso;omega
      · (have J:=dF C);exfalso;omega
    · (have I:=dF A);exfalso;omega
  · (have N:=dF H);exfalso;omega
theorem kSameB_any {w:World} {Q:Nat→Prop} (uQ:Up w Q) {v0:Value} {a:Ly} (h0:Ls tB8 w Q v0 a) {v1:Value} {b:Ly} (h1:Ls tB8 w Q v1 b) :
    Calls Tryz.prog 23 #[v0,v1] w fun en w'=>∃r0:Bool,en = .returned (.bool r0)∧Md [] w w'∧decide (a=b)=r0:=by
  have C:=h0.len63;have D:=h1.len63;have M:=Md.refl [] w;have A:=uQ;refine enter (n:=10) Tryz.func23 rfl rfl rfl ?_;intro B;refine ns (asg rfl (nt (ns (mv rfl (st _ (r_convBS (s:=a) u45 u5 u9 rfl h0.by) (mv rfl (st _ (r_convBS (s:=b) u45 u5 u9 rfl h1.by) (st _ (r_eqlS (a:=a) (b:=b) rfl rfl) (asg rfl (nt (c_ret ?_)))))))))));exact ret1L (v:=(.bool ((decide (a=b))))) trivial rfl ⟨rfl,tV⟩ ⟨(decide (a=b)),rfl,M,(by simp(disch:=first|omega|assumption|(simp;done)|fail) only [SS,reduceIte])⟩
set_option maxHeartbeats 16000000 in
set_option maxRecDepth 100000 in
theorem writerMakesR_any {w:World} {Q:Nat→Prop} (uQ:Up w Q) (c:Cfg) (a0_0:Cfg.ok c) (after:Nat) (a1:after<18446744073709551616) (free:Int) (a2:(-9223372036854775808≤free∧free<9223372036854775808)) (there:Bool) (p0:1≤c.dataSlots∧c.dataSlots≤64∧1≤c.fieldSlots∧c.fieldSlots≤64∧4096≤c.most∧c.most≤32768) :
    Calls Tryz.prog 5 #[.agg (Cfg.cells c).toArray,(.int .u64 after),(.int .i64 (free:Int)),(.bool there)] w fun en w'=>∃r0:Bool,en = .returned (.bool r0)∧Md [] w w'∧true=r0:=by
  have Hp:=blank_image (t:=after) a0_0 ⟨p0.1,p0.2.1,p0.2.2.1,p0.2.2.2.1⟩;obtain⟨C9,Kg⟩:=Hp;have M:=Md.refl [] w;have Kx:=uQ;refine enter (n:=115) Tryz.func5 rfl rfl rfl ?_;intro B;refine ns (st_box (cs:=(Cfg.cells c)) rfl rfl ?_);intro C8 w1 Ez Kk D F;have E:=uQ _ Ez;replace Ez:=lQ M.size Ez;replace uQ:=uQ.md D;replace M:=M.step0 D;refine asg rfl (nt (ns (st_call fn8 rfl (fFirst_any uQ) ?_)));rintro en w2 ⟨Jx,rfl,D,Hu⟩;refine⟨_,rfl,?_⟩;replace F:=F.md0 D;replace uQ:=uQ.md D;replace M:=M.step0 D;have Hx:=Hu;subst Hx;refine asg rfl (nt (c_seq (ns (mv rfl (st _ (r_not rfl) (nt (c_if_f rfl rfl (c_skip (c_then (ns (st_call fn11 rfl (oNew uQ (4096) (by omega) (by omega) (by omega)) ?_)))))))))));rintro en w3 ⟨Dy,Bi,Q4,rfl,D,⟨L,S,H⟩,Gp,A⟩;refine⟨_,rfl,?_⟩;have C:∀x∈Bi,Fsh [] w x:=fun x P=>Fsh.new M x (Gp x P);replace E:=L _ E F.lt;replace F:=F.md0 D;replace uQ:=uQ.md D;replace M:=M.step0 D;replace uQ:=H;clear H L S;refine mv rfl (se rfl rfl (se rfl rfl (asg rfl (asg rfl (nt (c_seq (ns (mv rfl (st _ (r_neN (a:=0) (b:=0) rfl rfl) (mv rfl ?_))))))))));refine part_n (t:=29) rfl (fun B0=>?_) (fun B0=>?_)
  · (have Fs:=dT B0);exfalso;omega
  · (have Fs:=dF B0);refine sg B0 (r_move rfl) (sg B0 (r_eqlPN rfl u35) (st _ (r_pick_f rfl B0 rfl) (nt (c_if_f rfl rfl (c_skip (c_then (c_seq (ns (mv rfl (mv rfl ?_))))))))));refine part_n (t:=34) rfl (fun X=>?_) (fun X=>?_)
    · (have Ft:=X);refine sg X (r_move rfl) (st_call_g rfl rfl rfl X fn30 rfl (oMake uQ A (([106]:Ly)) (by(simp<;>omega)) (by omega)) ?_);rintro en w5 ⟨Hc,rfl,Ju,m5,Fq,Q6,D,⟨L,S,H⟩,O,J,Hv⟩;refine⟨_,rfl,?_⟩;have V:∀b∈Bi,¬Q6 b:=fun b hb hq=>(A.lt b hb).2 (S b hq);replace E:=L _ E F.lt;replace F:=F.md D (fun h9=>V _ h9 E);have r9:∀x∈Fq,Fsh [] w x:=fun x P=>(O x P).elim (C x) (Fsh.new M x);replace M:=M.step D C;clear uQ C A;have uQ:=H;have C:=r9;have A:=J;have I:=D;clear H r9 J L S V O D;clear I;replace A:FsO (1) _ _ _ _ _:=A;obtain⟨ia,ja,Hz⟩:=Hv;obtain⟨Ks,hJ⟩:=WmJ.made Hz;refine sg X (r_neN (a:=Hc) (b:=0) rfl rfl) (st _ (r_pick_t rfl X rfl) (nt ?_));refine c_if rfl (fun E0=>?_) (fun E0=>?_)
      · (have Fu:=dT E0);exfalso;omega
      · (have Fu:=dF E0);refine c_skip (c_then (ns (mv rfl (st_call fn10 rfl (kNumber_any uQ (free) (by omega) 3000 (by omega) (by omega)) ?_))));rintro en w7 ⟨Bz,rfl,D,Jv,Gi⟩;refine⟨_,rfl,?_⟩;replace F:=F.md0 D;replace A:=A.md0 D;replace uQ:=uQ.md D;replace M:=M.step0 D;have Dx:=numF_lt free 3000;rw[Gi]at Dx;try simp only[LL,Nat.reduceAdd,Nat.reduceMul]at Dx
        have Hs:Bz<3000:=(by have e:=numF_lt free 3000;rw[Gi]at e;omega);refine asg rfl (nt (c_seq (ns (mv rfl (st_call fn30 rfl (oMake uQ A (([120]:Ly)) (by(simp<;>omega)) (by omega)) ?_)))));rintro en w8 ⟨Hd,rfl,Jw,m8,Ey,Q9,D,⟨L,S,H⟩,O,J,Hw⟩;refine⟨_,rfl,?_⟩;have V:∀b∈Fq,¬Q9 b:=fun b hb hq=>(A.lt b hb).2 (S b hq);replace E:=L _ E F.lt;replace F:=F.md D (fun h9=>V _ h9 E);have r9:∀x∈Ey,Fsh [] w x:=fun x P=>(O x P).elim (C x) (Fsh.new M x);replace M:=M.step D C;clear uQ C A;have uQ:=H;have C:=r9;have A:=J;have I:=D;clear H r9 J L S V O D;clear I;replace A:FsO (2) _ _ _ _ _:=A;obtain⟨ib,jb,Dg⟩:=Hw;have Ik:=hJ.mkz Dg;have E3:=A.wf.nd;refine st _ (r_neN (a:=Hd) (b:=0) rfl rfl) (mv rfl ?_);refine part_n (t:=44) rfl (fun W=>?_) (fun W=>?_)
        · (have Db:=dT W);exfalso;omega
        · (have Db:=dF W);refine sg W (r_move rfl) (sg W (r_move rfl) (sg W (r_subN (a:=4096) (b:=Bz) 9223372036854775808 rfl rfl rfl (by omega)) (st_unguard rfl rfl rfl W (st_mkG (lo:=Fsh [] w) (T:=tB8) (z:=0) (zs:=[(b8 0)]) (m:=4096-Bz) rfl u45 elT5 z5 rfl (fun _ _=>⟨rfl,tV⟩) uQ (Fsh.new M) (by omega) ?_))));intro Io Is J2 L S H Ai D Dh;have Ay:∀x,vblock Io=some x→x∉Ey:=fun x P I=>by have h3:=(A.lt x I).1;have h4:=Dh x P;omega
          replace E:=L _ E F.lt;replace A:=A.sub L S;replace F:=F.md0 D;replace A:=A.md0 D;replace uQ:=uQ.md D;replace M:=M.step0 D;replace uQ:=H;clear H L S Dh;obtain⟨He,fQ,fT,De⟩:=Ai.freeze;replace E:=fQ _ E;replace A:=A.subF fQ fT Ay;replace uQ:Up Is He:=fun b hb=>fQ b (uQ b hb);clear Ai fQ fT;have Ai:=De;clear De;refine st_call_g rfl rfl rfl W fn34 rfl (oWrite uQ A (([120]:Ly)) (0) (by omega) Ai (by(simp<;>omega)) (by omega)) ?_;rintro en Ky ⟨E5,rfl,H2,Kl,D5,Hf,D,⟨L,S,H⟩,O,J,Fv⟩;refine⟨_,rfl,?_⟩;have V:∀b∈Ey,¬Hf b:=fun b hb hq=>(A.lt b hb).2 (S b hq);replace E:=L _ E F.lt;replace F:=F.md D (fun h9=>V _ h9 E);replace Ai:=(Ai.sub L).md D V;have r9:∀x∈D5,Fsh [] w x:=fun x P=>(O x P).elim (C x) (Fsh.new M x);replace M:=M.step D C;clear uQ C A;have uQ:=H;have C:=r9;have A:=J;have I:=D;clear H r9 J L S V O D;clear I;replace A:FsO (3) _ _ _ _ _:=A;obtain⟨jc,E2⟩:=Fv;obtain⟨_,Il,hI⟩:=hJ.start Dg E2 (by rw[List.length_replicate]) (by omega) E3;refine sg W (r_neN (a:=E5) (b:=0) rfl rfl) (st _ (r_pick_f rfl W rfl) (nt ?_));refine c_if rfl (fun Bk=>?_) (fun Bk=>?_)
          · (have Dc:=dT Bk);exfalso;omega
          · (have Dc:=dF Bk);refine c_skip (c_then (ns (mv rfl (st _ (r_loadPart (Cfg.cells c) rfl (by exact agg29) F rfl) (st_call fn13 rfl (lConf_any uQ c a0_0) ?_)))));rintro en Kz ⟨I1,rfl,D,G7,Fw⟩;refine⟨_,rfl,?_⟩;replace F:=F.md0 D;replace A:=A.md0 D;replace Ai:=Ai.md0 D;replace uQ:=uQ.md D;replace M:=M.step0 D;have E1:=Fw;subst E1;refine mv rfl (st_call fn12 rfl (wCreate_any uQ A (([106]:Ly)) c a0_0 after (by omega) (by exact p0) (by decide) (by omega) (by omega)) ?_);rintro en K0 ⟨A9,Hq,A0,Hg,D,⟨L,S,H⟩,O,Jn,⟨Je,Jg,Ji,D9⟩,hD⟩;have Hy:=D.size;have H0:=M.size;have V:∀b∈D5,¬Hg b:=fun b hb hq=>(A.lt b hb).2 (S b hq);replace E:=L _ E F.lt;replace F:=F.md D (fun h9=>V _ h9 E);replace Ai:=(Ai.sub L).md D V;have r9:∀x∈A0,Fsh [] w x:=fun x P=>(O x P).elim (C x) (Fsh.new M x);have In:=uQ;have Im:=S;have I:=D.size;replace M:=M.step D C;clear uQ C;have uQ:=H;have C:=r9;clear H r9 L S V O D;clear A;rcases hD with⟨Ax,rfl,A⟩|⟨Ax,Ew,H1,rfl,A⟩
            · refine⟨_,rfl,?_⟩
              replace A:FsO (6) _ _ _ _ _:=A;obtain⟨As,Dk,Dw⟩:=hI.create D9 A.wf.nd ⟨by omega,by omega⟩;have Dl:=Dk Ax;refine mv rfl (se rfl rfl (se rfl rfl (asg rfl (asg rfl (nt (ns (asg rfl (nt (c_seq (ns (st _ (r_loadPart (Cfg.cells c) rfl (by exact agg29) F rfl) (st_call fn35 rfl (lRight_any uQ c a0_0 (by omega)) ?_))))))))))));rintro en K1 ⟨I2,rfl,D,Jk⟩;refine⟨_,rfl,?_⟩;replace F:=F.md0 D;replace A:=A.md0 D;replace uQ:=uQ.md D;replace M:=M.step0 D;refine st _ (r_not rfl) (nt ?_);refine c_if rfl (fun Aq=>?_) (fun Aq=>?_)
              · (have A6:=bnt Aq);exfalso;simp_all
              · (have A6:=bnf Aq);refine ns (st _ (r_loadPart (Cfg.cells c) rfl (by exact agg29) F rfl) (mv rfl (st_call fn14 rfl (rnewMaker_any uQ c a0_0 after (by omega) (by omega) (by omega)) ?_)));rintro en Iu ⟨Bt,Cs,Ct,Cu,Fk,E6,J3,rfl,D,⟨L,S,H⟩,Dq,Ff,A1,Cn,i,j,k,Ci,Bd,Eb⟩;refine⟨_,rfl,?_⟩;have B1:∀x,vblock Cs=some x→x∉A0:=fun x P I=>by have h3:=(A.lt x I).1;have h4:=(i.2 x P).1.elim (fun h=>by simp at h) id;omega
                have B2:∀x,vblock Ct=some x→x∉A0:=fun x P I=>by have h3:=(A.lt x I).1;have h4:=(j.2 x P).1.elim (fun h=>by simp at h) id;omega
                have B3:∀x,vblock Cu=some x→x∉A0:=fun x P I=>by have h3:=(A.lt x I).1;have h4:=(k.2 x P).1.elim (fun h=>by simp at h) id;omega
                have Dz:C8≠Bt:=(by have:=F.lt;omega);replace A1:=lQ M.size A1;replace A:=A.sub L S;replace i:=i.lower (Fsh.lift (S':=[]) M);replace j:=j.lower (Fsh.lift (S':=[]) M);replace k:=k.lower (Fsh.lift (S':=[]) M);replace A:=A.md0 D;replace uQ:=uQ.md D;replace M:=M.step0 D;replace uQ:=H;clear H L S;have G1:=newMk_b (c:=c) (t:=after);rw[Eb]at G1;have Er:Pt tMk 113 Iu (fun _=>True) (.pointer (some ⟨Bt,0,none⟩)) E6:=⟨_,_,rfl,trivial,Dq,tMk_mk Cn (i.ls (fun _ _=>trivial) fun _ _=>trivial) (j.ls (fun _ _=>trivial) fun _ _=>trivial) (k.ls (fun _ _=>trivial) fun _ _=>trivial) (Ci.sub fun _ _ _=>trivial)⟩;refine st_call fn15 rfl (mimage_any (Q:=fun _=>True) (fun _ _=>trivial) Er 1 (by decide) (by omega) (by omega)) ?_;rintro en K2 ⟨u23,G9,J4,rfl,D,Gw,El,Fx⟩;refine⟨_,rfl,?_⟩;have Gj:=El.lsB uQ;clear El Gw Er;replace A:=A.md0 D;replace uQ:=uQ.md D;replace M:=M.step0 D;have Gq:(blankF c after).b=G9:=C9.trans (by rw[Eb];exact Fx);have Jp:=congrArg List.length Gq;refine sL rfl u45 Gj.shp (asg rfl (nt (ns (mv rfl (mv rfl (st _ (r_gtN (a:=G9.length) (b:=Bz) rfl rfl) (nt ?_)))))));refine c_if rfl (fun Ar=>?_) (fun Ar=>?_)
                · (have A7:=dT Ar);refine c_region (asg rfl (nt (c_seq (ns ?_))));have Dm:A9=15:=As.trans (by rw[if_pos (by omega)]);refine mv rfl (mv rfl (st _ (r_neN (a:=A9) (b:=15) rfl rfl) (mv rfl ?_)));refine part_n (t:=75) rfl (fun G=>?_) (fun G=>?_)
                  · (have Y:=dT G);exfalso;omega
                  · (have Y:=dF G);refine sg G (r_move rfl) (sg G (r_eqlNp (o:=(none:Option Nat)) rfl u38) (sg G (r_move rfl) (sg G (r_neN (a:=A9) (b:=0) rfl rfl) (sg G (r_neqBool u4 rfl rfl) (st _ (r_pick_f rfl G rfl) (nt ?_))))));refine c_if rfl (fun R=>?_) (fun R=>?_)
                    · (have Z:=dF (bnt R));exfalso;exact absurd R (by rw[decide_eq_true Ax];decide)
                    · (have Z:=dT (bnf R));refine c_skip (c_then (c_seq (ns (mv rfl (st _ (r_neN (a:=A9) (b:=0) rfl rfl) (nt ?_))))));refine c_if rfl (fun U=>?_) (fun U=>?_)
                      · (have f:=dT U);refine ns (mv rfl (st_call fn32 rfl (oLen uQ A (([106]:Ly)) (by(simp<;>omega))) ?_));rintro en K3 ⟨I3,Bm,rfl,D,H3,H4,Ec⟩;refine⟨_,rfl,?_⟩;replace M:=M.step0 D;rw[Dl]at Ec;have Bl:=hI.len Ec;refine mv rfl (se rfl rfl (se rfl rfl (asg rfl (asg rfl (nt (ns (mv rfl (st _ (r_eqN (a:=Bm) (b:=0) rfl rfl) (mv rfl (st _ (r_eqBool u4 rfl rfl) (asg rfl (nt (c_ret ?_)))))))))))));refine r_then ?_;exact ret1L (v:=(.bool (((decide (Bm=0)) == there)))) trivial rfl ⟨rfl,tV⟩ ⟨((decide (Bm=0)) == there),rfl,M,(by rw[Bl,X];rfl)⟩
                      · (have f:=dF U);exfalso;omega
                · (have A7:=dF Ar);refine ns (mv rfl (nt ?_));refine c_if rfl (fun Am=>?_) (fun Am=>?_)
                  · (have A8:=Am);refine c_region (asg rfl (nt (c_seq (ns ?_))));have Dm:A9=17:=As.trans (by rw[if_neg (by omega),if_pos rfl]);refine mv rfl (mv rfl (st _ (r_neN (a:=A9) (b:=17) rfl rfl) (mv rfl ?_)));refine part_n (t:=75) rfl (fun G=>?_) (fun G=>?_)
                    · (have Y:=dT G);exfalso;omega
                    · (have Y:=dF G);refine sg G (r_move rfl) (sg G (r_eqlNp (o:=(none:Option Nat)) rfl u38) (sg G (r_move rfl) (sg G (r_neN (a:=A9) (b:=0) rfl rfl) (sg G (r_neqBool u4 rfl rfl) (st _ (r_pick_f rfl G rfl) (nt ?_))))));refine c_if rfl (fun R=>?_) (fun R=>?_)
                      · (have Z:=dF (bnt R));exfalso;exact absurd R (by rw[decide_eq_true Ax];decide)
                      · (have Z:=dT (bnf R));refine c_skip (c_then (c_seq (ns (mv rfl (st _ (r_neN (a:=A9) (b:=0) rfl rfl) (nt ?_))))));refine c_if rfl (fun U=>?_) (fun U=>?_)
                        · (have f:=dT U);refine ns (mv rfl (st_call fn32 rfl (oLen uQ A (([106]:Ly)) (by(simp<;>omega))) ?_));rintro en K4 ⟨I4,Bn,rfl,D,H5,H6,Ed⟩;refine⟨_,rfl,?_⟩;replace M:=M.step0 D;rw[Dl]at Ed;have Bl:=hI.len Ed;refine mv rfl (se rfl rfl (se rfl rfl (asg rfl (asg rfl (nt (ns (mv rfl (st _ (r_eqN (a:=Bn) (b:=0) rfl rfl) (mv rfl (st _ (r_eqBool u4 rfl rfl) (asg rfl (nt (c_ret ?_)))))))))))));refine r_then ?_;exact ret1L (v:=(.bool (((decide (Bn=0)) == there)))) trivial rfl ⟨rfl,tV⟩ ⟨((decide (Bn=0)) == there),rfl,M,(by rw[Bl,X];rfl)⟩
                        · (have f:=dF U);exfalso;omega
                  · (have A8:=Am);exfalso;exact Bool.noConfusion (X.symm.trans Am)
            · refine⟨_,rfl,?_⟩
              replace A:WrO Ew (6) _ _ _ _ _:=A;subst Ax;obtain⟨Lr,D4⟩:∃x,x=({fs:=Hq,wr:={fs:=Dy,name:=(([106]:Ly)),most:=c.most,d:=blankF c after,waiting:=0,archived:=false}}:WrS):=⟨_,rfl⟩;rw[← D4]at A;replace C:∀x∈Ew :: A0,Fsh [] w x:=fun x P=>(List.mem_cons.1 P).elim (fun e=>.inr (by rw[e];omega)) (C x);have Di:=A.wf.nd;rw[D4]at Di;obtain⟨As,Dk,Dw⟩:=hI.create D9 Di ⟨by omega,by omega⟩;exfalso;rw[if_pos rfl]at As;split at As <;> omega
    · (have Ft:=X);refine sk X (sk X (sk X (st _ (r_pick_f rfl X rfl) (nt (c_if_f rfl rfl (c_skip (c_then (ns ?_))))))));have hJ:=WmJ.new;refine mv rfl (st_call fn10 rfl (kNumber_any uQ (free) (by omega) 3000 (by omega) (by omega)) ?_);rintro en K5 ⟨Au,rfl,D,H7,Ee⟩;refine⟨_,rfl,?_⟩;replace F:=F.md0 D;replace A:=A.md0 D;replace uQ:=uQ.md D;replace M:=M.step0 D;have C7:=numF_lt free 3000;rw[Ee]at C7;try simp only[LL,Nat.reduceAdd,Nat.reduceMul]at C7
      have Hs:Au<3000:=(by have e:=numF_lt free 3000;rw[Ee]at e;omega);refine asg rfl (nt (c_seq (ns (mv rfl (st_call fn30 rfl (oMake uQ A (([120]:Ly)) (by(simp<;>omega)) (by omega)) ?_)))));rintro en K6 ⟨E7,rfl,H8,Km,Da,Hh,D,⟨L,S,H⟩,O,J,Fy⟩;refine⟨_,rfl,?_⟩;have V:∀b∈Bi,¬Hh b:=fun b hb hq=>(A.lt b hb).2 (S b hq);replace E:=L _ E F.lt;replace F:=F.md D (fun h9=>V _ h9 E);have r9:∀x∈Da,Fsh [] w x:=fun x P=>(O x P).elim (C x) (Fsh.new M x);replace M:=M.step D C;clear uQ C A;have uQ:=H;have C:=r9;have A:=J;have I:=D;clear H r9 J L S V O D;clear I;replace A:FsO (1) _ _ _ _ _:=A;obtain⟨ib,jb,Dg⟩:=Fy;have Ik:=hJ.mkz Dg;have E3:=A.wf.nd;refine st _ (r_neN (a:=E7) (b:=0) rfl rfl) (mv rfl ?_);refine part_n (t:=44) rfl (fun W=>?_) (fun W=>?_)
      · (have Db:=dT W);exfalso;omega
      · (have Db:=dF W);refine sg W (r_move rfl) (sg W (r_move rfl) (sg W (r_subN (a:=4096) (b:=Au) 9223372036854775808 rfl rfl rfl (by omega)) (st_unguard rfl rfl rfl W (st_mkG (lo:=Fsh [] w) (T:=tB8) (z:=0) (zs:=[(b8 0)]) (m:=4096-Au) rfl u45 elT5 z5 rfl (fun _ _=>⟨rfl,tV⟩) uQ (Fsh.new M) (by omega) ?_))));intro Ip Iv J5 L S H K D Dh;have Az:∀x,vblock Ip=some x→x∉Da:=fun x P I=>by have h3:=(A.lt x I).1;have h4:=Dh x P;omega
        replace E:=L _ E F.lt;replace A:=A.sub L S;replace F:=F.md0 D;replace A:=A.md0 D;replace uQ:=uQ.md D;replace M:=M.step0 D;replace uQ:=H;clear H L S Dh;obtain⟨Hi,fQ,fT,Df⟩:=K.freeze;replace E:=fQ _ E;replace A:=A.subF fQ fT Az;replace uQ:Up Iv Hi:=fun b hb=>fQ b (uQ b hb);clear K fQ fT;have K:=Df;clear Df;refine st_call_g rfl rfl rfl W fn34 rfl (oWrite uQ A (([120]:Ly)) (0) (by omega) K (by(simp<;>omega)) (by omega)) ?_;rintro en K7 ⟨E8,rfl,H9,Kn,D6,Hj,D,⟨L,S,H⟩,O,J,Fz⟩;refine⟨_,rfl,?_⟩;have V:∀b∈Da,¬Hj b:=fun b hb hq=>(A.lt b hb).2 (S b hq);replace E:=L _ E F.lt;replace F:=F.md D (fun h9=>V _ h9 E);replace K:=(K.sub L).md D V;have r9:∀x∈D6,Fsh [] w x:=fun x P=>(O x P).elim (C x) (Fsh.new M x);replace M:=M.step D C;clear uQ C A;have uQ:=H;have C:=r9;have A:=J;have I:=D;clear H r9 J L S V O D;clear I;replace A:FsO (2) _ _ _ _ _:=A;obtain⟨jc,E2⟩:=Fz;obtain⟨_,Il,hI⟩:=hJ.start Dg E2 (by rw[List.length_replicate]) (by omega) E3;refine sg W (r_neN (a:=E8) (b:=0) rfl rfl) (st _ (r_pick_f rfl W rfl) (nt ?_));refine c_if rfl (fun Bk=>?_) (fun Bk=>?_)
        · (have Dc:=dT Bk);exfalso;omega
        · (have Dc:=dF Bk);refine c_skip (c_then (ns (mv rfl (st _ (r_loadPart (Cfg.cells c) rfl (by exact agg29) F rfl) (st_call fn13 rfl (lConf_any uQ c a0_0) ?_)))));rintro en K8 ⟨I5,rfl,D,G8,F0⟩;refine⟨_,rfl,?_⟩;replace F:=F.md0 D;replace A:=A.md0 D;replace K:=K.md0 D;replace uQ:=uQ.md D;replace M:=M.step0 D;have E1:=F0;subst E1;refine mv rfl (st_call fn12 rfl (wCreate_any uQ A (([106]:Ly)) c a0_0 after (by omega) (by exact p0) (by decide) (by omega) (by omega)) ?_);rintro en K9 ⟨Ba,Hr,Ah,Hk,D,⟨L,S,H⟩,O,Jo,⟨Jf,Jh,Jj,Ea⟩,hD⟩;have Hy:=D.size;have H0:=M.size;have V:∀b∈D6,¬Hk b:=fun b hb hq=>(A.lt b hb).2 (S b hq);replace E:=L _ E F.lt;replace F:=F.md D (fun h9=>V _ h9 E);replace K:=(K.sub L).md D V;have r9:∀x∈Ah,Fsh [] w x:=fun x P=>(O x P).elim (C x) (Fsh.new M x);have In:=uQ;have Im:=S;have I:=D.size;replace M:=M.step D C;clear uQ C;have uQ:=H;have C:=r9;clear H r9 L S V O D;clear A;rcases hD with⟨Ax,rfl,A⟩|⟨Ax,g,H1,rfl,A⟩
          · refine⟨_,rfl,?_⟩
            replace A:FsO (5) _ _ _ _ _:=A;obtain⟨As,Dk,Dw⟩:=hI.create Ea A.wf.nd ⟨by omega,by omega⟩;have Dl:=Dk Ax;refine mv rfl (se rfl rfl (se rfl rfl (asg rfl (asg rfl (nt (ns (asg rfl (nt (c_seq (ns (st _ (r_loadPart (Cfg.cells c) rfl (by exact agg29) F rfl) (st_call fn35 rfl (lRight_any uQ c a0_0 (by omega)) ?_))))))))))));rintro en La ⟨I6,rfl,D,Jl⟩;refine⟨_,rfl,?_⟩;replace F:=F.md0 D;replace A:=A.md0 D;replace uQ:=uQ.md D;replace M:=M.step0 D;refine st _ (r_not rfl) (nt ?_);refine c_if rfl (fun Aq=>?_) (fun Aq=>?_)
            · (have A6:=bnt Aq);exfalso;simp_all
            · (have A6:=bnf Aq);refine ns (st _ (r_loadPart (Cfg.cells c) rfl (by exact agg29) F rfl) (mv rfl (st_call fn14 rfl (rnewMaker_any uQ c a0_0 after (by omega) (by omega) (by omega)) ?_)));rintro en Iw ⟨Bu,Cv,Cw,Cx,Fl,E9,J6,rfl,D,⟨L,S,H⟩,Dr,Fg,A2,Co,l,p,r,Cj,Be,Ef⟩;refine⟨_,rfl,?_⟩;have B4:∀x,vblock Cv=some x→x∉Ah:=fun x P I=>by have h3:=(A.lt x I).1;have h4:=(l.2 x P).1.elim (fun h=>by simp at h) id;omega
              have B6:∀x,vblock Cw=some x→x∉Ah:=fun x P I=>by have h3:=(A.lt x I).1;have h4:=(p.2 x P).1.elim (fun h=>by simp at h) id;omega
              have B8:∀x,vblock Cx=some x→x∉Ah:=fun x P I=>by have h3:=(A.lt x I).1;have h4:=(r.2 x P).1.elim (fun h=>by simp at h) id;omega
              have D0:C8≠Bu:=(by have:=F.lt;omega);replace A2:=lQ M.size A2;replace A:=A.sub L S;replace l:=l.lower (Fsh.lift (S':=[]) M);replace p:=p.lower (Fsh.lift (S':=[]) M);replace r:=r.lower (Fsh.lift (S':=[]) M);replace A:=A.md0 D;replace uQ:=uQ.md D;replace M:=M.step0 D;replace uQ:=H;clear H L S;have G2:=newMk_b (c:=c) (t:=after);rw[Ef]at G2;have Es:Pt tMk 113 Iw (fun _=>True) (.pointer (some ⟨Bu,0,none⟩)) E9:=⟨_,_,rfl,trivial,Dr,tMk_mk Co (l.ls (fun _ _=>trivial) fun _ _=>trivial) (p.ls (fun _ _=>trivial) fun _ _=>trivial) (r.ls (fun _ _=>trivial) fun _ _=>trivial) (Cj.sub fun _ _ _=>trivial)⟩;refine st_call fn15 rfl (mimage_any (Q:=fun _=>True) (fun _ _=>trivial) Es 1 (by decide) (by omega) (by omega)) ?_;rintro en Lb ⟨Kt,Ha,J7,rfl,D,Gx,Em,F1⟩;refine⟨_,rfl,?_⟩;have Gk:=Em.lsB uQ;clear Em Gx Es;replace A:=A.md0 D;replace uQ:=uQ.md D;replace M:=M.step0 D;have Gs:(blankF c after).b=Ha:=C9.trans (by rw[Ef];exact F1);have Jq:=congrArg List.length Gs;refine sL rfl u45 Gk.shp (asg rfl (nt (ns (mv rfl (mv rfl (st _ (r_gtN (a:=Ha.length) (b:=Au) rfl rfl) (nt ?_)))))));refine c_if rfl (fun Ar=>?_) (fun Ar=>?_)
              · (have A7:=dT Ar);refine c_region (asg rfl (nt (c_seq (ns ?_))));have Dm:Ba=15:=As.trans (by rw[if_pos (by omega)]);refine mv rfl (mv rfl (st _ (r_neN (a:=Ba) (b:=15) rfl rfl) (mv rfl ?_)));refine part_n (t:=75) rfl (fun G=>?_) (fun G=>?_)
                · (have Y:=dT G);exfalso;omega
                · (have Y:=dF G);refine sg G (r_move rfl) (sg G (r_eqlNp (o:=(none:Option Nat)) rfl u38) (sg G (r_move rfl) (sg G (r_neN (a:=Ba) (b:=0) rfl rfl) (sg G (r_neqBool u4 rfl rfl) (st _ (r_pick_f rfl G rfl) (nt ?_))))));refine c_if rfl (fun R=>?_) (fun R=>?_)
                  · (have Z:=dF (bnt R));exfalso;exact absurd R (by rw[decide_eq_true Ax];decide)
                  · (have Z:=dT (bnf R));refine c_skip (c_then (c_seq (ns (mv rfl (st _ (r_neN (a:=Ba) (b:=0) rfl rfl) (nt ?_))))));refine c_if rfl (fun U=>?_) (fun U=>?_)
                    · (have f:=dT U);refine ns (mv rfl (st_call fn32 rfl (oLen uQ A (([106]:Ly)) (by(simp<;>omega))) ?_));rintro en Lc ⟨I7,Bo,rfl,D,Ia,Ib,Eg⟩;refine⟨_,rfl,?_⟩;replace M:=M.step0 D;rw[Dl]at Eg;have Bl:=hI.len Eg;refine mv rfl (se rfl rfl (se rfl rfl (asg rfl (asg rfl (nt (ns (mv rfl (st _ (r_eqN (a:=Bo) (b:=0) rfl rfl) (mv rfl (st _ (r_eqBool u4 rfl rfl) (asg rfl (nt (c_ret ?_)))))))))))));refine r_then ?_;exact ret1L (v:=(.bool (((decide (Bo=0)) == there)))) trivial rfl ⟨rfl,tV⟩ ⟨((decide (Bo=0)) == there),rfl,M,(by rw[Bl,X];rfl)⟩
                    · (have f:=dF U);exfalso;omega
              · (have A7:=dF Ar);refine ns (mv rfl (nt ?_));refine c_if rfl (fun Am=>?_) (fun Am=>?_)
                · (have A8:=Am);exfalso;exact Bool.noConfusion (X.symm.trans Am)
                · (have A8:=Am);refine c_skip (c_then (c_seq (ns ?_)));have Dm:Ba=0:=As.trans (by rw[if_neg (by omega),if_neg (by simp)]);refine mv rfl (mv rfl (st _ (r_neN (a:=Ba) (b:=0) rfl rfl) (mv rfl ?_)));refine part_n (t:=75) rfl (fun G=>?_) (fun G=>?_)
                  · (have Y:=dT G);exfalso;omega
                  · (have Y:=dF G);refine sg G (r_move rfl) (sg G (r_eqlNp (o:=(none:Option Nat)) rfl u38) (sg G (r_move rfl) (sg G (r_neN (a:=Ba) (b:=0) rfl rfl) (sg G (r_neqBool u4 rfl rfl) (st _ (r_pick_f rfl G rfl) (nt ?_))))));refine c_if rfl (fun R=>?_) (fun R=>?_)
                    · (have Z:=dF (bnt R));exfalso;omega
                    · (have Z:=dT (bnf R));refine c_skip (c_then (c_seq (ns (mv rfl (st _ (r_neN (a:=Ba) (b:=0) rfl rfl) (nt ?_))))));refine c_if rfl (fun U=>?_) (fun U=>?_)
                      · (have f:=dT U);refine ns (mv rfl (st_call fn32 rfl (oLen uQ A (([106]:Ly)) (by omega)) ?_));rintro en Ld ⟨I8,Bp,rfl,D,Ic,Id,Eh⟩;refine⟨_,rfl,?_⟩;replace M:=M.step0 D;rw[Dl]at Eh;have Bl:=hI.len Eh;refine mv rfl (se rfl rfl (se rfl rfl (asg rfl (asg rfl (nt (ns (mv rfl (st _ (r_eqN (a:=Bp) (b:=0) rfl rfl) (mv rfl (st _ (r_eqBool u4 rfl rfl) (asg rfl (nt (c_ret ?_)))))))))))));refine r_then ?_;exact ret1L (v:=(.bool (((decide (Bp=0)) == there)))) trivial rfl ⟨rfl,tV⟩ ⟨((decide (Bp=0)) == there),rfl,M,(by rw[Bl,X];rfl)⟩
                      · (have f:=dF U);exfalso;omega
          · refine⟨_,rfl,?_⟩
            replace A:WrO g (5) _ _ _ _ _:=A;subst Ax;obtain⟨Lt,Bq⟩:∃x,x=({fs:=Hr,wr:={fs:=Dy,name:=(([106]:Ly)),most:=c.most,d:=blankF c after,waiting:=0,archived:=false}}:WrS):=⟨_,rfl⟩;rw[← Bq]at A;replace C:∀x∈g :: Ah,Fsh [] w x:=fun x P=>(List.mem_cons.1 P).elim (fun e=>.inr (by rw[e];omega)) (C x);have Di:=A.wf.nd;rw[Bq]at Di;obtain⟨As,Dk,Dw⟩:=hI.create Ea Di ⟨by omega,by omega⟩;obtain⟨fz,z1,z2,z3,z4⟩:=Dw rfl;refine mv rfl (se rfl rfl (se rfl rfl (asg rfl (asg rfl (nt (ns (asg rfl (nt (c_seq (ns (st _ (r_loadPart (Cfg.cells c) rfl (by exact agg29) F rfl) (st_call fn35 rfl (lRight_any uQ c a0_0 (by omega)) ?_))))))))))));rintro en Le ⟨I9,rfl,D,Jm⟩;refine⟨_,rfl,?_⟩;replace F:=F.md0 D;replace A:=A.md0 D;replace K:=K.md0 D;replace uQ:=uQ.md D;replace M:=M.step0 D;refine st _ (r_not rfl) (nt ?_);refine c_if rfl (fun Aq=>?_) (fun Aq=>?_)
            · (have A6:=bnt Aq);exfalso;simp_all
            · (have A6:=bnf Aq);refine ns (st _ (r_loadPart (Cfg.cells c) rfl (by exact agg29) F rfl) (mv rfl (st_call fn14 rfl (rnewMaker_any uQ c a0_0 after (by omega) (by omega) (by omega)) ?_)));rintro en Ix ⟨Bv,Cy,Cz,C0,Fm,Fa,J8,rfl,D,⟨L,S,H⟩,Ds,Fh,A3,Cp,u,y,Aa,Ck,Bf,Ei⟩;refine⟨_,rfl,?_⟩;have B9:∀x,vblock Cy=some x→x∉(g :: Ah):=fun x P I=>by have h3:=(A.lt x I).1;have h4:=(u.2 x P).1.elim (fun h=>by simp at h) id;omega
              have Ca:∀x,vblock Cz=some x→x∉(g :: Ah):=fun x P I=>by have h3:=(A.lt x I).1;have h4:=(y.2 x P).1.elim (fun h=>by simp at h) id;omega
              have Cb:∀x,vblock C0=some x→x∉(g :: Ah):=fun x P I=>by have h3:=(A.lt x I).1;have h4:=(Aa.2 x P).1.elim (fun h=>by simp at h) id;omega
              have D1:C8≠Bv:=(by have:=F.lt;omega);replace A3:=lQ M.size A3;replace E:=L _ E F.lt;replace A:=A.sub L S;replace K:=K.sub L;replace u:=u.lower (Fsh.lift (S':=[]) M);replace y:=y.lower (Fsh.lift (S':=[]) M);replace Aa:=Aa.lower (Fsh.lift (S':=[]) M);replace F:=F.md0 D;replace A:=A.md0 D;replace K:=K.md0 D;replace uQ:=uQ.md D;replace M:=M.step0 D;replace uQ:=H;clear H L S;have G3:=newMk_b (c:=c) (t:=after);rw[Ei]at G3;have Et:Pt tMk 113 Ix (fun _=>True) (.pointer (some ⟨Bv,0,none⟩)) Fa:=⟨_,_,rfl,trivial,Ds,tMk_mk Cp (u.ls (fun _ _=>trivial) fun _ _=>trivial) (y.ls (fun _ _=>trivial) fun _ _=>trivial) (Aa.ls (fun _ _=>trivial) fun _ _=>trivial) (Ck.sub fun _ _ _=>trivial)⟩;refine st_call fn15 rfl (mimage_any (Q:=fun _=>True) (fun _ _=>trivial) Et 1 (by decide) (by omega) (by omega)) ?_;rintro en Lf ⟨Ku,Hb,J9,rfl,D,Gy,En,F2⟩;refine⟨_,rfl,?_⟩;have Ao:=En.lsB uQ;clear En Gy Et;replace F:=F.md0 D;replace A:=A.md0 D;replace K:=K.md0 D;replace uQ:=uQ.md D;replace M:=M.step0 D;have Gt:(blankF c after).b=Hb:=C9.trans (by rw[Ei];exact F2);have Jr:=congrArg List.length Gt;refine sL rfl u45 Ao.shp (asg rfl (nt (ns (mv rfl (mv rfl (st _ (r_gtN (a:=Hb.length) (b:=Au) rfl rfl) (nt ?_)))))));refine c_if rfl (fun Ar=>?_) (fun Ar=>?_)
              · (have A7:=dT Ar);refine c_region (asg rfl (nt (c_seq (ns ?_))));have Dm:0=15:=As.trans (by rw[if_pos (by omega)]);refine mv rfl (mv rfl (st _ (r_neN (a:=0) (b:=15) rfl rfl) (mv rfl ?_)));refine part_n (t:=75) rfl (fun G=>?_) (fun G=>?_)
                · (have Y:=dT G);exfalso;omega
                · (have Y:=dF G);refine sg G (r_move rfl) (sg G (r_eqlPN rfl u38) (sg G (r_move rfl) (sg G (r_neN (a:=0) (b:=0) rfl rfl) (sg G (r_neBool u4 rfl rfl) (st _ (r_pick_f rfl G rfl) (nt ?_))))));refine c_if rfl (fun R=>?_) (fun R=>?_)
                  · (have Z:=dF (bnt R));exfalso;omega
                  · (have Z:=dT (bnf R));refine c_skip (c_then (c_seq (ns (mv rfl (st _ (r_neN (a:=0) (b:=0) rfl rfl) (nt ?_))))));refine c_if rfl (fun U=>?_) (fun U=>?_)
                    · (have f:=dT U);exfalso;omega
                    · (have f:=dF U);refine c_skip (c_then (ns (mv rfl (st_call fn36 rfl (xSyncDir uQ A) ?_))));rintro en Lg ⟨Ja,rfl,Ie,Ko,D7,Hl,D,⟨L,S,H⟩,O,J,F3⟩;refine⟨_,rfl,?_⟩;have V:∀b∈(g :: Ah),¬Hl b:=fun b hb hq=>(A.lt b hb).2 (S b hq);replace E:=L _ E F.lt;replace F:=F.md D (fun h9=>V _ h9 E);replace K:=(K.sub L).md D V;replace Ao:=(Ao.sub L).md D V;have r9:∀x∈D7,Fsh [] w x:=fun x P=>(O x P).elim (C x) (Fsh.new M x);replace M:=M.step D C;clear uQ C A;have uQ:=H;have C:=r9;have A:=J;have I:=D;clear H r9 J L S V O D;clear I;replace A:WrO g (6) _ _ _ _ _:=A;obtain⟨_,Dj⟩:=F3;refine nt (ns (mv rfl (st_call fn37 rfl (xCrash uQ A (Ls.nil tBool _ _) (0) (by omega) (by omega)) ?_)));rintro en Lh ⟨rfl,Kp,Br,Hm,D,⟨L,S,H⟩,O,J,F4⟩;refine⟨_,rfl,?_⟩;have V:∀b∈D7,¬Hm b:=fun b hb hq=>(A.lt b hb).2 (S b hq);replace E:=L _ E F.lt;replace F:=F.md D (fun h9=>V _ h9 E);replace K:=(K.sub L).md D V;replace Ao:=(Ao.sub L).md D V;have r9:∀x∈Br,Fsh [] w x:=fun x P=>(O x P).elim (C x) (Fsh.new M x);replace M:=M.step D C;clear uQ C A;have uQ:=H;have C:=r9;have A:=J;have I:=D;clear H r9 J L S V O D;clear I;replace A:WrO g (6) _ _ _ _ _:=A;obtain⟨_,Ex⟩:=F4;refine nt (ns (mv rfl (st_call fn22 rfl (xAll uQ A (([106]:Ly)) (by omega) (by omega)) ?_)));rintro en Li ⟨Iq,Jb,Fb,rfl,D,Ak,If,Ga⟩;refine⟨_,rfl,?_⟩;replace F:=F.md0 D;replace A:=A.md0 D
                      replace uQ:=uQ.md D;replace M:=M.step0 D;rw[Bq]at Dj;obtain⟨E4,I0⟩:=hI.safe z1 z2 z3 z4 Dj Ex Ga;refine mv rfl (se rfl rfl (se rfl rfl (asg rfl (asg rfl (nt (ns (mv rfl (mv rfl (sg rfl (r_move rfl) (sg rfl (r_eqN (a:=Fb) (b:=0) rfl rfl) (st _ (r_pick_t rfl rfl rfl) (mv rfl ?_))))))))))));refine part_n (t:=107) rfl (fun N=>?_) (fun N=>?_)
                      · (have Bj:=dT N);refine sg N (r_move rfl) (sg N (r_loadPart (Cfg.cells c) rfl (by exact agg29) F rfl) (sg N (r_move rfl) (st_call_g rfl rfl rfl N fn14 rfl (rnewMaker_any uQ c a0_0 after (by omega) (by omega) (by omega)) ?_)));rintro en Iy ⟨Bw,C1,C2,C3,Fn,Fc,Ka,rfl,D,⟨L,S,H⟩,Du,Fi,A4,Cq,Ab,Ac,Ad,Cl,Bg,Ej⟩;refine⟨_,rfl,?_⟩;have Cc:∀x,vblock C1=some x→x∉Br:=fun x P I=>by have h3:=(A.lt x I).1;have h4:=(Ab.2 x P).1.elim (fun h=>by simp at h) id;omega
                        have Cd:∀x,vblock C2=some x→x∉Br:=fun x P I=>by have h3:=(A.lt x I).1;have h4:=(Ac.2 x P).1.elim (fun h=>by simp at h) id;omega
                        have Ce:∀x,vblock C3=some x→x∉Br:=fun x P I=>by have h3:=(A.lt x I).1;have h4:=(Ad.2 x P).1.elim (fun h=>by simp at h) id;omega
                        have D2:C8≠Bw:=(by have:=F.lt;omega);replace A4:=lQ M.size A4;replace Ak:=Ak.sub L;replace Ab:=Ab.lower (Fsh.lift (S':=[]) M);replace Ac:=Ac.lower (Fsh.lift (S':=[]) M);replace Ad:=Ad.lower (Fsh.lift (S':=[]) M);replace Ak:=Ak.md0 D;replace uQ:=uQ.md D;replace M:=M.step0 D;replace uQ:=H;clear H L S;refine st_unguard rfl rfl rfl N ?_;have G4:=newMk_b (c:=c) (t:=after);rw[Ej]at G4;have Eu:Pt tMk 113 Iy (fun _=>True) (.pointer (some ⟨Bw,0,none⟩)) Fc:=⟨_,_,rfl,trivial,Du,tMk_mk Cq (Ab.ls (fun _ _=>trivial) fun _ _=>trivial) (Ac.ls (fun _ _=>trivial) fun _ _=>trivial) (Ad.ls (fun _ _=>trivial) fun _ _=>trivial) (Cl.sub fun _ _ _=>trivial)⟩;refine st_call fn15 rfl (mimage_any (Q:=fun _=>True) (fun _ _=>trivial) Eu 1 (by decide) (by omega) (by omega)) ?_;rintro en Lj ⟨Kv,Ii,Kb,rfl,D,Gz,Eo,Gb⟩;refine⟨_,rfl,?_⟩;have Gl:=Eo.lsB uQ;clear Eo Gz Eu;replace Ak:=Ak.md0 D;replace uQ:=uQ.md D;replace M:=M.step0 D;have Gu:(blankF c after).b=Ii:=C9.trans (by rw[Ej];exact Gb);have Js:=congrArg List.length Gu;refine st_call_g rfl rfl rfl N fn23 rfl (kSameB_any uQ Ak Gl) ?_;rintro en Lk ⟨Dn,rfl,D,Gc⟩;refine⟨_,rfl,?_⟩;replace M:=M.step0 D;refine st _ (r_pick_t rfl N rfl) (asg rfl (st_nil ?_))
                        refine c_then (c_ret ?_);exact ret1L (v:=(.bool Dn)) trivial rfl ⟨rfl,tV⟩ ⟨Dn,rfl,M,(by rw[← Gc];exact(decide_eq_true (by rw[E4];assumption)).symm)⟩
                      · (have Bj:=dF N);exfalso;omega
              · (have A7:=dF Ar);refine ns (mv rfl (nt ?_));refine c_if rfl (fun Am=>?_) (fun Am=>?_)
                · (have A8:=Am);exfalso;exact Bool.noConfusion (X.symm.trans Am)
                · (have A8:=Am);refine c_skip (c_then (c_seq (ns ?_)));have Dm:0=0:=As.trans (by rw[if_neg (by omega),if_neg (by simp)]);refine mv rfl (mv rfl (st _ (r_neN (a:=0) (b:=0) rfl rfl) (mv rfl ?_)));refine part_n (t:=75) rfl (fun G=>?_) (fun G=>?_)
                  · (have Y:=dT G);exfalso;omega
                  · (have Y:=dF G);refine sg G (r_move rfl) (sg G (r_eqlPN rfl u38) (sg G (r_move rfl) (sg G (r_neN (a:=0) (b:=0) rfl rfl) (sg G (r_neBool u4 rfl rfl) (st _ (r_pick_f rfl G rfl) (nt ?_))))));refine c_if rfl (fun R=>?_) (fun R=>?_)
                    · (have Z:=dF (bnt R));exfalso;exact absurd R (by decide)
                    · (have Z:=dT (bnf R));refine c_skip (c_then (c_seq (ns (mv rfl (st _ (r_neN (a:=0) (b:=0) rfl rfl) (nt ?_))))));refine c_if rfl (fun U=>?_) (fun U=>?_)
                      · (have f:=dT U);exfalso;omega
                      · (have f:=dF U);refine c_skip (c_then (ns (mv rfl (st_call fn36 rfl (xSyncDir uQ A) ?_))));rintro en Ll ⟨Jc,rfl,Ig,Kq,D8,Hn,D,⟨L,S,H⟩,O,J,Gd⟩;refine⟨_,rfl,?_⟩;have V:∀b∈(g :: Ah),¬Hn b:=fun b hb hq=>(A.lt b hb).2 (S b hq);replace E:=L _ E F.lt;replace F:=F.md D (fun h9=>V _ h9 E);replace K:=(K.sub L).md D V;replace Ao:=(Ao.sub L).md D V;have r9:∀x∈D8,Fsh [] w x:=fun x P=>(O x P).elim (C x) (Fsh.new M x);replace M:=M.step D C;clear uQ C A;have uQ:=H;have C:=r9;have A:=J;have I:=D;clear H r9 J L S V O D;clear I;replace A:WrO g (6) _ _ _ _ _:=A;obtain⟨_,Dj⟩:=Gd;refine nt (ns (mv rfl (st_call fn37 rfl (xCrash uQ A (Ls.nil tBool _ _) (0) (by omega) (by omega)) ?_)));rintro en Lm ⟨rfl,Kr,Bs,Ho,D,⟨L,S,H⟩,O,J,Ge⟩;refine⟨_,rfl,?_⟩;have V:∀b∈D8,¬Ho b:=fun b hb hq=>(A.lt b hb).2 (S b hq);replace E:=L _ E F.lt;replace F:=F.md D (fun h9=>V _ h9 E);replace K:=(K.sub L).md D V;replace Ao:=(Ao.sub L).md D V;have r9:∀x∈Bs,Fsh [] w x:=fun x P=>(O x P).elim (C x) (Fsh.new M x);replace M:=M.step D C;clear uQ C A;have uQ:=H;have C:=r9;have A:=J;have I:=D;clear H r9 J L S V O D;clear I;replace A:WrO g (6) _ _ _ _ _:=A;obtain⟨_,Ex⟩:=Ge;refine nt (ns (mv rfl (st_call fn22 rfl (xAll uQ A (([106]:Ly)) (by(simp<;>omega)) (by omega)) ?_)));rintro en Lo ⟨Ir,Jd,Fd,rfl,D,Al,Ih,Gf⟩;refine⟨_,rfl,?_⟩;replace F:=F.md0 D;replace A:=A.md0 D
                        replace uQ:=uQ.md D;replace M:=M.step0 D;rw[Bq]at Dj;obtain⟨E4,I0⟩:=hI.safe z1 z2 z3 z4 Dj Ex Gf;refine mv rfl (se rfl rfl (se rfl rfl (asg rfl (asg rfl (nt (ns (mv rfl (mv rfl (sg rfl (r_move rfl) (sg rfl (r_eqN (a:=Fd) (b:=0) rfl rfl) (st _ (r_pick_t rfl rfl rfl) (mv rfl ?_))))))))))));refine part_n (t:=107) rfl (fun N=>?_) (fun N=>?_)
                        · (have Bj:=dT N);refine sg N (r_move rfl) (sg N (r_loadPart (Cfg.cells c) rfl (by exact agg29) F rfl) (sg N (r_move rfl) (st_call_g rfl rfl rfl N fn14 rfl (rnewMaker_any uQ c a0_0 after (by omega) (by omega) (by omega)) ?_)));rintro en Iz ⟨Bx,C4,C5,C6,Fo,Fe,Kd,rfl,D,⟨L,S,H⟩,Dv,Fj,A5,Cr,Ae,Af,Ag,Cm,Bh,Ek⟩;refine⟨_,rfl,?_⟩;have Cf:∀x,vblock C4=some x→x∉Bs:=fun x P I=>by have h3:=(A.lt x I).1;have h4:=(Ae.2 x P).1.elim (fun h=>by simp at h) id;omega
                          have Cg:∀x,vblock C5=some x→x∉Bs:=fun x P I=>by have h3:=(A.lt x I).1;have h4:=(Af.2 x P).1.elim (fun h=>by simp at h) id;omega
                          have Ch:∀x,vblock C6=some x→x∉Bs:=fun x P I=>by have h3:=(A.lt x I).1;have h4:=(Ag.2 x P).1.elim (fun h=>by simp at h) id;omega
                          have D3:C8≠Bx:=(by have:=F.lt;omega);replace A5:=lQ M.size A5;replace Al:=Al.sub L;replace Ae:=Ae.lower (Fsh.lift (S':=[]) M);replace Af:=Af.lower (Fsh.lift (S':=[]) M);replace Ag:=Ag.lower (Fsh.lift (S':=[]) M);replace Al:=Al.md0 D;replace uQ:=uQ.md D;replace M:=M.step0 D;replace uQ:=H;clear H L S;refine st_unguard rfl rfl rfl N ?_;have G6:=newMk_b (c:=c) (t:=after);rw[Ek]at G6;have Ev:Pt tMk 113 Iz (fun _=>True) (.pointer (some ⟨Bx,0,none⟩)) Fe:=⟨_,_,rfl,trivial,Dv,tMk_mk Cr (Ae.ls (fun _ _=>trivial) fun _ _=>trivial) (Af.ls (fun _ _=>trivial) fun _ _=>trivial) (Ag.ls (fun _ _=>trivial) fun _ _=>trivial) (Cm.sub fun _ _ _=>trivial)⟩;refine st_call fn15 rfl (mimage_any (Q:=fun _=>True) (fun _ _=>trivial) Ev 1 (by decide) (by omega) (by omega)) ?_;rintro en Lp ⟨Kw,Ij,Ke,rfl,D,G0,Ep,Gg⟩;refine⟨_,rfl,?_⟩;have Gm:=Ep.lsB uQ;clear Ep G0 Ev;replace Al:=Al.md0 D;replace uQ:=uQ.md D;replace M:=M.step0 D;have Gv:(blankF c after).b=Ij:=C9.trans (by rw[Ek];exact Gg);have Jt:=congrArg List.length Gv;refine st_call_g rfl rfl rfl N fn23 rfl (kSameB_any uQ Al Gm) ?_;rintro en Lq ⟨Do,rfl,D,Gh⟩;refine⟨_,rfl,?_⟩;replace M:=M.step0 D;refine st _ (r_pick_t rfl N rfl) (asg rfl (st_nil ?_))
                          refine c_then (c_ret ?_);exact ret1L (v:=(.bool Do)) trivial rfl ⟨rfl,tV⟩ ⟨Do,rfl,M,(by rw[← Gh];exact(decide_eq_true (by rw[E4];assumption)).symm)⟩
                        · (have Bj:=dF N);exfalso;omega

structure CfgI where
  file:List UInt8
  machine:List UInt8
  seq:List UInt8
  dataSlots:Int
  fieldSlots:Int
  most:Int
  keyed:Bool
def CfgI.cells (x:CfgI):List Value :=
  (idc x.file) ++ ((idc x.machine) ++ ((idc x.seq) ++ ([(.int .i64 (x.dataSlots:Int))] ++ ([(.int .i64 (x.fieldSlots:Int))] ++ ([(.int .i64 (x.most:Int))] ++ ([(.bool x.keyed)]))))))
def tCfgI:Dt CfgI:=tPull (fun x=>(x.file,x.machine,x.seq,x.dataSlots,x.fieldSlots,x.most,x.keyed)) (tProd tId (tProd tId (tProd tId (tProd tInt (tProd tInt (tProd tInt tBool))))))
def CfgI.ok (x:CfgI):Prop:=x.file.length=16∧x.machine.length=16∧x.seq.length=16∧(-9223372036854775808≤x.dataSlots∧x.dataSlots<9223372036854775808)∧(-9223372036854775808≤x.fieldSlots∧x.fieldSlots<9223372036854775808)∧(-9223372036854775808≤x.most∧x.most<9223372036854775808)
theorem tCfgI_un {w:World} {Q:Nat→Prop} {cs:List Value} {x:CfgI} (h:tCfgI.rep w Q cs x):∃(_:True),cs=x.cells∧CfgI.ok x:=by
  obtain⟨_,_,rfl,⟨rfl,A⟩,⟨_,_,rfl,⟨rfl,B⟩,⟨_,_,rfl,⟨rfl,C⟩,⟨_,_,rfl,⟨rfl,D⟩,⟨_,_,rfl,⟨rfl,E⟩,⟨_,_,rfl,⟨rfl,F⟩,⟨rfl,_⟩⟩⟩⟩⟩⟩⟩:=h;exact⟨trivial,rfl,⟨A,B,C,D,E,F⟩⟩
theorem CfgI.one {x:CfgI}:(x.cells).all (fun u=>u.oneCell')=true:=(ones_app (ones_idc _) (ones_app (ones_idc _) (ones_app (ones_idc _) (ones_app rfl (ones_app rfl (ones_app rfl rfl))))))
theorem lConfI_any {w:World} {Q:Nat→Prop} (uQ:Up w Q) (c:CfgI) (a0_0:CfgI.ok c) :
    Calls Tryz.prog 13 #[.agg (CfgI.cells c).toArray] w fun en w'=>∃r0:CfgI,en = .returned (.agg (CfgI.cells r0).toArray)∧Md [] w w'∧CfgI.ok r0∧c=r0:=by
  have M:=Md.refl [] w;have X:=uQ;refine enter (n:=18) Tryz.func13 rfl rfl rfl ?_;intro B;refine ns (st_box (cs:=(CfgI.cells c)) rfl rfl ?_);intro L g F T E A;have O:=uQ _ F;replace F:=lQ M.size F;replace uQ:=uQ.md E;replace M:=M.step0 E;refine st_alloc z41 ?_;intro H h D N E C;have K:L≠H:=(by have:=A.lt;omega);obtain⟨Z,V,W,P,J⟩:=exQ uQ D N E;replace D:=lQ M.size D;replace A:=A.md0 E;replace uQ:=uQ.md E;replace M:=M.step0 E;replace uQ:=J;clear J V W;have G:Fsh [] w H:=.inr D;replace C:Blk _ _ (CfgI.cells (({file:=idZ,machine:=idZ,seq:=idZ,dataSlots:=0,fieldSlots:=0,most:=0,keyed:=false}:CfgI))) _:=C;have R:CfgI.ok (({file:=idZ,machine:=idZ,seq:=idZ,dataSlots:=0,fieldSlots:=0,most:=0,keyed:=false}:CfgI)):=(by exact⟨rfl,rfl,rfl,(by decide),(by decide),(by decide)⟩);refine nt (ns (sf rfl off29_0 (st _ (r_loadPart (idc c.file) rfl (by exact agg27) A rfl) ?_)));have a:c.file.length=16:=a0_0.1;refine sf rfl off29_1 (st _ (r_loadPart (idc c.machine) rfl (by exact agg27) A rfl) ?_);have b:c.machine.length=16:=a0_0.2.1;refine sf rfl off29_2 (st _ (r_loadPart (idc c.seq) rfl (by exact agg27) A rfl) ?_);have d:c.seq.length=16:=a0_0.2.2.1;refine sf rfl off29_3 (sl (u:=(.int .i64 (c.dataSlots:Int))) rfl one3 A rfl ?_);have e:(-9223372036854775808≤c.dataSlots∧c.dataSlots<9223372036854775808):=a0_0.2.2.2.1;refine sf rfl off29_4 (sl (u:=(.int .i64 (c.fieldSlots:Int))) rfl one3 A rfl ?_)
  have f:(-9223372036854775808≤c.fieldSlots∧c.fieldSlots<9223372036854775808):=a0_0.2.2.2.2.1;refine sf rfl off29_5 (sl (u:=(.int .i64 (c.most:Int))) rfl one3 A rfl ?_);have U:(-9223372036854775808≤c.most∧c.most<9223372036854775808):=a0_0.2.2.2.2.2;refine sf rfl off29_6 (sl (u:=(.bool c.keyed)) rfl one4 A rfl (st _ (r_buildG (us:=[(idc c.file),(idc c.machine),(idc c.seq),[(.int .i64 (c.dataSlots:Int))],[(.int .i64 (c.fieldSlots:Int))],[(.int .i64 (c.most:Int))],[(.bool c.keyed)]]) (cs:=(CfgI.cells (({file:=c.file,machine:=c.machine,seq:=c.seq,dataSlots:=c.dataSlots,fieldSlots:=c.fieldSlots,most:=c.most,keyed:=c.keyed}:CfgI)))) [(0,0,16),(1,16,16),(2,32,16),(3,48,1),(4,49,1),(5,50,1),(6,51,1)] z41 pl41 rfl rfl ⟨rfl,rfl,rfl,rfl,rfl,rfl,rfl,tV⟩ ⟨rfl,rfl,rfl,rfl,rfl,rfl,rfl,tV⟩ rfl (by simp[splices,splice,idc,CfgI.cells])) (st_storeAgg (us:=(CfgI.cells (({file:=c.file,machine:=c.machine,seq:=c.seq,dataSlots:=c.dataSlots,fieldSlots:=c.fieldSlots,most:=c.most,keyed:=c.keyed}:CfgI)))) rfl rfl (by exact agg41) (by exact fun u S=>one_cells (CfgI.one) u S) C (ly rfl) ?_)));have I:=C;clear C;intro Y E C;replace M:=M.step E (all_cons G all_nil);clear I;replace C:Blk _ _ (CfgI.cells (({file:=c.file,machine:=c.machine,seq:=c.seq,dataSlots:=c.dataSlots,fieldSlots:=c.fieldSlots,most:=c.most,keyed:=c.keyed}:CfgI))) _:=C;refine nt (c_ret ?_);exact ret1L (v:=(.agg (CfgI.cells (({file:=c.file,machine:=c.machine,seq:=c.seq,dataSlots:=c.dataSlots,fieldSlots:=c.fieldSlots,most:=c.most,keyed:=c.keyed}:CfgI))).toArray)) trivial rfl ⟨⟨_,rfl,load_agg (cs:=(CfgI.cells (({file:=c.file,machine:=c.machine,seq:=c.seq,dataSlots:=c.dataSlots,fieldSlots:=c.fieldSlots,most:=c.most,keyed:=c.keyed}:CfgI)))) (by exact agg41) C⟩,tV⟩ ⟨(({file:=c.file,machine:=c.machine,seq:=c.seq,dataSlots:=c.dataSlots,fieldSlots:=c.fieldSlots,most:=c.most,keyed:=c.keyed}:CfgI)),rfl,M,(by assumption),rfl⟩
theorem lRightI_any {w:World} {Q:Nat→Prop} (uQ:Up w Q) (c:CfgI) (a0_0:CfgI.ok c) (p0:¬(1≤c.dataSlots∧c.dataSlots≤64∧1≤c.fieldSlots∧c.fieldSlots≤64∧4096≤c.most∧c.most≤32768)) :
    Calls Tryz.prog 35 #[.agg (CfgI.cells c).toArray] w fun en w'=>∃r0:Bool,en = .returned (.bool r0)∧Md [] w w'∧false=r0:=by
  have M:=Md.refl [] w;have T:=uQ;refine enter (n:=31) Tryz.func35 rfl rfl rfl ?_;intro B;refine ns (st_box (cs:=(CfgI.cells c)) rfl rfl ?_);intro P X H S R F;have O:=uQ _ H;replace H:=lQ M.size H;replace M:=M.step0 R;refine asg rfl (nt (ns (sf rfl off29_3 (sl (u:=(.int .i64 (c.dataSlots:Int))) rfl one3 F rfl ?_))));have U:(-9223372036854775808≤c.dataSlots∧c.dataSlots<9223372036854775808):=a0_0.2.2.2.1;refine st _ (r_ge (a:=c.dataSlots) (b:=1) rfl rfl) (mv rfl ?_);refine part_n (t:=6) rfl (fun G=>?_) (fun G=>?_)
  · (have N:=dT G);refine sg G (r_field rfl off29_3) (sg G ((r_loadBlk rfl one3 F rfl).to (b:=(.int .i64 (c.dataSlots:Int))) rfl) (sg G (r_le (a:=c.dataSlots) (b:=64) rfl rfl) (st _ (r_pick_t rfl G rfl) (mv rfl ?_))));refine part_n (t:=11) rfl (fun A=>?_) (fun A=>?_)
    · (have I:=dT A);refine sg A (r_field rfl off29_4) (sg A ((r_loadBlk rfl one3 F rfl).to (b:=(.int .i64 (c.fieldSlots:Int))) rfl) ?_);have V:(-9223372036854775808≤c.fieldSlots∧c.fieldSlots<9223372036854775808):=a0_0.2.2.2.2.1;refine sg A (r_ge (a:=c.fieldSlots) (b:=1) rfl rfl) (st _ (r_pick_t rfl A rfl) (mv rfl ?_));refine part_n (t:=16) rfl (fun C=>?_) (fun C=>?_)
      · (have J:=dT C);refine sg C (r_field rfl off29_4) (sg C ((r_loadBlk rfl one3 F rfl).to (b:=(.int .i64 (c.fieldSlots:Int))) rfl) (sg C (r_le (a:=c.fieldSlots) (b:=64) rfl rfl) (st _ (r_pick_t rfl C rfl) (mv rfl ?_))));refine part_n (t:=21) rfl (fun D=>?_) (fun D=>?_)
        · (have K:=dT D);refine sg D (r_field rfl off29_5) (sg D ((r_loadBlk rfl one3 F rfl).to (b:=(.int .i64 (c.most:Int))) rfl) ?_);have W:(-9223372036854775808≤c.most∧c.most<9223372036854775808):=a0_0.2.2.2.2.2;refine sg D (r_ge (a:=c.most) (b:=4096) rfl rfl) (st _ (r_pick_t rfl D rfl) (mv rfl ?_));refine part_n (t:=26) rfl (fun E=>?_) (fun E=>?_)
          · (have L:=dT E);refine sg E (r_field rfl off29_5) (sg E ((r_loadBlk rfl one3 F rfl).to (b:=(.int .i64 (c.most:Int))) rfl) (sg E (r_le (a:=c.most) (b:=32768) rfl rfl) (st _ (r_pick_t rfl E rfl) (asg rfl (nt (c_ret ?_))))));exact ret1L (v:=(.bool ((decide (c.most≤32768))))) trivial rfl ⟨rfl,tV⟩ ⟨(decide (c.most≤32768)),rfl,M,(by exact(decide_eq_false (by omega)).symm)⟩
          · (have L:=dF E);refine sk E (sk E (sk E (st _ (r_pick_f rfl E rfl) (asg rfl (nt (c_ret ?_))))));exact ret1L (v:=(.bool false)) trivial rfl ⟨rfl,tV⟩ ⟨false,rfl,M,(by rfl)⟩
        · (have K:=dF D);refine sk D (sk D (sk D (st _ (r_pick_f rfl D rfl) (mv rfl (sk rfl (sk rfl (sk rfl (st _ (r_pick_f rfl rfl rfl) (asg rfl (nt (c_ret ?_)))))))))));exact ret1L (v:=(.bool false)) trivial rfl ⟨rfl,tV⟩ ⟨false,rfl,M,(by rfl)⟩
      · (have J:=dF C);refine sk C (sk C (sk C (st _ (r_pick_f rfl C rfl) (mv rfl (sk rfl (sk rfl (sk rfl (st _ (r_pick_f rfl rfl rfl) (mv rfl (sk rfl (sk rfl (sk rfl (st _ (r_pick_f rfl rfl rfl) ?_)))))))))))));refine asg rfl (nt (c_ret ?_));exact ret1L (v:=(.bool false)) trivial rfl ⟨rfl,tV⟩ ⟨false,rfl,M,(by rfl)⟩
    · (have I:=dF A);refine sk A (sk A (sk A (st _ (r_pick_f rfl A rfl) (mv rfl (sk rfl (sk rfl (sk rfl (st _ (r_pick_f rfl rfl rfl) (mv rfl (sk rfl (sk rfl (sk rfl (st _ (r_pick_f rfl rfl rfl) ?_)))))))))))));refine mv rfl (sk rfl (sk rfl (sk rfl (st _ (r_pick_f rfl rfl rfl) (asg rfl (nt (c_ret ?_)))))));exact ret1L (v:=(.bool false)) trivial rfl ⟨rfl,tV⟩ ⟨false,rfl,M,(by rfl)⟩
  · (have N:=dF G);refine sk G (sk G (sk G (st _ (r_pick_f rfl G rfl) (mv rfl (sk rfl (sk rfl (sk rfl (st _ (r_pick_f rfl rfl rfl) (mv rfl (sk rfl (sk rfl (sk rfl (st _ (r_pick_f rfl rfl rfl) ?_)))))))))))));refine mv rfl (sk rfl (sk rfl (sk rfl (st _ (r_pick_f rfl rfl rfl) (mv rfl (sk rfl (sk rfl (sk rfl (st _ (r_pick_f rfl rfl rfl) (asg rfl (nt (c_ret ?_))))))))))));exact ret1L (v:=(.bool false)) trivial rfl ⟨rfl,tV⟩ ⟨false,rfl,M,(by rfl)⟩
theorem wCreateI_any {w:World} {Q:Nat→Prop} (uQ:Up w Q) {f:Value} (s:Ly) (c:CfgI) (a2_0:c.ok) (after:Nat) (a3:after<18446744073709551616) (p0:¬(1≤c.dataSlots∧c.dataSlots≤64∧1≤c.fieldSlots∧c.fieldSlots≤64∧4096≤c.most∧c.most≤32768)) :
    Calls Tryz.prog 12 #[f,str s,.agg c.cells.toArray,.int .u64 after] w fun en w'=>en = .returned (.tuple #[.pointer none,(.int .i64 ((1:Nat):Int))])∧Md [] w w':=by
  have M:=Md.refl [] w;have V:=uQ;refine enter (n:=80) Tryz.func12 rfl rfl rfl ?_;intro B;refine ns (st_box (cs:=(CfgI.cells c)) rfl rfl ?_);intro T Z G U F E;have P:=uQ _ G;replace G:=lQ M.size G;replace uQ:=uQ.md F;replace M:=M.step0 F;refine asg rfl (asg rfl (nt (c_seq (ns (sf rfl off41_3 (sl (u:=(.int .i64 (c.dataSlots:Int))) rfl one3 E rfl ?_))))));have W:(-9223372036854775808≤c.dataSlots∧c.dataSlots<9223372036854775808):=a2_0.2.2.2.1;refine st_call fn49 rfl (wRight_any uQ (c.dataSlots) (by omega)) ?_;rintro en d ⟨R,rfl,F,N⟩;refine⟨_,rfl,?_⟩;replace E:=E.md0 F;replace uQ:=uQ.md F;replace M:=M.step0 F;subst N;refine st _ (r_not rfl) (mv rfl ?_);refine part_n (t:=16) rfl (fun A=>?_) (fun A=>?_)
  · (have I:=dF (bnt A));refine sk A (sk A (sk A (sk A (st _ (r_pick_t rfl A rfl) (mv rfl (sk rfl (sk rfl (sk rfl (st _ (r_pick_t rfl rfl rfl) (mv rfl (sk rfl (sk rfl (sk rfl ?_)))))))))))));refine st _ (r_pick_t rfl rfl rfl) (nt (c_if_t rfl rfl (ns (asg rfl (asg rfl (nt (c_ret (r_then ?_))))))));exact retL (vs:=[.pointer none,(.int .i64 ((1:Nat):Int))]) trivial rfl ⟨rfl,rfl,tV⟩ rfl ⟨rfl,M⟩
  · (have I:=dT (bnf A));refine sg A (r_field rfl off41_4) (sg A ((r_loadBlk rfl one3 E rfl).to (b:=(.int .i64 (c.fieldSlots:Int))) rfl) ?_);have X:(-9223372036854775808≤c.fieldSlots∧c.fieldSlots<9223372036854775808):=a2_0.2.2.2.2.1;refine st_call_g rfl rfl rfl A fn49 rfl (wRight_any uQ (c.fieldSlots) (by omega)) ?_;rintro en e ⟨S,rfl,F,O⟩;refine⟨_,rfl,?_⟩;replace E:=E.md0 F;replace M:=M.step0 F;subst O;refine sg A (r_not rfl) (st _ (r_pick_f rfl A rfl) (mv rfl ?_));refine part_n (t:=22) rfl (fun C=>?_) (fun C=>?_)
    · (have J:=dF (bnt C));refine sk C (sk C (sk C (st _ (r_pick_t rfl C rfl) (mv rfl (sk rfl (sk rfl (sk rfl (st _ (r_pick_t rfl rfl rfl) (nt (c_if_t rfl rfl (ns (asg rfl (asg rfl ?_)))))))))))));refine nt (c_ret (r_then ?_));exact retL (vs:=[.pointer none,(.int .i64 ((1:Nat):Int))]) trivial rfl ⟨rfl,rfl,tV⟩ rfl ⟨rfl,M⟩
    · (have J:=dT (bnf C));refine sg C (r_field rfl off41_5) (sg C ((r_loadBlk rfl one3 E rfl).to (b:=(.int .i64 (c.most:Int))) rfl) ?_);have Y:(-9223372036854775808≤c.most∧c.most<9223372036854775808):=a2_0.2.2.2.2.2;refine sg C (r_lt (a:=c.most) (b:=4096) rfl rfl) (st _ (r_pick_f rfl C rfl) (mv rfl ?_));refine part_n (t:=27) rfl (fun D=>?_) (fun D=>?_)
      · (have K:=dT D);refine sk D (sk D (sk D (st _ (r_pick_t rfl D rfl) (nt (c_if_t rfl rfl (ns (asg rfl (asg rfl (nt (c_ret (r_then ?_)))))))))));exact retL (vs:=[.pointer none,(.int .i64 ((1:Nat):Int))]) trivial rfl ⟨rfl,rfl,tV⟩ rfl ⟨rfl,M⟩
      · (have K:=dF D);refine sg D (r_field rfl off41_5) (sg D ((r_loadBlk rfl one3 E rfl).to (b:=(.int .i64 (c.most:Int))) rfl) (sg D (r_gt (a:=c.most) (b:=32768) rfl rfl) (st _ (r_pick_f rfl D rfl) (nt ?_))));refine c_if rfl (fun H=>?_) (fun H=>?_)
        · (have L:=dT H);refine ns (asg rfl (asg rfl (nt (c_ret (r_then ?_)))));exact retL (vs:=[.pointer none,(.int .i64 ((1:Nat):Int))]) trivial rfl ⟨rfl,rfl,tV⟩ rfl ⟨rfl,M⟩
        · (have L:=dF H);exfalso;omega
set_option maxHeartbeats 16000000 in
set_option maxRecDepth 100000 in
theorem writerMakesI_any {w:World} {Q:Nat→Prop} (uQ:Up w Q) (c:CfgI) (a0_0:CfgI.ok c) (after:Nat) (a1:after<18446744073709551616) (free:Int) (a2:(-9223372036854775808≤free∧free<9223372036854775808)) (there:Bool) (p0:¬(1≤c.dataSlots∧c.dataSlots≤64∧1≤c.fieldSlots∧c.fieldSlots≤64∧4096≤c.most∧c.most≤32768)) :
    Calls Tryz.prog 5 #[.agg (CfgI.cells c).toArray,(.int .u64 after),(.int .i64 (free:Int)),(.bool there)] w fun en w'=>∃r0:Bool,en = .returned (.bool r0)∧Md [] w w'∧true=r0:=by
  have M:=Md.refl [] w;have C5:=uQ;refine enter (n:=115) Tryz.func5 rfl rfl rfl ?_;intro B;refine ns (st_box (cs:=(CfgI.cells c)) rfl rfl ?_);intro Cu w1 Aq C0 D E;have C:=uQ _ Aq;replace Aq:=lQ M.size Aq;replace uQ:=uQ.md D;replace M:=M.step0 D;refine asg rfl (nt (ns (st_call fn8 rfl (fFirst_any uQ) ?_)));rintro en w2 ⟨Cp,rfl,D,Bt⟩;refine⟨_,rfl,?_⟩;replace E:=E.md0 D;replace uQ:=uQ.md D;replace M:=M.step0 D;have Af:=Bt;subst Af;refine asg rfl (nt (c_seq (ns (mv rfl (st _ (r_not rfl) (nt (c_if_f rfl rfl (c_skip (c_then (ns (st_call fn11 rfl (oNew uQ (4096) (by omega) (by omega) (by omega)) ?_)))))))))));rintro en w3 ⟨Cl,Y,Q4,rfl,D,⟨O,P,G⟩,Bi,A⟩;refine⟨_,rfl,?_⟩;have F:∀x∈Y,Fsh [] w x:=fun x f=>Fsh.new M x (Bi x f);replace C:=O _ C E.lt;replace E:=E.md0 D;replace uQ:=uQ.md D;replace M:=M.step0 D;replace uQ:=G;clear G O P;refine mv rfl (se rfl rfl (se rfl rfl (asg rfl (asg rfl (nt (c_seq (ns (mv rfl (st _ (r_neN (a:=0) (b:=0) rfl rfl) (mv rfl ?_))))))))));refine part_n (t:=29) rfl (fun k=>?_) (fun k=>?_)
  · (have A4:=dT k);exfalso;omega
  · (have A4:=dF k);refine sg k (r_move rfl) (sg k (r_eqlPN rfl u35) (st _ (r_pick_f rfl k rfl) (nt (c_if_f rfl rfl (c_skip (c_then (c_seq (ns (mv rfl (mv rfl ?_))))))))));refine part_n (t:=34) rfl (fun L=>?_) (fun L=>?_)
    · (have A5:=L);refine sg L (r_move rfl) (st_call_g rfl rfl rfl L fn30 rfl (oMake uQ A (([106]:Ly)) (by(simp<;>omega)) (by omega)) ?_);rintro en w5 ⟨Bl,rfl,Cm,m5,A3,Q6,D,⟨O,P,G⟩,K,H,Bu⟩;refine⟨_,rfl,?_⟩;have X:∀b∈Y,¬Q6 b:=fun b l hq=>(A.lt b l).2 (P b hq);replace C:=O _ C E.lt;replace E:=E.md D (fun h9=>X _ h9 C);have j:∀x∈A3,Fsh [] w x:=fun x f=>(K x f).elim (F x) (Fsh.new M x);replace M:=M.step D F;clear uQ F A;have uQ:=G;have F:=j;have A:=H;have N:=D;clear G j H O P X K D;clear N;replace A:FsO (1) _ _ _ _ _:=A;obtain⟨ia,ja,Bx⟩:=Bu;obtain⟨C4,hJ⟩:=WmJ.made Bx;refine sg L (r_neN (a:=Bl) (b:=0) rfl rfl) (st _ (r_pick_t rfl L rfl) (nt ?_));refine c_if rfl (fun Ar=>?_) (fun Ar=>?_)
      · (have A6:=dT Ar);exfalso;omega
      · (have A6:=dF Ar);refine c_skip (c_then (ns (mv rfl (st_call fn10 rfl (kNumber_any uQ (free) (by omega) 3000 (by omega) (by omega)) ?_))));rintro en w7 ⟨Ai,rfl,D,Cn,Bg⟩;refine⟨_,rfl,?_⟩;replace E:=E.md0 D;replace A:=A.md0 D;replace uQ:=uQ.md D;replace M:=M.step0 D;have Am:=numF_lt free 3000;rw[Bg]at Am;try simp only[LL,Nat.reduceAdd,Nat.reduceMul]at Am
        have Bs:Ai<3000:=(by have e:=numF_lt free 3000;rw[Bg]at e;omega);refine asg rfl (nt (c_seq (ns (mv rfl (st_call fn30 rfl (oMake uQ A (([120]:Ly)) (by(simp<;>omega)) (by omega)) ?_)))));rintro en w8 ⟨Bm,rfl,Co,m8,Ap,Q9,D,⟨O,P,G⟩,K,H,Bv⟩;refine⟨_,rfl,?_⟩;have X:∀b∈A3,¬Q9 b:=fun b l hq=>(A.lt b l).2 (P b hq);replace C:=O _ C E.lt;replace E:=E.md D (fun h9=>X _ h9 C);have j:∀x∈Ap,Fsh [] w x:=fun x f=>(K x f).elim (F x) (Fsh.new M x);replace M:=M.step D F;clear uQ F A;have uQ:=G;have F:=j;have A:=H;have N:=D;clear G j H O P X K D;clear N;replace A:FsO (2) _ _ _ _ _:=A;obtain⟨ib,jb,Ag⟩:=Bv;have B9:=hJ.mkz Ag;have Av:=A.wf.nd;refine st _ (r_neN (a:=Bm) (b:=0) rfl rfl) (mv rfl ?_);refine part_n (t:=44) rfl (fun I=>?_) (fun I=>?_)
        · (have u:=dT I);exfalso;omega
        · (have u:=dF I);refine sg I (r_move rfl) (sg I (r_move rfl) (sg I (r_subN (a:=4096) (b:=Ai) 9223372036854775808 rfl rfl rfl (by omega)) (st_unguard rfl rfl rfl I (st_mkG (lo:=Fsh [] w) (T:=tB8) (z:=0) (zs:=[(b8 0)]) (m:=4096-Ai) rfl u45 elT5 z5 rfl (fun _ _=>⟨rfl,tV⟩) uQ (Fsh.new M) (by omega) ?_))));intro Cb Cd Cq O P G R D Ah;have V:∀x,vblock Cb=some x→x∉Ap:=fun x f N=>by have h3:=(A.lt x N).1;have h4:=Ah x f;omega
          replace C:=O _ C E.lt;replace A:=A.sub O P;replace E:=E.md0 D;replace A:=A.md0 D;replace uQ:=uQ.md D;replace M:=M.step0 D;replace uQ:=G;clear G O P Ah;obtain⟨Bn,fQ,fT,Ad⟩:=R.freeze;replace C:=fQ _ C;replace A:=A.subF fQ fT V;replace uQ:Up Cd Bn:=fun b l=>fQ b (uQ b l);clear R fQ fT;have R:=Ad;clear Ad;refine st_call_g rfl rfl rfl I fn34 rfl (oWrite uQ A (([120]:Ly)) (0) (by omega) R (by(simp<;>omega)) (by omega)) ?_;rintro en C6 ⟨Ax,rfl,Bz,C1,A1,Bo,D,⟨O,P,G⟩,K,H,A7⟩;refine⟨_,rfl,?_⟩;have X:∀b∈Ap,¬Bo b:=fun b l hq=>(A.lt b l).2 (P b hq);replace C:=O _ C E.lt;replace E:=E.md D (fun h9=>X _ h9 C);replace R:=(R.sub O).md D X;have j:∀x∈A1,Fsh [] w x:=fun x f=>(K x f).elim (F x) (Fsh.new M x);replace M:=M.step D F;clear uQ F A;have uQ:=G;have F:=j;have A:=H;have N:=D;clear G j H O P X K D;clear N;replace A:FsO (3) _ _ _ _ _:=A;obtain⟨jc,Au⟩:=A7;obtain⟨_,Ca,hI⟩:=hJ.start Ag Au (by rw[List.length_replicate]) (by omega) Av;refine sg I (r_neN (a:=Ax) (b:=0) rfl rfl) (st _ (r_pick_f rfl I rfl) (nt ?_));refine c_if rfl (fun Z=>?_) (fun Z=>?_)
          · (have y:=dT Z);exfalso;omega
          · (have y:=dF Z);refine c_skip (c_then (ns (mv rfl (st _ (r_loadPart (CfgI.cells c) rfl (by exact agg29) E rfl) (st_call fn13 rfl (lConfI_any uQ c a0_0) ?_)))));rintro en C7 ⟨Cf,rfl,D,Bj,A8⟩;refine⟨_,rfl,?_⟩;replace E:=E.md0 D;replace A:=A.md0 D;replace uQ:=uQ.md D;replace M:=M.step0 D;have As:=A8;subst As;refine mv rfl (st_call fn12 rfl (wCreateI_any uQ (([106]:Ly)) c a0_0 after (by omega) p0) ?_);rintro en C8 ⟨rfl,D⟩;refine⟨_,rfl,?_⟩;replace E:=E.md0 D;replace A:=A.md0 D;replace uQ:=uQ.md D;replace M:=M.step0 D;refine mv rfl (se rfl rfl (se rfl rfl (asg rfl (asg rfl (nt (ns (asg rfl (nt (c_seq (ns (st _ (r_loadPart (CfgI.cells c) rfl (by exact agg29) E rfl) (st_call fn35 rfl (lRightI_any uQ c a0_0 (by omega)) ?_))))))))))));rintro en C9 ⟨Cg,rfl,D,A9⟩;refine⟨_,rfl,?_⟩;replace A:=A.md0 D;replace uQ:=uQ.md D;replace M:=M.step0 D;have Af:=A9;subst Af;refine st _ (r_not rfl) (nt (c_if_t rfl rfl (c_region (asg rfl (nt (c_seq (ns (mv rfl (mv rfl (st _ (r_neN (a:=1) (b:=1) rfl rfl) (mv rfl ?_)))))))))));refine part_n (t:=75) rfl (fun J=>?_) (fun J=>?_)
            · (have Aa:=dT J);exfalso;omega
            · (have Aa:=dF J);refine sg J (r_move rfl) (sg J (r_eqlNp (o:=(none:Option Nat)) rfl u38) (sg J (r_move rfl) (sg J (r_neN (a:=1) (b:=0) rfl rfl) (sg J (r_neqBool u4 rfl rfl) (st _ (r_pick_f rfl J rfl) (nt ?_))))));refine c_if rfl (fun U=>?_) (fun U=>?_)
              · (have Ab:=dF (bnt U));exfalso;exact absurd U (by decide)
              · (have Ab:=dT (bnf U));refine c_skip (c_then (c_seq (ns (mv rfl (st _ (r_neN (a:=1) (b:=0) rfl rfl) (nt ?_))))));refine c_if rfl (fun d=>?_) (fun d=>?_)
                · (have Ac:=dT d);refine ns (mv rfl (st_call fn32 rfl (oLen uQ A (([106]:Ly)) (by(simp<;>omega))) ?_));rintro en Da ⟨Ch,g,rfl,D,B0,B1,Ba⟩;refine⟨_,rfl,?_⟩;replace M:=M.step0 D;have Aw:=hI.len Ba;refine mv rfl (se rfl rfl (se rfl rfl (asg rfl (asg rfl (nt (ns (mv rfl (st _ (r_eqN (a:=g) (b:=0) rfl rfl) (mv rfl (st _ (r_eqBool u4 rfl rfl) (asg rfl (nt (c_ret ?_)))))))))))));refine r_then ?_;exact ret1L (v:=(.bool (((decide (g=0)) == there)))) trivial rfl ⟨rfl,tV⟩ ⟨((decide (g=0)) == there),rfl,M,(by rw[Aw,L];rfl)⟩
                · (have Ac:=dF d);exfalso;omega
    · (have A5:=L);refine sk L (sk L (sk L (st _ (r_pick_f rfl L rfl) (nt (c_if_f rfl rfl (c_skip (c_then (ns ?_))))))));have hJ:=WmJ.new;refine mv rfl (st_call fn10 rfl (kNumber_any uQ (free) (by omega) 3000 (by omega) (by omega)) ?_);rintro en Db ⟨h,rfl,D,B2,Ao⟩;refine⟨_,rfl,?_⟩;replace E:=E.md0 D;replace A:=A.md0 D;replace uQ:=uQ.md D;replace M:=M.step0 D;have p:=numF_lt free 3000;rw[Ao]at p;try simp only[LL,Nat.reduceAdd,Nat.reduceMul]at p
      have Bs:h<3000:=(by have e:=numF_lt free 3000;rw[Ao]at e;omega);refine asg rfl (nt (c_seq (ns (mv rfl (st_call fn30 rfl (oMake uQ A (([120]:Ly)) (by(simp<;>omega)) (by omega)) ?_)))));rintro en Dc ⟨Ay,rfl,B3,C2,r,Bp,D,⟨O,P,G⟩,K,H,Bb⟩;refine⟨_,rfl,?_⟩;have X:∀b∈Y,¬Bp b:=fun b l hq=>(A.lt b l).2 (P b hq);replace C:=O _ C E.lt;replace E:=E.md D (fun h9=>X _ h9 C);have j:∀x∈r,Fsh [] w x:=fun x f=>(K x f).elim (F x) (Fsh.new M x);replace M:=M.step D F;clear uQ F A;have uQ:=G;have F:=j;have A:=H;have N:=D;clear G j H O P X K D;clear N;replace A:FsO (1) _ _ _ _ _:=A;obtain⟨ib,jb,Ag⟩:=Bb;have B9:=hJ.mkz Ag;have Av:=A.wf.nd;refine st _ (r_neN (a:=Ay) (b:=0) rfl rfl) (mv rfl ?_);refine part_n (t:=44) rfl (fun I=>?_) (fun I=>?_)
      · (have u:=dT I);exfalso;omega
      · (have u:=dF I);refine sg I (r_move rfl) (sg I (r_move rfl) (sg I (r_subN (a:=4096) (b:=h) 9223372036854775808 rfl rfl rfl (by omega)) (st_unguard rfl rfl rfl I (st_mkG (lo:=Fsh [] w) (T:=tB8) (z:=0) (zs:=[(b8 0)]) (m:=4096-h) rfl u45 elT5 z5 rfl (fun _ _=>⟨rfl,tV⟩) uQ (Fsh.new M) (by omega) ?_))));intro Cc Ce Cr O P G S D Ah;have W:∀x,vblock Cc=some x→x∉r:=fun x f N=>by have h3:=(A.lt x N).1;have h4:=Ah x f;omega
        replace C:=O _ C E.lt;replace A:=A.sub O P;replace E:=E.md0 D;replace A:=A.md0 D;replace uQ:=uQ.md D;replace M:=M.step0 D;replace uQ:=G;clear G O P Ah;obtain⟨Bq,fQ,fT,Ae⟩:=S.freeze;replace C:=fQ _ C;replace A:=A.subF fQ fT W;replace uQ:Up Ce Bq:=fun b l=>fQ b (uQ b l);clear S fQ fT;have S:=Ae;clear Ae;refine st_call_g rfl rfl rfl I fn34 rfl (oWrite uQ A (([120]:Ly)) (0) (by omega) S (by(simp<;>omega)) (by omega)) ?_;rintro en Dd ⟨Az,rfl,B4,C3,A2,Br,D,⟨O,P,G⟩,K,H,Bc⟩;refine⟨_,rfl,?_⟩;have X:∀b∈r,¬Br b:=fun b l hq=>(A.lt b l).2 (P b hq);replace C:=O _ C E.lt;replace E:=E.md D (fun h9=>X _ h9 C);replace S:=(S.sub O).md D X;have j:∀x∈A2,Fsh [] w x:=fun x f=>(K x f).elim (F x) (Fsh.new M x);replace M:=M.step D F;clear uQ F A;have uQ:=G;have F:=j;have A:=H;have N:=D;clear G j H O P X K D;clear N;replace A:FsO (2) _ _ _ _ _:=A;obtain⟨jc,Au⟩:=Bc;obtain⟨_,Ca,hI⟩:=hJ.start Ag Au (by rw[List.length_replicate]) (by omega) Av;refine sg I (r_neN (a:=Az) (b:=0) rfl rfl) (st _ (r_pick_f rfl I rfl) (nt ?_));refine c_if rfl (fun Z=>?_) (fun Z=>?_)
        · (have y:=dT Z);exfalso;omega
        · (have y:=dF Z);refine c_skip (c_then (ns (mv rfl (st _ (r_loadPart (CfgI.cells c) rfl (by exact agg29) E rfl) (st_call fn13 rfl (lConfI_any uQ c a0_0) ?_)))));rintro en De ⟨Ci,rfl,D,Bk,Bd⟩;refine⟨_,rfl,?_⟩;replace E:=E.md0 D;replace A:=A.md0 D;replace uQ:=uQ.md D;replace M:=M.step0 D;have As:=Bd;subst As;refine mv rfl (st_call fn12 rfl (wCreateI_any uQ (([106]:Ly)) c a0_0 after (by omega) p0) ?_);rintro en w32 ⟨rfl,D⟩;refine⟨_,rfl,?_⟩;replace E:=E.md0 D;replace A:=A.md0 D;replace uQ:=uQ.md D;replace M:=M.step0 D;refine mv rfl (se rfl rfl (se rfl rfl (asg rfl (asg rfl (nt (ns (asg rfl (nt (c_seq (ns (st _ (r_loadPart (CfgI.cells c) rfl (by exact agg29) E rfl) (st_call fn35 rfl (lRightI_any uQ c a0_0 (by omega)) ?_))))))))))));rintro en Df ⟨Cj,rfl,D,Be⟩;refine⟨_,rfl,?_⟩;replace A:=A.md0 D;replace uQ:=uQ.md D;replace M:=M.step0 D;have Af:=Be;subst Af;refine st _ (r_not rfl) (nt (c_if_t rfl rfl (c_region (asg rfl (nt (c_seq (ns (mv rfl (mv rfl (st _ (r_neN (a:=1) (b:=1) rfl rfl) (mv rfl ?_)))))))))));refine part_n (t:=75) rfl (fun J=>?_) (fun J=>?_)
          · (have Aa:=dT J);exfalso;omega
          · (have Aa:=dF J);refine sg J (r_move rfl) (sg J (r_eqlNp (o:=(none:Option Nat)) rfl u38) (sg J (r_move rfl) (sg J (r_neN (a:=1) (b:=0) rfl rfl) (sg J (r_neqBool u4 rfl rfl) (st _ (r_pick_f rfl J rfl) (nt ?_))))));refine c_if rfl (fun U=>?_) (fun U=>?_)
            · (have Ab:=dF (bnt U));exfalso;exact absurd U (by decide)
            · (have Ab:=dT (bnf U));refine c_skip (c_then (c_seq (ns (mv rfl (st _ (r_neN (a:=1) (b:=0) rfl rfl) (nt ?_))))));refine c_if rfl (fun d=>?_) (fun d=>?_)
              · (have Ac:=dT d);refine ns (mv rfl (st_call fn32 rfl (oLen uQ A (([106]:Ly)) (by(simp<;>omega))) ?_));rintro en Dg ⟨Ck,i,rfl,D,B6,B8,Bf⟩;refine⟨_,rfl,?_⟩;replace M:=M.step0 D;have Aw:=hI.len Bf;refine mv rfl (se rfl rfl (se rfl rfl (asg rfl (asg rfl (nt (ns (mv rfl (st _ (r_eqN (a:=i) (b:=0) rfl rfl) (mv rfl (st _ (r_eqBool u4 rfl rfl) (asg rfl (nt (c_ret ?_)))))))))))));refine r_then ?_;exact ret1L (v:=(.bool (((decide (i=0)) == there)))) trivial rfl ⟨rfl,tV⟩ ⟨((decide (i=0)) == there),rfl,M,(by rw[Aw,L];rfl)⟩
              · (have Ac:=dF d);exfalso;omega
end Go.Proofs.YtfadcpfgenjbeaaGreat
namespace Go.Wk
open Go Go.RowKit Go.ChangeShapes Go.WideShapes Go.ChangeAt Go.Deep

section
variable {H:Type} {enc:TypeId × Value→H} {P:Program} {w:World} {t f:TypeId} {v:Value} {d:DataW H} {ps:List MemPlace}
end
end Go.Wk
namespace Go.Wk
open Go Go.RowKit Go.ChangeShapes Go.WideShapes Go.ChangeAt Go.Deep
section
variable {H:Type} {enc:TypeId × Value→H} {P:Program} {w:World} {t e f:TypeId} {v:Value} {d:DataW H} {ps:List MemPlace} {spare:Nat→Bool} {base:Nat} {held:Bool}
end
theorem int_bd {z:Int} (h:(Lit.int .i64 z).wf=true):-9223372036854775808≤z∧z<9223372036854775808:=by
  simp[Lit.wf,IntKind.min,IntKind.max,IntKind.signed,IntKind.bits]at h
  omega
end Go.Wk
namespace Go.Wk
open Go Go.RowKit Go.ChangeShapes Go.WideShapes Go.ChangeAt Go.Deep
section
variable {H:Type} {enc:TypeId × Value→H} {P:Program} {w:World} {spare:Nat→Bool} {base:Nat} {held:Bool} {t e:TypeId} {α β:Type}
/-- What is read at a type is a datum of a kind. -/
def Rd0 (enc:TypeId × Value→H) (P:Program) (w:World) (base:Nat) (spare:Nat→Bool) (held:Bool) (t:TypeId) (T:Dt α):Prop :=
  ∀(fuel:Nat) (cs:List Value) (x:DataW H × List MemPlace),DataW.trod enc P w base spare held fuel t cs=some x→∃y,T.rep w (fun _=>True) cs y
theorem rd0_bool (ht:P.underlying t=some .bool):Rd0 enc P w base spare held t tBool:=by
  intro A B x h
  obtain⟨b,rfl,_⟩:=DataW.trod_bool ht h
  exact⟨b,rfl,tV⟩
theorem rd0_int (ht:P.underlying t=some (.int .i64)):Rd0 enc P w base spare held t tInt:=by
  intro B D x h
  obtain⟨n,rfl,_,C⟩:=DataW.trod_int ht h
  refine⟨n,rfl,?_⟩
  have:=C
  simp[Lit.wf,IntKind.min,IntKind.max,IntKind.signed,IntKind.bits]at this
  omega
/-- A struct's parts: their types and places. -/
def partsT (P:Program) (t:TypeId) (l:List (TypeId × Nat)):Bool :=
  match P.underlying t with
  | some (.struct fs)=>(fs.toList.map fun x=>(x.type,x.offset)) == l
  | _=>false
/-- Parts from a place on, read: of so many cells each. -/
def Parts (enc:TypeId × Value→H) (P:Program) (w:World) (base:Nat) (spare:Nat→Bool) (held:Bool):List (TypeId × Nat)→Nat→Dt α→Prop
  | l,o,T=>∀(n:Nat) (cs:List Value),(∀p∈l,∃x,DataW.trod enc P w base spare held n p.1 ((cs.drop p.2).take (P.cellsOf p.1))=some x)→∃y,T.rep w (fun _=>True) ((cs.drop o).take T.n) y
theorem parts_one {T:Dt α} {o:Nat} (hn:P.cellsOf t=T.n) (hT:Rd0 enc P w base spare held t T):Parts enc P w base spare held [(t,o)] o T:=by
  intro n B h
  obtain⟨x,A⟩:=h (t,o) (by simp)
  rw[← hn]
  exact hT n _ x A
theorem parts_cons {A:Dt α} {B:Dt β} {o o2:Nat} {l:List (TypeId × Nat)} (hn:P.cellsOf t=A.n) (ho:o2=o+A.n) (hA:Rd0 enc P w base spare held t A) (hB:Parts enc P w base spare held l o2 B):Parts enc P w base spare held ((t,o) :: l) o (tProd A B):=by
  intro n C h
  subst ho
  obtain⟨x,G⟩:=h (t,o) (by simp)
  obtain⟨H,D⟩:=hA n _ x G
  obtain⟨I,E⟩:=hB n C fun p F=>h p (List.mem_cons_of_mem _ F)
  rw[hn]at D
  refine⟨(H,I),_,_,?_,D,E⟩
  show(C.drop o).take (A.n+B.n)=_
  rw[List.take_add,List.drop_drop]
theorem rd0_struct {T:Dt α} {l:List (TypeId × Nat)} (f:β→α) (g:α→β) (hfg:∀a,f (g a)=a) (ht:partsT P t l=true) (hc:P.cellsOf t=T.n) (hp:Parts enc P w base spare held l 0 T):Rd0 enc P w base spare held t (tPull f T):=by
  intro F D x h
  unfold partsT at ht
  split at ht
  · rename_i fs hu
    have L:=eq_of_beq ht
    obtain⟨N,n,_,_,H,I,J⟩:=DataW.trod_struct hu h
    obtain⟨y,M⟩:=hp n D fun p A=>by
      rw[← L]at A
      obtain⟨E,B,rfl⟩:=List.mem_map.1 A
      obtain⟨i,K⟩:=List.mem_iff_getElem?.1 B
      have hi':fs[i]? = some E:=by simpa using K
      have G:=J i E hi'
      have C:i<N.length:=by rw[I];exact(Array.getElem?_eq_some_iff.1 hi').1
      rw[List.getElem?_eq_getElem C]at G
      exact⟨_,G⟩
    refine⟨g y,?_⟩
    show T.rep w _ D (f (g y))
    rw[hfg]
    rwa [List.drop_zero,List.take_of_length_le (by rw[H,hc];exact Nat.le_refl _)]at M
  · cases ht
theorem u64_ofD {z:Int} (h:(Lit.int .u64 z).wf=true):Value.int .u64 z = .int .u64 z.toNat∧z.toNat<18446744073709551616:=by
  simp[Lit.wf,IntKind.min,IntKind.max,IntKind.signed,IntKind.bits]at h
  exact⟨by rw[Int.toNat_of_nonneg (by omega)],by omega⟩
end
end Go.Wk
namespace Go.Wk
open Go Go.RowKit Go.ChangeShapes Go.WideShapes Go.ChangeAt Go.Deep
section
variable {H:Type} {enc:TypeId × Value→H} {P:Program} {w:World} {spare:Nat→Bool} {base:Nat} {held:Bool} {t e:TypeId} {α β:Type}
theorem rd0_arr16 (ht:P.underlying t=some (.array 16 e)) (he:P.underlying e=some (.int .u8)) (hc:P.cellsOf e=1) (hC:P.cellsOf t=16):Rd0 enc P w base spare held t tId:=by
  intro K B x Q
  obtain⟨O,f,rfl,_,C,S,G⟩:=DataW.trod_array ht Q
  have U:B.length=16:=by rw[C,hC]
  have J:∀i,i<16→∃x:UInt8,B[i]? = some (b8 x):=by
    intro i L
    have E:=G i L
    have D:∃y,O[i]? = some y:=⟨O[i]'(by omega),List.getElem?_eq_getElem (by omega)⟩
    obtain⟨y,T⟩:=D
    rw[T,hc]at E
    have F:B[i]? = some (B[i]'(by omega)):=List.getElem?_eq_getElem (by omega)
    have H:(B.drop (i*1)).take 1=[B[i]'(by omega)]:=by
      rw[Nat.mul_one,List.drop_eq_getElem_cons (by omega:i<B.length)]
      rfl
    rw[H]at E
    obtain⟨z,N,_,I⟩:=DataW.trod_int he E
    simp at N
    exact⟨_,by rw[F,N,b8_of_wf I]⟩
  obtain⟨l,M,R⟩:=exists_list _ 16 J
  refine⟨l,?_,M⟩
  rw[idc_map M]
  apply List.ext_getElem?
  intro i
  by_cases L:i<16
  · have D:l[i]? = some (l[i]'(by omega)):=List.getElem?_eq_getElem (by omega)
    rw[R i _ D,List.getElem?_map,D];rfl
  · rw[List.getElem?_eq_none (by omega),List.getElem?_eq_none (by rw[List.length_map];omega)]
/-- A struct that comes in. -/
theorem open_agg {T:Dt α} {b0:Nat} {v:Value} {d:DataW H} {ps:List MemPlace} {l:List (TypeId × Nat)} (ht:partsT P t l=true) (hT:Rd0 enc P w base spare held t T) (hv:Value.okWide P w .any b0 t v) (h:DataW.Trod enc P w base spare held t v d ps) :
    ∃(r:α) (cs:List Value),v = .agg cs.toArray∧T.rep w (fun _=>True) cs r:=by
  unfold partsT at ht
  split at ht
  · rename_i fs hu
    obtain⟨cs,rfl,C⟩:=okWide_struct hu hv
    obtain⟨A,B⟩:=h
    obtain⟨y,D⟩:=hT A _ _ B
    exact⟨y,cs.toList,by simp,by simpa [Value.cells]using D⟩
  · cases ht
end
end Go.Wk
namespace Go.Proofs.YtfadcpfgenjbeaaGreat
open Go Go.Wk Go.RowKit
set_option linter.unusedVariables false
set_option linter.unusedSimpArgs false
attribute [local irreducible] wpList wpQuiet wpStill wpMix Code.wp Calls bodyPost

set_option maxRecDepth 100000 in
theorem rdCfgI {H:Type} {enc:TypeId × Value→H} {w:World} {spare:Nat→Bool} {base:Nat} {held:Bool}:Rd0 enc Tryz.prog w base spare held 29 tCfgI :=
  rd0_struct (l:=[(27,0),(27,16),(27,32),(3,48),(3,49),(3,50),(4,51)]) (fun x:CfgI=>(x.file,x.machine,x.seq,x.dataSlots,x.fieldSlots,x.most,x.keyed)) (fun p=>⟨p.1,p.2.1,p.2.2.1,p.2.2.2.1,p.2.2.2.2.1,p.2.2.2.2.2.1,p.2.2.2.2.2.2⟩) (fun _=>rfl) (by kernel_rfl) (by kernel_rfl) (parts_cons (show Tryz.prog.cellsOf 27=16 from by kernel_rfl) rfl (rd0_arr16 (show Tryz.prog.underlying 27=some _ from by kernel_rfl) (show Tryz.prog.underlying 5=some _ from by kernel_rfl) (show Tryz.prog.cellsOf 5=1 from by kernel_rfl) (show Tryz.prog.cellsOf 27=16 from by kernel_rfl)) (parts_cons (show Tryz.prog.cellsOf 27=16 from by kernel_rfl) rfl (rd0_arr16 (show Tryz.prog.underlying 27=some _ from by kernel_rfl) (show Tryz.prog.underlying 5=some _ from by kernel_rfl) (show Tryz.prog.cellsOf 5=1 from by kernel_rfl) (show Tryz.prog.cellsOf 27=16 from by kernel_rfl)) (parts_cons (show Tryz.prog.cellsOf 27=16 from by kernel_rfl) rfl (rd0_arr16 (show Tryz.prog.underlying 27=some _ from by kernel_rfl) (show Tryz.prog.underlying 5=some _ from by kernel_rfl) (show Tryz.prog.cellsOf 5=1 from by kernel_rfl) (show Tryz.prog.cellsOf 27=16 from by kernel_rfl)) (parts_cons (show Tryz.prog.cellsOf 3=1 from by kernel_rfl) rfl (rd0_int (show Tryz.prog.underlying 3=some _ from by kernel_rfl)) (parts_cons (show Tryz.prog.cellsOf 3=1 from by kernel_rfl) rfl (rd0_int (show Tryz.prog.underlying 3=some _ from by kernel_rfl)) (parts_cons (show Tryz.prog.cellsOf 3=1 from by kernel_rfl) rfl (rd0_int (show Tryz.prog.underlying 3=some _ from by kernel_rfl)) (parts_one (show Tryz.prog.cellsOf 4=1 from by kernel_rfl) (rd0_bool (show Tryz.prog.underlying 4=some _ from by kernel_rfl)))))))))
theorem ptCfgI:partsT Tryz.prog 29 [(27,0),(27,16),(27,32),(3,48),(3,49),(3,50),(4,51)]=true:=by kernel_rfl
theorem open_CfgG {P:Program} {t:TypeId} {l:List (TypeId × Nat)} {H:Type} {enc:TypeId × Value→H} {w:World} {spare:Nat→Bool} {base:Nat} {held:Bool} {b0:Nat} {v:Value} {d:DataW H} {ps:List MemPlace} (pt:partsT P t l=true) (rd:Rd0 enc P w base spare held t tCfgI) (hv:Value.okWide P w .any b0 t v) (h:DataW.Trod enc P w base spare held t v d ps) :
    ∃r:CfgI,v = .agg r.cells.toArray∧CfgI.ok r:=by
  obtain⟨r,B,rfl,A⟩:=open_agg pt rd hv h;obtain⟨_,rfl,ok⟩:=tCfgI_un A;exact⟨r,rfl,ok⟩
theorem cfg_nat {c:CfgI} (h:0≤c.dataSlots∧0≤c.fieldSlots∧0≤c.most):c.cells=Cfg.cells {file:=c.file,machine:=c.machine,seq:=c.seq,dataSlots:=c.dataSlots.toNat,fieldSlots:=c.fieldSlots.toNat,most:=c.most.toNat,keyed:=c.keyed}:=by
  unfold CfgI.cells Cfg.cells;rw[Int.toNat_of_nonneg h.1,Int.toNat_of_nonneg h.2.1,Int.toNat_of_nonneg h.2.2]
theorem writerMakes_any {w:World} {Q:Nat→Prop} (uQ:Up w Q) (c:CfgI) (ok:c.ok) (after:Nat) (a1:after<18446744073709551616) (free:Int) (a2:-9223372036854775808≤free∧free<9223372036854775808) (there:Bool) :
    Calls Tryz.prog 5 #[.agg c.cells.toArray,(.int .u64 after),(.int .i64 (free:Int)),.bool there] w fun en w'=>∃r0:Bool,en = .returned (.bool r0)∧Md [] w w'∧true=r0:=by
  by_cases h:1≤c.dataSlots∧c.dataSlots≤64∧1≤c.fieldSlots∧c.fieldSlots≤64∧4096≤c.most∧c.most≤32768
  · rw[cfg_nat ⟨by omega,by omega,by omega⟩]
    exact writerMakesR_any uQ _ ⟨ok.1,ok.2.1,ok.2.2.1,by simp only;omega,by simp only;omega,by simp only;omega⟩ after a1 free a2 there (by simp only;omega)
  · exact writerMakesI_any uQ c ok after a1 free a2 there h
end Go.Proofs.YtfadcpfgenjbeaaGreat
