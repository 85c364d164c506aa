/- Part 5 of what the walk of a law stands on: VRfe, WName, WRSplit, GuardR, VGet, VHead, VHead2, VHead3, VHead4, VView, VView2, VRSplit. No statement is proved here. -/
import Derived.Test.YtkkfbaijodhobaaGreatBH4
import Derived.Test.YtkkfbaijodhobaaGreatRows
namespace Go.Proofs.YtkkfbaijodhobaaGreat
open Go Go.Wk Go.RowKit
set_option linter.unusedVariables false
set_option linter.unusedSimpArgs false
attribute [local irreducible] wpList wpQuiet wpStill wpMix Code.wp Calls bodyPost
variable {w:World} {Q:Nat→Prop}
theorem agg79:isAggN Zp 79 4=true:=by kernel_rfl
theorem fn60:isFn Zp 60=true:=by kernel_rfl
theorem fn63:isFn Zp 63=true:=by kernel_rfl
theorem pl79:bplace Zp 79=some [(0,1),(1,1),(2,1),(3,1)]:=by kernel_rfl
theorem z79:zcells Zp 79=some [.int .u64 0,.int .u64 0,.int .u64 0,.slice none 0 0]:=by kernel_rfl
abbrev zz8:Fld:={hash:=0,nextHash:=0,dat:=0,payload:=[]}
theorem rReadFld_any (uQ:Up w Q) {v0:Value} {b:Ly} (h0:Ls tB8 w Q v0 b) (p:Nat) (a1:p<18446744073709551616) (p0:b.length≤140737488355328) :
  Calls Zp 60 #[v0,(.int .u64 p)] w fun en w'=>∃u0_0:Value,∃r0:Fld,∃r1:Nat,en = .returned (.tuple #[.agg (Fld.cells r0 u0_0).toArray,(.int .i64 r1)])∧Md [] w w'∧Fld.ok r0∧Ls tB8 w' Q u0_0 r0.payload∧r1<9223372036854775808∧readFldF b p=(r0,r1):=by
 have L0:=h0.len63;have M:=Md.refl [] w;have Ac:=uQ;have o:∀b,Q b→Q b:=fun _ h=>h;refine enter (n:=31) Tryz.func60 q q q fun B=>ns (st_alloc z79 ?_);intro P w1 W j E A;obtain⟨r,z,sT,S,g⟩:=exQ uQ W j E;replace o:=tT o sT;replace W:=ly M.size W;replace h0:=(h0.sub z).o E;replace M:=M.k E;replace uQ:=g;clear g z sT;have N:Fsh [] w P:=.inr W;replace A:Blk _ _ (Fld.cells (zz8) SN) _:=A;have v:Fld.ok (zz8):=(by exact⟨(by decide),(by decide),(by decide)⟩);refine an q (ns (m2 q q (st_call fn85 q (rBody_any uQ h0 p (by omega) 2 (by omega) (by omega)) ?_)));rintro en w4 ⟨J,C,U,rfl,E,D,x,Z⟩;refine rv ?_;obtain⟨A,uQ,M⟩:=k3 E A uQ M;refine mv q (se q q (se q q (asg q (an q (c_seq (nm q (st _ (r_neN (a:=U) (b:=0) q q) (nt ?_))))))));refine c_if q (fun X=>?_) (fun X=>?_)
 ·(have O:=dT X);refine ns (st _ (r_buildG (us:=[]) (cs:=(Fld.cells (zz8) SN)) [] z79 pl79 q q trivial trivial q q) (mv q (st_storeAgg (us:=(Fld.cells (zz8) SN)) q q (by exact agg79) (by exact fun u f=>one_cells (Fld.one q) u f) A (lB q) ?_)));have K:=A;clear A;intro w5 E A;replace M:=M.step E (hI N);clear K;replace A:Blk _ _ (Fld.cells (zz8) SN) _:=A;refine ar q (r_then ?_);exact retL (vs:=[(.agg (Fld.cells (zz8) SN).toArray),(.int .i64 U)]) trivial q ⟨⟨_,q,load_agg (cs:=(Fld.cells (zz8) SN)) (by exact agg79) A⟩,q,tV⟩ q ⟨_,(zz8),U,q,M,(by assumption),(Ls.nil _ _ _),(by assumption),(rFld_no Z O)⟩
 (have O:=dF X);refine c_skip (c_then (c_seq (nm q (sL q u22 D.shp (st _ (r_leN (a:=C.length) (b:=24) q q) (nt ?_))))));refine c_if q (fun Y=>?_) (fun Y=>?_)
 ·(have R:=dT Y);refine ns (st _ (r_buildG (us:=[]) (cs:=(Fld.cells (zz8) SN)) [] z79 pl79 q q trivial trivial q q) (st_storeAgg (us:=(Fld.cells (zz8) SN)) q q (by exact agg79) (by exact fun u f=>one_cells (Fld.one q) u f) A (lB q) ?_));have K:=A;clear A;intro w6 E A;replace M:=M.step E (hI N);clear K;replace A:Blk _ _ (Fld.cells (zz8) SN) _:=A;refine ar q (r_then ?_);exact retL (vs:=[(.agg (Fld.cells (zz8) SN).toArray),(.int .i64 ((5:Nat):Int))]) trivial q ⟨⟨_,q,load_agg (cs:=(Fld.cells (zz8) SN)) (by exact agg79) A⟩,q,tV⟩ q ⟨_,(zz8),5,q,M,(by assumption),(Ls.nil _ _ _),(by omega),(rFld_5 Z O R)⟩
 (have R:=dF Y);refine c_skip (c_then (c_seq ?_));have Ab:∀b∈[P],¬r b:=(hI S);refine c_mixT [(0,true),(2,true),(4,true),(6,true),(7,true),(1,false),(3,false),(5,false)] [8,9,10] (fun w'=>Md [P] w4 w') mixed (by kernel_rfl) ?_;intro w7 L;refine⟨L.mono (by simp),?_⟩;have V:=L.mono (T:=[P]) (by simp);refine mo q (mo q (mo q (mo q (mz (fun w' hc=>r_sliceZ 1 24 C.length u22 el5 q D.shp (by omega) (by omega) ⟨_,q⟩ q) ?_))));have H:=D.tail (lo:=24) (by omega);obtain⟨A,D,H,uQ,M⟩:=k5 L A D H uQ M;refine m_e ?_ rfl;refine st_call fn86 q (ru_any uQ D 0 (by omega) (by omega)) ?_;rintro en w9 ⟨I,rfl,E,y,i⟩;refine rv ?_;obtain⟨A,D,H,uQ,M,V⟩:=k6 E A D H uQ M V;refine st_nil ⟨q,V,?_⟩;refine m_e ?_ rfl;refine st_call fn86 q (ru_any uQ D 8 (by omega) (by omega)) ?_;rintro en Ad ⟨F,rfl,E,k,d⟩;refine rv ?_;obtain⟨A,D,H,uQ,M,V⟩:=k6 E A D H uQ M V;refine st_nil ⟨q,V,?_⟩;refine m_e ?_ rfl;refine st_call fn86 q (ru_any uQ D 16 (by omega) (by omega)) ?_;rintro en Ae ⟨G,rfl,E,l,e⟩;refine rv ?_;obtain⟨A,H,M,V⟩:=k4 E A H M V;refine st_nil ⟨q,V,?_⟩;refine m_nil ?_;clear V;refine st _ (r_buildG (us:=[[(.int .u64 I)],[(.int .u64 F)],[(.int .u64 G)],[(subz 1 J 24 C.length)]]) (cs:=(Fld.cells (({hash:=I,nextHash:=F,dat:=G,payload:=C.drop 24}:Fld)) (subz 1 J 24 C.length))) [(0,0,1),(1,1,1),(2,2,1),(3,3,1)] z79 pl79 q q ⟨q,q,q,(cells_one H.oneCell),tV⟩ ⟨q,q,q,q,tV⟩ q q) ?_
 refine st_storeAgg (us:=(Fld.cells (({hash:=I,nextHash:=F,dat:=G,payload:=C.drop 24}:Fld)) (subz 1 J 24 C.length))) q q (by exact agg79) (by exact fun u f=>one_cells (Fld.one H.oneCell) u f) A (lB q) ?_;have K:=A;clear A;intro Af E A;have t:∀b∈[P],¬r b:=(hI S);replace H:=H.md E t;replace M:=M.step E (hI N);clear K t;replace A:Blk _ _ (Fld.cells (({hash:=I,nextHash:=F,dat:=G,payload:=C.drop 24}:Fld)) (subz 1 J 24 C.length)) _:=A;refine ar q ?_;exact retL (vs:=[(.agg (Fld.cells (({hash:=I,nextHash:=F,dat:=G,payload:=C.drop 24}:Fld)) (subz 1 J 24 C.length)).toArray),(.int .i64 ((0:Nat):Int))]) trivial q ⟨⟨_,q,load_agg (cs:=(Fld.cells (({hash:=I,nextHash:=F,dat:=G,payload:=C.drop 24}:Fld)) (subz 1 J 24 C.length))) (by exact agg79) A⟩,q,tV⟩ q ⟨_,(({hash:=I,nextHash:=F,dat:=G,payload:=C.drop 24}:Fld)),0,q,M,(by exact⟨(by omega),(by omega),(by omega)⟩),(H.sub (fun b c _=>o b c)),(by omega),(by rw[rFld_ok Z O R,i,d,e])⟩
theorem rvField_any (uQ:Up w Q) {v0:Value} {v:RView} (h0:Pt tRView 67 w Q v0 v) (p:Nat) (a1:p<18446744073709551616) (p0:v.b.length≤140737488355328) :
  Calls Zp 25 #[v0,(.int .u64 p)] w fun en w'=>∃u0_0:Value,∃r0:Fld,∃r1:Nat,en = .returned (.tuple #[.agg (Fld.cells r0 u0_0).toArray,(.int .i64 r1)])∧Md [] w w'∧Fld.ok r0∧Ls tB8 w' Q u0_0 r0.payload∧r1<9223372036854775808∧fldAt (v.h.n.getD 0 0) v.b p=(r0,r1):=by
 obtain⟨X,r,rfl,J,h0,rh0⟩:=h0;obtain⟨y,rfl,t,F⟩:=tRView_un rh0;have M:=Md.refl [] w;have x:=uQ;have f:∀b,Q b→Q b:=fun _ h=>h;refine enter (n:=22) Tryz.func25 q q q fun B=>ns (st_alloc z79 ?_);intro R w4 N d E A;have Y:X≠R:=(by have:=h0.lt;omega);obtain⟨o,e,l,T,W⟩:=exQ uQ N d E;replace J:=e _ J h0.lt;replace f:=tT f l;replace N:=ly M.size N;replace F:=(F.sub e).o E;obtain⟨h0,M⟩:=k2 E h0 M;replace uQ:=W;clear W e l;have K:Fsh [] w R:=.inr N;replace A:Blk _ _ (Fld.cells (zz8) SN) _:=A;have i:Fld.ok (zz8):=(by exact⟨(by decide),(by decide),(by decide)⟩);refine an q (c_seq (ns (m2 q q (st_call fn54 q (rvIn_any uQ ⟨_,_,q,J,h0,tRView_mk t F⟩ p (by omega)) ?_))));rintro en w7 ⟨L,rfl,E,j,V⟩;refine rv ?_;obtain⟨F,h0,A,uQ,M⟩:=k5 E F h0 A uQ M;refine an q (nm q (st _ (r_neN (a:=L) (b:=0) q q) (nt ?_)));refine c_if q (fun S=>?_) (fun S=>?_)
 ·(have H:=dT S);refine ns (st _ (r_buildG (us:=[]) (cs:=(Fld.cells (zz8) SN)) [] z79 pl79 q q trivial trivial q q) (mv q (st_storeAgg (us:=(Fld.cells (zz8) SN)) q q (by exact agg79) (by exact fun u c=>one_cells (Fld.one q) u c) A (lB q) ?_)));have I:=A;clear A;intro w8 E A;replace M:=M.step E (hI K);clear I;replace A:Blk _ _ (Fld.cells (zz8) SN) _:=A;refine ar q (r_then ?_);exact retL (vs:=[(.agg (Fld.cells (zz8) SN).toArray),(.int .i64 L)]) trivial q ⟨⟨_,q,load_agg (cs:=(Fld.cells (zz8) SN)) (by exact agg79) A⟩,q,tV⟩ q ⟨_,(zz8),L,q,M,(by assumption),(Ls.nil _ _ _),(by assumption),(fld_no (fld_in V H) H)⟩
 (have H:=dF S);refine c_skip (c_then (nm q (sn q (sf q off67_2 (sl (u:=y) q one22 h0 q (mv q (st_call fn60 q (rReadFld_any uQ F p (by omega) (by omega)) ?_)))))));rintro en w9 ⟨D,G,P,rfl,E,O,C,k,Z⟩;refine rv ?_;obtain⟨A,M⟩:=k2 E A M;refine se q q (se q q (st_storeAgg (us:=(Fld.cells G D)) q q (by exact agg79) (by exact fun u c=>one_cells (Fld.one C.oneCell) u c) A (lB q) ?_));have I:=A;clear A;intro z E A;have g:∀b∈[R],¬o b:=(hI T);replace C:=C.md E g;replace M:=M.step E (hI K);clear I g;replace A:Blk _ _ (Fld.cells G D) _:=A;refine ar q ?_;exact retL (vs:=[(.agg (Fld.cells G D).toArray),(.int .i64 P)]) trivial q ⟨⟨_,q,load_agg (cs:=(Fld.cells G D)) (by exact agg79) A⟩,q,tV⟩ q ⟨_,G,P,q,M,O,(C.sub (fun b U _=>f b U)),(by assumption),(fld_at (by rw[V];omega) Z)⟩
theorem rvEntry_any (uQ:Up w Q) {v0:Value} {v:RView} (h0:Pt tRView 67 w Q v0 v) (p:Nat) (a1:p<18446744073709551616) (p0:v.b.length≤1000000) :
  Calls Zp 27 #[v0,(.int .u64 p)] w fun en w'=>∃u0_0:Value,∃r0:Ent,∃r1:Nat,en = .returned (.tuple #[.agg (Ent.cells r0 u0_0).toArray,(.int .i64 r1)])∧Md [] w w'∧Ent.ok r0∧Ls tItm w' Q u0_0 r0.items∧r1<9223372036854775808∧entAt (v.h.n.getD 0 0) v.b p=(r0,r1):=by
 obtain⟨X,r,rfl,J,h0,rh0⟩:=h0;obtain⟨y,rfl,t,F⟩:=tRView_un rh0;have M:=Md.refl [] w;have x:=uQ;have f:∀b,Q b→Q b:=fun _ h=>h;refine enter (n:=22) Tryz.func27 q q q fun B=>ns (st_alloc z89 ?_);intro R w4 N d E A;have Y:X≠R:=(by have:=h0.lt;omega);obtain⟨o,e,l,T,W⟩:=exQ uQ N d E;replace J:=e _ J h0.lt;replace f:=tT f l;replace N:=ly M.size N;replace F:=(F.sub e).o E;obtain⟨h0,M⟩:=k2 E h0 M;replace uQ:=W;clear W e l;have K:Fsh [] w R:=.inr N;replace A:Blk _ _ (Ent.cells (zz1) SN) _:=A;have i:Ent.ok (zz1):=(by exact⟨(by decide),(by decide),(by decide),q,(by decide)⟩);refine an q (c_seq (ns (m2 q q (st_call fn54 q (rvIn_any uQ ⟨_,_,q,J,h0,tRView_mk t F⟩ p (by omega)) ?_))));rintro en w7 ⟨L,rfl,E,j,V⟩;refine rv ?_;obtain⟨F,h0,A,uQ,M⟩:=k5 E F h0 A uQ M;refine an q (nm q (st _ (r_neN (a:=L) (b:=0) q q) (nt ?_)));refine c_if q (fun S=>?_) (fun S=>?_)
 ·(have H:=dT S);refine ns (st _ (r_buildG (us:=[]) (cs:=(Ent.cells (zz1) SN)) [] z89 pl89 q q trivial trivial q q) (mv q (st_storeAgg (us:=(Ent.cells (zz1) SN)) q q (by exact agg89) (by exact fun u c=>one_cells (Ent.one q) u c) A (lB q) ?_)));have I:=A;clear A;intro w8 E A;replace M:=M.step E (hI K);clear I;replace A:Blk _ _ (Ent.cells (zz1) SN) _:=A;refine ar q (r_then ?_);exact retL (vs:=[(.agg (Ent.cells (zz1) SN).toArray),(.int .i64 L)]) trivial q ⟨⟨_,q,load_agg (cs:=(Ent.cells (zz1) SN)) (by exact agg89) A⟩,q,tV⟩ q ⟨_,(zz1),L,q,M,(by assumption),(Ls.nil _ _ _),(by assumption),(ent_no2 (ent_in V H) H)⟩
 (have H:=dF S);refine c_skip (c_then (nm q (sn q (sf q off67_2 (sl (u:=y) q one22 h0 q (mv q (st_call fn63 q (rReadEnt_any uQ F p (by omega) (by omega)) ?_)))))));rintro en w9 ⟨D,G,P,rfl,E,O,C,k,Z⟩;refine rv ?_;obtain⟨A,M⟩:=k2 E A M;refine se q q (se q q (st_storeAgg (us:=(Ent.cells G D)) q q (by exact agg89) (by exact fun u c=>one_cells (Ent.one C.oneCell) u c) A (lB q) ?_));have I:=A;clear A;intro z E A;have g:∀b∈[R],¬o b:=(hI T);replace C:=C.md E g;replace M:=M.step E (hI K);clear I g;replace A:Blk _ _ (Ent.cells G D) _:=A;refine ar q ?_;exact retL (vs:=[(.agg (Ent.cells G D).toArray),(.int .i64 P)]) trivial q ⟨⟨_,q,load_agg (cs:=(Ent.cells G D)) (by exact agg89) A⟩,q,tV⟩ q ⟨_,G,P,q,M,O,(C.sub (fun b U _=>f b U)),(by assumption),(ent_at (by rw[V];omega) Z)⟩
theorem rname_any (s:Ly) (w:World) (hl:s.length≤9223372036854775807):Calls Zp 104 #[str s] w fun e w'=>e = .returned (.bool (isName s))∧w=w':=by
 have M:=Md.refl [] w;refine enter (n:=44) Tryz.func104 q q q fun B=>ns (an q (c_seq (ns (asg q (nt (c_block ?_))))));refine c_loop (X:=Nat) (fun i=>[(0,str s),(3,.int .i64 i)]) (fun i w'=>w=w'∧i≤s.length∧∀j,j<i→nameC (s.getD j 0)=true∧(j=0→digit (s.getD j 0)=false)) (fun i=>s.length-i) 0 ?_ ?_ ?_
 ·exact⟨q,q,tV⟩
 ·exact⟨q,by omega,fun j I=>by omega⟩
 clear M
 rintro i B Z ⟨rfl,Y,O⟩;have M:=Md.refl [] w;refine c_seq (ns (m2 q q (st _ (r_lenS q u9) (st _ (r_lt q q) (nt ?_)))));refine c_if q (fun V=>?_) (fun V=>?_)
 ·(have W:=dT V);refine c_skip (c_then (c_seq (c_block (ns (m2 q q (st _ (r_idxSN q q u9 (by omega)) (an q (c_seq (nm q (st _ (r_ge q q) ?_))))))))));refine mv q ?_;refine part_n (t:=16) q (fun J=>?_) (fun J=>?_)
  ·(have Q:=dT J);refine sg J (r_move q) (sg J (r_le q q) (st _ (r_pick_t q J q) (mv q ?_)));refine part_n (t:=20) q (fun K=>?_) (fun K=>?_)
   ·(have R:=dT K);refine sg K (r_move q) (sg K (r_gt q q) (st _ (r_pick_t q K q) (mv q ?_)));refine part_n (t:=24) q (fun F=>?_) (fun F=>?_)
    ·(have S:=dT F);refine sk F (sk F (sk F (st_skipU q q q (st_skipU q q q (sk F (st _ (r_pick_t q F q) (mv q (sk q (sk q (st _ (r_pick_t q q q) (nt (c_if_t q q (c_exit ?_)))))))))))));refine x_then (x_hit (c_then (c_region (mv q (st _ (r_addI q q (by omega)) (an q (next (i+1) (by omega) ⟨q,fitI q (by simp),tV⟩ ?_)))))))
     exact⟨q,by omega,fun j I=>by
      rcases Nat.lt_or_eq_of_le (Nat.le_of_lt_succ I)with h|h
      ·exact O j h
      ·subst h;exact⟨by unfold nameC;exact decide_eq_true (by omega),fun H=>by unfold digit;exact decide_eq_false (by omega)⟩⟩
    (have S:=dF F);refine sg F (r_move q) (sg F (r_ge q q) (sg F (r_move q) ?_));refine part_n (t:=27) q (fun A=>?_) (fun A=>?_)
    ·(have L:=dT A);refine sg A (r_move q) (sg A (r_le q q) (sg F (r_pick_t q A q) (st _ (r_pick_f q F q) (mv q ?_))));refine part_n (t:=32) q (fun C=>?_) (fun C=>?_)
     ·(have N:=dT C);refine sk C (sk C (st _ (r_pick_t q C q) (nt (c_if_t q q (c_exit (x_then (x_hit (c_then (c_region (mv q (st _ (r_addI q q (by omega)) (an q ?_))))))))))));refine next (i+1) (by omega) ⟨q,fitI q (by simp),tV⟩ ?_
      exact⟨q,by omega,fun j I=>by
       rcases Nat.lt_or_eq_of_le (Nat.le_of_lt_succ I)with h|h
       ·exact O j h
       ·subst h;exact⟨by unfold nameC;exact decide_eq_true (by omega),fun H=>by unfold digit;exact decide_eq_false (by omega)⟩⟩
     (have N:=dF C);refine sg C (r_move q) (sg C (r_eq q q) (st _ (r_pick_f q C q) (nt ?_)));refine c_if q (fun D=>?_) (fun D=>?_)
     ·(have E:=dT D);refine c_exit (x_then (x_hit (c_then (c_region (mv q (st _ (r_addI q q (by omega)) (an q (next (i+1) (by omega) ⟨q,fitI q (by simp),tV⟩ ?_))))))))
      exact⟨q,by omega,fun j I=>by
       rcases Nat.lt_or_eq_of_le (Nat.le_of_lt_succ I)with h|h
       ·exact O j h
       ·subst h;exact⟨by unfold nameC;exact decide_eq_true (by omega),fun H=>by unfold digit;exact decide_eq_false (by omega)⟩⟩
     (have E:=dF D);refine c_skip (c_then (ns (ar q (r_block (r_then (r_then (r_block (r_then ?_))))))));exact ret1 trivial q q ⟨retB (by cases hh:isName s with|false=>rfl|true=>(exfalso;have hl:=name_len hh;have P:=name_dig hh;have U:=name_at hh i (by omega);rcases Nat.eq_zero_or_pos i with H|H<;>omega)),q⟩
    (have L:=dF A);refine sk A (sk A (sg F (r_pick_f q A q) (st _ (r_pick_f q F q) (mv q (sg q (r_move q) (sg q (r_eq q q) (st _ (r_pick_f q q q) (nt ?_))))))));refine c_if q (fun D=>?_) (fun D=>?_)
    ·(have E:=dT D);refine c_exit (x_then (x_hit (c_then (c_region (mv q (st _ (r_addI q q (by omega)) (an q (next (i+1) (by omega) ⟨q,fitI q (by simp),tV⟩ ?_))))))))
     exact⟨q,by omega,fun j I=>by
      rcases Nat.lt_or_eq_of_le (Nat.le_of_lt_succ I)with h|h
      ·exact O j h
      ·subst h;exact⟨by unfold nameC;exact decide_eq_true (by omega),fun H=>by unfold digit;exact decide_eq_false (by omega)⟩⟩
    (have E:=dF D);refine c_skip (c_then (ns (ar q (r_block (r_then (r_then (r_block (r_then ?_))))))));exact ret1 trivial q q ⟨retB (by cases hh:isName s with|false=>rfl|true=>(exfalso;have hl:=name_len hh;have P:=name_dig hh;have U:=name_at hh i (by omega);rcases Nat.eq_zero_or_pos i with H|H<;>first|omega|(subst H;omega))),q⟩
   (have R:=dF K);refine sk K (sk K (st _ (r_pick_f q K q) (mv q (sg q (r_move q) (sg q (r_ge q q) (sg q (r_move q) ?_))))));refine part_n (t:=27) q (fun A=>?_) (fun A=>?_)
   ·(have L:=dT A);refine sg A (r_move q) (sg A (r_le q q) (sg q (r_pick_t q A q) (st _ (r_pick_f q q q) (mv q ?_))));refine part_n (t:=32) q (fun C=>?_) (fun C=>?_)
    ·(have N:=dT C);refine sk C (sk C (st _ (r_pick_t q C q) (nt (c_if_t q q (c_exit (x_then (x_hit (c_then (c_region (mv q (st _ (r_addI q q (by omega)) (an q ?_))))))))))));refine next (i+1) (by omega) ⟨q,fitI q (by simp),tV⟩ ?_
     exact⟨q,by omega,fun j I=>by
      rcases Nat.lt_or_eq_of_le (Nat.le_of_lt_succ I)with h|h
      ·exact O j h
      ·subst h;exact⟨by unfold nameC;exact decide_eq_true (by omega),fun H=>by unfold digit;exact decide_eq_false (by omega)⟩⟩
    (have N:=dF C);refine sg C (r_move q) (sg C (r_eq q q) (st _ (r_pick_f q C q) (nt ?_)));refine c_if q (fun D=>?_) (fun D=>?_)
    ·(have E:=dT D);refine c_exit (x_then (x_hit (c_then (c_region (mv q (st _ (r_addI q q (by omega)) (an q (next (i+1) (by omega) ⟨q,fitI q (by simp),tV⟩ ?_))))))))
     exact⟨q,by omega,fun j I=>by
      rcases Nat.lt_or_eq_of_le (Nat.le_of_lt_succ I)with h|h
      ·exact O j h
      ·subst h;exact⟨by unfold nameC;exact decide_eq_true (by omega),fun H=>by unfold digit;exact decide_eq_false (by omega)⟩⟩
    (have E:=dF D);refine c_skip (c_then (ns (ar q (r_block (r_then (r_then (r_block (r_then ?_))))))));exact ret1 trivial q q ⟨retB (by cases hh:isName s with|false=>rfl|true=>(exfalso;have hl:=name_len hh;have P:=name_dig hh;have U:=name_at hh i (by omega);rcases Nat.eq_zero_or_pos i with H|H<;>omega)),q⟩
   (have L:=dF A);refine sk A (sk A (sg q (r_pick_f q A q) (st _ (r_pick_f q q q) (mv q (sg q (r_move q) (sg q (r_eq q q) (st _ (r_pick_f q q q) (nt ?_))))))));refine c_if q (fun D=>?_) (fun D=>?_)
   ·(have E:=dT D);refine c_exit (x_then (x_hit (c_then (c_region (mv q (st _ (r_addI q q (by omega)) (an q (next (i+1) (by omega) ⟨q,fitI q (by simp),tV⟩ ?_))))))))
    exact⟨q,by omega,fun j I=>by
     rcases Nat.lt_or_eq_of_le (Nat.le_of_lt_succ I)with h|h
     ·exact O j h
     ·subst h;exact⟨by unfold nameC;exact decide_eq_true (by omega),fun H=>by unfold digit;exact decide_eq_false (by omega)⟩⟩
   (have E:=dF D);refine c_skip (c_then (ns (ar q (r_block (r_then (r_then (r_block (r_then ?_))))))));exact ret1 trivial q q ⟨retB (by cases hh:isName s with|false=>rfl|true=>(exfalso;have hl:=name_len hh;have P:=name_dig hh;have U:=name_at hh i (by omega);rcases Nat.eq_zero_or_pos i with H|H<;>omega)),q⟩
  (have Q:=dF J);refine sk J (sk J (st _ (r_pick_f q J q) (mv q (sk q (sk q (st _ (r_pick_f q q q) (mv q (sg q (r_move q) (sg q (r_ge q q) (sg q (r_move q) ?_))))))))));refine part_n (t:=27) q (fun A=>?_) (fun A=>?_)
  ·(have L:=dT A);refine sg A (r_move q) (sg A (r_le q q) (sg q (r_pick_t q A q) (st _ (r_pick_f q q q) (mv q ?_))));refine part_n (t:=32) q (fun C=>?_) (fun C=>?_)
   ·(have N:=dT C);refine sk C (sk C (st _ (r_pick_t q C q) (nt (c_if_t q q (c_exit (x_then (x_hit (c_then (c_region (mv q (st _ (r_addI q q (by omega)) (an q ?_))))))))))));refine next (i+1) (by omega) ⟨q,fitI q (by simp),tV⟩ ?_
    exact⟨q,by omega,fun j I=>by
     rcases Nat.lt_or_eq_of_le (Nat.le_of_lt_succ I)with h|h
     ·exact O j h
     ·subst h;exact⟨by unfold nameC;exact decide_eq_true (by omega),fun H=>by unfold digit;exact decide_eq_false (by omega)⟩⟩
   (have N:=dF C);refine sg C (r_move q) (sg C (r_eq q q) (st _ (r_pick_f q C q) (nt ?_)));refine c_if q (fun D=>?_) (fun D=>?_)
   ·(have E:=dT D);refine c_exit (x_then (x_hit (c_then (c_region (mv q (st _ (r_addI q q (by omega)) (an q (next (i+1) (by omega) ⟨q,fitI q (by simp),tV⟩ ?_))))))))
    exact⟨q,by omega,fun j I=>by
     rcases Nat.lt_or_eq_of_le (Nat.le_of_lt_succ I)with h|h
     ·exact O j h
     ·subst h;exact⟨by unfold nameC;exact decide_eq_true (by omega),fun H=>by unfold digit;exact decide_eq_false (by omega)⟩⟩
   (have E:=dF D);refine c_skip (c_then (ns (ar q (r_block (r_then (r_then (r_block (r_then ?_))))))));exact ret1 trivial q q ⟨retB (by cases hh:isName s with|false=>rfl|true=>(exfalso;have hl:=name_len hh;have P:=name_dig hh;have U:=name_at hh i (by omega);rcases Nat.eq_zero_or_pos i with H|H<;>omega)),q⟩
  (have L:=dF A);refine sk A (sk A (sg q (r_pick_f q A q) (st _ (r_pick_f q q q) (mv q (sg q (r_move q) (sg q (r_eq q q) (st _ (r_pick_f q q q) (nt ?_))))))));refine c_if q (fun D=>?_) (fun D=>?_)
  ·(have E:=dT D);refine c_exit (x_then (x_hit (c_then (c_region (mv q (st _ (r_addI q q (by omega)) (an q (next (i+1) (by omega) ⟨q,fitI q (by simp),tV⟩ ?_))))))))
   exact⟨q,by omega,fun j I=>by
    rcases Nat.lt_or_eq_of_le (Nat.le_of_lt_succ I)with h|h
    ·exact O j h
    ·subst h;exact⟨by unfold nameC;exact decide_eq_true (by omega),fun H=>by unfold digit;exact decide_eq_false (by omega)⟩⟩
  (have E:=dF D);refine c_skip (c_then (ns (ar q (r_block (r_then (r_then (r_block (r_then ?_))))))));exact ret1 trivial q q ⟨retB (by cases hh:isName s with|false=>rfl|true=>(exfalso;have hl:=name_len hh;have P:=name_dig hh;have U:=name_at hh i (by omega);rcases Nat.eq_zero_or_pos i with H|H<;>omega)),q⟩
 (have W:=dF V);refine c_exit (x_then (x_then (x_hit (c_then (nm q (st _ (r_lenS q u9) (st _ (r_ge q q) (mv q ?_))))))));refine part_n (t:=39) q (fun G=>?_) (fun G=>?_)
 ·(have T:=dT G);refine sg G (r_move q) (sg G (r_lenS q u9) (sg G (r_le q q) (st _ (r_pick_t q G q) (ar q ?_))));exact ret1 trivial q q ⟨retB (name_fin (by omega) (fun j I=>O j (by omega))),q⟩
 (have T:=dF G);refine sk G (sk G (sk G (st _ (r_pick_f q G q) (ar q ?_))));exact ret1 trivial q q ⟨retB (by cases hh:isName s with|false=>rfl|true=>(exfalso;have hl:=name_len hh;have P:=name_dig hh;omega)),q⟩
theorem fn104:isFn Zp 104=true:=by kernel_rfl
theorem pl148:bplace Zp 148=some [(0,1),(1,1)]:=by kernel_rfl
theorem z148:zcells Zp 148=some [.string ByteArray.empty,.string ByteArray.empty]:=by kernel_rfl
theorem rsplit_any (v:Value) (l:Ly) (w:World) (hB:By w v l) (hl:l.length≤4611686018427387904) :
  Calls Zp 71 #[v] w fun e w'=>e = .returned (.tuple #[pairv (splitP l),.int .i64 (splitC l)])∧Md [] w w':=by
 have V:=hB.len63;have M:=Md.refl [] w;refine enter (n:=41) Tryz.func71 q q q fun B=>ns (st_alloc z148 ?_);intro U a N Z E A;replace N:=ly M.size N;replace M:=M.k E;refine an q (c_seq (ns (asg q (nt (c_block ?_)))));refine c_loop (X:=Nat) (fun i=>[(0,v),(2,.pointer (some ⟨U,0,none⟩)),(4,.int .i64 i)]) (fun i w'=>Md [] w w'∧Blk w' U [.string ByteArray.empty,.string ByteArray.empty] 148∧i≤l.length∧∀j,j<i→l.getD j 0≠61) (fun i=>l.length-i) 0 ?_ ?_ ?_
 ·exact⟨q,q,q,tV⟩
 ·exact⟨M,A,by omega,fun j T=>by omega⟩
 clear M
 clear A;rintro i B b ⟨M,A,Y,Q⟩;refine c_seq (ns (m2 q q (sL q u22 hB.shp (st _ (r_lt q q) (nt ?_)))));refine c_if q (fun R=>?_) (fun R=>?_)
 ·(have S:=dT R);refine c_skip (c_then (c_seq (c_block (c_seq (ns (m2 q q (st _ (r_index q q u22 el5 hB.shp (by omega)) (st _ (r_loadB q one5 (hB.o M) (by omega)) (st _ (r_ne q q) (nt ?_))))))))));refine c_if q (fun H=>?_) (fun H=>?_)
  ·(have F:=dT H);refine c_exit (x_then (x_hit (c_then (c_region (mv q (st _ (r_addI q q (by omega)) (an q (next (i+1) (by omega) ⟨q,q,fitI q (by simp),tV⟩ ?_))))))))
   exact⟨M,A,by omega,fun j T=>by
    rcases Nat.lt_or_eq_of_le (Nat.le_of_lt_succ T)with h|h
    ·exact Q j h
    ·subst h;intro W;apply F;rw[Int.toNat_natCast,W];rfl⟩
  (have F:=dF H);have O:=F;rw[Int.toNat_natCast]at O;have G:Lib.indexByte l 61=i:=ix_at (by omega) (UInt8.toNat_inj.1 (by show _=61;omega)) Q;refine c_skip (c_then (c_seq (ns (m2 q q (st _ (r_slice 0 i u22 el5 q hB.shp (by omega) (by omega) q ⟨_,q⟩) (st _ (r_convBS u22 u5 u9 q ((hB.head i (by omega)).o M)) (st_call fn104 q (rname_any (l.take i) _ (by simp;omega)) ?_)))))));rintro e _ ⟨rfl,rfl⟩;refine rv ?_;refine st _ (r_not q) (nt ?_);refine c_if q (fun I=>?_) (fun I=>?_)
  ·(have D:=bnt I);refine ns (st (.agg [_,_].toArray) (r_build (ps:=[]) z148 pl148 q q trivial q q q) (st_storeAll q q (by exact agg148) (by simp[pairv,str,Value.oneCell']) A (by rfl) ?_));have K:=A;clear A;intro c E A;replace M:=M.step1 E N;refine ar q (r_then (r_block (r_then (r_then (r_block (r_then ?_))))));have C:splitC l=20:=(by unfold splitC;rw[G,if_neg (by omega),Int.toNat_natCast,if_pos D]);have L:=split_bad (s:=l) (by rw[C];decide);exact retc1 trivial q q (by exact agg148) A q ⟨by rw[C,L];rfl,M⟩
  (have D:=bnf I);refine c_skip (c_then (c_seq (nm q (sL q u22 hB.shp (mv q (st _ (r_subI q q (by omega)) (st _ (r_subI q q (by omega)) (st _ (r_gt q q) (nt ?_)))))))));refine c_if q (fun J=>?_) (fun J=>?_)
  ·(have P:=dT J);refine ns (st (.agg [_,_].toArray) (r_build (ps:=[]) z148 pl148 q q trivial q q q) (st_storeAll q q (by exact agg148) (by simp[pairv,str,Value.oneCell']) A (by rfl) ?_));have K:=A;clear A;intro d E A;replace M:=M.step1 E N;refine ar q (r_then (r_block (r_then (r_then (r_block (r_then ?_))))));have C:splitC l=21:=(by unfold splitC;rw[G,if_neg (by omega),Int.toNat_natCast,if_neg (by simp[D]),if_pos (by simp;omega)]);have L:=split_bad (s:=l) (by rw[C];decide);exact retc1 trivial q q (by exact agg148) A q ⟨by rw[C,L];rfl,M⟩
  (have P:=dF J);refine c_skip (c_then (c_seq (c_mix [(0,true),(1,true),(2,true),(3,true),(4,true),(5,true),(6,true),(7,true),(8,true),(9,true),(10,false),(11,true)] (fun w'=>By w' v l) mixed (by kernel_rfl) ?_)));intro f E;obtain⟨A,M⟩:=k2 E A M;refine⟨(hB.o M),?_⟩;refine m _ (fun w' C=>r_move q) (m _ (fun w' C=>r_move q) (m _ (fun w' C=>r_slice 0 i u22 el5 q hB.shp (by omega) (by omega) q ⟨_,q⟩) (m _ (fun w' C=>r_convBS u22 u5 u9 q (By.head C i (by omega))) (m _ (fun w' C=>r_move q) (m _ (fun w' C=>r_move q) (m _ (fun w' C=>(r_addI q q (by omega)).castI (show _=((i+1:Nat):Int)from by simp)) (m _ (fun w' C=>r_slice (i+1) l.length u22 el5 q hB.shp (by omega) (by omega) ⟨_,q⟩ q) (m _ (fun w' C=>r_convBS u22 u5 u9 q (By.tail C (i+1) (by omega))) (m (.agg [_,_].toArray) (fun w' C=>r_build (ps:=[(0,0),(1,1)]) z148 pl148 q q ⟨q,q,tV⟩ q q q) ?_)))))))));refine m_e ?_ rfl;refine st_storeAll q q (by exact agg148) (by simp[pairv,str,Value.oneCell']) A (by rfl) ?_;have K:=A;clear A;intro g E A;replace M:=M.step1 E N;refine st_nil ⟨q,(hB.o M),?_⟩;refine m _ (fun w' C=>r_assign q) (m_nil (c_then (c_ret (r_block (r_then (r_then (r_block (r_then ?_))))))));have C:splitC l=0:=(by unfold splitC;rw[G,if_neg (by omega),Int.toNat_natCast,if_neg (by simp[D]),if_neg (by simp;omega)]);have L:splitP l=(l.take i,l.drop (i+1)):=(by unfold splitP;rw[if_pos C,G,Int.toNat_natCast]);exact retc1 trivial q q (by exact agg148) A q ⟨by rw[C,L];rfl,M⟩
 (have S:=dF R);refine c_exit (x_then (x_then (x_hit (c_then (ns (st (.agg [_,_].toArray) (r_build (ps:=[]) z148 pl148 q q trivial q q q) (st_storeAll q q (by exact agg148) (by simp[pairv,str,Value.oneCell']) A (by rfl) ?_)))))));have K:=A;clear A;intro k E A;replace M:=M.step1 E N;refine ar q ?_;have C:splitC l=20:=(by unfold splitC;rw[if_pos (ix_none fun j T=>Q j (by omega))]);have L:=split_bad (s:=l) (by rw[C];decide);exact retc1 trivial q q (by exact agg148) A q ⟨by rw[C,L];rfl,M⟩
end Go.Proofs.YtkkfbaijodhobaaGreat
namespace Go.Wk
open Go Go.RowKit
def pan (v:Value):List PanicEntry:=[{v,recovered:=false}]
def isIfT (P:Program) (t:TypeId):Bool:=match P.underlying t with|some (.interface _)=>true|_=>false
def notIfT (P:Program) (t:TypeId):Bool:=match P.underlying t with|some (.interface _)=>false|some _=>true|none=>false
theorem notIfT_spec {P:Program} {t:TypeId} (h:notIfT P t=true):∃X,P.underlying t=some X∧∀Y,X≠.interface Y:=by
  unfold notIfT at h
  split at h
  · cases h
  · rename_i X h1 h2;exact⟨X,h2,fun Y e=>h1 Y e⟩
  cases h
theorem isIfT_spec {P:Program} {t:TypeId} (h:isIfT P t=true):∃X,P.underlying t=some (.interface X):=by
  unfold isIfT at h
  split at h
  · exact⟨_,by assumption⟩
  cases h
section
variable {P:Program} {ops:Array Oper} {Q:Exit→Act→World→Prop} {rest:List Oper}
variable {n:Nat} {A:Fr n} {D:List Deferred} {l:List (Nat × Value)} {w:World}
variable {d:Tmp} {op:Op} {ty:TypeId} {ps:String} {af:Array Edge} {g:Option (Nat × Bool)}
theorem door {vs:List Value} {m:Nat} (hn:m=n) (hle:Nat.ble vs.length n=true) :
    ∃B:Fr n,over B [] (argsAt 0 vs)={tmps:=vs.toArray ++ Array.replicate (m-vs.toArray.size) undef,defers:=[]}:=by
  have hle':vs.length≤n:=lB hle
  have D:(vs.toArray ++ Array.replicate (m-vs.toArray.size) undef).size=n:=by simp[hn];omega
  refine⟨⟨_,D⟩,over_same ?_⟩
  intro p G
  obtain⟨j,E,F⟩:=mem_argsAt G
  obtain⟨A,C⟩:=List.getElem?_eq_some_iff.1 F
  simp only[E,Nat.zero_add,Array.getD]
  rw[dif_pos (by simp;omega)]
  show(vs.toArray ++ _)[j]'_=_
  rw[Array.getElem_append_left (by simpa using A)]
  simpa using C
theorem enterD {f:FuncId} {fn:Func} {c:Code} {vs:List Value} {R:Ending→World→Prop} (hf:P.funcs[f]? = some fn) (hb:fn.body=some c) (hn:fn.ntmps=n) (hle:Nat.ble vs.length n=true)
    (h:∀B:Fr n,c.wp P (bodyPostD P fn R) (over B [] (argsAt 0 vs)) w):Calls P f vs.toArray w R:=by
  refine calls_of_wp_defers hf hb ?_
  obtain⟨B,A⟩:=door hn hle
  rw[← A];exact h B
theorem enterS {f:FuncId} {fn:Func} {c:Code} {vs:List Value} {u:FrameMode} {R:Ending→FrameMode→World→Prop} (hf:P.funcs[f]? = some fn) (hb:fn.body=some c) (hn:fn.ntmps=n) (hle:Nat.ble vs.length n=true)
    (h:∀(B:Fr n) (c₀:Go.Frame) (cs:List Go.Frame),c₀.mode=u→c.wpS P (bodyPostS P fn c₀ cs R) (over B [] (argsAt 0 vs)) (c₀ :: cs) w):CallsD P f vs.toArray u w R:=by
  refine callsD_of_wpS hf hb fun c₀ cs C=>?_
  obtain⟨B,A⟩:=door hn hle
  rw[← A];exact h B c₀ cs C
theorem r_makeFuncs {f:FuncId} {xs:List Operand} {vs:List Value} {d':Option Tmp} (hx:evs n l xs=some vs) :
    RunV P ⟨d',.makeFunc (.func f) #[] xs.toArray,ty,ps,af,g⟩ (over A D l).eval w (.func (.func f) #[] vs.toArray):=by
  have B:=evs_eval (A:=A) (D:=D) hx
  simp[RunV,execOp,Instr.makeFunc,B]
theorem over_cons (dd:Deferred) (v:Option Tmp) (x:Value):({over A D l with defers:=dd :: (over A D l).defers}.put v x)=match v with|some t=>over A (dd :: D) ((t,x) :: l)|none=>over A (dd :: D) l:=by
  have B:∀l:List (Nat × Value),({over A D l with defers:=dd :: (over A D l).defers}:Act)=over A (dd :: D) l:=by
    intro l
    rw[over_defers]
    induction l with
    | nil=>rfl
    | cons p r ih=>simp only[over,Act.put]at ih ⊢;simp only[← ih]
  rw[B]
  cases v <;> rfl
theorem st_defer {f:FuncId} {c:Operand} {ts:Array TypeId} {cs:List Value} {d':Option Tmp} (hc:ev n l c=some (.func (.func f) #[] cs.toArray))
    (k:wpList P ops Q rest (match d' with|some t=>over A (⟨.fn (.func f) cs.toArray,#[]⟩ :: D) ((t,undef) :: l)|none=>over A (⟨.fn (.func f) cs.toArray,#[]⟩ :: D) l) w) :
    wpList P ops Q (⟨d',.defer {callee:=.value c,args:=#[],argTypes:=ts},ty,ps,af,none⟩ :: rest) (over A D l) w:=by
  refine wl_plain q ?_
  unfold Oper.wp
  have B:(execOp (over A D l).eval ⟨d',.defer {callee:=.value c,args:=#[],argTypes:=ts},ty,ps,af,none⟩).run P w = .ok (.defer ⟨.fn (.func f) cs.toArray,#[]⟩) w:=by
    simp[execOp,resolve,ev_eval hc,Deferred.ofValue]
  rw[B]
  show wpList P ops Q rest ({over A D l with defers:=_ :: (over A D l).defers}.put d' undef) w
  rw[over_cons]
  cases d' <;> exact k
theorem st_callVP {f:FuncId} {c:Operand} {xs:List Operand} {ts:Array TypeId} {vs cs:List Value} {R:Ending→World→Prop} {d':Option Tmp} (hc:ev n l c=some (.func (.func f) #[] cs.toArray)) (hf:isFn P f=true) (ha:evs n l xs=some vs) (hr:Calls P f (vs ++ cs).toArray w R)
    (k:∀e w',R e w'→(∃v,e = .returned v∧wpList P ops Q rest ((over A D l).put d' v) w')∨∃ch,e = .panicked ch∧Q (.panic ch) (over A D l) w') :
    wpList P ops Q (⟨d',.call {callee:=.value c,args:=xs.toArray,argTypes:=ts},ty,ps,af,none⟩ :: rest) (over A D l) w:=by
  refine wl_plain q ?_
  unfold Oper.wp
  have F:=evs_eval (A:=A) (D:=D) ha
  have C:(execOp (over A D l).eval ⟨d',.call {callee:=.value c,args:=xs.toArray,argTypes:=ts},ty,ps,af,none⟩).run P w = .ok (.enter f (vs ++ cs).toArray) w:=by
    simp only[execOp,resolve,ev_eval hc,Deferred.ofValue,List.map_toArray,F]
    simp[invoke,run_callFunc hf]
  rw[C]
  refine hr.mono fun e w' E=>?_
  rcases k e w' E with⟨v,rfl,B⟩|⟨ch,rfl,B⟩
  · exact B
  exact B
theorem st_callP {f:FuncId} {xs:List Operand} {ts:Array TypeId} {vs:List Value} {R:Ending→World→Prop} (hf:isFn P f=true) (ha:evs n l xs=some vs) (hr:Calls P f vs.toArray w R)
    (k:∀e w',R e w'→(∃v,e = .returned v∧wpList P ops Q rest (over A D ((d,v) :: l)) w')∨∃ch,e = .panicked ch∧Q (.panic ch) (over A D l) w') :
    wpList P ops Q (⟨some d,.call {callee:=.value (.func f),args:=xs.toArray,argTypes:=ts},ty,ps,af,none⟩ :: rest) (over A D l) w:=by
  refine wl_plain q ?_
  unfold Oper.wp
  rw[exec_call hf ha]
  refine hr.mono fun e w' C=>?_
  rcases k e w' C with⟨v,rfl,B⟩|⟨ch,rfl,B⟩
  · exact B
  exact B
theorem r_mkIface {x:Operand} {t:TypeId} {v:Value} {d':Option Tmp} (hT:notIfT P t=true) (hx:ev n l x=some v) :
    RunV P ⟨d',.makeInterface t x,ty,ps,af,g⟩ (over A D l).eval w (.iface t v):=by
  obtain⟨X,hT,B⟩:=notIfT_spec hT
  cases X <;> simp_all [RunV,execOp,ev_eval hx,Instr.makeInterface,run_underlying hT]
theorem st_panic {x:Operand} {t:TypeId} {v:Value} {d':Option Tmp} (hx:ev n l x=some (.iface t v)) (k:Q (.panic (pan (.iface t v))) (over A D l) w) :
    wpList P ops Q (⟨d',.panic x,ty,ps,af,none⟩ :: rest) (over A D l) w:=by
  refine wl_plain q ?_
  unfold Oper.wp
  have B:(execOp (over A D l).eval ⟨d',.panic x,ty,ps,af,none⟩).run P w = .halt (.panic (.iface t v)) w:=by
    simp[execOp,ev_eval hx,Instr.panic,goPanic]
  rw[B];exact k
theorem pan_post {fn:Func} {R:Ending→World→Prop} {ch:List PanicEntry} (h:R (.panicked ch) w):bodyPost P fn R (.panic ch) (over A [] l) w:=⟨over_defers,h⟩
theorem eqIn_in {t s:TypeId} {v:Value} {X} (w:World) (dd:Nat) (hT:P.underlying t=some (.interface X)):(Op.equalIn (dd+1) t (.iface s v) .nilIface).run P w = .ok false w:=by
  simp only[Op.equalIn,Sem.run_bind,run_underlying hT,Result.andThen_ok,Sem.run_pure]
theorem eqIn_ii {t:TypeId} {X} (w:World) (dd:Nat) (hT:P.underlying t=some (.interface X)):(Op.equalIn (dd+1) t .nilIface .nilIface).run P w = .ok true w:=by
  simp only[Op.equalIn,Sem.run_bind,run_underlying hT,Result.andThen_ok,Sem.run_pure]
theorem r_neqIN {x:Operand} {t u s:TypeId} {v:Value} (hx:ev n l x=some (.iface s v)) (hT:isIfT P t=true) :
    RunV P ⟨some d,.binOp .neq t x (.const .nilIface) u,ty,ps,af,g⟩ (over A D l).eval w (.bool true):=by
  obtain⟨X,hT⟩:=isIfT_spec hT
  have C:(over A D l).eval (.const .nilIface) = .nilIface:=rfl
  have E:(eqGuard .neq t x (.const .nilIface) (.iface s v) .nilIface).run P w = .ok () w:=by unfold eqGuard;simp
  have B:(binOp .neq t (.iface s v) .nilIface).run P w = .ok (.bool true) w:=by
    simp only[binOp,Op.equal,Op.maxDepth,Sem.run_bind,eqIn_in w 9999 hT,Result.andThen_ok,Sem.run_pure,Bool.not_false]
  simp[RunV,execOp,ev_eval hx,C,E,B]
theorem r_neqNN {x:Operand} {t u:TypeId} (hx:ev n l x=some .nilIface) (hT:isIfT P t=true) :
    RunV P ⟨some d,.binOp .neq t x (.const .nilIface) u,ty,ps,af,g⟩ (over A D l).eval w (.bool false):=by
  obtain⟨X,hT⟩:=isIfT_spec hT
  have C:(over A D l).eval (.const .nilIface) = .nilIface:=rfl
  have E:(eqGuard .neq t x (.const .nilIface) .nilIface .nilIface).run P w = .ok () w:=by unfold eqGuard;simp
  have B:(binOp .neq t .nilIface .nilIface).run P w = .ok (.bool false) w:=by
    simp only[binOp,Op.equal,Op.maxDepth,Sem.run_bind,eqIn_ii w 9999 hT,Result.andThen_ok,Sem.run_pure,Bool.not_true]
  simp[RunV,execOp,ev_eval hx,C,E,B]
end
section
variable {P:Program} {ops:Array Oper} {QS:Exit→Act→List Go.Frame→World→Prop} {cs:List Go.Frame} {rest:List Nat}
variable {n:Nat} {A:Fr n} {D:List Deferred} {l:List (Nat × Value)} {w:World}
theorem sr_run {i d:Nat} {o:Oper} (v:Value) (ho:ops[i]? = some o) (hg:o.guard=none) (hd:o.dst=some d) (hr:RunV P o (over A D l).eval w v) (k:wpOpsS P ops QS rest (over A D ((d,v) :: l)) cs w) :
    wpOpsS P ops QS (i :: rest) (over A D l) cs w:=by
  have B:Region.wanted o (yielded ops (over A D l).tmps)=true:=by simp[Region.wanted,hg]
  unfold RunV at hr
  simp only[wpOpsS,ho,B,if_true,hr,Oper.upon,hd]
  exact k
theorem sr_rec {i d:Nat} {o:Oper} {ts:Array TypeId} (ho:ops[i]? = some o) (hg:o.guard=none) (hd:o.dst=some d) (hop:o.op = .call {callee:=.builtin .recover,args:=#[],argTypes:=ts}) {v:Value} {older:List PanicEntry} {c:Go.Frame} {cs':List Go.Frame} (hcs:cs=c :: cs')
    (hm:c.mode = .panicking ({v,recovered:=false} :: older)) (k:wpOpsS P ops QS rest (over A D ((d,v) :: l)) ({c with mode:=.panicking ({v,recovered:=true} :: older)} :: cs') w) :
    wpOpsS P ops QS (i :: rest) (over A D l) cs w:=by
  have E:Region.wanted o (yielded ops (over A D l).tmps)=true:=by simp[Region.wanted,hg]
  have C:(execOp (over A D l).eval o).run P w = .ok .recover w:=by
    simp[execOp,hop,resolve,invoke,builtin]
  subst hcs
  have B:recoverD (c :: cs')=some (v,{c with mode:=.panicking ({v,recovered:=true} :: older)} :: cs'):=by simp[recoverD,hm]
  simp only[wpOpsS,ho,E,if_true,C,B,hd]
  exact k
theorem sr_rec0 {i d:Nat} {o:Oper} {ts:Array TypeId} (ho:ops[i]? = some o) (hg:o.guard=none) (hd:o.dst=some d) (hop:o.op = .call {callee:=.builtin .recover,args:=#[],argTypes:=ts}) {c:Go.Frame} {cs':List Go.Frame} (hcs:cs=c :: cs')
    (hm:c.mode = .returning) (k:wpOpsS P ops QS rest (over A D ((d,.nilIface) :: l)) cs w) :
    wpOpsS P ops QS (i :: rest) (over A D l) cs w:=by
  have E:Region.wanted o (yielded ops (over A D l).tmps)=true:=by simp[Region.wanted,hg]
  have C:(execOp (over A D l).eval o).run P w = .ok .recover w:=by
    simp[execOp,hop,resolve,invoke,builtin]
  subst hcs
  have B:recoverD (c :: cs')=none:=by simp[recoverD,hm]
  simp only[wpOpsS,ho,E,if_true,C,B,hd]
  exact k
theorem sr_nil (k:QS .normal (over A D l) cs w):wpOpsS P ops QS [] (over A D l) cs w:=k
end
section
variable {P:Program} {n:Nat} {A:Fr n} {l:List (Nat × Value)} {w:World}
theorem retS {fn:Func} {c₀:Go.Frame} {cs:List Go.Frame} {R:Ending→FrameMode→World→Prop} {u':FrameMode} {e:Exit} (he:isEnd e) (hr:fn.results = #[]) (hR:R (.returned (.tuple #[])) u' w) :
    bodyPostS P fn c₀ cs R e (over A [] l) ({c₀ with mode:=u'} :: cs) w:=by
  have h:=results_run (P:=P) (w:=w) (A:=A) (D:=[]) (l:=l) (fn:=fn) (rs:=[]) (vs:=[]) hr trivial
  cases e with
  | normal=>exact⟨over_defers,u',q,_,h,hR⟩
  | ret=>exact⟨over_defers,u',q,_,h,hR⟩
  | _=>exact he.elim
theorem retS0 {fn:Func} {c₀:Go.Frame} {cs:List Go.Frame} {R:Ending→FrameMode→World→Prop} {u:FrameMode} {e:Exit} (hc:c₀.mode=u) (he:isEnd e) (hr:fn.results = #[]) (hR:R (.returned (.tuple #[])) u w) :
    bodyPostS P fn c₀ cs R e (over A [] l) (c₀ :: cs) w:=by
  have h:({c₀ with mode:=u}:Go.Frame)=c₀:=by subst hc;rfl
  have:=retS (P:=P) (A:=A) (l:=l) (c₀:=c₀) (cs:=cs) (u':=u) he hr hR
  rwa [h]at this
theorem leave1 {fn:Func} {R:Ending→World→Prop} {t ty:Nat} {d:Deferred} {u:FrameMode} {f:FuncId} {cs:List Value} (hu:u≠.run) (hd:d=⟨.fn (.func f) cs.toArray,#[]⟩) (hf:isFn P f=true) (hr:fn.results = #[.cell t ty]) {p:Addr} (ht:ev n l (.tmp t)=some (.pointer (some p)))
    (h:CallsD P f cs.toArray u w fun e u' w'=>e = .returned (.tuple #[])∧settle u' = .returning∧∃v,(loadVar ty p).run P w' = .ok v w'∧R (.returned v) w') :
    Leaves P fn (over A [d] l).tmps R [d] u w:=by
  subst hd
  refine leaves_cons hu (f:=f) (args:=cs.toArray) (by simp[invoke,run_callFunc hf]) (h.mono ?_)
  rintro e u' w' ⟨rfl,C,v,D,B⟩
  show Leaves P fn _ R [] (settle u') w'
  rw[C]
  exact⟨v,results_run (A:=A) (rs:=[.cell t ty]) (vs:=[v]) hr ⟨⟨p,ht,D⟩,tV⟩,B⟩
end
section
variable {P:Program} {n:Nat} {A:Fr n} {D:List Deferred} {l:List (Nat × Value)} {w:World} {d:Option Tmp} {ty:TypeId} {ps:String} {af:Array Edge} {g:Option (Nat × Bool)}
theorem r_assertT {x:Operand} {t a:TypeId} {v:Value} (hT:notIfT P a=true) (hx:ev n l x=some (.iface a v)) :
    RunV P ⟨d,.typeAssert x t a true,ty,ps,af,g⟩ (over A D l).eval w (.tuple #[v,.bool true]):=by
  obtain⟨X,hT,B⟩:=notIfT_spec hT
  cases X <;> simp_all [RunV,execOp,ev_eval hx,Instr.typeAssert,run_underlying hT]
end
end Go.Wk
namespace Go.Proofs.YtkkfbaijodhobaaGreat
open Go Go.Wk Go.RowKit
set_option linter.unusedVariables false
set_option linter.unusedSimpArgs false
attribute [local irreducible] wpList wpQuiet wpStill wpMix Code.wp Calls bodyPost
variable {w:World} {Q:Nat→Prop}
theorem leGet_any (uQ:Up w Q) {v0:Value} {l:Ly} (h0:Ls tB8 w Q v0 l) (a:Int) (a1:(-9223372036854775808≤a∧a<9223372036854775808)) (n:Int) (a2:(-9223372036854775808≤n∧n<9223372036854775808)) :
  Calls Zp 93 #[v0,(.int .i64 (a:Int)),(.int .i64 (n:Int))] w fun en w'=>∃r0:Nat,∃r1:Bool,en = .returned (.tuple #[(.int .u64 r0),(.bool r1)])∧Md [] w w'∧r0<18446744073709551616∧getF l a n=(r0,r1):=by
 have p:=h0.len63;have M:=Md.refl [] w;have j:=uQ;have P:∀b,Q b→Q b:=fun _ h=>h;have F:∀b,Q b→b<w.heap.size→Q b:=fun _ h _=>h;refine enter (n:=42) Tryz.func93 q q q fun B=>ns (asg q (an q (c_seq (nm q (st_call fn129 q (leSize_any uQ (n) (by omega)) ?_)))));rintro en u ⟨Z,rfl,R,d⟩;refine rv ?_;obtain⟨h0,uQ,M⟩:=k3 R h0 uQ M;refine st _ (r_not q) (mv q ?_);refine part_n (t:=13) q (fun C=>?_) (fun C=>?_)
 ·(have J:=bnt C);refine sk C (sk C (st _ (r_pick_t q C q) (mv q (sk q (sk q (sk q (sk q (sk q (sk q (st _ (r_pick_t q q q) (nt (c_if_t q q (ns ?_)))))))))))));refine asg q (ar q (r_then ?_));exact retL (vs:=[(.int .u64 ((0:Nat):Int)),(.bool false)]) trivial q ⟨q,q,tV⟩ q ⟨0,false,q,M,(by omega),(getF_no (by rintro⟨U,V,W⟩;simp_all))⟩
 ·(have J:=bnf C);refine sg C (r_move q) (sg C (r_lt (a:=a) (b:=0) q q) (st _ (r_pick_f q C q) (mv q ?_)));refine part_n (t:=17) q (fun A=>?_) (fun A=>?_)
  ·(have K:=dT A);refine sk A (sk A (sk A (sk A (sk A (sk A (st _ (r_pick_t q A q) (nt (c_if_t q q (ns (asg q (ar q ?_)))))))))));refine r_then ?_;exact retL (vs:=[(.int .u64 ((0:Nat):Int)),(.bool false)]) trivial q ⟨q,q,tV⟩ q ⟨0,false,q,M,(by omega),(getF_no (by rintro⟨U,V,W⟩;omega))⟩
  ·(have K:=dF A);have e:=sizeOk_le (n:=n) (by simp_all);refine sg A (r_move q) (sg A (r_move q) (sg A (r_len q u22 h0.shp) (sg A (r_move q) (sg A (r_subI (a:=((l.length:Nat):Int)) (b:=n) q q (by omega)) (sg A (r_gt (a:=a) (b:=((l.length:Nat):Int)-n) q q) (st _ (r_pick_f q A q) (nt ?_)))))));refine c_if q (fun G=>?_) (fun G=>?_)
   ·(have L:=dT G);refine ns (asg q (ar q (r_then ?_)));exact retL (vs:=[(.int .u64 ((0:Nat):Int)),(.bool false)]) trivial q ⟨q,q,tV⟩ q ⟨0,false,q,M,(by omega),(getF_no (by rintro⟨U,V,W⟩;omega))⟩
   ·(have L:=dF G);refine c_skip (c_then (c_seq ?_));have T:sizeOk n=true∧0≤a∧a+n≤l.length:=⟨by simp_all,by omega,by omega⟩;have e:=sizeOk_le T.1;refine c_region (an q (c_seq (nm q (st _ (r_subI (a:=n) (b:=1) q q (by omega)) (asg q (nt (c_block ?_)))))))
    refine loop2 (fun(v:Nat) (i:Int)=>[(8,(.int .u64 v)),(9,(.int .i64 (i:Int))),(0,v0),(1,(.int .i64 (a:Int))),(6,(.int .u64 ((0:Nat):Int))),(7,(.bool false))]) (fun(v:Nat) (i:Int) w'=>∃Q':Nat→Prop,(∀b,Q' b→Q b)∧(∀b,Q b→b<w.heap.size→Q' b)∧Up w' Q'∧Md [] w w'∧Ls tB8 w' Q' v0 l∧(-1≤i∧i<n)∧v=leN ((l.drop (a+(i+1)).toNat).take (n-1-i).toNat)∧v<18446744073709551616) (fun(v:Nat) (i:Int)=>(i+1).toNat) (x0:=0) (x1:=(n-1)) ?_ ?_ ?_
    ·exact⟨q,q,q,q,q,q,tV⟩
    ·exact⟨Q,P,F,uQ,M,h0,(by omega),(by simp[show n-1-(n-1)=0 by omega,leN]),(by omega)⟩
    ·clear M uQ P F h0
     rintro v i B x ⟨c,P,F,uQ,M,h0,X,D,Y⟩;refine c_seq (nm q (st _ (r_ge (a:=i) (b:=0) q q) (nt ?_)));refine c_if q (fun H=>?_) (fun H=>?_)
     ·(have N:=dT H);have f:=leN_lt_of (l:=(l.drop (a+(i+1)).toNat).take (n-1-i).toNat) (k:=7) (by simp;omega);rw[← D]at f;refine c_skip (c_then (c_seq (c_block (c_region (mv q (st _ (r_shlW (a:=v) (b:=8) 18446744073709551616 q q 64 q q q (by omega)) (m2 q q (mv q (st _ (r_addI (a:=a) (b:=i) q q (by omega)) (st _ (r_indexZ (i:=a+i) 1 q q u22 el5 h0.shp (by omega)) ?_))))))))));obtain⟨I,O⟩:=getE (l:=l) (i:=(a+i).toNat) (by omega);obtain⟨r,S,E⟩:=h0.get O;obtain⟨rfl,_⟩:=S;have o:=UInt8.toNat_lt I;replace E:At _ v0 (((a+i).toNat)*1) [(b8 I)]:=E;refine st _ ((r_loadE (kk:=((a+i).toNat)*1) 0 q q one5 E q).to (b:=(b8 I)) q) (st _ (r_convN (a:=I.toNat) 18446744073709551616 q (by rw[u5];rfl) u23 q (lj (UInt8.toNat_lt _) (by decide))) (st _ (r_orN (a:=(v*2 ^ 8%18446744073709551616)) (b:=I.toNat) 18446744073709551616 q q q q (by omega)) (asg q (st_nil ?_))));clear E;refine n_block (c_then (c_region (mv q (st _ (r_subI (a:=i) (b:=1) q q (by omega)) (an q ?_)))));refine next2 (x0:=((v*2 ^ 8%18446744073709551616) ||| I.toNat)) (x1:=(i-1)) (by omega) ⟨(fitI q (by rfl)),(fitI q (by omega)),q,q,q,q,tV⟩ ⟨c,P,F,uQ,M,h0,(by omega),(by rw[shl_or (by omega),D];have g:=leN_step (k:=(n-1-i).toNat) O;rw[show(n-1-(i-1)).toNat=(n-1-i).toNat+1 by omega,show(a+(i-1+1)).toNat=(a+i).toNat by omega,g,show(a+i).toNat+1=(a+(i+1)).toNat by omega]),(by rw[shl_or (by omega)];have:=UInt8.toNat_lt I;omega)⟩
     ·(have N:=dF H);refine c_exit (x_then (x_then (x_hit (c_then (nm q (asg q (ar q ?_)))))));exact retL (vs:=[(.int .u64 v),(.bool true)]) trivial q ⟨q,q,tV⟩ q ⟨v,true,q,M,(by assumption),(by rw[getF,if_pos (by omega),D,show i = -1 by omega];simp)⟩
theorem agg52:isAggN Zp 52 91=true:=by kernel_rfl
theorem el175:elemIs Zp 175 1=true:=by kernel_rfl
theorem el178:elemIs Zp 178 1=true:=by kernel_rfl
theorem elT175:elT Zp 175 1 8=true:=by kernel_rfl
theorem elT178:elT Zp 178 1 8=true:=by kernel_rfl
theorem fn92:isFn Zp 92=true:=by kernel_rfl
theorem fn94:isFn Zp 94=true:=by kernel_rfl
theorem fn95:isFn Zp 95=true:=by kernel_rfl
theorem off52_0:fieldOff Zp 52 0=some 0:=by kernel_rfl
theorem off52_1:fieldOff Zp 52 1=some 1:=by kernel_rfl
theorem off52_10:fieldOff Zp 52 10=some 70:=by kernel_rfl
theorem off52_11:fieldOff Zp 52 11=some 71:=by kernel_rfl
theorem off52_12:fieldOff Zp 52 12=some 72:=by kernel_rfl
theorem off52_13:fieldOff Zp 52 13=some 73:=by kernel_rfl
theorem off52_14:fieldOff Zp 52 14=some 74:=by kernel_rfl
theorem off52_15:fieldOff Zp 52 15=some 75:=by kernel_rfl
theorem off52_16:fieldOff Zp 52 16=some 76:=by kernel_rfl
theorem off52_17:fieldOff Zp 52 17=some 77:=by kernel_rfl
theorem off52_18:fieldOff Zp 52 18=some 78:=by kernel_rfl
theorem off52_19:fieldOff Zp 52 19=some 79:=by kernel_rfl
theorem off52_2:fieldOff Zp 52 2=some 2:=by kernel_rfl
theorem off52_20:fieldOff Zp 52 20=some 80:=by kernel_rfl
theorem off52_21:fieldOff Zp 52 21=some 81:=by kernel_rfl
theorem off52_22:fieldOff Zp 52 22=some 82:=by kernel_rfl
theorem off52_23:fieldOff Zp 52 23=some 83:=by kernel_rfl
theorem off52_24:fieldOff Zp 52 24=some 84:=by kernel_rfl
theorem off52_25:fieldOff Zp 52 25=some 85:=by kernel_rfl
theorem off52_26:fieldOff Zp 52 26=some 86:=by kernel_rfl
theorem off52_27:fieldOff Zp 52 27=some 87:=by kernel_rfl
theorem off52_28:fieldOff Zp 52 28=some 88:=by kernel_rfl
theorem off52_29:fieldOff Zp 52 29=some 89:=by kernel_rfl
theorem off52_3:fieldOff Zp 52 3=some 3:=by kernel_rfl
theorem off52_30:fieldOff Zp 52 30=some 90:=by kernel_rfl
theorem off52_4:fieldOff Zp 52 4=some 19:=by kernel_rfl
theorem off52_5:fieldOff Zp 52 5=some 35:=by kernel_rfl
theorem off52_6:fieldOff Zp 52 6=some 51:=by kernel_rfl
theorem off52_7:fieldOff Zp 52 7=some 67:=by kernel_rfl
theorem off52_8:fieldOff Zp 52 8=some 68:=by kernel_rfl
theorem off52_9:fieldOff Zp 52 9=some 69:=by kernel_rfl
theorem one175:isOne Zp 175=true:=by kernel_rfl
theorem one178:isOne Zp 178=true:=by kernel_rfl
theorem pl52:bplace Zp 52=some [(0,1),(1,1),(2,1),(3,16),(19,16),(35,16),(51,16),(67,1),(68,1),(69,1),(70,1),(71,1),(72,1),(73,1),(74,1),(75,1),(76,1),(77,1),(78,1),(79,1),(80,1),(81,1),(82,1),(83,1),(84,1),(85,1),(86,1),(87,1),(88,1),(89,1),(90,1)]:=by kernel_rfl
theorem u173:Zp.underlying 173=some (.slice 175):=by kernel_rfl
theorem u176:Zp.underlying 176=some (.slice 178):=by kernel_rfl
theorem z52:zcells Zp 52=some ([.int .u32 0,.int .u32 0,.int .i64 0] ++ (List.replicate 64 (.int .u8 0) ++ (List.replicate 21 (.int .u64 0) ++ ([.int .u32 0,.int .u32 0,.int .u64 0])))):=by kernel_rfl
theorem hIds_any {w:World} {b:Nat}:Calls Zp 94 #[.pointer (some ⟨b,0,none⟩)] w fun en w'=>∃x,en = .returned (.slice (some ⟨x,0,none⟩) 4 4)∧w.heap.size≤x∧Md [] w w'∧Blk w' x (ptrs b 3 16 4) 175:=by
 refine enter (n:=16) Tryz.func94 q q q fun B=>ns (an q (c_seq (c_mixT (ml 12) [12,13] (fun w'=>Md [] w w') mixed (by kernel_rfl) ?_)));intro I C;refine⟨C,?_⟩;refine mo q (mz (fun w' A=>r_nil q) (mz (fun w' A=>r_field q off52_3) (mo q (mz (fun w' A=>r_nil q) (mz (fun w' A=>r_field q off52_4) (mo q (mz (fun w' A=>r_nil q) (mz (fun w' A=>r_field q off52_5) (mo q (mz (fun w' A=>r_nil q) (mz (fun w' A=>r_field q off52_6) (m_nil (st_buildSlice u173 elT175 (by decide) q q q (by simp[OneAll,Value.oneCell']) (by decide) ?_)))))))))))));intro x G E H D F;refine ar q ?_;exact ret1 trivial q q ⟨x,q,ly C.size E,C.k D,(show Blk G x (ptrs b 3 16 4) 175 from F)⟩
theorem hLong_any {w:World} {b:Nat}:Calls Zp 95 #[.pointer (some ⟨b,0,none⟩)] w fun en w'=>∃x,en = .returned (.slice (some ⟨x,0,none⟩) 21 21)∧w.heap.size≤x∧Md [] w w'∧Blk w' x (ptrs b 67 1 21) 178:=by
 refine enter (n:=67) Tryz.func95 q q q fun B=>ns (an q (c_seq (c_mixT (ml 63) [63,64] (fun w'=>Md [] w w') mixed (by kernel_rfl) ?_)));intro I C;refine⟨C,?_⟩;refine mo q (mz (fun w' A=>r_nil q) (mz (fun w' A=>r_field q off52_7) (mo q (mz (fun w' A=>r_nil q) (mz (fun w' A=>r_field q off52_8) (mo q (mz (fun w' A=>r_nil q) (mz (fun w' A=>r_field q off52_9) (mo q (mz (fun w' A=>r_nil q) (mz (fun w' A=>r_field q off52_10) (mo q (mz (fun w' A=>r_nil q) ?_)))))))))))));refine mz (fun w' A=>r_field q off52_11) (mo q (mz (fun w' A=>r_nil q) (mz (fun w' A=>r_field q off52_12) (mo q (mz (fun w' A=>r_nil q) (mz (fun w' A=>r_field q off52_13) (mo q (mz (fun w' A=>r_nil q) (mz (fun w' A=>r_field q off52_14) (mo q (mz (fun w' A=>r_nil q) (mz (fun w' A=>r_field q off52_15) (mo q ?_)))))))))))));refine mz (fun w' A=>r_nil q) (mz (fun w' A=>r_field q off52_16) ?_)
 refine mo q (mz (fun w' A=>r_nil q) (mz (fun w' A=>r_field q off52_17) (mo q (mz (fun w' A=>r_nil q) (mz (fun w' A=>r_field q off52_18) (mo q (mz (fun w' A=>r_nil q) (mz (fun w' A=>r_field q off52_19) (mo q (mz (fun w' A=>r_nil q) (mz (fun w' A=>r_field q off52_20) (mo q (mz (fun w' A=>r_nil q) ?_)))))))))))));refine mz (fun w' A=>r_field q off52_21) (mo q (mz (fun w' A=>r_nil q) (mz (fun w' A=>r_field q off52_22) (mo q (mz (fun w' A=>r_nil q) (mz (fun w' A=>r_field q off52_23) (mo q (mz (fun w' A=>r_nil q) (mz (fun w' A=>r_field q off52_24) (mo q (mz (fun w' A=>r_nil q) (mz (fun w' A=>r_field q off52_25) (mo q ?_)))))))))))));refine mz (fun w' A=>r_nil q) (mz (fun w' A=>r_field q off52_26) (mo q (mz (fun w' A=>r_nil q) (mz (fun w' A=>r_field q off52_27) (m_nil (st_buildSlice u176 elT178 (by decide) q q q (by simp[OneAll,Value.oneCell']) (by decide) ?_))))));intro x G E H D F;refine ar q ?_;exact ret1 trivial q q ⟨x,q,ly C.size E,C.k D,(show Blk G x (ptrs b 67 1 21) 178 from F)⟩
theorem hFour_any {w:World} {Q:Nat→Prop} {b1:Nat} {v0:Value} {l:Ly} (hB:Blk w b1 [v0] 22) (h0:Ls tB8 w Q v0 l) (a:Nat) (ha:a+4≤l.length) :
  Calls Zp 92 #[.int .i64 (a:Int),.pointer (some ⟨b1,0,none⟩)] w fun en w'=>en = .returned (.int .u32 ((at4 l a:Nat):Int))∧Md [] w w':=by
 have L:=h0.len63;refine enter (n:=14) Tryz.func92 q q q fun B=>ns (an q (ns (st _ (r_loadBlk q one22 hB q) (mv q (st_call fn93 q (leGet_any (Q:=fun _=>True) (fun _ _=>trivial) (h0.sub fun _ _ _=>trivial) (a:Int) (by omega) 4 (by omega)) ?_)))));rintro en H ⟨F,G,rfl,D,E,A⟩;refine rv ?_;have C:getF l a 4=(at4 l a,true):=getF_at (k:=4) (.inl q) ha;rw[C]at A;obtain⟨rfl,rfl⟩:=Prod.mk.inj A;refine mv q (se q q (se q q (asg q (an q (nm q (st _ (r_convN (a:=at4 l a) 4294967296 q (by rw[u23];rfl) u48 q (at4_lt _ _)) (ar q ?_)))))));exact ret1 trivial q q ⟨q,D⟩
set_option maxRecDepth 100000 in
theorem hParse_any (uQ:Up w Q) {v0:Value} {b:Ly} (h00:Ls tB8 w Q v0 b) (p0:272≤b.length) :
  Calls Zp 47 #[v0] w fun en w'=>∃r0:PHead,en = .returned (.agg (PHead.cells r0).toArray)∧Md [] w w'∧PHead.ok r0∧parseF b=r0:=by
 have L:=h00.len63;obtain⟨U,f,F⟩:∃U:Nat→Prop,(∀x,w.heap.size≤x→¬U x)∧Ls tB8 w U v0 b:=⟨fun x=>x<w.heap.size,fun x h k=>by omega,h00.sub fun x _ h=>h⟩;clear h00;have M:=Md.refl [] w;refine enter (n:=73) Tryz.func47 q q q fun B=>ns (st_box q (cells_one F.oneCell) ?_);intro O w1 g1 l1 C A;obtain⟨F,M⟩:=k2 C F M;refine st_alloc z52 ?_;intro S w2 t l2 C E;replace F:=F.o C;obtain⟨Z,hZ,E⟩:∃Z,(PHead.cells (headUp b 0 0 0 0)).length=Z.length∧Blk w2 S Z 52:=⟨_,q,E⟩;have Am:O≠S:=(by have:=A.lt;omega);replace A:=A.o C;replace t:=ly M.size t;replace M:=M.k C;refine nt (ns (st _ (r_loadBlk q one22 A q) (st _ (r_indexN (i:=16) 1 q q u22 el5 F.shp (by omega)) ?_)));obtain⟨x,hx⟩:=getE (l:=b) (i:=16) (by omega);obtain⟨cx,Aa,R⟩:=F.get hx;obtain⟨rfl,_⟩:=Aa;have ex:b.getD 16 0=x:=(by simp[List.getD,hx]);have lx:=UInt8.toNat_lt x;replace R:At _ v0 (16*1) [(b8 x)]:=R;refine st _ ((r_loadE (kk:=16*1) 0 q q one5 R q).to (b:=(b8 x)) q) ?_;clear R;refine st _ (r_convN (a:=x.toNat) 9223372036854775808 q (by rw[u5];rfl) u3 q (by omega)) (st (.agg (PHead.cells (headUp b 0 0 0 0)).toArray) (by rw[show PHead.cells (headUp b 0 0 0 0)=PHead.cells {headUp b 0 0 0 0 with state:=x.toNat} by rw[← ex];rfl];exact r_build (cs:=PHead.cells {headUp b 0 0 0 0 with state:=x.toNat}) (ps:=[(2,2)]) z52 pl52 q q (by simp[OneAll,Value.oneCell']) q q q) (st_alloc z52 ?_));intro I w3 P l3 C D;replace F:=F.o C;have K:O≠I:=(by have:=A.lt;omega);have J:S≠I:=(by have:=E.lt;omega);obtain⟨A,E⟩:=k2 C A E;replace P:=ly M.size P;replace M:=M.k C;refine st_storeAll q q (by exact agg52) (fun u hu=>one_cells PHead.one u hu) D q ?_;intro w4 C D;have N:∀x∈[I],¬U x:=(by intro y r;simp at r;subst r;exact f _ P);have Ao:∀x∈[S],¬U x:=(by intro y r;simp at r;subst r;exact f _ t);replace F:=F.md C N;replace A:=A.md1 C K;replace E:=E.md1 C J;replace M:=M.step1 C P;refine nt (c_seq ?_)
 refine c_region (st _ (r_makeFunc q) (an q (nm q (st_callV (cs:=[.pointer (some ⟨O,0,none⟩)]) q fn92 q (hFour_any A F 8 (by omega)) ?_))));rintro en w5 ⟨rfl,C⟩;refine rv ?_;obtain⟨F,A,E,D,M⟩:=k5 C F A E D M;refine mv q (st_callV (cs:=[.pointer (some ⟨O,0,none⟩)]) q fn92 q (hFour_any A F 12 (by omega)) ?_);rintro en w6 ⟨rfl,C⟩;refine rv ?_;obtain⟨F,A,E,D,M⟩:=k5 C F A E D M;refine sf q off52_0 (st_store q q one48 q D (by(show _<91;decide)) ?_);intro w7 C D;replace F:=F.md C N;replace A:=A.md1 C K;replace E:=E.md1 C J;replace M:=M.step1 C P;refine sf q off52_1 (st_store q q one48 q D (by(show _<91;decide)) ?_);intro w8 C D;replace F:=F.md C N;replace A:=A.md1 C K;replace E:=E.md1 C J;replace M:=M.step1 C P;replace D:Blk w8 I (PHead.cells (headUp b (at4 b 8) (at4 b 12) 0 0)) 52:=D;refine nt (ns (an q (c_seq (ns (st_call fn94 q (hIds_any (b:=I)) ?_)))));rintro en w9 ⟨Y,rfl,gi,C,G⟩;refine rv ?_;have Ac:Y≠I:=(by have:=D.lt;omega);obtain⟨F,A,E,D⟩:=k4 C F A E D;replace gi:=ly M.size gi;replace M:=M.k C;have g:Shp (.slice (some ⟨Y,0,none⟩) 4 4) 4:=⟨_,_,q,Nat.le_refl _,by simp[maxLen],by simp⟩;refine sL q u173 g (mv q (nt (c_block ?_)))
 refine loop2 (fun(k:Nat) (a:Nat)=>[(24,(.int .i64 k)),(5,(.int .i64 a)),(1,.pointer (some ⟨O,0,none⟩)),(2,.pointer (some ⟨S,0,none⟩)),(3,.pointer (some ⟨I,0,none⟩)),(4,.func (.func 92) #[] #[.pointer (some ⟨O,0,none⟩)]),(22,.slice (some ⟨Y,0,none⟩) 4 4),(23,.int .i64 ((4:Nat):Int))])
  (fun(k:Nat) (a:Nat) w'=>Md [] w w'∧Ls tB8 w' U v0 b∧Blk w' O [v0] 22∧Blk w' S Z 52∧Blk w' I (PHead.cells (headUp b (at4 b 8) (at4 b 12) k 0)) 52∧Blk w' Y (ptrs I 3 16 4) 175∧k≤4∧a=24+16*k) (fun(k:Nat) (a:Nat)=>4-k) (x0:=0) (x1:=24) ?_ ?_ ?_
 ·exact⟨q,q,q,q,q,q,q,q,tV⟩
 ·exact⟨M,F,A,E,D,G,by omega,q⟩
 clear M F A E D G
 rintro k a B Aq ⟨M,F,A,E,D,G,hk,p⟩;refine ns (st _ (r_ltN (a:=k) (b:=4) q q) (nt (c_seq ?_)));refine c_if q (fun V=>?_) (fun V=>?_)
 ·have d:=dT V
  refine c_skip (c_then (c_seq (c_block (ns (st _ ((r_indexN (i:=k) 1 q q u173 el175 g (by omega)).to (b:=.pointer (some ⟨Y,k,none⟩)) (by simp[elemp,Addr.add_mk])) (st _ (r_loadBlk (b:=Y) (j:=k) (u:=.pointer (some ⟨I,3+k*16,none⟩)) q one175 G (ptrs_get (by omega))) (an q ?_)))))));have v:=F.shp;refine c_mix [(0,true),(1,true),(2,true),(3,true),(4,true),(5,true),(6,true),(7,false),(8,true),(9,true)] (fun w'=>Blk w' O [v0] 22) mixed (by kernel_rfl) ?_;intro Ar C;obtain⟨F,A,E,D,G,M⟩:=k6 C F A E D G M;refine⟨A,?_⟩;refine mo q (mo q (mz (fun w' X=>r_nil q) (mz (fun w' X=>r_sliceArr u50 el5 q (by decide)) (mz (fun w' X=>r_loadBlk q one22 X q) (mo q (Go.Wk.m (subv v0 a b.length) (fun w' X=>by exact r_slice a b.length u22 el5 q v (by omega) (by omega) ⟨_,q⟩ q) ?_))))));refine m_e ?_ rfl;have hT:=F.by.tail a (by omega);refine st_copy u22 el5 q q D hT (one_b8 _) (by have:(PHead.cells (headUp b (at4 b 8) (at4 b 12) k 0)).length=91:=rfl;simp;omega) ?_;intro As C D;clear hT;rw[← List.map_take,p,ids_step (by omega) p0]at D;replace F:=F.md C N;replace A:=A.md1 C K;replace E:=E.md1 C J;replace G:=G.md1 C Ac;replace M:=M.step1 C P;refine st_nil ⟨q,A,?_⟩;have Ai:min ((b.drop a).map b8).length 16=16:=(by simp;omega);refine mz (fun w' X=>r_addN (a:=a) (b:=min ((b.drop a).map b8).length 16) 9223372036854775808 q q q (by omega)) (mz (fun w' X=>r_assign q) (m_nil (n_block (c_then (c_region (st _ (rA (a:=k) (b:=1) q q (by omega)) (mv q (nt ?_))))))));exact next2 (x0:=k+1) (x1:=a+min ((b.drop a).map b8).length 16) (by omega) ⟨q,q,q,q,q,q,q,q,tV⟩ ⟨M,F,A,E,D,G,by omega,by omega⟩
 have d:=dF V
 obtain rfl:k=4:=by omega
 subst p;clear G;refine c_exit (x_then (x_then (x_hit (c_then (c_seq (ns (st_call fn95 q (hLong_any (b:=I)) ?_)))))));rintro en Au ⟨c,rfl,gj,C,H⟩;refine rv ?_;have Ad:c≠I:=(by have:=D.lt;omega);obtain⟨F,A,E,D,M⟩:=k5 C F A E D M;have o:Shp (.slice (some ⟨c,0,none⟩) 21 21) 21:=⟨_,_,q,Nat.le_refl _,by simp[maxLen],by simp⟩;refine sL q u176 o (mv q (nt (c_block ?_)))
 refine loop2 (fun(j:Nat) (a:Nat)=>[(40,(.int .i64 j)),(5,(.int .i64 a)),(1,.pointer (some ⟨O,0,none⟩)),(2,.pointer (some ⟨S,0,none⟩)),(3,.pointer (some ⟨I,0,none⟩)),(4,.func (.func 92) #[] #[.pointer (some ⟨O,0,none⟩)]),(38,.slice (some ⟨c,0,none⟩) 21 21),(39,.int .i64 ((21:Nat):Int))])
  (fun(j:Nat) (a:Nat) w'=>Md [] w w'∧Ls tB8 w' U v0 b∧Blk w' O [v0] 22∧Blk w' S Z 52∧Blk w' I (PHead.cells (headUp b (at4 b 8) (at4 b 12) 4 j)) 52∧Blk w' c (ptrs I 67 1 21) 178∧j≤21∧a=88+8*j) (fun(j:Nat) (a:Nat)=>21-j) (x0:=0) (x1:=24+16*4) ?_ ?_ ?_
 ·exact⟨q,q,q,q,q,q,q,q,tV⟩
 ·exact⟨M,F,A,E,D,H,by omega,q⟩
 clear M F A E D H
 rintro j a B Aw ⟨M,F,A,E,D,H,hj,p⟩;refine ns (st _ (r_ltN (a:=j) (b:=21) q q) (nt (c_seq ?_)));refine c_if q (fun W=>?_) (fun W=>?_)
 ·have T:=dT W
  refine c_skip (c_then (c_seq (c_block (ns (st _ ((r_indexN (i:=j) 1 q q u176 el178 o (by omega)).to (b:=.pointer (some ⟨c,j,none⟩)) (by simp[elemp,Addr.add_mk])) (st _ (r_loadBlk (b:=c) (j:=j) (u:=.pointer (some ⟨I,67+j*1,none⟩)) q one178 H (ptrs_get (by omega))) (an q (nm q (st _ (r_loadBlk q one22 A q) (mv q (st_call fn93 q (leGet_any (Q:=fun _=>True) (fun _ _=>trivial) (F.sub fun _ _ _=>trivial) (a:Int) (by omega) 8 (by omega)) ?_)))))))))));rintro en Ax ⟨r0,r1,rfl,C,hr,e⟩;refine rv ?_;have z:getF b a 8=(at8 b a,true):=getF_at (k:=8) (.inr q) (by omega);rw[z]at e;obtain⟨rfl,rfl⟩:=Prod.mk.inj e;obtain⟨F,A,E,D,H,M⟩:=k6 C F A E D H M;refine mv q (st (.int .u64 ((at8 b a:Nat):Int)) (r_extract q q) (se q q (sn q (st_store (b:=I) (j:=67+j*1) q q one23 q D (by have:(PHead.cells (headUp b (at4 b 8) (at4 b 12) 4 j)).length=91:=rfl;omega) ?_))));intro Ay C D;rw[Nat.mul_one,p,long_step T]at D;replace F:=F.md C N;replace A:=A.md1 C K;replace E:=E.md1 C J;replace H:=H.md1 C Ad;replace M:=M.step1 C P;refine nt (c_region (mv q (st _ (rA (a:=a) (b:=8) q q (by omega)) (asg q (st_nil (n_block (c_then (c_region (st _ (rA (a:=j) (b:=1) q q (by omega)) (mv q (nt ?_)))))))))));exact next2 (x0:=j+1) (x1:=a+8) (by omega) ⟨q,q,q,q,q,q,q,q,tV⟩ ⟨M,F,A,E,D,H,by omega,by omega⟩
 have T:=dF W
 obtain rfl:j=21:=by omega
 subst p;clear H;refine c_exit (x_then (x_then (x_hit (c_then (ns (m2 q q (st_callV (cs:=[.pointer (some ⟨O,0,none⟩)]) q fn92 q (hFour_any A F 256 (by omega)) ?_)))))));rintro en Az ⟨rfl,C⟩;refine rv ?_;obtain⟨F,A,E,D,M⟩:=k5 C F A E D M;refine m2 q q (st _ (rA (a:=256) (b:=4) q q (by omega)) (st_callV (cs:=[.pointer (some ⟨O,0,none⟩)]) q fn92 q (hFour_any A F 260 (by omega)) ?_));rintro en A0 ⟨rfl,C⟩;refine rv ?_;obtain⟨F,A,E,D,M⟩:=k5 C F A E D M;refine sf q off52_28 (st_store q q one48 q D (by(show _<91;decide)) ?_);intro A1 C D;replace F:=F.md C N;replace A:=A.md1 C K;replace E:=E.md1 C J;replace M:=M.step1 C P;refine sf q off52_29 (st_store q q one48 q D (by(show _<91;decide)) ?_);intro A2 C D;replace F:=F.md C N;replace A:=A.md1 C K;replace E:=E.md1 C J;replace M:=M.step1 C P;refine nt (ns (st _ (r_loadBlk q one22 A q) (mv q (st _ (rA (a:=256) (b:=8) q q (by omega)) (st_call fn93 q (leGet_any (Q:=fun _=>True) (fun _ _=>trivial) (F.sub fun _ _ _=>trivial) ((264:Nat):Int) (by omega) 8 (by omega)) ?_)))));rintro en A3 ⟨r0,r1,rfl,C,hr,e⟩;refine rv ?_;have z:getF b ((264:Nat):Int) 8=(at8 b 264,true):=getF_at (k:=8) (.inr q) (by omega);rw[z]at e;obtain⟨rfl,rfl⟩:=Prod.mk.inj e;obtain⟨E,D,M⟩:=k3 C E D M;refine mv q (st (.int .u64 ((at8 b 264:Nat):Int)) (r_extract q q) (se q q (sf q off52_30 (st_store q q one23 q D (by(show _<91;decide)) ?_))));intro Ae C D;replace E:=E.md1 C J;replace M:=M.step1 C P
 replace D:Blk Ae I (PHead.cells (parseF b)) 52:=D;refine nt (ns (st _ (r_loadAll q (by exact agg52) D) (st_storeAll q q (by exact agg52) (fun u hu=>one_cells PHead.one u hu) E hZ ?_)));intro A4 C E;replace M:=M.step1 C t;refine nt (c_ret ?_);exact retc trivial q q (by exact agg52) E ⟨_,q,M,parse_ok p0,q⟩
theorem fn91:isFn Zp 91=true:=by kernel_rfl
theorem hEqual_any (uQ:Up w Q) {v0:Value} {a:Ly} (h0:Ls tB8 w Q v0 a) {v1:Value} {b:Ly} (h1:Ls tB8 w Q v1 b) :
  Calls Zp 91 #[v0,v1] w fun en w'=>∃r0:Bool,en = .returned (.bool r0)∧Md [] w w'∧decide (a=b)=r0:=by
 have C:=h0.len63;have D:=h1.len63;have M:=Md.refl [] w;have A:=uQ;refine enter (n:=10) Tryz.func91 q q q fun B=>ns (an q (nm q (st _ (r_convBS (s:=a) u22 u5 u9 q h0.by) (mv q (st _ (r_convBS (s:=b) u22 u5 u9 q h1.by) (st _ (r_eqlS (a:=a) (b:=b) q q) (ar q ?_)))))));exact ret1L (v:=(.bool ((decide (a=b))))) trivial q ⟨q,tV⟩ ⟨(decide (a=b)),q,M,(by simp(disch:=first|omega|assumption|simp) only [SS,reduceIte])⟩
theorem hPref_any (uQ:Up w Q) {v0:Value} {b:Ly} (h0:Ls tB8 w Q v0 b) {v1:Value} {p:Ly} (h1:Ls tB8 w Q v1 p) :
  Calls Zp 46 #[v0,v1] w fun en w'=>∃r0:Bool,en = .returned (.bool r0)∧Md [] w w'∧prefF b p=r0:=by
 have I:=h0.len63;have J:=h1.len63;have M:=Md.refl [] w;have H:=uQ;refine enter (n:=18) Tryz.func46 q q q fun B=>ns (an q (nm q (sL q u22 h0.shp (mv q (sL q u22 h1.shp (st _ (r_geN (a:=b.length) (b:=p.length) q q) (mv q ?_)))))));refine part_n (t:=10) q (fun A=>?_) (fun A=>?_)
 ·(have C:=dT A);refine sg A (r_move q) (sg A (r_move q) (sg A (r_len q u22 h1.shp) (sg A (r_sliceZ 1 0 p.length u22 el5 q h0.shp (by omega) (by omega) q ⟨_,q⟩) ?_)));have F:=h0.head (hi:=p.length) (by omega);refine sg A (r_move q) (st_call_g q q q A fn91 q (hEqual_any uQ F h1) ?_);rintro en K ⟨D,rfl,G,E⟩;refine rv ?_;replace M:=M.k G;refine st _ (r_pick_t q A q) (ar q ?_);exact ret1L (v:=(.bool D)) trivial q ⟨q,tV⟩ ⟨D,q,M,(by rw[prefF]<;>simp(disch:=first|omega|assumption|simp) only [SS,reduceIte,C,E])⟩
 (have C:=dF A);refine sk A (sk A (sk A (sk A (sk A (sk A (st _ (r_pick_f q A q) (ar q ?_)))))));exact ret1L (v:=(.bool false)) trivial q ⟨q,tV⟩ ⟨false,q,M,(by rw[prefF]<;>simp(disch:=first|omega|assumption|simp) only [SS,reduceIte,C])⟩
theorem hEnd_any (uQ:Up w Q) (h:PHead) (a0_0:PHead.ok h) :
  Calls Zp 18 #[.agg (PHead.cells h).toArray] w fun en w'=>∃r0:Nat,∃r1:Bool,en = .returned (.tuple #[(.int .u64 r0),(.bool r1)])∧Md [] w w'∧r0<18446744073709551616∧endF h=(r0,r1):=by
 have M:=Md.refl [] w;have J:=uQ;refine enter (n:=15) Tryz.func18 q q q fun B=>ns (st_box (cs:=(PHead.cells h)) q q ?_);intro G N C I H E;have F:=uQ _ C;replace C:=ly M.size C;replace M:=M.k H;refine asg q (an q (ns (sf q off52_7 (sl (u:=(.int .u64 ((h.n.getD 0 0:Nat):Int))) q one23 E q ?_))));have K:h.n.getD 0 0<18446744073709551616:=(nums_bd a0_0.2.2.2.2.2.2.2.1 0);refine sf q off52_8 (sl (u:=(.int .u64 ((h.n.getD 1 0:Nat):Int))) q one23 E q ?_);have L:h.n.getD 1 0<18446744073709551616:=(nums_bd a0_0.2.2.2.2.2.2.2.1 1);refine st _ (r_addW (a:=(h.n.getD 0 0)) (b:=(h.n.getD 1 0)) 18446744073709551616 q q q q) (an q (c_seq (nm q (sf q off52_7 (sl (u:=(.int .u64 ((h.n.getD 0 0:Nat):Int))) q one23 E q (st _ (r_ltN (a:=(((h.n.getD 0 0)+(h.n.getD 1 0))%18446744073709551616)) (b:=(h.n.getD 0 0)) q q) (nt ?_)))))));refine c_if q (fun D=>?_) (fun D=>?_)
 ·(have A:=dT D);refine ns (asg q (ar q (r_then ?_)));exact retL (vs:=[(.int .u64 ((0:Nat):Int)),(.bool false)]) trivial q ⟨q,q,tV⟩ q ⟨0,false,q,M,(by omega),(by rw[endF]<;>simp(disch:=first|omega|assumption|simp) only [SS,reduceIte,A])⟩
 (have A:=dF D);refine c_skip (c_then (nm q (asg q (ar q ?_))));exact retL (vs:=[(.int .u64 ((((h.n.getD 0 0)+(h.n.getD 1 0))%18446744073709551616:Nat):Int)),(.bool true)]) trivial q ⟨q,q,tV⟩ q ⟨((h.n.getD 0 0)+(h.n.getD 1 0))%18446744073709551616,true,q,M,(by omega),(by rw[endF]<;>simp(disch:=first|omega|assumption|simp) only [SS,reduceIte,A])⟩
theorem hTable_any (uQ:Up w Q) (h:PHead) (a0_0:PHead.ok h) (p:Nat) (a1:p<18446744073709551616) (size:Nat) (a2:size<18446744073709551616) (e:Nat) (a3:e<18446744073709551616) :
  Calls Zp 48 #[.agg (PHead.cells h).toArray,(.int .u64 p),(.int .u64 size),(.int .u64 e)] w fun en w'=>∃r0:Nat,en = .returned (.int .i64 r0)∧Md [] w w'∧r0<9223372036854775808∧tableF h p size e=r0:=by
 have M:=Md.refl [] w;have X:=uQ;refine enter (n:=45) Tryz.func48 q q q fun B=>ns (st_box (cs:=(PHead.cells h)) q q ?_);intro U Z N W V R;have T:=uQ _ N;replace N:=ly M.size N;replace M:=M.k V;refine an q (c_seq (c_block (nm q (st _ (r_remN (a:=p) (b:=8) q q (by omega)) (st _ (r_neN (a:=(p%8)) (b:=0) q q) (asg q (nt ?_)))))));refine c_if q (fun S=>?_) (fun S=>?_)
 ·(have I:=dT S);refine ns (ar q (r_block (r_then ?_)));exact ret1L (v:=(.int .i64 ((3:Nat):Int))) trivial q ⟨q,tV⟩ ⟨3,q,M,(by omega),(by rw[tableF]<;>simp(disch:=first|omega|assumption|simp) only [SS,reduceIte,I])⟩
 (have I:=dF S);refine nm q (st _ (r_eqN (a:=size) (b:=0) q q) (mv q ?_));refine part_n (t:=16) q (fun F=>?_) (fun F=>?_)
 ·(have D:=dT F);refine sk F (sk F (sk F (st _ (r_pick_t q F q) (an q (c_if_t q q (ns (ar q (r_block (r_then ?_)))))))));exact ret1L (v:=(.int .i64 ((5:Nat):Int))) trivial q ⟨q,tV⟩ ⟨5,q,M,(by omega),(by rw[tableF]<;>simp(disch:=first|omega|assumption|simp) only [SS,reduceIte,I,D])⟩
 (have D:=dF F);refine sg F (r_move q) (sg F (r_remN (a:=size) (b:=16) q q (by omega)) (sg F (r_neN (a:=(size%16)) (b:=0) q q) (st _ (r_pick_f q F q) (an q ?_))));refine c_if q (fun O=>?_) (fun O=>?_)
 ·(have E:=dT O);refine ns (ar q (r_block (r_then ?_)));exact ret1L (v:=(.int .i64 ((5:Nat):Int))) trivial q ⟨q,tV⟩ ⟨5,q,M,(by omega),(by rw[tableF]<;>simp(disch:=first|omega|assumption|simp) only [SS,reduceIte,I,D,E])⟩
 (have E:=dF O);refine nm q (sf q off52_7 (sl (u:=(.int .u64 ((h.n.getD 0 0:Nat):Int))) q one23 R q ?_));have Y:h.n.getD 0 0<18446744073709551616:=(nums_bd a0_0.2.2.2.2.2.2.2.1 0);refine st _ (r_ltN (a:=p) (b:=(h.n.getD 0 0)) q q) (mv q ?_);refine part_n (t:=26) q (fun A=>?_) (fun A=>?_)
 ·(have H:=dT A);refine sk A (sk A (sk A (sk A (sk A (st _ (r_pick_t q A q) (mv q (sk q (sk q (sk q (st _ (r_pick_t q q q) (mv q (sk q (sk q ?_)))))))))))));refine sk q (sk q (sk q (st _ (r_pick_t q q q) (an q (c_if_t q q (ns (ar q (r_block (r_then ?_)))))))));exact ret1L (v:=(.int .i64 ((2:Nat):Int))) trivial q ⟨q,tV⟩ ⟨2,q,M,(by omega),(by rw[tableF]<;>simp(disch:=first|omega|assumption|simp) only [SS,reduceIte,I,D,E,H])⟩
 (have H:=dF A);refine sg A (r_move q) (sg A (r_field q off52_7) (sg A ((r_loadBlk q one23 R q).to (b:=(.int .u64 ((h.n.getD 0 0:Nat):Int))) q) (sg A (r_subN (a:=p) (b:=(h.n.getD 0 0)) 18446744073709551616 q q q (by omega)) (sg A (r_ltN (a:=(p-(h.n.getD 0 0))) (b:=16) q q) (st _ (r_pick_f q A q) (mv q ?_))))));refine part_n (t:=33) q (fun G=>?_) (fun G=>?_)
 ·(have J:=dT G);refine sk G (sk G (sk G (st _ (r_pick_t q G q) (mv q (sk q (sk q (sk q (sk q (sk q (st _ (r_pick_t q q q) (an q (c_if_t q q ?_))))))))))));refine ns (ar q (r_block (r_then ?_)));exact ret1L (v:=(.int .i64 ((2:Nat):Int))) trivial q ⟨q,tV⟩ ⟨2,q,M,(by omega),(by rw[tableF]<;>simp(disch:=first|omega|assumption|simp) only [SS,reduceIte,I,D,E,H,J])⟩
 (have J:=dF G);refine sg G (r_move q) (sg G (r_move q) (sg G (r_gtN (a:=p) (b:=e) q q) (st _ (r_pick_f q G q) (mv q ?_))));refine part_n (t:=38) q (fun C=>?_) (fun C=>?_)
 ·(have K:=dT C);refine sk C (sk C (sk C (sk C (sk C (st _ (r_pick_t q C q) (an q (c_if_t q q (ns (ar q (r_block ?_))))))))));refine r_then ?_;exact ret1L (v:=(.int .i64 ((2:Nat):Int))) trivial q ⟨q,tV⟩ ⟨2,q,M,(by omega),(by rw[tableF]<;>simp(disch:=first|omega|assumption|simp) only [SS,reduceIte,I,D,E,H,J,K])⟩
 (have K:=dF C);refine sg C (r_move q) (sg C (r_move q) (sg C (r_move q) (sg C (r_subN (a:=e) (b:=p) 18446744073709551616 q q q (by omega)) (sg C (r_gtN (a:=size) (b:=(e-p)) q q) (st _ (r_pick_f q C q) (an q ?_))))));refine c_if q (fun P=>?_) (fun P=>?_)
 ·(have L:=dT P);refine ns (ar q (r_block (r_then ?_)));exact ret1L (v:=(.int .i64 ((2:Nat):Int))) trivial q ⟨q,tV⟩ ⟨2,q,M,(by omega),(by rw[tableF]<;>simp(disch:=first|omega|assumption|simp) only [SS,reduceIte,I,D,E,H,J,K,L])⟩
 (have L:=dF P);refine c_skip (n_block (c_then (ns (ar q ?_))));exact ret1L (v:=(.int .i64 ((0:Nat):Int))) trivial q ⟨q,tV⟩ ⟨0,q,M,(by omega),(by rw[tableF]<;>simp(disch:=first|omega|assumption|simp) only [SS,reduceIte,I,D,E,H,J,K,L])⟩
theorem fn18:isFn Zp 18=true:=by kernel_rfl
theorem fn46:isFn Zp 46=true:=by kernel_rfl
theorem fn47:isFn Zp 47=true:=by kernel_rfl
theorem fn48:isFn Zp 48=true:=by kernel_rfl
theorem bClone_any (uQ:Up w Q) {v0:Value} {l:Ly} (h0:Ls tB8 w Q v0 l) (p0:l.length≤140737488355328) :
  Calls Zp 19 #[v0] w fun en w'=>∃u0:Value,∃r0:List UInt8,∃Q':Nat→Prop,en = .returned (u0)∧Md [] w w'∧NewQ w w' Q Q'∧Ow tB8 5 (Fsh [] w) w' Q' u0 r0∧l=r0:=by
 obtain⟨a,A,T,R,V⟩:∃a A,v0 = .slice a l.length A∧l.length≤A∧(a=none→l=[]):=by
  obtain⟨a,A,j,e,M,k,N,_⟩:=h0;exact⟨a,A,e,M,fun h=>List.eq_nil_of_length_eq_zero (by have:=N h;omega)⟩
 refine enter (n:=8) Tryz.func19 q q q fun B=>ns (an q (c_seq (nm q (st (.bool a.isNone) (by exact r_eqlSN (a:=a) (m:=l.length) (c:=A) (by rw[← T];rfl) u22) (nt ?_)))));refine c_if q (fun H=>?_) (fun H=>?_)
 ·have S:l=[]:=V (Option.isNone_iff_eq_none.1 H)
  refine ns (ar q (r_then ?_));exact ret1 trivial q q ⟨_,[],Q,q,Md.refl [] w,⟨fun x h _=>h,fun x h=>h,uQ⟩,Ow.nil _ _ _ _ _,S⟩
 refine c_skip ?_
 refine c_then (ns (st_build0 u22 elT5 ?_));intro b i D W C O;obtain⟨K,J,Z,X,f⟩:=exQ uQ D W C;have P:Ow tB8 5 (Fsh [] w) i K (.slice (some ⟨b,0,none⟩) 0 0) []:=Ow.of_blk (m:=0) O q q (by simp[maxLen]) (.inr D) X;replace h0:=(h0.sub J).o C;refine mv q (st_apZ (sz:=1) q u22 elT5 q q P h0.lz f (Fsh.new C) (by simp;omega) (by simp;omega) ?_);intro p r L Y d g E F o _ U;refine ar q ?_;exact ret1 trivial q q ⟨_,_,L,q,C.step1 F D,⟨fun x G I=>Y x (J x G I) (lj I C.size),fun x G=>Z x (d x G),g⟩,E,by simp⟩
theorem bClone_any_ls (uQ:Up w Q) {v0:Value} {l:Ly} (h0:Ls tB8 w Q v0 l) (p0:l.length≤140737488355328) :
  Calls Zp 19 #[v0] w fun en w'=>∃u0:Value,∃r0:List UInt8,en = .returned (u0)∧Md [] w w'∧Ls tB8 w' Q u0 r0∧l=r0 :=
 (bClone_any uQ h0 p0).mono fun en w' ⟨u0,r0,Q2,he,hm,kq,k0,hF⟩=>⟨u0,r0,he,hm,k0.ls kq.2.1 (Fsh.up uQ),hF⟩
set_option maxRecDepth 100000 in
abbrev zz2:PHead:={compat:=0,incompat:=0,state:=0,file:=idZ,machine:=idZ,boot:=idZ,seq:=idZ,n:=(List.replicate 21 0),tailArray:=0,tailItems:=0,tailEntry:=0}
set_option maxHeartbeats 4000000 in
theorem hRead_any (uQ:Up w Q) {v0:Value} {b:Ly} (h0:Ls tB8 w Q v0 b) :
  Calls Zp 17 #[v0] w fun en w'=>∃r0:PHead,∃r1:Nat,en = .returned (.tuple #[.agg (PHead.cells r0).toArray,(.int .i64 r1)])∧Md [] w w'∧PHead.ok r0∧r1<9223372036854775808∧readF b=(r0,r1):=by
 have L0:=h0.len63;have M:=Md.refl [] w;have Bl:=uQ;refine enter (n:=90) Tryz.func17 q q q fun B=>ns (st_alloc z52 ?_);intro v w1 i Az E A;obtain⟨Q2,r,sT,A1,V⟩:=exQ uQ i Az E;replace i:=ly M.size i;replace h0:=(h0.sub r).o E;replace M:=M.k E;replace uQ:=V;clear V r sT;have H:Fsh [] w v:=.inr i;replace A:Blk _ _ (PHead.cells (zz2)) _:=A;have A9:PHead.ok (zz2):=(by exact⟨(by decide),(by decide),(by decide),q,q,q,q,(nums_zero _),(by decide),(by decide),(by decide)⟩);refine an q (c_seq (c_block (nm q (sL q u22 h0.shp (st _ (r_ltN (a:=b.length) (b:=272) q q) (asg q (nt ?_)))))));refine c_if q (fun h9=>?_) (fun h9=>?_)
 ·(have R:=dT h9);refine ns (st _ (r_buildG (us:=[]) (cs:=(PHead.cells (zz2))) [] z52 pl52 q q trivial trivial q q) (st_storeAgg (us:=(PHead.cells (zz2))) q q (by exact agg52) (by exact fun u S=>one_cells (PHead.one) u S) A (lB q) ?_));have F:=A;clear A;intro w4 E A;replace M:=M.step E (hI H);clear F;replace A:Blk _ _ (PHead.cells (zz2)) _:=A;refine ar q (r_block (r_then ?_));exact retL (vs:=[(.agg (PHead.cells (zz2)).toArray),(.int .i64 ((22:Nat):Int))]) trivial q ⟨⟨_,q,load_agg (cs:=(PHead.cells (zz2))) (by exact agg52) A⟩,q,tV⟩ q ⟨(zz2),22,q,M,(by assumption),(by omega),(readF_short R)⟩
 (have R:=dF h9);refine nm q (st_buildSliceG [[(b8 76)],[(b8 80)],[(b8 75)],[(b8 83)],[(b8 72)],[(b8 72)],[(b8 82)],[(b8 72)]] u22 elT5 (by decide) (by decide) q q ⟨q,q,q,q,q,q,q,q,tV⟩ ⟨q,q,q,q,q,q,q,q,tV⟩ q (by decide) ?_);intro e w5 l As E Z;have Aj:v≠e:=(by have:=A.lt;omega);have k:Fsh [] w e:=Fsh.new M _ l;obtain⟨Q6,r,sT,c,V⟩:=exQ uQ l As E;replace h0:=(h0.sub r).o E;obtain⟨A,M⟩:=k2 E A M;replace uQ:=V;clear V r sT;refine st_mark u22 u5 q (show Blk _ _ (([76,80,75,83,72,72,82,72]:Ly).map b8) _ from Z) (By.of_blk (show Blk _ _ (([76,80,75,83,72,72,82,72]:Ly).map b8) _ from Z) q (by decide)) ?_;intro w7 E hY;have Af:=Z;clear Z;have hS:∀b∈[e],¬Q6 b:=(hI c);replace h0:=h0.md E hS;replace A:=A.md E (by intro d;simp at d;omega);replace uQ:=uQ.md E;replace M:=M.step E (hI k);obtain⟨Q8,fQ,fT,Ag⟩:=lit_freeze (Q:=Q6) hY;replace h0:=h0.sub (fun b d _=>fQ b d);replace uQ:Up w7 Q8:=fun b d=>fQ b (uQ b d);clear Af hS fQ fT hY c;refine st_call fn46 q (hPref_any uQ h0 Ag) ?_;rintro en w9 ⟨Ba,rfl,E,T⟩;refine rv ?_;obtain⟨h0,A,uQ,M⟩:=k4 E h0 A uQ M;refine st _ (r_not q) (an q ?_);refine c_if q (fun y=>?_) (fun y=>?_)
 ·(have o:=bnt y);refine ns (st _ (r_buildG (us:=[]) (cs:=(PHead.cells (zz2))) [] z52 pl52 q q trivial trivial q q) (st_storeAgg (us:=(PHead.cells (zz2))) q q (by exact agg52) (by exact fun u S=>one_cells (PHead.one) u S) A (lB q) ?_));have F:=A;clear A;intro Bm E A;replace M:=M.step E (hI H);clear F;replace A:Blk _ _ (PHead.cells (zz2)) _:=A;refine ar q (r_block (r_then ?_));exact retL (vs:=[(.agg (PHead.cells (zz2)).toArray),(.int .i64 ((6:Nat):Int))]) trivial q ⟨⟨_,q,load_agg (cs:=(PHead.cells (zz2))) (by exact agg52) A⟩,q,tV⟩ q ⟨(zz2),6,q,M,(by assumption),(by omega),(readF_sign R (by rw[T];exact o))⟩
 (have o:=bnf y);refine c_skip (n_block (c_then (nm q (st_call fn47 q (hParse_any uQ h0 (by omega)) ?_))));rintro en Bn ⟨C,rfl,E,D,K⟩;refine rv ?_;obtain⟨h0,A,uQ,M⟩:=k4 E h0 A uQ M;refine st_alloc z52 ?_;intro x Bo j A0 E G;have Av:v≠x:=(by have:=A.lt;omega);obtain⟨Aw,r,sT,Ah,V⟩:=exQ uQ j A0 E;replace j:=ly M.size j;replace h0:=(h0.sub r).o E;obtain⟨A,M⟩:=k2 E A M;replace uQ:=V;clear V r sT;have Ai:Fsh [] w x:=.inr j;replace G:Blk _ _ (PHead.cells (zz2)) _:=G;have A2:PHead.ok (zz2):=(by exact⟨(by decide),(by decide),(by decide),q,q,q,q,(nums_zero _),(by decide),(by decide),(by decide)⟩);refine st_storeAgg (us:=(PHead.cells C)) q q (by exact agg52) (by exact fun u S=>one_cells (PHead.one) u S) G (lB q) ?_
 have Ar:=G;clear G;intro Bp E G;have hS:∀b∈[x],¬Aw b:=(hI Ah);replace h0:=h0.md E hS;replace A:=A.md E (by intro d;simp at d;omega);replace uQ:=uQ.md E;replace M:=M.step E (hI Ai);clear Ar hS;replace G:Blk _ _ (PHead.cells C) _:=G;refine nt (ns (st _ (r_loadPart (PHead.cells C) q (by exact agg52) G q) (st_call fn18 q (hEnd_any uQ C D) ?_)));rintro en Bq ⟨W,A6,rfl,E,A3,L⟩;refine rv ?_;obtain⟨h0,A,G,uQ,M⟩:=k5 E h0 A G uQ M;refine mv q (se q q (se q q (asg q (an q (c_seq (c_block (ns (sf q off52_1 (sl (u:=(.int .u32 C.incompat)) q one48 G q ?_)))))))));have Bd:C.incompat<4294967296:=D.2.1;refine st _ (r_andNotN (a:=C.incompat) (b:=4) 4294967296 q q q q (by omega)) (st _ (r_neN (a:=(andNot C.incompat 4)) (b:=0) q q) (an q ?_));refine c_if q (fun z=>?_) (fun z=>?_)
 ·(have I:=dT z);refine ns (st _ (r_buildG (us:=[]) (cs:=(PHead.cells (zz2))) [] z52 pl52 q q trivial trivial q q) (st_storeAgg (us:=(PHead.cells (zz2))) q q (by exact agg52) (by exact fun u S=>one_cells (PHead.one) u S) A (lB q) ?_));have F:=A;clear A;intro Br E A;replace M:=M.step E (hI H);clear F;replace A:Blk _ _ (PHead.cells (zz2)) _:=A;refine ar q (r_block (r_then ?_));exact retL (vs:=[(.agg (PHead.cells (zz2)).toArray),(.int .i64 ((7:Nat):Int))]) trivial q ⟨⟨_,q,load_agg (cs:=(PHead.cells (zz2))) (by exact agg52) A⟩,q,tV⟩ q ⟨(zz2),7,q,M,(by assumption),(by omega),(readF_no R T (by simp_all) K (by rw[amiss_at L];rw[if_pos I]) (by decide))⟩
 (have I:=dF z);refine ns (sf q off52_2 (sl (u:=(.int .i64 C.state)) q one3 G q ?_));have Be:C.state<9223372036854775808:=D.2.2.1;refine st _ (r_gtN (a:=C.state) (b:=2) q q) (an q ?_);refine c_if q (fun Aa=>?_) (fun Aa=>?_)
 ·(have J:=dT Aa);refine ns (st _ (r_buildG (us:=[]) (cs:=(PHead.cells (zz2))) [] z52 pl52 q q trivial trivial q q) (st_storeAgg (us:=(PHead.cells (zz2))) q q (by exact agg52) (by exact fun u S=>one_cells (PHead.one) u S) A (lB q) ?_));have F:=A;clear A;intro Bs E A;replace M:=M.step E (hI H);clear F;replace A:Blk _ _ (PHead.cells (zz2)) _:=A;refine ar q (r_block (r_then ?_));exact retL (vs:=[(.agg (PHead.cells (zz2)).toArray),(.int .i64 ((8:Nat):Int))]) trivial q ⟨⟨_,q,load_agg (cs:=(PHead.cells (zz2))) (by exact agg52) A⟩,q,tV⟩ q ⟨(zz2),8,q,M,(by assumption),(by omega),(readF_no R T (by simp_all) K (by rw[amiss_at L];rw[if_neg I,if_pos J]) (by decide))⟩
 (have J:=dF Aa);refine ns (sf q off52_7 (sl (u:=(.int .u64 ((C.n.getD 0 0:Nat):Int))) q one23 G q ?_));have Bf:C.n.getD 0 0<18446744073709551616:=(nums_bd D.2.2.2.2.2.2.2.1 0);refine st _ (r_ltN (a:=(C.n.getD 0 0)) (b:=272) q q) (mv q ?_);refine part_n (t:=43) q (fun O=>?_) (fun O=>?_)
 ·(have Al:=dT O);refine sk O (sk O (sk O (sk O (st _ (r_pick_t q O q) (mv q (sk q (sk q (sk q (sk q (st _ (r_pick_t q q q) (an q (c_if_t q q ?_))))))))))));refine ns (st _ (r_buildG (us:=[]) (cs:=(PHead.cells (zz2))) [] z52 pl52 q q trivial trivial q q) (st_storeAgg (us:=(PHead.cells (zz2))) q q (by exact agg52) (by exact fun u S=>one_cells (PHead.one) u S) A (lB q) ?_));have F:=A;clear A;intro Bt E A;replace M:=M.step E (hI H);clear F;replace A:Blk _ _ (PHead.cells (zz2)) _:=A;refine ar q (r_block (r_then ?_));exact retL (vs:=[(.agg (PHead.cells (zz2)).toArray),(.int .i64 ((5:Nat):Int))]) trivial q ⟨⟨_,q,load_agg (cs:=(PHead.cells (zz2))) (by exact agg52) A⟩,q,tV⟩ q ⟨(zz2),5,q,M,(by assumption),(by omega),(readF_no R T (by simp_all) K (by rw[amiss_at L];rw[if_neg I,if_neg J,if_pos (by omega)]) (by decide))⟩
 (have Al:=dF O);refine sg O (r_field q off52_7) (sg O ((r_loadBlk q one23 G q).to (b:=(.int .u64 ((C.n.getD 0 0:Nat):Int))) q) (sg O (r_remN (a:=(C.n.getD 0 0)) (b:=8) q q (by omega)) (sg O (r_neN (a:=((C.n.getD 0 0)%8)) (b:=0) q q) (st _ (r_pick_f q O q) (mv q ?_)))));refine part_n (t:=49) q (fun P=>?_) (fun P=>?_)
 ·(have Am:=dT P);refine sk P (sk P (sk P (sk P (st _ (r_pick_t q P q) (an q (c_if_t q q (ns (st _ (r_buildG (us:=[]) (cs:=(PHead.cells (zz2))) [] z52 pl52 q q trivial trivial q q) (st_storeAgg (us:=(PHead.cells (zz2))) q q (by exact agg52) (by exact fun u S=>one_cells (PHead.one) u S) A (lB q) ?_)))))))));have F:=A;clear A;intro Bu E A;replace M:=M.step E (hI H);clear F;replace A:Blk _ _ (PHead.cells (zz2)) _:=A;refine ar q (r_block (r_then ?_));exact retL (vs:=[(.agg (PHead.cells (zz2)).toArray),(.int .i64 ((5:Nat):Int))]) trivial q ⟨⟨_,q,load_agg (cs:=(PHead.cells (zz2))) (by exact agg52) A⟩,q,tV⟩ q ⟨(zz2),5,q,M,(by assumption),(by omega),(readF_no R T (by simp_all) K (by rw[amiss_at L];rw[if_neg I,if_neg J,if_pos (by omega)]) (by decide))⟩
 (have Am:=dF P);refine sg P (r_field q off52_8) (sg P ((r_loadBlk q one23 G q).to (b:=(.int .u64 ((C.n.getD 1 0:Nat):Int))) q) ?_);have Bg:C.n.getD 1 0<18446744073709551616:=(nums_bd D.2.2.2.2.2.2.2.1 1);refine sg P (r_remN (a:=(C.n.getD 1 0)) (b:=8) q q (by omega)) (sg P (r_neN (a:=((C.n.getD 1 0)%8)) (b:=0) q q) (st _ (r_pick_f q P q) (an q ?_)));refine c_if q (fun Ab=>?_) (fun Ab=>?_)
 ·(have Ak:=dT Ab);refine ns (st _ (r_buildG (us:=[]) (cs:=(PHead.cells (zz2))) [] z52 pl52 q q trivial trivial q q) (st_storeAgg (us:=(PHead.cells (zz2))) q q (by exact agg52) (by exact fun u S=>one_cells (PHead.one) u S) A (lB q) ?_));have F:=A;clear A;intro Bv E A;replace M:=M.step E (hI H);clear F;replace A:Blk _ _ (PHead.cells (zz2)) _:=A;refine ar q (r_block (r_then ?_));exact retL (vs:=[(.agg (PHead.cells (zz2)).toArray),(.int .i64 ((5:Nat):Int))]) trivial q ⟨⟨_,q,load_agg (cs:=(PHead.cells (zz2))) (by exact agg52) A⟩,q,tV⟩ q ⟨(zz2),5,q,M,(by assumption),(by omega),(readF_no R T (by simp_all) K (by rw[amiss_at L];rw[if_neg I,if_neg J,if_pos (by omega)]) (by decide))⟩
 (have Ak:=dF Ab);refine nm q (st _ (r_not q) (mv q ?_));refine part_n (t:=59) q (fun N=>?_) (fun N=>?_)
 ·(have Ap:=bnt N);refine sk N (sk N (sk N (sk N (sk N (st _ (r_pick_t q N q) (an q (c_if_t q q (ns (st _ (r_buildG (us:=[]) (cs:=(PHead.cells (zz2))) [] z52 pl52 q q trivial trivial q q) (st_storeAgg (us:=(PHead.cells (zz2))) q q (by exact agg52) (by exact fun u S=>one_cells (PHead.one) u S) A (lB q) ?_))))))))));have F:=A;clear A;intro Bw E A;replace M:=M.step E (hI H);clear F;replace A:Blk _ _ (PHead.cells (zz2)) _:=A;refine ar q (r_block (r_then ?_));exact retL (vs:=[(.agg (PHead.cells (zz2)).toArray),(.int .i64 ((2:Nat):Int))]) trivial q ⟨⟨_,q,load_agg (cs:=(PHead.cells (zz2))) (by exact agg52) A⟩,q,tV⟩ q ⟨(zz2),2,q,M,(by assumption),(by omega),(readF_no R T (by simp_all) K (by rw[amiss_at L];rw[if_neg I,if_neg J,if_neg (by omega),if_pos (by(left;simp_all))]) (by decide))⟩
 (have Ap:=bnf N);refine sg N (r_move q) (sg N (r_move q) (sg N (r_len q u22 h0.shp) (sg N (r_convN (a:=b.length) 18446744073709551616 q (by rw[u3];rfl) u23 q (by omega)) (sg N (r_gtN (a:=W) (b:=b.length) q q) (st _ (r_pick_f q N q) (an q ?_))))));refine c_if q (fun Ac=>?_) (fun Ac=>?_)
 ·(have Ao:=dT Ac);refine ns (st _ (r_buildG (us:=[]) (cs:=(PHead.cells (zz2))) [] z52 pl52 q q trivial trivial q q) (st_storeAgg (us:=(PHead.cells (zz2))) q q (by exact agg52) (by exact fun u S=>one_cells (PHead.one) u S) A (lB q) ?_));have F:=A;clear A;intro Bx E A;replace M:=M.step E (hI H);clear F;replace A:Blk _ _ (PHead.cells (zz2)) _:=A;refine ar q (r_block (r_then ?_));exact retL (vs:=[(.agg (PHead.cells (zz2)).toArray),(.int .i64 ((2:Nat):Int))]) trivial q ⟨⟨_,q,load_agg (cs:=(PHead.cells (zz2))) (by exact agg52) A⟩,q,tV⟩ q ⟨(zz2),2,q,M,(by assumption),(by omega),(readF_no R T (by simp_all) K (by rw[amiss_at L];rw[if_neg I,if_neg J,if_neg (by omega),if_pos (by(right;omega))]) (by decide))⟩
 (have Ao:=dF Ac);refine c_skip (n_block (c_then (c_seq (ns (st _ (r_loadPart (PHead.cells C) q (by exact agg52) G q) (sf q off52_9 (sl (u:=(.int .u64 ((C.n.getD 2 0:Nat):Int))) q one23 G q ?_)))))));have Bh:C.n.getD 2 0<18446744073709551616:=(nums_bd D.2.2.2.2.2.2.2.1 2);refine sf q off52_10 (sl (u:=(.int .u64 ((C.n.getD 3 0:Nat):Int))) q one23 G q ?_);have Bi:C.n.getD 3 0<18446744073709551616:=(nums_bd D.2.2.2.2.2.2.2.1 3);refine mv q (st_call fn48 q (hTable_any uQ C D (C.n.getD 2 0) (by omega) (C.n.getD 3 0) (by omega) W (by omega)) ?_);rintro en B0 ⟨X,rfl,E,A4,g⟩;refine rv ?_;obtain⟨A,G,uQ,M⟩:=k4 E A G uQ M;refine an q (nm q (st _ (r_neN (a:=X) (b:=0) q q) (nt ?_)));refine c_if q (fun Ad=>?_) (fun Ad=>?_)
 ·(have U:=dT Ad);refine ns (st _ (r_buildG (us:=[]) (cs:=(PHead.cells (zz2))) [] z52 pl52 q q trivial trivial q q) (mv q (st_storeAgg (us:=(PHead.cells (zz2))) q q (by exact agg52) (by exact fun u S=>one_cells (PHead.one) u S) A (lB q) ?_)));have F:=A;clear A;intro B2 E A;replace M:=M.step E (hI H);clear F;replace A:Blk _ _ (PHead.cells (zz2)) _:=A;refine ar q (r_then ?_);exact retL (vs:=[(.agg (PHead.cells (zz2)).toArray),(.int .i64 X)]) trivial q ⟨⟨_,q,load_agg (cs:=(PHead.cells (zz2))) (by exact agg52) A⟩,q,tV⟩ q ⟨(zz2),X,q,M,(by assumption),(by assumption),(readF_no R T (by simp_all) K (by rw[amiss_at L];rw[if_neg I,if_neg J,if_neg (by omega),if_neg (by rintro(h|h)<;>first|omega|simp_all),g,if_pos U]) U)⟩
 (have U:=dF Ad);refine c_skip (c_then (c_seq (ns (st _ (r_loadPart (PHead.cells C) q (by exact agg52) G q) (sf q off52_11 (sl (u:=(.int .u64 ((C.n.getD 4 0:Nat):Int))) q one23 G q ?_))))));have Bj:C.n.getD 4 0<18446744073709551616:=(nums_bd D.2.2.2.2.2.2.2.1 4);refine sf q off52_12 (sl (u:=(.int .u64 ((C.n.getD 5 0:Nat):Int))) q one23 G q ?_);have Bk:C.n.getD 5 0<18446744073709551616:=(nums_bd D.2.2.2.2.2.2.2.1 5);refine mv q (st_call fn48 q (hTable_any uQ C D (C.n.getD 4 0) (by omega) (C.n.getD 5 0) (by omega) W (by omega)) ?_);rintro en B3 ⟨Y,rfl,E,A5,p⟩;refine rv ?_;obtain⟨A,G,M⟩:=k3 E A G M;refine an q (nm q (st _ (r_neN (a:=Y) (b:=0) q q) (nt ?_)));refine c_if q (fun Ae=>?_) (fun Ae=>?_)
 ·(have f:=dT Ae);refine ns (st _ (r_buildG (us:=[]) (cs:=(PHead.cells (zz2))) [] z52 pl52 q q trivial trivial q q) (mv q (st_storeAgg (us:=(PHead.cells (zz2))) q q (by exact agg52) (by exact fun u S=>one_cells (PHead.one) u S) A (lB q) ?_)));have F:=A;clear A;intro B4 E A;replace M:=M.step E (hI H);clear F;replace A:Blk _ _ (PHead.cells (zz2)) _:=A;refine ar q (r_then ?_);exact retL (vs:=[(.agg (PHead.cells (zz2)).toArray),(.int .i64 Y)]) trivial q ⟨⟨_,q,load_agg (cs:=(PHead.cells (zz2))) (by exact agg52) A⟩,q,tV⟩ q ⟨(zz2),Y,q,M,(by assumption),(by assumption),(readF_no R T (by simp_all) K (by rw[amiss_at L];rw[if_neg I,if_neg J,if_neg (by omega),if_neg (by rintro(h|h)<;>first|omega|simp_all),g,if_neg U,p]) f)⟩
 (have f:=dF Ae);refine c_skip (c_then (ns (st _ (r_loadPart (PHead.cells C) q (by exact agg52) G q) (st_storeAgg (us:=(PHead.cells C)) q q (by exact agg52) (by exact fun u S=>one_cells (PHead.one) u S) A (lB q) ?_))));have F:=A;clear A;intro B5 E A;replace M:=M.step E (hI H);clear F;replace A:Blk _ _ (PHead.cells C) _:=A;refine ar q ?_;exact retL (vs:=[(.agg (PHead.cells C).toArray),(.int .i64 ((0:Nat):Int))]) trivial q ⟨⟨_,q,load_agg (cs:=(PHead.cells C)) (by exact agg52) A⟩,q,tV⟩ q ⟨C,0,q,M,D,(by omega),(readF_ok R T (by simp_all) K (by rw[amiss_at L];rw[if_neg I,if_neg J,if_neg (by omega),if_neg (by rintro(h|h)<;>first|omega|simp_all),g,if_neg U,p];simpa using f))⟩
theorem fn17:isFn Zp 17=true:=by kernel_rfl
theorem fn19:isFn Zp 19=true:=by kernel_rfl
theorem pl59:bplace Zp 59=some [(0,1),(1,91)]:=by kernel_rfl
theorem z59:zcells Zp 59=some ([.slice none 0 0,.int .u32 0,.int .u32 0,.int .i64 0] ++ (List.replicate 64 (.int .u8 0) ++ (List.replicate 21 (.int .u64 0) ++ ([.int .u32 0,.int .u32 0,.int .u64 0])))):=by kernel_rfl
set_option maxRecDepth 100000 in
theorem aOpen_any (uQ:Up w Q) {v0:Value} {b:Ly} (h0:Ls tB8 w Q v0 b) (p0:b.length≤140737488355328) :
  Calls Zp 6 #[v0] w fun en w'=>∃u0:Value,∃r0:Option (PView),∃r1:Nat,en = .returned (.tuple #[u0,(.int .i64 r1)])∧Md [] w w'∧Po tPView 59 w' Q u0 r0∧r1<9223372036854775808∧openF b=(r0,r1):=by
 have L0:=h0.len63;have M:=Md.refl [] w;have t:=uQ;have l:∀b,Q b→Q b:=fun _ h=>h;refine enter (n:=28) Tryz.func6 q q q fun B=>ns (asg q (an q (nm q (st_call fn17 q (hRead_any uQ h0) ?_))));rintro en w1 ⟨C,L,rfl,D,P,z,X⟩;refine rv ?_;obtain⟨h0,uQ,M⟩:=k3 D h0 uQ M;refine mv q (se q q (se q q (st_alloc z52 ?_)));intro V w2 O r D A;obtain⟨Q3,j,k,Z,J⟩:=exQ uQ O r D;replace l:=tT l k;replace O:=ly M.size O;replace h0:=(h0.sub j).o D;replace M:=M.k D;replace uQ:=J;clear J j k;have c:Fsh [] w V:=.inr O;replace A:Blk _ _ (PHead.cells (zz2)) _:=A;have y:PHead.ok (zz2):=(by exact⟨(by decide),(by decide),(by decide),q,q,q,q,(nums_zero _),(by decide),(by decide),(by decide)⟩);refine st_storeAgg (us:=(PHead.cells C)) q q (by exact agg52) (by exact fun u hu=>one_cells (PHead.one) u hu) A (lB q) ?_
 have g:=A;clear A;intro w5 D A;have v:∀b∈[V],¬Q3 b:=(hI Z);replace h0:=h0.md D v;replace uQ:=uQ.md D;replace M:=M.step D (hI c);clear g v;replace A:Blk _ _ (PHead.cells C) _:=A;refine an q (c_seq (nm q (st _ (r_neN (a:=L) (b:=0) q q) (nt ?_))));refine c_if q (fun W=>?_) (fun W=>?_)
 ·(have H:=dT W);refine nm q (asg q (ar q (r_then ?_)));exact retL (vs:=[(.pointer none),(.int .i64 L)]) trivial q ⟨q,q,tV⟩ q ⟨_,none,L,q,M,q,(by assumption),(by rw[openF,X,if_pos H])⟩
 (have H:=dF W);refine c_skip (c_then (ns (st _ (r_loadPart (PHead.cells C) q (by exact agg52) A q) (st_call fn18 q (hEnd_any uQ C P) ?_))));rintro en w6 ⟨U,Ab,rfl,D,Aa,e⟩;refine rv ?_;obtain⟨h0,A,uQ,M⟩:=k4 D h0 A uQ M;refine mv q (se q q (se q q (asg q (an q (c_seq ?_)))));have I:=A;refine c_mixT [(0,true),(1,true),(2,true),(4,true),(3,false)] [5,6,7,8] (fun w'=>Md [] w6 w') mixed (by kernel_rfl) ?_;intro w7 G;refine⟨G.mono (by simp),?_⟩;have o:=G.mono (T:=[]) (by simp);have rf:readF b=(C,0):=(by rw[X];simp only[Prod.mk.injEq,true_and];omega);have en:=read_end rf e;refine mo q (mo q (mz (fun w' x=>r_sliceZ 1 0 U u22 el5 q h0.shp (by omega) (by omega) q ⟨_,q⟩) ?_));have Y:=h0.head (hi:=U) (by omega);refine mz (fun w' x=>r_loadPart (PHead.cells C) q (by exact agg52) (I.o x) q) ?_;obtain⟨A,Y,uQ,M⟩:=k4 G A Y uQ M;refine m_e ?_ rfl;refine st_call fn19 q (bClone_any_ls uQ Y (by(simp<;>omega))) ?_;rintro en w9 ⟨K,N,rfl,D,E,Ae⟩;refine rv ?_;obtain⟨A,uQ,M,o⟩:=k4 D A uQ M o;refine st_nil ⟨q,o,?_⟩;refine m_nil ?_;clear I;clear o;refine st _ (r_buildG (us:=[[K],(PHead.cells C)]) (cs:=(PView.cells (({b:=N,h:=C}:PView)) K)) [(0,0,1),(1,1,91)] z59 pl59 q q ⟨(cells_one E.oneCell),q,tV⟩ ⟨q,q,tV⟩ q q) (st_box (cs:=(PView.cells (({b:=N,h:=C}:PView)) K)) q q ?_);intro R Ah F i D f;have d:V≠R:=(by have:=A.lt;omega);obtain⟨Ac,j,k,p,J⟩:=exQ uQ F i D
 replace l:=tT l k;replace F:=ly M.size F;replace E:=(E.sub j).o D;replace M:=M.k D;replace uQ:=J;clear J j k;refine asg q (ar q ?_);exact retL (vs:=[(.pointer (some ⟨R,0,none⟩)),(.int .i64 ((0:Nat):Int))]) trivial q ⟨q,q,tV⟩ q ⟨_,(some (({b:=N,h:=C}:PView))),0,q,M,⟨_,_,q,t _ F,f,tPView_mk (by assumption) (E.sub (fun b S _=>l b S))⟩,(by omega),(by rw[openF,X,if_neg H,e];simp_all)⟩
theorem agg204:isAggN Zp 204 3=true:=by kernel_rfl
theorem agg94:isAggN Zp 94 2=true:=by kernel_rfl
theorem fn117:isFn Zp 117=true:=by kernel_rfl
theorem fn83:isFn Zp 83=true:=by kernel_rfl
theorem fn84:isFn Zp 84=true:=by kernel_rfl
theorem off204_0:fieldOff Zp 204 0=some 0:=by kernel_rfl
theorem off204_1:fieldOff Zp 204 1=some 1:=by kernel_rfl
theorem off204_2:fieldOff Zp 204 2=some 2:=by kernel_rfl
theorem pl204:bplace Zp 204=some [(0,1),(1,1),(2,1)]:=by kernel_rfl
theorem pl94:bplace Zp 94=some [(0,1),(1,1)]:=by kernel_rfl
theorem z204:zcells Zp 204=some [.int .i64 0,.int .i64 0,.int .u64 0]:=by kernel_rfl
theorem z94:zcells Zp 94=some [.int .u64 0,.slice none 0 0]:=by kernel_rfl
theorem oRead_any (uQ:Up w Q) {v0:Value} {b:Ly} (h0:Ls tB8 w Q v0 b) (p:Nat) (a1:p<18446744073709551616) :
  Calls Zp 117 #[v0,(.int .u64 p)] w fun en w'=>∃r0:Frm,∃r1:Nat,en = .returned (.tuple #[.agg (Frm.cells r0).toArray,(.int .i64 r1)])∧Md [] w w'∧Frm.ok r0∧r1<9223372036854775808∧frameF b p=(r0,r1):=by
 have L0:=h0.len63;have M:=Md.refl [] w;have A3:=uQ;refine enter (n:=78) Tryz.func117 q q q fun B=>ns (st_alloc z204 ?_);intro Ac w1 e Ar E A;obtain⟨Q2,sQ,sT,Au,Z⟩:=exQ uQ e Ar E;replace e:=ly M.size e;replace h0:=(h0.sub sQ).o E;replace M:=M.k E;replace uQ:=Z;clear Z sQ sT;have F:Fsh [] w Ac:=.inr e;replace A:Blk _ _ (Frm.cells (zz0)) _:=A;have A0:Frm.ok (zz0):=(by exact⟨(by decide),(by decide),(by decide)⟩);refine an q (nm q (sL q u22 h0.shp (st _ (r_convN (a:=b.length) 18446744073709551616 q (by rw[u3];rfl) u23 q (by omega)) (asg q (nt (c_seq (c_block (ns (mv q (st _ (r_remN (a:=p) (b:=8) q q (by omega)) (st _ (r_neN (a:=(p%8)) (b:=0) q q) ?_)))))))))));refine an q ?_;refine c_if q (fun j=>?_) (fun j=>?_)
 ·(have H:=dT j);refine ns (st _ (r_buildG (us:=[]) (cs:=(Frm.cells (zz0))) [] z204 pl204 q q trivial trivial q q) (st_storeAgg (us:=(Frm.cells (zz0))) q q (by exact agg204) (by exact fun u P=>one_cells (Frm.one) u P) A (lB q) ?_));have C:=A;clear A;intro w4 E A;replace M:=M.step E (hI F);clear C;replace A:Blk _ _ (Frm.cells (zz0)) _:=A;refine ar q (r_block (r_then ?_));exact retL (vs:=[(.agg (Frm.cells (zz0)).toArray),(.int .i64 ((3:Nat):Int))]) trivial q ⟨⟨_,q,load_agg (cs:=(Frm.cells (zz0))) (by exact agg204) A⟩,q,tV⟩ q ⟨(zz0),3,q,M,(by assumption),(by omega),(frame_al H)⟩
 (have H:=dF j);refine ns (m2 q q (st _ (r_gtN (a:=p) (b:=b.length) q q) (mv q ?_)));refine part_n (t:=20) q (fun I=>?_) (fun I=>?_)
 ·(have Ae:=dT I);refine sk I (sk I (sk I (sk I (st _ (r_pick_t q I q) (an q (c_if_t q q (ns (st _ (r_buildG (us:=[]) (cs:=(Frm.cells (zz0))) [] z204 pl204 q q trivial trivial q q) (st_storeAgg (us:=(Frm.cells (zz0))) q q (by exact agg204) (by exact fun u P=>one_cells (Frm.one) u P) A (lB q) ?_)))))))));have C:=A;clear A;intro w5 E A;replace M:=M.step E (hI F);clear C;replace A:Blk _ _ (Frm.cells (zz0)) _:=A;refine ar q (r_block (r_then ?_));exact retL (vs:=[(.agg (Frm.cells (zz0)).toArray),(.int .i64 ((2:Nat):Int))]) trivial q ⟨⟨_,q,load_agg (cs:=(Frm.cells (zz0))) (by exact agg204) A⟩,q,tV⟩ q ⟨(zz0),2,q,M,(by assumption),(by omega),(frame_sh H (by omega))⟩
 (have Ae:=dF I);refine sg I (r_move q) (sg I (r_move q) (sg I (r_subN (a:=b.length) (b:=p) 18446744073709551616 q q q (by omega)) (sg I (r_ltN (a:=(b.length-p)) (b:=16) q q) (st _ (r_pick_f q I q) (an q ?_)))));refine c_if q (fun k=>?_) (fun k=>?_)
 ·(have Ad:=dT k);refine ns (st _ (r_buildG (us:=[]) (cs:=(Frm.cells (zz0))) [] z204 pl204 q q trivial trivial q q) (st_storeAgg (us:=(Frm.cells (zz0))) q q (by exact agg204) (by exact fun u P=>one_cells (Frm.one) u P) A (lB q) ?_));have C:=A;clear A;intro w6 E A;replace M:=M.step E (hI F);clear C;replace A:Blk _ _ (Frm.cells (zz0)) _:=A;refine ar q (r_block (r_then ?_));exact retL (vs:=[(.agg (Frm.cells (zz0)).toArray),(.int .i64 ((2:Nat):Int))]) trivial q ⟨⟨_,q,load_agg (cs:=(Frm.cells (zz0))) (by exact agg204) A⟩,q,tV⟩ q ⟨(zz0),2,q,M,(by assumption),(by omega),(frame_sh H (by omega))⟩
 (have Ad:=dF k);refine c_skip (n_block (c_then (ns (m2 q q (st _ (r_subN (a:=b.length) (b:=p) 18446744073709551616 q q q (by omega)) (an q (c_seq ?_)))))));have W:=h0;refine c_mixT [(0,true),(1,true),(2,true),(3,true),(4,true),(5,true),(6,true),(7,true),(8,true),(9,true),(10,true),(11,true),(12,false)] [13] (fun w'=>Md [] w1 w') mixed (by kernel_rfl) ?_;intro w7 U;refine⟨U.mono (by simp),?_⟩;have MC:=U.mono (T:=[]) (by simp);refine mo q (mo q (mz (fun w' g=>r_indexN (i:=p) 1 q q u22 el5 h0.shp (by omega)) ?_));obtain⟨d,R⟩:=getE (l:=b) (i:=p) (by omega);obtain⟨c9,Aq,f⟩:=W.get R;obtain⟨rfl,_⟩:=Aq;have Bf:=UInt8.toNat_lt d;replace f:At _ v0 (p*1) [(b8 d)]:=f;refine mz (fun w' g=>(r_loadE (kk:=p*1) 0 q q one5 (f.o g) q).to (b:=(b8 d)) q) (mz (fun w' g=>r_convN (a:=d.toNat) 9223372036854775808 q (by rw[u5];rfl) u3 q (lj (UInt8.toNat_lt _) (by decide))) (mo q (mo q (mz (fun w' g=>r_addN (a:=p) (b:=1) 18446744073709551616 q q q (by omega)) (mz (fun w' g=>r_indexN (i:=p+1) 1 q q u22 el5 h0.shp (by omega)) ?_)))));obtain⟨N,L⟩:=getE (l:=b) (i:=p+1) (by omega);obtain⟨A2,Ak,S⟩:=W.get L;obtain⟨rfl,_⟩:=Ak;have A1:=UInt8.toNat_lt N;replace S:At _ v0 ((p+1)*1) [(b8 N)]:=S;refine mz (fun w' g=>(r_loadE (kk:=(p+1)*1) 0 q q one5 (S.o g) q).to (b:=(b8 N)) q) (mz (fun w' g=>r_convN (a:=N.toNat) 9223372036854775808 q (by rw[u5];rfl) u3 q (lj (UInt8.toNat_lt _) (by decide))) (mz (fun w' g=>r_buildG (us:=[[(.int .i64 d.toNat)],[(.int .i64 N.toNat)]]) (cs:=(Frm.cells (({kind:=d.toNat,flags:=N.toNat,size:=0}:Frm)))) [(0,0,1),(1,1,1)] z204 pl204 q q ⟨q,q,tV⟩ ⟨q,q,tV⟩ q q) ?_))
 obtain⟨h0,A,uQ,M⟩:=k4 U h0 A uQ M;refine m_e ?_ rfl;refine st_alloc z204 ?_;intro h A5 V As E D;have Ap:=ly MC.size V;have Am:Ac≠h:=(by have:=A.lt;omega);obtain⟨Ao,sQ,sT,z,Z⟩:=exQ uQ V As E;replace V:=ly M.size V;replace h0:=(h0.sub sQ).o E;obtain⟨A,M,MC⟩:=k3 E A M MC;replace uQ:=Z;clear Z sQ sT;have Y:Fsh [] w h:=.inr V;replace D:Blk _ _ (Frm.cells (zz0)) _:=D;have Av:Frm.ok (zz0):=(by exact⟨(by decide),(by decide),(by decide)⟩);refine st_nil ⟨q,MC,?_⟩;refine m_nil ?_;clear W;clear MC;refine st_storeAgg (us:=(Frm.cells (({kind:=d.toNat,flags:=N.toNat,size:=0}:Frm)))) q q (by exact agg204) (by exact fun u P=>one_cells (Frm.one) u P) D (lB q) ?_;have X:=D;clear D;intro A6 E D;have hS:∀b∈[h],¬Ao b:=(hI z);replace h0:=h0.md E hS;replace A:=A.md E (by intro hb;simp at hb;omega);replace uQ:=uQ.md E;replace M:=M.step E (hI Y);clear X hS;replace D:Blk _ _ (Frm.cells (({kind:=d.toNat,flags:=N.toNat,size:=0}:Frm))) _:=D;refine st_nil ?_;clear f;clear S;refine c_then (ns (m2 q q (st _ (r_convN (a:=p) 9223372036854775808 q (by rw[u23];rfl) u3 q (by omega)) (st _ (rA (a:=p) (b:=8) q q (by omega)) (st_call fn93 q (leGet_any uQ h0 (((p+8:Nat):Int)) (by omega) (8) (by omega)) ?_)))));rintro en A7 ⟨c,Ay,rfl,E,Aw,O⟩;refine rv ?_;replace A:=A.o E
 obtain⟨D,M⟩:=k2 E D M;refine mv q (se q q (se q q (sf q off204_2 (st_store q q one23 q D (lB q) ?_))));have X:=D;clear D;intro A8 E D;replace A:=A.md E (by intro hb;simp at hb;omega);replace M:=M.step E (hI Y);clear X;obtain⟨G,J⟩:∃y,y=({({kind:=d.toNat,flags:=N.toNat,size:=0}:Frm)with size:=c}:Frm):=⟨_,q⟩;replace D:Blk _ _ (Frm.cells ({({kind:=d.toNat,flags:=N.toNat,size:=0}:Frm)with size:=c})) _:=D;rw[← J]at D;refine nt (c_seq (c_block (ns (sf q off204_0 (sl (u:=(.int .i64 G.kind)) q one3 D q (st _ (r_ltN (a:=G.kind) (b:=1) q q) (mv q ?_)))))));refine part_n (t:=55) q (fun K=>?_) (fun K=>?_)
 ·(have Ag:=dT K);refine sk K (sk K (sk K (st _ (r_pick_t q K q) (an q (c_if_t q q (ns (st _ (r_buildG (us:=[]) (cs:=(Frm.cells (zz0))) [] z204 pl204 q q trivial trivial q q) (st_storeAgg (us:=(Frm.cells (zz0))) q q (by exact agg204) (by exact fun u P=>one_cells (Frm.one) u P) A (lB q) ?_))))))));have C:=A;clear A;intro A9 E A;replace M:=M.step E (hI F);clear C;replace A:Blk _ _ (Frm.cells (zz0)) _:=A;refine ar q (r_block (r_then ?_));exact retL (vs:=[(.agg (Frm.cells (zz0)).toArray),(.int .i64 ((4:Nat):Int))]) trivial q ⟨⟨_,q,load_agg (cs:=(Frm.cells (zz0))) (by exact agg204) A⟩,q,tV⟩ q ⟨(zz0),4,q,M,(by assumption),(by omega),(by rw[frame_of J H (by omega) (byteAt_of R) (byteAt_of L) (at8_of O q (by omega)),if_pos (by omega)];rfl)⟩
 (have Ag:=dF K);refine sg K (r_field q off204_0) (sg K ((r_loadBlk q one3 D q).to (b:=(.int .i64 G.kind)) q) (sg K (r_gtN (a:=G.kind) (b:=7) q q) (st _ (r_pick_f q K q) (an q ?_))));refine c_if q (fun o=>?_) (fun o=>?_)
 ·(have Af:=dT o);refine ns (st _ (r_buildG (us:=[]) (cs:=(Frm.cells (zz0))) [] z204 pl204 q q trivial trivial q q) (st_storeAgg (us:=(Frm.cells (zz0))) q q (by exact agg204) (by exact fun u P=>one_cells (Frm.one) u P) A (lB q) ?_));have C:=A;clear A;intro Ba E A;replace M:=M.step E (hI F);clear C;replace A:Blk _ _ (Frm.cells (zz0)) _:=A;refine ar q (r_block (r_then ?_));exact retL (vs:=[(.agg (Frm.cells (zz0)).toArray),(.int .i64 ((4:Nat):Int))]) trivial q ⟨⟨_,q,load_agg (cs:=(Frm.cells (zz0))) (by exact agg204) A⟩,q,tV⟩ q ⟨(zz0),4,q,M,(by assumption),(by omega),(by rw[frame_of J H (by omega) (byteAt_of R) (byteAt_of L) (at8_of O q (by omega)),if_pos (by omega)];rfl)⟩
 (have Af:=dF o);refine ns (sf q off204_1 (sl (u:=(.int .i64 G.flags)) q one3 D q (st _ (r_neN (a:=G.flags) (b:=0) q q) (an q ?_))));refine c_if q (fun r=>?_) (fun r=>?_)
 ·(have Ah:=dT r);refine ns (st _ (r_buildG (us:=[]) (cs:=(Frm.cells (zz0))) [] z204 pl204 q q trivial trivial q q) (st_storeAgg (us:=(Frm.cells (zz0))) q q (by exact agg204) (by exact fun u P=>one_cells (Frm.one) u P) A (lB q) ?_));have C:=A;clear A;intro Bb E A;replace M:=M.step E (hI F);clear C;replace A:Blk _ _ (Frm.cells (zz0)) _:=A;refine ar q (r_block (r_then ?_));exact retL (vs:=[(.agg (Frm.cells (zz0)).toArray),(.int .i64 ((7:Nat):Int))]) trivial q ⟨⟨_,q,load_agg (cs:=(Frm.cells (zz0))) (by exact agg204) A⟩,q,tV⟩ q ⟨(zz0),7,q,M,(by assumption),(by omega),(by rw[frame_of J H (by omega) (byteAt_of R) (byteAt_of L) (at8_of O q (by omega)),if_neg (by omega),if_pos (by omega)];rfl)⟩
 (have Ah:=dF r);refine ns (sf q off204_2 (sl (u:=(.int .u64 G.size)) q one23 D q (st _ (r_ltN (a:=G.size) (b:=16) q q) (an q ?_))));refine c_if q (fun v=>?_) (fun v=>?_)
 ·(have Ai:=dT v);refine ns (st _ (r_buildG (us:=[]) (cs:=(Frm.cells (zz0))) [] z204 pl204 q q trivial trivial q q) (st_storeAgg (us:=(Frm.cells (zz0))) q q (by exact agg204) (by exact fun u P=>one_cells (Frm.one) u P) A (lB q) ?_));have C:=A;clear A;intro Bc E A;replace M:=M.step E (hI F);clear C;replace A:Blk _ _ (Frm.cells (zz0)) _:=A;refine ar q (r_block (r_then ?_));exact retL (vs:=[(.agg (Frm.cells (zz0)).toArray),(.int .i64 ((5:Nat):Int))]) trivial q ⟨⟨_,q,load_agg (cs:=(Frm.cells (zz0))) (by exact agg204) A⟩,q,tV⟩ q ⟨(zz0),5,q,M,(by assumption),(by omega),(by rw[frame_of J H (by omega) (byteAt_of R) (byteAt_of L) (at8_of O q (by omega)),if_neg (by omega),if_neg (by omega),if_pos (by omega)];rfl)⟩
 (have Ai:=dF v);refine ns (sf q off204_2 (sl (u:=(.int .u64 G.size)) q one23 D q (mv q (st _ (r_gtN (a:=G.size) (b:=(b.length-p)) q q) (an q ?_)))));refine c_if q (fun x=>?_) (fun x=>?_)
 ·(have Aj:=dT x);refine ns (st _ (r_buildG (us:=[]) (cs:=(Frm.cells (zz0))) [] z204 pl204 q q trivial trivial q q) (st_storeAgg (us:=(Frm.cells (zz0))) q q (by exact agg204) (by exact fun u P=>one_cells (Frm.one) u P) A (lB q) ?_));have C:=A;clear A;intro Bd E A;replace M:=M.step E (hI F);clear C;replace A:Blk _ _ (Frm.cells (zz0)) _:=A;refine ar q (r_block (r_then ?_));exact retL (vs:=[(.agg (Frm.cells (zz0)).toArray),(.int .i64 ((2:Nat):Int))]) trivial q ⟨⟨_,q,load_agg (cs:=(Frm.cells (zz0))) (by exact agg204) A⟩,q,tV⟩ q ⟨(zz0),2,q,M,(by assumption),(by omega),(by rw[frame_of J H (by omega) (byteAt_of R) (byteAt_of L) (at8_of O q (by omega)),if_neg (by omega),if_neg (by omega),if_neg (by omega),if_pos (by omega)];rfl)⟩
 (have Aj:=dF x);refine c_skip (n_block (c_then (ns (st _ (r_loadPart (Frm.cells G) q (by exact agg204) D q) (st_storeAgg (us:=(Frm.cells G)) q q (by exact agg204) (by exact fun u P=>one_cells (Frm.one) u P) A (lB q) ?_)))));have C:=A;clear A;intro Be E A;replace M:=M.step E (hI F);clear C;replace A:Blk _ _ (Frm.cells G) _:=A;refine ar q ?_;exact retL (vs:=[(.agg (Frm.cells G).toArray),(.int .i64 ((0:Nat):Int))]) trivial q ⟨⟨_,q,load_agg (cs:=(Frm.cells G)) (by exact agg204) A⟩,q,tV⟩ q ⟨G,0,q,M,(by exact⟨(by omega),(by omega),(by omega)⟩),(by omega),(by rw[frame_of J H (by omega) (byteAt_of R) (byteAt_of L) (at8_of O q (by omega)),if_neg (by omega),if_neg (by omega),if_neg (by omega),if_neg (by omega)])⟩
theorem eBody_any (uQ:Up w Q) {v0:Value} {b:Ly} (h0:Ls tB8 w Q v0 b) (p:Nat) (a1:p<18446744073709551616) (kind:Nat) (a2:kind<9223372036854775808) (ahead:Nat) (a3:ahead<9223372036854775808) (item:Nat) (a4:item<9223372036854775808) (p0:ahead≤1000) (p1:item≠0∧item≤1000) :
  Calls Zp 83 #[v0,(.int .u64 p),(.int .i64 kind),(.int .i64 ahead),(.int .i64 item)] w fun en w'=>∃u0:Value,∃r0:List UInt8,∃r1:Nat,en = .returned (.tuple #[u0,(.int .i64 r1)])∧Md [] w w'∧Ls tB8 w' Q u0 r0∧r1<9223372036854775808∧bodyF b p kind ahead item=(r0,r1):=by
 have o:=h0.len63;have M:=Md.refl [] w;have l:=uQ;have c:∀b,Q b→Q b:=fun _ h=>h;refine enter (n:=56) Tryz.func83 q q q fun B=>ns (asg q (an q (ns (m2 q q (st_call fn117 q (oRead_any uQ h0 p (by omega)) ?_)))));rintro en z ⟨A,N,rfl,L,I,f,J⟩;refine rv ?_;obtain⟨h0,uQ,M⟩:=k3 L h0 uQ M;refine mv q (se q q (se q q (st_alloc z204 ?_)));intro R w2 G X L D;obtain⟨j,g,i,O,Y⟩:=exQ uQ G X L;replace c:=tT c i;replace G:=ly M.size G;replace h0:=(h0.sub g).o L;replace M:=M.k L;replace uQ:=Y;clear Y g i;have P:Fsh [] w R:=.inr G;replace D:Blk _ _ (Frm.cells (zz0)) _:=D;have e:Frm.ok (zz0):=(by exact⟨(by decide),(by decide),(by decide)⟩);refine st_storeAgg (us:=(Frm.cells A)) q q (by exact agg204) (by exact fun u k=>one_cells (Frm.one) u k) D (lB q) ?_;have V:=D;clear D;intro w5 L D;have d:∀b∈[R],¬j b:=(hI O);replace h0:=h0.md L d;replace M:=M.step L (hI P);clear V d;replace D:Blk _ _ (Frm.cells A) _:=D;refine an q (nm q (st _ (rA (a:=16) (b:=ahead) q q (by omega)) (st _ (r_convN (a:=16+ahead) 18446744073709551616 q (by rw[u3];rfl) u23 q (by omega)) ?_)))
 refine an q (c_seq (c_block (nm q (st _ (r_neN (a:=N) (b:=0) q q) (asg q (nt ?_))))));refine c_if q (fun S=>?_) (fun S=>?_)
 ·(have E:=dT S);refine nm q (asg q (ar q (r_block (r_then ?_))));exact retL (vs:=[SN,(.int .i64 N)]) trivial q ⟨q,q,tV⟩ q ⟨_,[],N,q,M,(Ls.nil _ _ _),(by assumption),(by rw[bodyF]<;>simp(disch:=first|omega|assumption|simp) only [SS,reduceIte,J,E])⟩
 (have E:=dF S);refine ns (sf q off204_0 (sl (u:=(.int .i64 A.kind)) q one3 D q ?_));have v:A.kind<9223372036854775808:=I.1;refine mv q (st _ (r_neN (a:=A.kind) (b:=kind) q q) (an q ?_));refine c_if q (fun T=>?_) (fun T=>?_)
 ·(have F:=dT T);refine ns (asg q (ar q (r_block (r_then ?_))));exact retL (vs:=[SN,(.int .i64 ((4:Nat):Int))]) trivial q ⟨q,q,tV⟩ q ⟨_,[],4,q,M,(Ls.nil _ _ _),(by omega),(by rw[bodyF]<;>simp(disch:=first|omega|assumption|simp) only [SS,reduceIte,J,E,F])⟩
 (have F:=dF T);refine ns (sf q off204_2 (sl (u:=(.int .u64 A.size)) q one23 D q ?_));have x:A.size<18446744073709551616:=I.2.2;refine mv q (st _ (r_leN (a:=A.size) (b:=(16+ahead)) q q) (mv q ?_));refine part_n (t:=38) q (fun C=>?_) (fun C=>?_)
 ·(have H:=dT C);refine sk C (sk C (sk C (sk C (sk C (sk C (sk C (sk C (st _ (r_pick_t q C q) (an q (c_if_t q q (ns (asg q ?_))))))))))));refine ar q (r_block (r_then ?_));exact retL (vs:=[SN,(.int .i64 ((5:Nat):Int))]) trivial q ⟨q,q,tV⟩ q ⟨_,[],5,q,M,(Ls.nil _ _ _),(by omega),(by rw[bodyF]<;>simp(disch:=first|omega|assumption|simp) only [SS,reduceIte,J,E,F,H])⟩
 (have H:=dF C);refine sg C (r_field q off204_2) (sg C ((r_loadBlk q one23 D q).to (b:=(.int .u64 A.size)) q) (sg C (r_move q) (sg C (r_subN (a:=A.size) (b:=(16+ahead)) 18446744073709551616 q q q (by omega)) (sg C (r_move q) (sg C (r_convN (a:=item) 18446744073709551616 q (by rw[u3];rfl) u23 q (by omega)) (sg C (r_remN (a:=(A.size-(16+ahead))) (b:=item) q q (by omega)) ?_))))));have y:(A.size-(16+ahead))%item<item:=Nat.mod_lt _ (by omega);refine sg C (r_neN (a:=((A.size-(16+ahead))%item)) (b:=0) q q) (st _ (r_pick_f q C q) (an q ?_));refine c_if q (fun U=>?_) (fun U=>?_)
 ·(have K:=dT U);refine ns (asg q (ar q (r_block (r_then ?_))));exact retL (vs:=[SN,(.int .i64 ((5:Nat):Int))]) trivial q ⟨q,q,tV⟩ q ⟨_,[],5,q,M,(Ls.nil _ _ _),(by omega),(by rw[bodyF]<;>simp(disch:=first|omega|assumption|simp) only [SS,reduceIte,J,E,F,H,K])⟩
 (have K:=dF U);refine c_skip (n_block (c_then (ns ?_)));have r:=frame_fine0 J E;refine m2 q q (st _ (r_addN (a:=p) (b:=16) 18446744073709551616 q q q (by omega)) (mv q (sf q off204_2 (sl (u:=(.int .u64 A.size)) q one23 D q (st _ (r_addN (a:=p) (b:=A.size) 18446744073709551616 q q q (by omega)) (st _ (r_sliceZ 1 (p+16) (p+A.size) u22 el5 q h0.shp (by omega) (by omega) ⟨_,q⟩ ⟨_,q⟩) ?_))))));have Z:=h0.part (p+16) (p+A.size) (by omega) (by omega);refine asg q (ar q ?_);exact retL (vs:=[(subz 1 v0 (p+16) (p+A.size)),(.int .i64 ((0:Nat):Int))]) trivial q ⟨q,q,tV⟩ q ⟨_,((b.take (p+A.size)).drop (p+16)),0,q,M,(Z.sub (fun b W _=>c b W)),(by omega),(by rw[bodyF]<;>simp(disch:=first|omega|assumption|simp) only [SS,reduceIte,J,E,F,H,K])⟩
theorem eAll_any (uQ:Up w Q) {v0:Value} {b:Ly} (h0:Ls tB8 w Q v0 b) (p0:b.length%8=0) (p1:b.length≤140737488355328) :
  Calls Zp 84 #[v0] w fun en w'=>∃u0:Value,∃r0:List Nat,en = .returned (u0)∧Md [] w w'∧Ls tU64 w' Q u0 r0∧numsAt b 0 (b.length/8)=r0:=by
 have u:=h0.len63;have M:=Md.refl [] w;have Z:=uQ;have J:∀b,Q b→Q b:=fun _ h=>h;have D:∀b,Q b→b<w.heap.size→Q b:=fun _ h _=>h;refine enter (n:=24) Tryz.func84 q q q fun B=>ns (an q (ns (asg q (nt (c_seq (ns (asg q (nt (c_block ?_)))))))));refine loop3 (fun(K:Value) (l:List Nat) (i:Nat)=>[(3,K),(4,(.int .i64 i)),(0,v0),(2,SN)]) (fun(K:Value) (l:List Nat) (i:Nat) w'=>∃Q':Nat→Prop,(∀b,Q' b→Q b)∧(∀b,Q b→b<w.heap.size→Q' b)∧Up w' Q'∧Md [] w w'∧Ow tU64 23 (Fsh [] w) w' Q' K l∧Ls tB8 w' Q' v0 b∧i%8=0∧i≤b.length∧l=numsAt b 0 (i/8)) (fun(K:Value) (l:List Nat) (i:Nat)=>b.length-i) (x0:=SN) (x1:=([]:List Nat)) (x2:=0) ?_ ?_ ?_
 ·exact⟨q,q,q,q,tV⟩
 ·exact⟨Q,J,D,uQ,M,(Ow.nil _ _ _ _ _),h0,(by omega),(by omega),q⟩
 clear M uQ J D h0
 rintro K l i B y ⟨p,J,D,uQ,M,A,h0,P,f,F⟩;refine c_seq (ns (m2 q q (sL q u22 h0.shp (st _ (r_ltN (a:=i) (b:=b.length) q q) (nt ?_)))));refine c_if q (fun H=>?_) (fun H=>?_)
 ·(have O:=dT H);refine c_skip (c_then (c_seq (c_block (ns (m2 q q (st_call fn93 q (leGet_any uQ h0 (((i:Nat):Int)) (by omega) (8) (by omega)) ?_))))));rintro en z ⟨G,o,rfl,C,j,V⟩;refine rv ?_;obtain⟨A,h0,uQ,M⟩:=k4 C A h0 uQ M;refine mv q (se q q (se q q (asg q (an q (c_region ?_)))));have x:l.length=i/8:=(by rw[F,numsAt_len]);refine m2 q q (st_buildSliceG [[(.int .u64 G)]] u92 elT23 (by decide) (by decide) q q ⟨q,tV⟩ ⟨q,tV⟩ q (by decide) ?_);intro c w4 N g C E;have U:=uQ _ N;obtain⟨A,h0,uQ,M⟩:=k4 C A h0 uQ M;replace E:=Ls.of_blk (m:=1) (R:=p) (T:=tU64) (xs:=[G]) E ⟨_,_,q,⟨q,(by omega)⟩,q⟩ q (by decide) U;refine st_ap (sz:=1) (by rfl) u92 elT23 q q A E (fun _ h _=>h) uQ (Fsh.new M) (by(simp<;>omega)) (by(simp<;>omega)) ?_;intro t w7 r Y k S W C d _ X;have L:=A;clear A;replace J:=tT J k;replace D:=fun b I e=>Y b (D b I e) (lj e M.size);replace h0:=(h0.sub Y).md C d;replace uQ:=uQ.md C;replace M:=M.stepO C (fun b I=>(L.2 b I).1);replace uQ:=S;clear S Y k d X;refine asg q (st_nil (n_block (c_then (c_region (mv q (st _ (rA (a:=i) (b:=8) q q (by omega)) (an q ?_)))))));refine next3 (x0:=t) (x1:=(l ++ ([G]))) (x2:=(i+8)) (by omega) ⟨q,(fitI q (by omega)),q,q,tV⟩ ⟨r,J,D,uQ,M,W,h0,(by omega),(by omega),(numsAt_step F P (by omega) V)⟩
 (have O:=dF H);refine c_exit (x_then (x_then (x_hit (c_then (nm q (ar q ?_))))));exact ret1L (v:=K) trivial q ⟨q,tV⟩ ⟨_,l,q,M,(A.ls (fun b I=>J b I) (Fsh.up Z)),(by rw[F,show i=b.length by omega])⟩
theorem eReadArr_any (uQ:Up w Q) {v0:Value} {b:Ly} (h0:Ls tB8 w Q v0 b) (p:Nat) (a1:p<18446744073709551616) (p0:b.length≤140737488355328) :
  Calls Zp 65 #[v0,(.int .u64 p)] w fun en w'=>∃u0_0:Value,∃r0:Arr,∃r1:Nat,en = .returned (.tuple #[.agg (Arr.cells r0 u0_0).toArray,(.int .i64 r1)])∧Md [] w w'∧Arr.ok r0∧Ls tU64 w' Q u0_0 r0.items∧r1<9223372036854775808∧readArrF b p=(r0,r1):=by
 have L0:=h0.len63;have M:=Md.refl [] w;have Ae:=uQ;have k:∀b,Q b→Q b:=fun _ h=>h;refine enter (n:=27) Tryz.func65 q q q fun B=>ns (st_alloc z94 ?_);intro X w1 O j F A;obtain⟨Q2,x,y,V,c⟩:=exQ uQ O j F;replace k:=tT k y;replace O:=ly M.size O;replace h0:=(h0.sub x).o F;replace M:=M.k F;replace uQ:=c;clear c x y;have L:Fsh [] w X:=.inr O;replace A:Blk _ _ (Arr.cells (zz5) SN) _:=A;have t:Arr.ok (zz5):=(by exact(by exact(show(zz5).next<18446744073709551616 from(by(simp<;>omega)))));refine an q (ns (m2 q q (st_call fn83 q (eBody_any uQ h0 p (by omega) 6 (by omega) 8 (by omega) 8 (by omega) (by omega) (by omega)) ?_)));rintro en w4 ⟨z,Aa,N,rfl,F,Y,v,U⟩;refine rv ?_;obtain⟨A,uQ,M⟩:=k3 F A uQ M;refine mv q (se q q (se q q (asg q (an q (c_seq (nm q (st _ (r_neN (a:=N) (b:=0) q q) (nt ?_))))))));refine c_if q (fun S=>?_) (fun S=>?_)
 ·(have G:=dT S);refine ns (st _ (r_buildG (us:=[]) (cs:=(Arr.cells (zz5) SN)) [] z94 pl94 q q trivial trivial q q) (mv q (st_storeAgg (us:=(Arr.cells (zz5) SN)) q q (by exact agg94) (by exact fun u g=>one_cells (Arr.one q) u g) A (lB q) ?_)));have J:=A;clear A;intro w5 F A;replace M:=M.step F (hI L);clear J;replace A:Blk _ _ (Arr.cells (zz5) SN) _:=A;refine ar q (r_then ?_);exact retL (vs:=[(.agg (Arr.cells (zz5) SN).toArray),(.int .i64 N)]) trivial q ⟨⟨_,q,load_agg (cs:=(Arr.cells (zz5) SN)) (by exact agg94) A⟩,q,tV⟩ q ⟨_,(zz5),N,q,M,(by assumption),(Ls.nil _ _ _),(by assumption),(readArr_no U G)⟩
 (have G:=dF S);refine c_skip (c_then (ns ?_));have bo:=bodyF_ok U (Classical.not_not.1 G);refine mv q (st_call fn84 q (eAll_any uQ Y (by omega) (by omega)) ?_);rintro en w6 ⟨E,C,rfl,F,H,d⟩;refine rv ?_;obtain⟨A,M⟩:=k2 F A M;refine an q (c_seq ?_);have ra:=readArr_ok U G d;have I:=H;refine c_mixT (ml 5) [5,6,7] (fun w'=>Md [] w6 w') mixed (by kernel_rfl) ?_;intro w7 K;refine⟨K.mono (by simp),?_⟩;have MC:=K.mono (T:=[]) (by simp);refine mo q (mz (fun w' e=>r_indexN (i:=0) 1 q q u92 el23 H.shp (by omega)) ?_);obtain⟨R,Z⟩:=getE (l:=C) (i:=0) (by omega);obtain⟨c9,f,P⟩:=I.get Z;obtain⟨rfl,r⟩:=f;replace P:At _ E (0*1) [(.int .u64 R)]:=P;refine mz (fun w' e=>(r_loadE (kk:=0*1) 0 q q one23 (P.o e) q).to (b:=(.int .u64 R)) q) (mo q (mz (fun w' e=>r_sliceZ 1 1 C.length u92 el23 q H.shp (by omega) (by omega) ⟨_,q⟩ q) ?_));have D:=H.tail (lo:=1) (by omega);refine m_nil ?_;obtain⟨A,D,M⟩:=k3 K A D M;clear I;clear MC;refine st _ (r_buildG (us:=[[(.int .u64 R)],[(subz 1 E 1 C.length)]]) (cs:=(Arr.cells (({next:=R,items:=C.drop 1}:Arr)) (subz 1 E 1 C.length))) [(0,0,1),(1,1,1)] z94 pl94 q q ⟨q,(cells_one D.oneCell),tV⟩ ⟨q,q,tV⟩ q q) (st_storeAgg (us:=(Arr.cells (({next:=R,items:=C.drop 1}:Arr)) (subz 1 E 1 C.length))) q q (by exact agg94) (by exact fun u g=>one_cells (Arr.one D.oneCell) u g) A (lB q) ?_)
 have J:=A;clear A;intro Af F A;have o:∀b∈[X],¬Q2 b:=(hI V);replace D:=D.md F o;replace M:=M.step F (hI L);clear J o;replace A:Blk _ _ (Arr.cells (({next:=R,items:=C.drop 1}:Arr)) (subz 1 E 1 C.length)) _:=A;refine asg q (st_nil ?_);clear P;refine c_then (c_ret ?_);exact retL (vs:=[(.agg (Arr.cells (({next:=R,items:=C.drop 1}:Arr)) (subz 1 E 1 C.length)).toArray),(.int .i64 ((0:Nat):Int))]) trivial q ⟨⟨_,q,load_agg (cs:=(Arr.cells (({next:=R,items:=C.drop 1}:Arr)) (subz 1 E 1 C.length))) (by exact agg94) A⟩,q,tV⟩ q ⟨_,(({next:=R,items:=C.drop 1}:Arr)),0,q,M,(by assumption),(D.sub (fun b W _=>k b W)),(by omega),(by rw[ra.2.2,List.getD_eq_getElem?_getD,Z];rfl)⟩
theorem fn14:isFn Zp 14=true:=by kernel_rfl
theorem nif181:notIfT Zp 181=true:=by kernel_rfl
theorem off59_0:fieldOff Zp 59 0=some 0:=by kernel_rfl
theorem off59_1:fieldOff Zp 59 1=some 1:=by kernel_rfl
theorem pl181:bplace Zp 181=some [(0,1)]:=by kernel_rfl
theorem z181:zcells Zp 181=some [.int .i64 0]:=by kernel_rfl
theorem vEnd_any (uQ:Up w Q) {v0:Value} {v:PView} (h0:Pt tPView 59 w Q v0 v) :
  Calls Zp 14 #[v0] w fun en w'=>∃r0:Nat,en = .returned (.int .u64 r0)∧Md [] w w'∧r0<18446744073709551616∧v.b.length=r0:=by
 obtain⟨D,E,rfl,C,h0,rh0⟩:=h0;obtain⟨G,rfl,I,A⟩:=tPView_un rh0;have M:=Md.refl [] w;have F:=uQ;refine enter (n:=9) Tryz.func14 q q q fun B=>ns (an q (nm q (sn q (sf q off59_0 (sl (u:=G) q one22 h0 q ?_)))));have H:=A.len63;refine sL q u22 A.shp (st _ (r_convN (a:=v.b.length) 18446744073709551616 q (by rw[u3];rfl) u23 q (by omega)) (ar q ?_));exact ret1L (v:=(.int .u64 v.b.length)) trivial q ⟨q,tV⟩ ⟨v.b.length,q,M,(by omega),q⟩
theorem vWithin_any (uQ:Up w Q) {v0:Value} {v:PView} (h0:Pt tPView 59 w Q v0 v) (p:Nat) (a1:p<18446744073709551616) :
  Calls Zp 57 #[v0,(.int .u64 p)] w fun en w'=>(en = .returned (.tuple #[])∧Md [] w w'∧inAt (v.h.n.getD 0 0) v.b p=0)∨∃cp:Nat,en = .panicked (pan (.iface 181 (.agg #[.int .i64 cp])))∧(cp≠0∧cp<9223372036854775808)∧Md [] w w'∧inAt (v.h.n.getD 0 0) v.b p=cp:=by
 obtain⟨K,L,rfl,F,h0,rh0⟩:=h0;obtain⟨S,rfl,I,H⟩:=tPView_un rh0;have M:=Md.refl [] w;have P:=uQ;refine enter (n:=19) Tryz.func57 q q q fun B=>ns (m2 q q (sn q (sf q off59_1 (sf q off52_7 (sl (u:=(.int .u64 ((v.h.n.getD 0 0:Nat):Int))) q one23 h0 q ?_)))));have R:v.h.n.getD 0 0<18446744073709551616:=(nums_bd I.2.2.2.2.2.2.2.1 0);refine st _ (r_ltN (a:=p) (b:=(v.h.n.getD 0 0)) q q) (mv q ?_);refine part_n (t:=11) q (fun A=>?_) (fun A=>?_)
 ·(have D:=dT A);refine sk A (sk A (sk A (sk A (st _ (r_pick_t q A q) (nt (c_if_t q q (c_region (st _ (r_buildG (us:=[[(.int .i64 ((2:Nat):Int))]]) (cs:=(Stop.cells (({code:=2}:Stop)))) [(0,0,1)] z181 pl181 q q ⟨q,tV⟩ ⟨q,tV⟩ q q) (st _ (r_mkIface nif181 q) (st_panic q ?_))))))))));exact pan_post (Or.inr ⟨2,q,⟨by omega,by omega⟩,M,(by unfold inAt;rw[if_pos (by omega)])⟩)
 (have D:=dF A);refine sg A (r_move q) (sg A (r_move q) (st_call_g q q q A fn14 q (vEnd_any uQ ⟨_,_,q,F,h0,tPView_mk I H⟩) ?_));rintro en T ⟨G,rfl,O,J,N⟩;refine rv ?_;replace M:=M.k O;refine sg A (r_geN (a:=p) (b:=G) q q) (st _ (r_pick_f q A q) (nt ?_));refine c_if q (fun C=>?_) (fun C=>?_)
 ·(have E:=dT C);refine c_region (st _ (r_buildG (us:=[[(.int .i64 ((2:Nat):Int))]]) (cs:=(Stop.cells (({code:=2}:Stop)))) [(0,0,1)] z181 pl181 q q ⟨q,tV⟩ ⟨q,tV⟩ q q) (st _ (r_mkIface nif181 q) (st_panic q ?_)));exact pan_post (Or.inr ⟨2,q,⟨by omega,by omega⟩,M,(by unfold inAt;rw[if_pos (by omega)])⟩)
 (have E:=dF C);refine c_skip ?_;exact retL (vs:=[]) trivial q trivial q (Or.inl ⟨q,M,(by unfold inAt;rw[if_neg (by omega)])⟩)
theorem vMust_any (uQ:Up w Q) (c:Nat) (a0:c<9223372036854775808) :
  Calls Zp 59 #[(.int .i64 c)] w fun en w'=>(en = .returned (.tuple #[])∧Md [] w w'∧c=0)∨∃cp:Nat,en = .panicked (pan (.iface 181 (.agg #[.int .i64 cp])))∧(cp≠0∧cp<9223372036854775808)∧Md [] w w'∧c=cp:=by
 have M:=Md.refl [] w;have D:=uQ;refine enter (n:=7) Tryz.func59 q q q fun B=>nm q (st _ (r_neN (a:=c) (b:=0) q q) (nt ?_));refine c_if q (fun A=>?_) (fun A=>?_)
 ·(have C:=dT A);refine c_region (mv q (st _ (r_buildG (us:=[[(.int .i64 c)]]) (cs:=(Stop.cells (({code:=c}:Stop)))) [(0,0,1)] z181 pl181 q q ⟨q,tV⟩ ⟨q,tV⟩ q q) (st _ (r_mkIface nif181 q) (st_panic q ?_))));exact pan_post (Or.inr ⟨c,q,⟨by omega,by omega⟩,M,q⟩)
 (have C:=dF A);refine c_skip ?_;exact retL (vs:=[]) trivial q trivial q (Or.inl ⟨q,M,(by omega)⟩)
theorem rSplit_any (uQ:Up w Q) {v0:Value} {l:Ly} (h0:Ls tB8 w Q v0 l) (p0:l.length≤4611686018427387904) :
  Calls Zp 71 #[v0] w fun en w'=>∃r0:Pr,∃r1:Nat,en = .returned (.tuple #[.agg (Pr.cells r0).toArray,(.int .i64 r1)])∧Md [] w w'∧r1<9223372036854775808∧splitF l=(r0,r1):=by
 refine(rsplit_any _ l w h0.by p0).mono fun en w' ⟨he,hm⟩=>⟨(splitF l).1,(splitF l).2,?_,hm,splitF_lt l,q⟩;rw[he,splitC_nat l]
 rfl
end Go.Proofs.YtkkfbaijodhobaaGreat
