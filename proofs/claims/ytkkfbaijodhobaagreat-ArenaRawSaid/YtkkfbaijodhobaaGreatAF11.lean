/- Part 11 of what the walk of a law stands on: VAraw, OpensS, OpensR. No statement is proved here. -/
import Derived.Test.YtkkfbaijodhobaaGreatAF10
import Derived.Test.YtkkfbaijodhobaaGreatRows
namespace Go.Proofs.YtkkfbaijodhobaaGreat
open Go Go.Wk Go.RowKit
set_option linter.unusedVariables false
set_option linter.unusedSimpArgs false
attribute [local irreducible] wpList wpQuiet wpStill wpMix Code.wp Calls bodyPost
theorem fn5:isFn Zp 5=true:=by kernel_rfl
theorem fn7:isFn Zp 7=true:=by kernel_rfl
theorem fn9:isFn Zp 9=true:=by kernel_rfl
theorem u28:Zp.underlying 28=some (.pointer 67):=by kernel_rfl
theorem u4:Zp.underlying 4=some (.bool):=by kernel_rfl
set_option maxRecDepth 100000 in
theorem arenaRaw_any {w:World} {Q:Nat→Prop} (uQ:Up w Q) {v0:Value} {b:Ly} (h0:Ls tB8 w Q v0 b) (p:Nat) (a1:p<18446744073709551616) :
    Calls Zp 3 #[v0,(.int .u64 p)] w fun en w'=>∃r0:Bool,en = .returned (.bool r0)∧Md [] w w'∧true=r0:=by
  have L0:=h0.len63;have M:=Md.refl [] w;have Ap:=uQ;have r:∀b,Q b→Q b:=fun _ h=>h;have N:∀b,Q b→b<w.heap.size→Q b:=fun _ h _=>h;refine enter (n:=60) Tryz.func3 rfl rfl rfl fun B=>ns (an rfl (ns (st_call fn5 rfl (gFirst_any uQ) ?_)));rintro en w1 ⟨H,rfl,A,i⟩;refine rv ?_;replace h0:=h0.o A;replace uQ:=uQ.md A;replace M:=M.k A;refine an rfl (c_seq (nm rfl (st _ (r_not rfl) (nt ?_))));refine c_if rfl (fun S=>?_) (fun S=>?_)
  · (have Y:=bnt S);exfalso;simp_all
  (have Y:=bnf S);refine c_skip (c_then (c_seq (nm rfl (sL rfl u22 h0.shp (st _ (r_gtN (a:=b.length) (b:=900) rfl rfl) (nt ?_))))));refine c_if rfl (fun T=>?_) (fun T=>?_)
  · (have Z:=dT T);refine nm rfl (ar rfl (r_then ?_));exact ret1L (v:=(.bool H)) trivial rfl ⟨rfl,tV⟩ ⟨H,rfl,M,(by exact i)⟩
  (have Z:=dF T);refine c_skip (c_then (nm rfl (st_call fn6 rfl (aOpen_any uQ h0 (by omega)) ?_)));rintro en w2 ⟨K,Ad,O,rfl,A,F,z,j⟩;refine rv ?_;replace h0:=h0.o A;replace uQ:=uQ.md A;replace M:=M.k A;refine mv rfl (se rfl rfl (se rfl rfl (asg rfl (an rfl (nm rfl (st_call fn7 rfl (rOpen_any uQ h0 (by omega)) ?_))))));rintro en w3 ⟨L,Ae,o,rfl,A,J,Aa,l⟩;refine rv ?_;replace F:=F.o A;replace uQ:=uQ.md A;replace M:=M.k A;refine mv rfl (se rfl rfl (se rfl rfl (asg rfl (an rfl (c_seq (ns ?_))))));have os:=open_same j l;refine m2 rfl rfl (st _ (r_neN (a:=O) (b:=o) rfl rfl) (mv rfl ?_));refine part_n (t:=31) rfl (fun E=>?_) (fun E=>?_)
  · (have c:=dT E);exfalso;omega
  (have c:=dF E);refine sg E (r_move rfl) (sg E (r_eqlPO F rfl u25) (sg E (r_move rfl) (sg E (r_eqlPO J rfl u28) (sg E (r_neqBool u4 rfl rfl) (st _ (r_pick_f rfl E rfl) (nt ?_))))));refine c_if rfl (fun U=>?_) (fun U=>?_)
  · (have I:=dF (bnt U));exfalso;rw[os.2]at I;simp at I
  (have I:=dT (bnf U));refine c_skip (c_then (c_seq (nm rfl (st _ (r_neN (a:=O) (b:=0) rfl rfl) (nt ?_)))));refine c_if rfl (fun V=>?_) (fun V=>?_)
  · (have d:=dT V);refine nm rfl (ar rfl (r_then ?_));exact ret1L (v:=(.bool H)) trivial rfl ⟨rfl,tV⟩ ⟨H,rfl,M,(by exact i)⟩
  (have d:=dF V);refine c_skip (c_then (c_seq (ns ?_)));obtain⟨y,q,ey,eq,hq,yl⟩:=open_fine j l (by omega);have rv9:=rv_all hq;have ql:=congrArg List.length rv9.1;have D:Pt tPView 59 w3 Q K y:=(by have h:=F;rw[ey]at h;exact h);clear F;have C:Pt tRView 67 w3 Q L q:=(by have h:=J;rw[eq]at h;exact h);clear J;refine an rfl (c_block ?_);refine loop1 (fun(k:Nat)=>[(10,(.int .u64 k)),(1,(.int .u64 p)),(5,(.bool H)),(6,K),(8,L)]) (fun(k:Nat) w'=>∃Q':Nat→Prop,(∀b,Q' b→Q b)∧(∀b,Q b→b<w.heap.size→Q' b)∧Up w' Q'∧Md [] w w'∧Pt tPView 59 w' Q' K y∧Pt tRView 67 w' Q' L q∧k≤q.b.length+9) (fun(k:Nat)=>q.b.length+9-k) (x0:=0) ?_ ?_ ?_
  · exact⟨rfl,rfl,rfl,rfl,rfl,tV⟩
  · exact⟨Q,r,N,uQ,M,D,C,(by omega)⟩
  clear M uQ r N h0 D C
  rintro k B w4 ⟨Q5,r,N,uQ,M,D,C,x⟩;refine c_seq (ns (m2 rfl rfl (st_call fn8 rfl (rvEnd_any uQ C) ?_)));rintro en w6 ⟨P,rfl,A,Ab,Aj⟩;refine rv ?_;replace D:=D.o A;replace C:=C.o A;replace uQ:=uQ.md A;replace M:=M.k A;refine st _ (r_addN (a:=P) (b:=9) 18446744073709551616 rfl rfl rfl (by omega)) (st _ (r_ltN (a:=k) (b:=(P+9)) rfl rfl) (nt ?_));refine c_if rfl (fun W=>?_) (fun W=>?_)
  · (have e:=dT W);refine c_skip (c_then (c_seq (c_block (ns (m2 rfl rfl (mv rfl (st_call fn9 rfl (sameAt_any uQ D C k (by omega) (by omega) (by omega)) ?_)))))));rintro en w7 ⟨Af,rfl,A,Ak⟩;refine rv ?_;replace D:=D.o A;replace C:=C.o A;replace uQ:=uQ.md A;replace M:=M.k A;refine st _ (r_not rfl) (nt ?_);refine c_if rfl (fun X=>?_) (fun X=>?_)
    · (have f:=bnt X);exfalso;simp_all
    (have f:=bnf X);refine c_skip (n_block (c_then (c_region (mv rfl (st _ (r_addN (a:=k) (b:=1) 18446744073709551616 rfl rfl rfl (by omega)) (an rfl ?_))))));refine next1 (x0:=(k+1)) (by omega) ⟨(fitI rfl (by rfl)),rfl,rfl,rfl,rfl,tV⟩ ⟨Q5,r,N,uQ,M,D,C,(by omega)⟩
  (have e:=dF W);refine c_exit (x_then (x_then (x_hit (c_then (ns (m2 rfl rfl ?_))))));refine part_n (t:=54) rfl (fun G=>?_) (fun G=>?_)
  · (have g:=G);refine sg G (r_move rfl) (sg G (r_move rfl) (sg G (r_move rfl) (st_call_g rfl rfl rfl G fn9 rfl (sameAt_any uQ D C p (by omega) (by omega) (by omega)) ?_)));rintro en w8 ⟨R,rfl,A,u⟩;refine rv ?_;replace M:=M.k A;refine st _ (r_pick_t rfl G rfl) (ar rfl ?_);exact ret1L (v:=(.bool R)) trivial rfl ⟨rfl,tV⟩ ⟨R,rfl,M,(by exact u)⟩
  (have g:=G);exfalso;simp_all
end Go.Proofs.YtkkfbaijodhobaaGreat
namespace Go.Wk
open Go Go.RowKit Go.ChangeShapes Go.WideShapes Go.ChangeAt Go.Deep
section
variable {H:Type} {enc:TypeId × Value→H} {P:Program} {w:World} {t f:TypeId} {v:Value} {d:DataW H} {ps:List MemPlace}
end
end Go.Wk
namespace Go.Wk
open Go Go.RowKit Go.ChangeShapes Go.WideShapes Go.ChangeAt Go.Deep
section
variable {H:Type} {enc:TypeId × Value→H} {P:Program} {w:World} {t e f:TypeId} {v:Value} {d:DataW H} {ps:List MemPlace} {spare:Nat→Bool} {base:Nat} {held:Bool}
end
end Go.Wk
