/- Part 5 of what the walk of a law stands on: VRrh, VRopen, VRobj, VRarr, VRv, VQa, VQb, GuardR, VGet, VHead, VHead2, VHead3, VHead4. No statement is proved here. -/
import Derived.Test.YtbmmkbejcnalcaaGreatDAI4
import Derived.Test.YtbmmkbejcnalcaaGreatRows
namespace Go.Proofs.YtbmmkbejcnalcaaGreat
open Go Go.Wk Go.RowKit
set_option linter.unusedVariables false
set_option linter.unusedSimpArgs false
attribute [local irreducible] wpList wpQuiet wpStill gq Code.wp Calls bodyPost
variable {w:World} {Q:Nat→Prop}
theorem afV:dO Zp 64=true:=by kernel_rfl
theorem ahD:dO Zp 96=true:=by kernel_rfl
theorem agh:dO Zp 97=true:=by kernel_rfl
theorem u9:Zp.underlying 9=some (.string):=by kernel_rfl
set_option maxRecDepth 100000 in
set_option maxHeartbeats 4000000 in
theorem BV (uQ:Up w Q) {v0:Value} {b:Ly} (h0:Ls fe w Q v0 b) :
  Calls Zp 63 #[v0] w fun en w'=>∃r0:bW,∃r1:Nat,∃r2:Nat,en = .returned (.tuple #[.agg (bW.cells r0).toArray,(.int .u64 r1),(.int .i64 r2)])∧Md [] w w'∧bW.ok r0∧r1<18446744073709551616∧r2<9223372036854775808∧oh b=(r0,r1,r2):=by
 have L0:=h0.eZ;have M:=Md.refl [] w;have Bf:=uQ;refine enter (n:=97) Tryz.func63 q q q fun B=>ns (cH z85 ?_);intro Aa w1 x Ar G C;obtain⟨Q2,sQ,sT,Au,o⟩:=kI uQ x Ar G;replace x:=lj M.size x;replace h0:=(h0.sub sQ).o G;replace M:=M.k G;replace uQ:=o;clear o sQ sT;have d:cB [] w Aa:=.inr x;replace C:cG _ _ (bW.cells (Za)) _:=C;have A3:bW.ok (Za):=(by exact⟨(by decide),(by decide),(by decide),q,q,q,q,(iy _),(by decide),(by decide),(by decide)⟩);refine dz q (an q (aS (nm q (sL q fP h0.ej (st _ (eP (a:=b.length) (b:=272) q q) (nt ?_))))));refine cL q (fun Ab=>?_) (fun Ab=>?_)
 ·(have e:=dT Ab);refine ns (st _ (cE (us:=[]) (cs:=(bW.cells (Za))) [] z85 HG q q trivial trivial q q) (aT (us:=(bW.cells (Za))) q q (by exact jJ) (by exact fun u l=>b9 (bW.one) u l) C (lB q) ?_));have U:=C;clear C;intro w4 G C;replace M:=M.step G (hI d);clear U;replace C:cG _ _ (bW.cells (Za)) _:=C;refine dz q (ar q (bw ?_));exact ez (vs:=[(.agg (bW.cells (Za)).toArray),(.int .u64 ((0:Nat):Int)),(.int .i64 ((22:Nat):Int))]) trivial q ⟨⟨_,q,di (cs:=(bW.cells (Za))) (by exact jJ) C⟩,q,q,tV⟩ q ⟨(Za),0,22,q,M,(by assumption),(by omega),(by omega),(LH e)⟩
 (have e:=dF Ab);refine bA (ak (aS (nm q (st _ (j5 1 0 8 fP mO q h0.ej (by omega) (by omega) q ⟨_,q⟩) ?_))));have Aq:=h0.head (hi:=8) (by omega);refine st _ (p8 (s:=(b.take 8)) fP u5 u9 q Aq.by) (st _ (aeI (a:=(b.take 8)) (b:=(([76,80,75,83,72,72,82,72]:Ly))) q q) (nt ?_));refine cL q (fun Ac=>?_) (fun Ac=>?_)
 ·(have g:=dF (iV Ac));refine ns (st _ (cE (us:=[]) (cs:=(bW.cells (Za))) [] z85 HG q q trivial trivial q q) (aT (us:=(bW.cells (Za))) q q (by exact jJ) (by exact fun u l=>b9 (bW.one) u l) C (lB q) ?_));have U:=C;clear C;intro w6 G C;replace M:=M.step G (hI d);clear U;replace C:cG _ _ (bW.cells (Za)) _:=C;refine dz q (ar q (bw ?_));exact ez (vs:=[(.agg (bW.cells (Za)).toArray),(.int .u64 ((0:Nat):Int)),(.int .i64 ((6:Nat):Int))]) trivial q ⟨⟨_,q,di (cs:=(bW.cells (Za))) (by exact jJ) C⟩,q,q,tV⟩ q ⟨(Za),0,6,q,M,(by assumption),(by omega),(by omega),(OJ e g)⟩
 (have g:=dT (iM Ac));refine bA (ak (nm q (au ahD q (aaH uQ h0 (by omega)) ?_)));rintro en w7 ⟨A,r,rfl,G,E,A4,Ai⟩;refine rv ?_;obtain⟨h0,C,uQ,M⟩:=k4 G h0 C uQ M;refine mv q (se q q (se q q (cH z85 ?_)));intro v w8 y As G D;have Am:Aa≠v:=(by have:=C.lt;omega);obtain⟨Q9,sQ,sT,Ad,o⟩:=kI uQ y As G;replace y:=lj M.size y;replace h0:=(h0.sub sQ).o G;obtain⟨C,M⟩:=k2 G C M;replace uQ:=o;clear o sQ sT;have Ae:cB [] w v:=.inr y;replace D:cG _ _ (bW.cells (Za)) _:=D;have Av:bW.ok (Za):=(by exact⟨(by decide),(by decide),(by decide),q,q,q,q,(iy _),(by decide),(by decide),(by decide)⟩);refine aT (us:=(bW.cells A)) q q (by exact jJ) (by exact fun u l=>b9 (bW.one) u l) D (lB q) ?_
 have Aj:=D;clear D;intro Bg G D;have hS:∀b∈[v],¬Q9 b:=(hI Ad);replace h0:=h0.md G hS;replace C:=C.md G (by intro hb;simp at hb;omega);replace uQ:=uQ.md G;replace M:=M.step G (hI Ae);clear Aj hS;replace D:cG _ _ (bW.cells A) _:=D;refine an q (ns (st _ (cJ (bW.cells A) q (by exact jJ) D q) (au afV q (LF uQ A E) ?_)));rintro en Al ⟨f,A0,rfl,G,Aw,L⟩;refine rv ?_;obtain⟨h0,C,D,uQ,M⟩:=k5 G h0 C D uQ M;refine mv q (se q q (se q q (dz q (an q (ns (dz q (nt (aS ?_))))))));refine adX (fun a' w'=>∃(A':Fr 97) (c:Nat),a'=bh A' [] [(9,.int .i64 c),(0,v0),(2,(.pointer (some ⟨Aa,0,none⟩))),(3,(.int .u64 ((0:Nat):Int))),(4,(.int .i64 ((0:Nat):Int))),(5,(.pointer (some ⟨v,0,none⟩))),(6,(.int .u64 r))]∧Md [] Al w'∧c<9223372036854775808∧VR A b.length=c) ?_ ?_
 ·have M:=Md.refl [] Al;refine bS (ns (sf q yR (sl (u:=(.int .u32 A.cw)) q gO D q ?_)));have A7:A.cw<4294967296:=E.2.1;refine st _ (EF (a:=A.cw) (b:=4) 4294967296 q q q q (by omega)) (st _ (fO (a:=(andNot A.cw 4)) (b:=0) q q) (an q ?_));refine cL q (fun j=>?_) (fun j=>?_)
  ·(have K:=dT j);refine aR (dz q (ax (cA ?_)));exact⟨q,_,7,(dX (by exact⟨q,q,q,q,q,q,q,tV⟩)).symm,M,(by omega),(by rw[qR L];rw[if_pos K];try rfl)⟩
  (first|(have K:=dF j)|(have K:=dT (iM j))|(have K:=iM j)|(have K:=j));refine ns (sf q GZ (sl (u:=(.int .i64 A.state)) q iK D q ?_));have A8:A.state<9223372036854775808:=E.2.2.1;refine st _ (jf (a:=A.state) (b:=2) q q) (an q ?_);refine cL q (fun X=>?_) (fun X=>?_)
  ·(first|(have F:=dT X)|(have F:=dF (iV X))|(have F:=iV X)|(have F:=X));refine aR (dz q (ax (cA ?_)));exact⟨q,_,8,(dX (by exact⟨q,q,q,q,q,q,q,tV⟩)).symm,M,(by omega),(by rw[qR L];rw[if_neg K,if_pos F];try rfl)⟩
  (first|(have F:=dF X)|(have F:=dT (iM X))|(have F:=iM X)|(have F:=X));refine ns (sf q dB (st _ ((bV (i:=0) 1 q q mq e6 (by decide))) (sl (u:=(.int .u64 ((A.n.getD 0 0:Nat):Int))) q bR D q ?_)));have A9:A.n.getD 0 0<18446744073709551616:=(eU E.2.2.2.2.2.2.2.1 0);refine st _ (eP (a:=(A.n.getD 0 0)) (b:=272) q q) (mv q ?_);refine cP (t:=67) q (fun H=>?_) (fun H=>?_)
  ·(first|(have P:=dT H)|(have P:=dF (iV H))|(have P:=iV H)|(have P:=H));refine sk H (sk H (sk H (sk H (sk H (st _ (bE q H q) (mv q (sk q (sk q (sk q (sk q (sk q (st _ (bE q q q) (dz q ?_)))))))))))));refine nt (fV q q (aR (dz q (ax (cA ?_)))));exact⟨q,_,5,(dX (by exact⟨q,q,q,q,q,q,q,tV⟩)).symm,M,(by omega),(by rw[qR L];rw[if_neg K,if_neg F,if_pos (by first|omega|simp_all)];try rfl)⟩
  (first|(have P:=dF H)|(have P:=dT (iM H))|(have P:=iM H)|(have P:=H));refine sg H (aA q dB) (sg H ((bV (i:=0) 1 q q mq e6 (by decide))) (sg H ((ay q bR D q).to (b:=(.int .u64 ((A.n.getD 0 0:Nat):Int))) q) (sg H (kU (a:=(A.n.getD 0 0)) (b:=8) q q (by omega)) (sg H (fO (a:=((A.n.getD 0 0)%8)) (b:=0) q q) (st _ (bn q H q) (mv q ?_))))));refine cP (t:=74) q (fun I=>?_) (fun I=>?_)
  ·(first|(have R:=dT I)|(have R:=dF (iV I))|(have R:=iV I)|(have R:=I));refine sk I (sk I (sk I (sk I (sk I (st _ (bE q I q) (an q (fV q q (aR (dz q (ax (cA ?_)))))))))));exact⟨q,_,5,(dX (by exact⟨q,q,q,q,q,q,q,tV⟩)).symm,M,(by omega),(by rw[qR L];rw[if_neg K,if_neg F,if_pos (by first|omega|simp_all)];try rfl)⟩
  (first|(have R:=dF I)|(have R:=dT (iM I))|(have R:=iM I)|(have R:=I));refine sg I (aA q dB) (sg I ((bV (i:=1) 1 q q mq e6 (by decide))) (sg I ((ay q bR D q).to (b:=(.int .u64 ((A.n.getD 1 0:Nat):Int))) q) ?_));have Ba:A.n.getD 1 0<18446744073709551616:=(eU E.2.2.2.2.2.2.2.1 1);refine sg I (kU (a:=(A.n.getD 1 0)) (b:=8) q q (by omega)) (sg I (fO (a:=((A.n.getD 1 0)%8)) (b:=0) q q) (st _ (bn q I q) (an q ?_)));refine cL q (fun Y=>?_) (fun Y=>?_)
  ·(first|(have O:=dT Y)|(have O:=dF (iV Y))|(have O:=iV Y)|(have O:=Y));refine aR (dz q (ax (cA ?_)));exact⟨q,_,5,(dX (by exact⟨q,q,q,q,q,q,q,tV⟩)).symm,M,(by omega),(by rw[qR L];rw[if_neg K,if_neg F,if_pos (by first|omega|simp_all)];try rfl)⟩
  (first|(have O:=dF Y)|(have O:=dT (iM Y))|(have O:=iM Y)|(have O:=Y));refine nm q (st _ (jD q) (mv q ?_));refine cP (t:=84) q (fun J=>?_) (fun J=>?_)
  ·(first|(have T:=dT J)|(have T:=dF (iV J))|(have T:=iV J)|(have T:=J));refine sk J (sk J (sk J (sk J (sk J (st _ (bE q J q) (an q (fV q q (aR (dz q (ax (cA ?_)))))))))));exact⟨q,_,2,(dX (by exact⟨q,q,q,q,q,q,q,tV⟩)).symm,M,(by omega),(by rw[qR L];rw[if_neg K,if_neg F,if_neg (by first|omega|(rintro(h|h|h)<;>first|omega|simp_all)),if_pos (by first|(right;omega)|(left;simp_all))];try rfl)⟩
  (first|(have T:=dF J)|(have T:=dT (iM J))|(have T:=iM J)|(have T:=J));refine sg J (aU q) (sg J (aU q) (sg J (jC q fP h0.ej) (sg J (dJ (a:=b.length) 18446744073709551616 q (by rw[u3];rfl) kY q (by first|omega|(have:=u8lt;omega))) (sg J (jf (a:=f) (b:=b.length) q q) (st _ (bn q J q) (an q ?_))))));refine cL q (fun Z=>?_) (fun Z=>?_)
  ·(first|(have S:=dT Z)|(have S:=dF (iV Z))|(have S:=iV Z)|(have S:=Z));refine aR (dz q (ax (cA ?_)));exact⟨q,_,2,(dX (by exact⟨q,q,q,q,q,q,q,tV⟩)).symm,M,(by omega),(by rw[qR L];rw[if_neg K,if_neg F,if_neg (by first|omega|(rintro(h|h|h)<;>first|omega|simp_all)),if_pos (by first|(right;omega)|(left;simp_all))];try rfl)⟩
  (first|(have S:=dF Z)|(have S:=dT (iM Z))|(have S:=iM Z)|(have S:=Z));refine ns (sf q dB (st _ ((bV (i:=2) 1 q q mq e6 (by decide))) (sl (u:=(.int .u64 ((A.n.getD 2 0:Nat):Int))) q bR D q ?_)));have Bb:A.n.getD 2 0<18446744073709551616:=(eU E.2.2.2.2.2.2.2.1 2);refine sf q dB (st _ ((bV (i:=3) 1 q q mq e6 (by decide))) (sl (u:=(.int .u64 ((A.n.getD 3 0:Nat):Int))) q bR D q ?_));have Bc:A.n.getD 3 0<18446744073709551616:=(eU E.2.2.2.2.2.2.2.1 3);refine sf q dB (st _ ((bV (i:=0) 1 q q mq e6 (by decide))) (sl (u:=(.int .u64 ((A.n.getD 0 0:Nat):Int))) q bR D q (mv q (au agh q (BB uQ (A.n.getD 2 0) (by first|omega|(simp<;>omega)) (A.n.getD 3 0) (by first|omega|(simp<;>omega)) (A.n.getD 0 0) (by first|omega|(simp<;>omega)) f (by first|omega|(simp<;>omega))) ?_))));rintro en Bi ⟨p,rfl,G,Ax,z⟩;refine rv ?_;obtain⟨D,uQ,M⟩:=k3 G D uQ M;refine an q (nm q (st _ (jB (a:=p) (b:=0) q q) (nt ?_)));refine cL q (fun W=>?_) (fun W=>?_)
  ·(first|(have N:=dT W)|(have N:=dF (iV W))|(have N:=iV W)|(have N:=W));refine aR (sf q dB (st _ ((bV (i:=4) 1 q q mq e6 (by decide))) (sl (u:=(.int .u64 ((A.n.getD 4 0:Nat):Int))) q bR D q ?_)));have Bd:A.n.getD 4 0<18446744073709551616:=(eU E.2.2.2.2.2.2.2.1 4);refine sf q dB (st _ ((bV (i:=5) 1 q q mq e6 (by decide))) (sl (u:=(.int .u64 ((A.n.getD 5 0:Nat):Int))) q bR D q ?_));have Be:A.n.getD 5 0<18446744073709551616:=(eU E.2.2.2.2.2.2.2.1 5);refine sf q dB (st _ ((bV (i:=0) 1 q q mq e6 (by decide))) (sl (u:=(.int .u64 ((A.n.getD 0 0:Nat):Int))) q bR D q (mv q (au agh q (BB uQ (A.n.getD 4 0) (by first|omega|(simp<;>omega)) (A.n.getD 5 0) (by first|omega|(simp<;>omega)) (A.n.getD 0 0) (by first|omega|(simp<;>omega)) f (by first|omega|(simp<;>omega))) ?_))));rintro en Bj ⟨Af,rfl,G,Ay,Ah⟩;refine rv ?_;replace M:=M.k G;refine dz q (ax (cA ?_));exact⟨q,_,Af,(dX (by exact⟨q,q,q,q,q,q,q,tV⟩)).symm,M,(by omega),(by rw[qR L];rw[if_neg K,if_neg F,if_neg (by first|omega|(rintro(h|h|h)<;>first|omega|simp_all)),if_neg (by rintro(h|h)<;>first|omega|simp_all),z,if_neg (by omega),Ah];try rfl)⟩
  (first|(have N:=dF W)|(have N:=dT (iM W))|(have N:=iM W)|(have N:=W));refine bA (cA ?_);exact⟨q,_,p,(dX (by exact⟨q,q,q,q,q,q,q,tV⟩)).symm,M,(by omega),(by rw[qR L];rw[if_neg K,if_neg F,if_neg (by first|omega|(rintro(h|h|h)<;>first|omega|simp_all)),if_neg (by rintro(h|h)<;>first|omega|simp_all),z,if_pos N];try rfl)⟩
 rintro _ Bh ⟨A',c9,rfl,G,q9,Ag⟩
 obtain⟨C,D,M⟩:=k3 G C D M;refine ak (aS (nm q (st _ (fO (a:=c9) (b:=0) q q) (nt ?_))));refine cL q (fun k=>?_) (fun k=>?_)
 ·(first|(have V:=dT k)|(have V:=dF (iV k))|(have V:=iV k)|(have V:=k));refine ns (st _ (cE (us:=[]) (cs:=(bW.cells (Za))) [] z85 HG q q trivial trivial q q) (mv q (aT (us:=(bW.cells (Za))) q q (by exact jJ) (by first|exact fun u l=>b9 (bW.one) u l|exact fun u l=>b9 q u l) C (lB q) ?_)));have U:=C;clear C;intro Bk G C;replace M:=M.step G (hI d);clear U;replace C:cG _ _ (bW.cells (Za)) _:=C;refine dz q (ar q (bw ?_));exact ez (vs:=[(.agg (bW.cells (Za)).toArray),(.int .u64 ((0:Nat):Int)),(.int .i64 c9)]) trivial q ⟨⟨_,q,di (cs:=(bW.cells (Za))) (by exact jJ) C⟩,q,q,tV⟩ q ⟨(Za),0,c9,q,M,(by first|assumption|exact⟨(by first|omega|(simp<;>omega)|simp_all),(by first|omega|(simp<;>omega)|simp_all),(by first|omega|(simp<;>omega)|simp_all),(by first|assumption|rfl|simp_all),(by first|assumption|rfl|simp_all),(by first|assumption|rfl|simp_all),(by first|assumption|rfl|simp_all),(by first|assumption|exact iy _|exact nH (by assumption) (by omega)|simp_all),(by first|omega|(simp<;>omega)|simp_all),(by first|omega|(simp<;>omega)|simp_all),(by first|omega|(simp<;>omega)|simp_all)⟩),(by omega),(by first|assumption|omega|simp_all),(by rw[LG e g Ai Ag,if_pos V];try rfl)⟩
 (have V:=dF k);refine bA (ak (ns (st _ (cJ (bW.cells A) q (by exact jJ) D q) (mv q (aT (us:=(bW.cells A)) q q (by exact jJ) (by first|exact fun u l=>b9 (bW.one) u l|exact fun u l=>b9 q u l) C (lB q) ?_)))));have U:=C;clear C;intro Bl G C;replace M:=M.step G (hI d);clear U;replace C:cG _ _ (bW.cells A) _:=C;refine dz q (ar q ?_);exact ez (vs:=[(.agg (bW.cells A).toArray),(.int .u64 r),(.int .i64 ((0:Nat):Int))]) trivial q ⟨⟨_,q,di (cs:=(bW.cells A)) (by exact jJ) C⟩,q,q,tV⟩ q ⟨A,r,0,q,M,E,(by first|assumption|omega|simp_all),(by first|assumption|omega|simp_all),(by rw[LG e g Ai Ag,if_neg V];try rfl)⟩
theorem ahw:dO Zp 63=true:=by kernel_rfl
theorem agu:gC Zp 145=some [(0,90),(90,1),(91,1)]:=by kernel_rfl
theorem z145:eR Zp 145=some ([.int .u32 0,.int .u32 0,.int .i64 0] ++ (List.replicate 64 (.int .u8 0) ++ (List.replicate 20 (.int .u64 0) ++ ([.int .u32 0,.int .u32 0,.int .u64 0,.int .u64 0,.slice none 0 0])))):=by kernel_rfl
set_option maxRecDepth 100000 in
theorem VW (uQ:Up w Q) {v0:Value} {b:Ly} (h0:Ls fe w Q v0 b) (p0:b.length≤140737488355328) :
  Calls Zp 36 #[v0] w fun en w'=>∃u0:Value,∃r0:Option (jX),∃r1:Nat,en = .returned (.tuple #[u0,(.int .i64 r1)])∧Md [] w w'∧Po xE 145 w' Q u0 r0∧r1<9223372036854775808∧lF b=(r0,r1):=by
 have L0:=h0.eZ;have M:=Md.refl [] w;have Ac:=uQ;have g:∀b,Q b→Q b:=fun _ h=>h;refine enter (n:=32) Tryz.func36 q q q fun B=>ns (dz q (an q (nm q (au ahw q (BV uQ h0) ?_))));rintro en w1 ⟨D,N,X,rfl,C,f,Al,Am,v⟩;refine rv ?_;obtain⟨h0,uQ,M⟩:=k3 C h0 uQ M;refine mv q (se q q (se q q (se q q (cH z85 ?_))));intro l w2 c Ai C A;obtain⟨Q3,Y,P,p,F⟩:=kI uQ c Ai C;replace g:=tT g P;replace c:=lj M.size c;replace h0:=(h0.sub Y).o C;replace M:=M.k C;replace uQ:=F;clear F Y P;have r:cB [] w l:=.inr c;replace A:cG _ _ (bW.cells (Za)) _:=A;have Ak:bW.ok (Za):=(by exact⟨(by decide),(by decide),(by decide),q,q,q,q,(iy _),(by decide),(by decide),(by decide)⟩);refine aT (us:=(bW.cells D)) q q (by exact jJ) (by exact fun u hu=>b9 (bW.one) u hu) A (lB q) ?_
 have y:=A;clear A;intro w5 C A;have hS:∀b∈[l],¬Q3 b:=(hI p);replace h0:=h0.md C hS;replace uQ:=uQ.md C;replace M:=M.step C (hI r);clear y hS;replace A:cG _ _ (bW.cells D) _:=A;refine dz q (an q (aS (nm q (st _ (fO (a:=X) (b:=0) q q) (nt ?_)))));refine cL q (fun o=>?_) (fun o=>?_)
 ·(have U:=dT o);refine nm q (dz q (ar q (bw ?_)));exact ez (vs:=[(.pointer none),(.int .i64 X)]) trivial q ⟨q,q,tV⟩ q ⟨_,none,X,q,M,q,(by assumption),(aaF v U)⟩
 (have U:=dF o);refine bA (ak (ns (st _ (cJ (bW.cells D) q (by exact jJ) A q) (au afV q (LF uQ D f) ?_))));rintro en w6 ⟨I,Ap,rfl,C,Ao,Ah⟩;refine rv ?_;obtain⟨h0,A,uQ,M⟩:=k4 C h0 A uQ M;refine mv q (se q q (se q q (dz q (an q (aS ?_)))));have ro:=aaG v U Ah;have W:=A;refine dN [(0,true),(1,true),(3,true),(4,true),(5,true),(2,false),(6,false)] [7,8,9,10] (fun w'=>Md [] w6 w') dV (by kernel_rfl) ?_;intro w7 O;refine⟨O.mono (by simp),?_⟩;have Z:=O.mono (T:=[]) (by simp);refine mz (fun w' hc=>cJ (bW.cells D) q (by exact jJ) (W.o hc) q) (mo q (mo q (mo q (mz (fun w' hc=>j5 1 0 I fP mO q h0.ej (by omega) (by omega) q ⟨_,q⟩) ?_))));have J:=h0.head (hi:=I) (by omega);obtain⟨A,J,uQ,M⟩:=k4 O A J uQ M;refine lT ?_ rfl;refine iT fP ji ?_;intro j w9 S Aa C H;have K:∀b,ah (.slice (some ⟨j,0,none⟩) 0 0)=some b→b∈[]∨_:=fun b G=>by simp[ah]at G;subst G;exact Or.inr (lj Z.size S)
 have e:cB [] w j:=cB.new M _ S;obtain⟨Ag,Y,P,d,F⟩:=kI uQ S Aa C;replace g:=tT g P;replace A:=A.o C;replace J:=(J.sub Y).o C;obtain⟨M,Z⟩:=k2 C M Z;replace uQ:=F;clear F Y P;replace H:=Ow.dP (m:=0) (lo:=cB [] w) (R:=Ag) (T:=fe) (xs:=([]:Ly)) H q q (by decide) e d;refine ax ⟨q,Z,?_⟩;refine lT ?_ rfl;refine eX (sz:=1) (by rfl) fP ji q q H J (fun _ h _=>h) uQ (cB.new M) (by(simp<;>omega)) (by(simp<;>omega)) ?_;intro i Aw Aq Y P F E C hS _ z;have Ad:∀b,ah i=some b→b∈[]∨_:=fun b G=>(z b G).elim (K b) (fun h=>Or.inr (lj Z.size h));have V:=H;clear H;replace g:=tT g P;replace A:=A.md C (aW V A);replace uQ:=uQ.md C;replace M:=M.dK C (fun b G=>(V.2 b G).1);replace Z:=Z.dK C K;replace uQ:=F;clear F Y P hS z;rw[List.nil_append]at E;refine ax ⟨q,Z,?_⟩;refine dZ ?_;clear W;clear Z;refine st _ (cE (us:=[(bW.cells D),[(.int .u64 N)],[i]]) (cs:=(jX.cells (({h:=D,depth:=N,b:=b.take I}:jX)) i)) [(0,0,90),(1,90,1),(2,91,1)] z145 agu q q ⟨q,q,(gL E.cO),tV⟩ ⟨q,q,q,tV⟩ q q) (gG (cs:=(jX.cells (({h:=D,depth:=N,b:=b.take I}:jX)) i)) q q ?_);intro k Ax L Ab C x;have t:l≠k:=(by have:=A.lt;omega);obtain⟨Ar,Y,P,Af,F⟩:=kI uQ L Ab C;replace E:=E.sub Y P;replace g:=tT g P
 replace L:=lj M.size L;obtain⟨E,M⟩:=k2 C E M;replace uQ:=F;clear F Y P;refine dz q (ar q ?_);exact ez (vs:=[(.pointer (some ⟨k,0,none⟩)),(.int .i64 ((0:Nat):Int))]) trivial q ⟨q,q,tV⟩ q ⟨_,(some (({h:=D,depth:=N,b:=b.take I}:jX))),0,q,M,⟨_,_,q,Ac _ L,x,EZ (by exact⟨(by assumption),(by omega)⟩) (E.ls (fun b G=>g b G) (cB.up Ac))⟩,(by omega),ro.2⟩
theorem jO:gE Zp 147 3=true:=by kernel_rfl
theorem ahy:dO Zp 66=true:=by kernel_rfl
theorem aaj:bf Zp 147 2=some 2:=by kernel_rfl
theorem vK:gC Zp 147=some [(0,1),(1,1),(2,1)]:=by kernel_rfl
theorem agw:gC Zp 173=some [(0,1),(1,1),(2,1),(3,1),(4,1),(5,1),(6,1)]:=by kernel_rfl
theorem yD:eR Zp 147=some [.int .i64 0,.int .i64 0,.int .u64 0]:=by kernel_rfl
theorem z173:eR Zp 173=some (List.replicate 6 (.int .u64 0) ++ ([.slice none 0 0])):=by kernel_rfl
abbrev ij:fo:={kind:=0,flags:=0,size:=0}
theorem VX (uQ:Up w Q) {v0:Value} {b:Ly} (h0:Ls fe w Q v0 b) (p:Nat) (a1:p<18446744073709551616) :
  Calls Zp 66 #[v0,(.int .u64 p)] w fun en w'=>∃r0:fo,∃r1:Nat,en = .returned (.tuple #[.agg (fo.cells r0).toArray,(.int .i64 r1)])∧Md [] w w'∧fo.ok r0∧r1<9223372036854775808∧dQ b p=(r0,r1):=by
 have L0:=h0.eZ;have M:=Md.refl [] w;have A0:=uQ;refine enter (n:=75) Tryz.func66 q q q fun B=>ns (cH yD ?_);intro Aj w1 W Al E A;obtain⟨Q2,sQ,sT,Am,Af⟩:=kI uQ W Al E;replace W:=lj M.size W;replace h0:=(h0.sub sQ).o E;replace M:=M.k E;replace uQ:=Af;clear Af sQ sT;have D:cB [] w Aj:=.inr W;replace A:cG _ _ (fo.cells (ij)) _:=A;have As:fo.ok (ij):=(by exact⟨(by decide),(by decide),(by decide)⟩);refine an q (nm q (sL q fP h0.ej (st _ (dJ (a:=b.length) 18446744073709551616 q (by rw[u3];rfl) kY q (by omega)) (dz q (nt (aS (bS (ns (mv q (st _ (kU (a:=p) (b:=8) q q (by omega)) (st _ (fO (a:=(p%8)) (b:=0) q q) ?_)))))))))));refine an q ?_;refine cL q (fun c=>?_) (fun c=>?_)
 ·(have F:=dT c);refine ns (st _ (cE (us:=[]) (cs:=(fo.cells (ij))) [] yD vK q q trivial trivial q q) (aT (us:=(fo.cells (ij))) q q (by exact jO) (by exact fun u L=>b9 (fo.one) u L) A (lB q) ?_));have C:=A;clear A;intro w4 E A;replace M:=M.step E (hI D);clear C;replace A:cG _ _ (fo.cells (ij)) _:=A;refine ar q (cu (bw ?_));exact ez (vs:=[(.agg (fo.cells (ij)).toArray),(.int .i64 ((3:Nat):Int))]) trivial q ⟨⟨_,q,di (cs:=(fo.cells (ij))) (by exact jO) A⟩,q,tV⟩ q ⟨(ij),3,q,M,(by assumption),(by omega),(JK F)⟩
 (have F:=dF c);refine ns (m2 q q (st _ (jf (a:=p) (b:=b.length) q q) (mv q ?_)));refine cP (t:=19) q (fun I=>?_) (fun I=>?_)
 ·(have r:=dT I);refine sk I (sk I (sk I (sk I (st _ (bE q I q) (an q (fV q q (ns (st _ (cE (us:=[]) (cs:=(fo.cells (ij))) [] yD vK q q trivial trivial q q) (aT (us:=(fo.cells (ij))) q q (by exact jO) (by exact fun u L=>b9 (fo.one) u L) A (lB q) ?_)))))))));have C:=A;clear A;intro w5 E A;replace M:=M.step E (hI D);clear C;replace A:cG _ _ (fo.cells (ij)) _:=A;refine ar q (cu (bw ?_));exact ez (vs:=[(.agg (fo.cells (ij)).toArray),(.int .i64 ((2:Nat):Int))]) trivial q ⟨⟨_,q,di (cs:=(fo.cells (ij))) (by exact jO) A⟩,q,tV⟩ q ⟨(ij),2,q,M,(by assumption),(by omega),(ve F (by omega))⟩
 (have r:=dF I);refine sg I (aU q) (sg I (aU q) (sg I (k9 (a:=b.length) (b:=p) 18446744073709551616 q q q (by omega)) (sg I (eP (a:=(b.length-p)) (b:=16) q q) (st _ (bn q I q) (an q ?_)))));refine cL q (fun d=>?_) (fun d=>?_)
 ·(have o:=dT d);refine ns (st _ (cE (us:=[]) (cs:=(fo.cells (ij))) [] yD vK q q trivial trivial q q) (aT (us:=(fo.cells (ij))) q q (by exact jO) (by exact fun u L=>b9 (fo.one) u L) A (lB q) ?_));have C:=A;clear A;intro w6 E A;replace M:=M.step E (hI D);clear C;replace A:cG _ _ (fo.cells (ij)) _:=A;refine ar q (cu (bw ?_));exact ez (vs:=[(.agg (fo.cells (ij)).toArray),(.int .i64 ((2:Nat):Int))]) trivial q ⟨⟨_,q,di (cs:=(fo.cells (ij))) (by exact jO) A⟩,q,tV⟩ q ⟨(ij),2,q,M,(by assumption),(by omega),(ve F (by omega))⟩
 (have o:=dF d);refine ns (m2 q q (st _ (bT (i:=p) 1 q q fP mO h0.ej (by omega)) ?_));obtain⟨K,J⟩:=eH (l:=b) (i:=p) (by omega);obtain⟨c8,Ak,V⟩:=h0.get J;obtain⟨rfl,_⟩:=Ak;have Ag:=UInt8.toNat_lt K;replace V:At _ v0 (p*1) [(b8 K)]:=V;refine st _ ((d8 (kk:=p*1) 0 q q pY V q).to (b:=(b8 K)) q) (st _ (eP (a:=K.toNat) (b:=1) q q) (mv q ?_));refine cP (t:=32) q (fun G=>?_) (fun G=>?_)
 ·(have x:=dT G);refine sk G (sk G (sk G (sk G (sk G (st _ (bE q G q) (dz q (ax ?_)))))));clear V;refine ak (fV q q (ns (st _ (cE (us:=[]) (cs:=(fo.cells (ij))) [] yD vK q q trivial trivial q q) (aT (us:=(fo.cells (ij))) q q (by exact jO) (by exact fun u L=>b9 (fo.one) u L) A (lB q) ?_))));have C:=A;clear A;intro w9 E A;replace M:=M.step E (hI D);clear C;replace A:cG _ _ (fo.cells (ij)) _:=A;refine ar q (cu (bw ?_));exact ez (vs:=[(.agg (fo.cells (ij)).toArray),(.int .i64 ((4:Nat):Int))]) trivial q ⟨⟨_,q,di (cs:=(fo.cells (ij))) (by exact jO) A⟩,q,tV⟩ q ⟨(ij),4,q,M,(by assumption),(by omega),(by unfold dQ;rw[if_neg F,if_neg (by omega),if_pos (by rw[eT J];omega)];rfl)⟩
 (have x:=dF G);refine sg G (aU q) (sg G (aU q) (sg G (bT (i:=p) 1 q q fP mO h0.ej (by omega)) ?_));obtain⟨Aw,Ac,O⟩:=h0.get J;obtain⟨rfl,_⟩:=Ac;have Ag:=UInt8.toNat_lt K;replace O:At _ v0 (p*1) [(b8 K)]:=O;refine sg G ((d8 (kk:=p*1) 0 q q pY O q).to (b:=(b8 K)) q) (sg G (jf (a:=K.toNat) (b:=7) q q) (st _ (bn q G q) (dz q (ax ?_))));clear V;clear O;refine ak ?_;refine cL q (fun e=>?_) (fun e=>?_)
 ·(have v:=dT e);refine ns (st _ (cE (us:=[]) (cs:=(fo.cells (ij))) [] yD vK q q trivial trivial q q) (aT (us:=(fo.cells (ij))) q q (by exact jO) (by exact fun u L=>b9 (fo.one) u L) A (lB q) ?_));have C:=A;clear A;intro A1 E A;replace M:=M.step E (hI D);clear C;replace A:cG _ _ (fo.cells (ij)) _:=A;refine ar q (cu (bw ?_));exact ez (vs:=[(.agg (fo.cells (ij)).toArray),(.int .i64 ((4:Nat):Int))]) trivial q ⟨⟨_,q,di (cs:=(fo.cells (ij))) (by exact jO) A⟩,q,tV⟩ q ⟨(ij),4,q,M,(by assumption),(by omega),(by unfold dQ;rw[if_neg F,if_neg (by omega),if_pos (by rw[eT J];omega)];rfl)⟩
 (have v:=dF e);refine ns (m2 q q (st _ (fM (a:=p) (b:=1) 18446744073709551616 q q q (by omega)) (st _ (bT (i:=p+1) 1 q q fP mO h0.ej (by omega)) ?_)));obtain⟨X,N⟩:=eH (l:=b) (i:=p+1) (by omega);obtain⟨Ax,Ad,P⟩:=h0.get N;obtain⟨rfl,_⟩:=Ad;have Av:=UInt8.toNat_lt X;replace P:At _ v0 ((p+1)*1) [(b8 X)]:=P;refine st _ ((d8 (kk:=(p+1)*1) 0 q q pY P q).to (b:=(b8 X)) q) (st _ (fO (a:=X.toNat) (b:=0) q q) (dz q (ax ?_)));clear P;refine ak ?_;refine cL q (fun f=>?_) (fun f=>?_)
 ·(have y:=dT f);refine ns (st _ (cE (us:=[]) (cs:=(fo.cells (ij))) [] yD vK q q trivial trivial q q) (aT (us:=(fo.cells (ij))) q q (by exact jO) (by exact fun u L=>b9 (fo.one) u L) A (lB q) ?_));have C:=A;clear A;intro A2 E A;replace M:=M.step E (hI D);clear C;replace A:cG _ _ (fo.cells (ij)) _:=A;refine ar q (cu (bw ?_));exact ez (vs:=[(.agg (fo.cells (ij)).toArray),(.int .i64 ((7:Nat):Int))]) trivial q ⟨⟨_,q,di (cs:=(fo.cells (ij))) (by exact jO) A⟩,q,tV⟩ q ⟨(ij),7,q,M,(by assumption),(by omega),(by unfold dQ;rw[if_neg F,if_neg (by omega),if_neg (by rw[eT J];omega),if_pos (by rw[eT N];omega)];rfl)⟩
 (have y:=dF f);refine ns (m2 q q (st _ (fM (a:=p) (b:=8) 18446744073709551616 q q q (by omega)) (au TH q (xA uQ h0 (p+8) (by omega) (by omega)) ?_)));rintro en A3 ⟨j,rfl,E,Ao,U⟩;refine rv ?_;obtain⟨h0,A,uQ,M⟩:=k4 E h0 A uQ M;refine st _ (eP (a:=j) (b:=16) q q) (an q ?_);refine cL q (fun g=>?_) (fun g=>?_)
 ·(have z:=dT g);refine ns (st _ (cE (us:=[]) (cs:=(fo.cells (ij))) [] yD vK q q trivial trivial q q) (aT (us:=(fo.cells (ij))) q q (by exact jO) (by exact fun u L=>b9 (fo.one) u L) A (lB q) ?_));have C:=A;clear A;intro A4 E A;replace M:=M.step E (hI D);clear C;replace A:cG _ _ (fo.cells (ij)) _:=A;refine ar q (cu (bw ?_));exact ez (vs:=[(.agg (fo.cells (ij)).toArray),(.int .i64 ((5:Nat):Int))]) trivial q ⟨⟨_,q,di (cs:=(fo.cells (ij))) (by exact jO) A⟩,q,tV⟩ q ⟨(ij),5,q,M,(by assumption),(by omega),(by unfold dQ;rw[if_neg F,if_neg (by omega),if_neg (by rw[eT J];omega),if_neg (by rw[eT N];omega),if_pos (by rw[U];omega)];rfl)⟩
 (have z:=dF g);refine ns (m2 q q (st _ (fM (a:=p) (b:=8) 18446744073709551616 q q q (by omega)) (au TH q (xA uQ h0 (p+8) (by omega) (by omega)) ?_)));rintro en Ar ⟨k,rfl,E,Ap,Z⟩;refine rv ?_;obtain⟨h0,A,uQ,M⟩:=k4 E h0 A uQ M;refine m2 q q (st _ (k9 (a:=b.length) (b:=p) 18446744073709551616 q q q (by omega)) (st _ (jf (a:=k) (b:=(b.length-p)) q q) (an q ?_)));refine cL q (fun h=>?_) (fun h=>?_)
 ·(have Aa:=dT h);refine ns (st _ (cE (us:=[]) (cs:=(fo.cells (ij))) [] yD vK q q trivial trivial q q) (aT (us:=(fo.cells (ij))) q q (by exact jO) (by exact fun u L=>b9 (fo.one) u L) A (lB q) ?_));have C:=A;clear A;intro A5 E A;replace M:=M.step E (hI D);clear C;replace A:cG _ _ (fo.cells (ij)) _:=A;refine ar q (cu (bw ?_));exact ez (vs:=[(.agg (fo.cells (ij)).toArray),(.int .i64 ((2:Nat):Int))]) trivial q ⟨⟨_,q,di (cs:=(fo.cells (ij))) (by exact jO) A⟩,q,tV⟩ q ⟨(ij),2,q,M,(by assumption),(by omega),(by unfold dQ;rw[if_neg F,if_neg (by omega),if_neg (by rw[eT J];omega),if_neg (by rw[eT N];omega),if_neg (by rw[U];omega),if_pos (by rw[Z];omega)];rfl)⟩
 (have Aa:=dF h);refine bA (cA (ak (aS ?_)));have Y:=h0;refine dN [(0,true),(1,true),(2,true),(3,true),(4,true),(5,true),(6,true),(7,true),(8,false)] [9,10,11] (fun w'=>Md [] Ar w') dV (by kernel_rfl) ?_;intro A6 S;refine⟨S.mono (by simp),?_⟩;have MC:=S.mono (T:=[]) (by simp);refine mo q (mo q (mz (fun w' hc=>bT (i:=p) 1 q q fP mO h0.ej (by omega)) ?_));obtain⟨Ay,Ae,R⟩:=Y.get J;obtain⟨rfl,_⟩:=Ae;have Ag:=UInt8.toNat_lt K;replace R:At _ v0 (p*1) [(b8 K)]:=R;refine mz (fun w' hc=>(d8 (kk:=p*1) 0 q q pY (R.o hc) q).to (b:=(b8 K)) q) (mz (fun w' hc=>dJ (a:=K.toNat) 9223372036854775808 q (by rw[u5];rfl) u3 q (lq (UInt8.toNat_lt _) (by decide))) (mo q (mo q (mz (fun w' hc=>fM (a:=p) (b:=8) 18446744073709551616 q q q (by omega)) ?_))));obtain⟨h0,A,uQ,M⟩:=k4 S h0 A uQ M;refine lT ?_ rfl;refine au TH q (xA uQ h0 (p+8) (by omega) (by omega)) ?_;rintro en A7 ⟨H,rfl,E,Aq,Ab⟩;refine rv ?_;obtain⟨A,M,MC⟩:=k3 E A M MC;refine ax ⟨q,MC,?_⟩;refine dZ ?_;clear Y;clear MC;refine st _ (cE (us:=[[(.int .i64 K.toNat)],[(.int .u64 H)]]) (cs:=(fo.cells (({kind:=K.toNat,flags:=0,size:=H}:fo)))) [(0,0,1),(2,2,1)] yD vK q q ⟨q,q,tV⟩ ⟨q,q,tV⟩ q q) (aT (us:=(fo.cells (({kind:=K.toNat,flags:=0,size:=H}:fo)))) q q (by exact jO) (by exact fun u L=>b9 (fo.one) u L) A (lB q) ?_);have C:=A;clear A;intro A8 E A
 replace M:=M.step E (hI D);clear C;replace A:cG _ _ (fo.cells (({kind:=K.toNat,flags:=0,size:=H}:fo))) _:=A;refine dz q (ax ?_);clear R;refine ak (j8 ?_);exact ez (vs:=[(.agg (fo.cells (({kind:=K.toNat,flags:=0,size:=H}:fo))).toArray),(.int .i64 ((0:Nat):Int))]) trivial q ⟨⟨_,q,di (cs:=(fo.cells (({kind:=K.toNat,flags:=0,size:=H}:fo)))) (by exact jO) A⟩,q,tV⟩ q ⟨(({kind:=K.toNat,flags:=0,size:=H}:fo)),0,q,M,(by exact⟨(by(simp<;>omega)),(by(simp<;>omega)),(by omega)⟩),(by omega),(by unfold dQ;rw[if_neg F,if_neg (by omega),if_neg (by rw[eT J];omega),if_neg (by rw[eT N];omega),if_neg (by rw[U];omega),if_neg (by rw[Z];omega),eT J,Ab])⟩
theorem agx:gC Zp 178=some [(0,1),(1,1)]:=by kernel_rfl
theorem agK:eR Zp 178=some [.int .u64 0,.slice none 0 0]:=by kernel_rfl
theorem ahx:dO Zp 65=true:=by kernel_rfl
theorem aai:bf Zp 145 0=some 0:=by kernel_rfl
theorem KS:bf Zp 145 2=some 91:=by kernel_rfl
theorem WM (uQ:Up w Q) {v0:Value} {v:jX} (h0:Pt xE 145 w Q v0 v) :
  Calls Zp 65 #[v0] w fun en w'=>∃r0:Nat,en = .returned (.int .u64 r0)∧Md [] w w'∧r0<18446744073709551616∧v.b.length=r0:=by
 obtain⟨D,E,rfl,C,h0,tF⟩:=h0;obtain⟨G,rfl,I,A⟩:=FA tF;have M:=Md.refl [] w;have F:=uQ;refine enter (n:=9) Tryz.func65 q q q fun B=>ns (an q (nm q (sn q (sf q KS (sl (u:=G) q gy h0 q ?_)))));have H:=A.eZ;refine sL q fP A.ej (st _ (dJ (a:=v.b.length) 18446744073709551616 q (by rw[u3];rfl) kY q (by omega)) (ar q ?_));exact dA (v:=(.int .u64 v.b.length)) trivial q ⟨q,tV⟩ ⟨v.b.length,q,M,(by omega),q⟩
theorem ahz:dO Zp 67=true:=by kernel_rfl
theorem OI (uQ:Up w Q) (n:Nat) (a0:n<18446744073709551616) (p0:n≤9223372036854775807) :
  Calls Zp 67 #[(.int .u64 n)] w fun en w'=>∃r0:Nat,∃r1:Bool,en = .returned (.tuple #[(.int .u64 r0),(.bool r1)])∧Md [] w w'∧r0<18446744073709551616∧(nV n,true)=(r0,r1):=by
 have M:=Md.refl [] w;have F:=uQ;refine enter (n:=17) Tryz.func67 q q q fun B=>ns (dz q (an q (aS (nm q (st _ (kU (a:=n) (b:=8) q q (by omega)) (st _ (jB (a:=(n%8)) (b:=0) q q) (nt ?_)))))));refine cL q (fun E=>?_) (fun E=>?_)
 ·(first|(have D:=dT E)|(have D:=dF (iV E))|(have D:=iV E)|(have D:=E));refine nm q (dz q (ar q (bw ?_)));exact ez (vs:=[(.int .u64 n),(.bool true)]) trivial q ⟨q,q,tV⟩ q ⟨n,true,q,M,(by first|assumption|omega|simp_all),(Prod.ext (by show nV n=_;unfold nV;omega) q)⟩
 (first|(have D:=dF E)|(have D:=dT (iM E))|(have D:=iM E)|(have D:=E));refine bA (ak (ns (m2 q q (st _ (kU (a:=n) (b:=8) q q (by omega)) (st _ (k9 (a:=n) (b:=(n%8)) 18446744073709551616 q q q (by omega)) (an q (aS (nm q (st _ (jB (a:=(n-(n%8))) (b:=18446744073709551608) q q) (nt ?_))))))))));refine cL q (fun C=>?_) (fun C=>?_)
 ·(first|(have A:=dT C)|(have A:=dF (iV C))|(have A:=iV C)|(have A:=C));exfalso;omega
 (first|(have A:=dF C)|(have A:=dT (iM C))|(have A:=iM C)|(have A:=C));refine bA (ak (nm q (st _ (fM (a:=(n-(n%8))) (b:=8) 18446744073709551616 q q q (by omega)) (dz q (ar q ?_)))));exact ez (vs:=[(.int .u64 (((n-(n%8))+8:Nat):Int)),(.bool true)]) trivial q ⟨q,q,tV⟩ q ⟨(n-(n%8))+8,true,q,M,(by first|assumption|omega|simp_all),(Prod.ext (by show nV n=_;unfold nV;omega) q)⟩
set_option maxRecDepth 100000 in
theorem TW (uQ:Up w Q) {v0:Value} {v:jX} (h0:Pt xE 145 w Q v0 v) (p0:v.b.length≤1000000) :
  Calls Zp 37 #[v0] w fun en w'=>∃u0:Value,∃r0:List Nat,∃r1:Nat,en = .returned (.tuple #[u0,(.int .i64 r1)])∧Md [] w w'∧Ls ep w' Q u0 r0∧r1<9223372036854775808∧UJ v.b (v.h.n.getD 0 0) []=(r0,r1):=by
 obtain⟨c,A5,rfl,G,h0,tF⟩:=h0;obtain⟨v1,rfl,q2,A⟩:=FA tF;have M:=Md.refl [] w;have As:=uQ;have f:∀b,Q b→Q b:=fun _ h=>h;have K:∀b,Q b→b<w.heap.size→Q b:=fun _ h _=>h;refine enter (n:=46) Tryz.func37 q q q fun B=>ns (dz q (an q (ns (dz q (nt (nm q (sn q (sf q aai (sf q dB (st _ ((bV (i:=0) 1 q q mq e6 (by decide))) (sl (u:=(.int .u64 ((v.h.n.getD 0 0:Nat):Int))) q bR h0 q ?_)))))))))));have q4:v.h.n.getD 0 0<18446744073709551616:=(eU q2.1.2.2.2.2.2.2.2.1 0);refine an q (aS (bS ?_));obtain⟨r0,U⟩:∃r,UJ v.b (v.h.n.getD 0 0) []=r:=⟨_,q⟩;have V:=U
 try simp only[List.nil_append]at U
 refine mE (fun(vo:Value) (o:List Nat) (a:Nat)=>[(4,vo),(5,(.int .u64 a)),(0,(.pointer (some ⟨c,0,none⟩)))]) (fun(vo:Value) (o:List Nat) (a:Nat) w'=>∃Q':Nat→Prop,(∀b,Q' b→Q b)∧(∀b,Q b→b<w.heap.size→Q' b)∧Up w' Q'∧Md [] w w'∧Ow ep 36 (cB [] w) w' Q' vo o∧cG w' c (jX.cells v v1) 145∧Ls fe w' Q' v1 v.b∧Q' c∧o.length≤a∧a<18446744073709551616∧UJ v.b a o=r0) (fun(vo:Value) (o:List Nat) (a:Nat)=>v.b.length-a) (x0:=SN) (x1:=([]:List Nat)) (x2:=(v.h.n.getD 0 0)) ?_ ?_ ?_
 ·exact⟨q,q,q,tV⟩
 ·exact⟨Q,f,K,uQ,M,(Ow.nil _ _ _ _ _),h0,A,G,(by simp),(by omega),(by have y:=U;first|exact y|exact V|(simp only[List.nil_append]at y;exact y))⟩
 clear M uQ f K G A h0
 rintro vo o a B w5 ⟨Q6,f,K,uQ,M,D,h0,A,G,Az,A0,l⟩;refine aS (ns (m2 q q (au ahx q (WM uQ ⟨_,_,q,G,h0,EZ q2 A⟩) ?_)));rintro en w7 ⟨Ah,rfl,C,A3,A6⟩;refine rv ?_;obtain⟨D,h0,A,uQ,M⟩:=k5 C D h0 A uQ M;refine st _ (eP (a:=a) (b:=Ah) q q) (nt ?_);refine cL q (fun I=>?_) (fun I=>?_)
 ·(first|(have H:=dT I)|(have H:=dF (iV I))|(have H:=iV I)|(have H:=I));refine bA (ak (bS (nm q (sn q (sf q KS (sl (u:=v1) q gy h0 q (mv q (au ahy q (VX uQ A a (by first|omega|(simp<;>omega))) ?_))))))));rintro en w8 ⟨L,Y,rfl,C,e,A4,Ae⟩;refine rv ?_;obtain⟨D,h0,A,uQ,M⟩:=k5 C D h0 A uQ M;refine mv q (se q q (se q q (cH yD ?_)));intro j w9 d Ap C F;have Al:c≠j:=(by have:=h0.lt;omega);obtain⟨Ab,Z,z,p,W⟩:=kI uQ d Ap C;replace G:=Z _ G h0.lt;replace f:=tT f z;replace K:=sS Z K M;replace d:=lj M.size d;replace D:=(D.sub Z z).o C;replace h0:=h0.o C;replace A:=(A.sub Z).o C;replace M:=M.k C;replace uQ:=W;clear W Z z;have t:cB [] w j:=.inr d;replace F:cG _ _ (fo.cells (ij)) _:=F;have Aq:fo.ok (ij):=(by first|exact⟨(by decide),(by decide),(by decide)⟩|exact(by first|assumption|exact⟨(by first|omega|(simp<;>omega)|simp_all),(by first|omega|(simp<;>omega)|simp_all),(by first|omega|(simp<;>omega)|simp_all)⟩));refine aT (us:=(fo.cells L)) q q (by exact jO) (by first|exact fun u hu=>b9 (fo.one) u hu|exact fun u hu=>b9 q u hu) F (lB q) ?_;have g:=F;clear F;intro A8 C F;have x:∀b∈[j],¬Ab b:=(hI p);replace D:=D.md C (aB g D) x;replace h0:=h0.md C (by intro N;simp at N;omega);replace A:=A.md C x;replace uQ:=uQ.md C;replace M:=M.step C (hI t);clear g x;replace F:cG _ _ (fo.cells L) _:=F;refine dz q ?_
  refine nt (aS (nm q (st _ (fO (a:=Y) (b:=0) q q) (nt ?_))));refine cL q (fun J=>?_) (fun J=>?_)
  ·(first|(have E:=dT J)|(have E:=dF (iV J))|(have E:=iV J)|(have E:=J));refine nm q (dz q (ar q (bw (cu (bw (cu (bw ?_)))))));exact ez (vs:=[SN,(.int .i64 Y)]) trivial q ⟨q,q,tV⟩ q ⟨_,[],Y,q,M,(Ls.nil _ _ _),(by first|assumption|omega|simp_all),(V.trans (l.symm.trans (ae2 (by omega) Ae (by omega))))⟩
  (first|(have E:=dF J)|(have E:=dT (iM J))|(have E:=iM J)|(have E:=J));refine bA (ak (ns ?_));have Af:=Ae;have ff:=kM Af E;have fu:∀k:Nat,nV k=(k+7)/8*8:=fun _=>rfl;refine m2 q q (bU [[(.int .u64 a)]] ku iF (by decide) (by decide) q q ⟨q,tV⟩ ⟨q,tV⟩ q (by decide) ?_);intro Ax A9 Ac A1 C S;have Ai:=uQ _ Ac;obtain⟨D,h0,A,F,uQ,M⟩:=k6 C D h0 A F uQ M;replace S:=Ls.dP (m:=1) (R:=Ab) (T:=ep) (xs:=[a]) S ⟨_,_,q,⟨q,(by omega)⟩,q⟩ q (by decide) Ai;refine eX (sz:=1) (by rfl) ku iF q q D S (fun _ h _=>h) uQ (cB.new M) (by first|omega|(simp<;>omega)|(simp at *<;>omega)) (by first|omega|(simp<;>omega)|(simp at *<;>omega)) ?_;intro Av Ba Aj Z z W P C x _ Ao;have O:=D;clear D;replace G:=Z _ G h0.lt;replace f:=tT f z;replace K:=sS Z K M;replace h0:=h0.md C (aW O h0);replace A:=(A.sub Z).md C x;replace F:=F.md C (aW O F);replace uQ:=uQ.md C;replace M:=M.dK C (fun b N=>(O.2 b N).1);replace uQ:=W;clear W Z z x Ao;refine an q (ns (sf q aaj (sl (u:=(.int .u64 L.size)) q bR F q ?_)));have A7:L.size<18446744073709551616:=e.2.2;refine au ahz q (OI uQ L.size (by first|omega|(simp<;>omega)) (by first|omega|(simp<;>omega)|(simp at *<;>omega))) ?_;rintro en Bb ⟨X,Aw,rfl,C,Ar,Ad⟩;refine rv ?_;obtain⟨h0,A,P,uQ,M⟩:=k5 C h0 A P uQ M;refine mv q (se q q ?_)
  refine se q q (dz q (an q (aR ?_)));have ea:=congrArg Prod.fst Ad;simp only at ea;rw[fu]at ea;refine m2 q q (st _ (fM (a:=a) (b:=X) 18446744073709551616 q q q (by omega)) (dz q (ax (cA (ak ?_)))));refine jL (x0:=Av) (x1:=(o ++ ([a]))) (x2:=(a+X)) (by omega) ⟨q,(eA q (by first|rfl|omega)),q,tV⟩ ⟨Aj,f,K,uQ,M,P,h0,A,G,(by simp;omega),(by omega),(by have y:=l;rw[adE (by omega) Af E,fu,ea]at y;exact y)⟩
 (first|(have H:=dF I)|(have H:=dT (iM I))|(have H:=iM I)|(have H:=I));refine dG (bZ (bZ (ey (ak (nm q (dz q (ar q ?_)))))));exact ez (vs:=[vo,(.int .i64 ((0:Nat):Int))]) trivial q ⟨q,q,tV⟩ q ⟨_,o,0,q,M,(D.ls (fun b N=>f b N) (cB.up As)),(by first|assumption|omega|simp_all),(V.trans (l.symm.trans (ZR (by omega))))⟩
theorem ahk:dO Zp 36=true:=by kernel_rfl
theorem ahl:dO Zp 37=true:=by kernel_rfl
set_option maxRecDepth 100000 in
theorem GD (uQ:Up w Q) {v0:Value} {b:Ly} (h0:Ls fe w Q v0 b) (p0:b.length≤1000000) :
  Calls Zp 9 #[v0] w fun en w'=>∃u0:Value,∃r0:List Nat,∃r1:Nat,en = .returned (.tuple #[u0,(.int .i64 r1)])∧Md [] w w'∧Ls ep w' Q u0 r0∧r1<9223372036854775808∧DU b=(r0,r1):=by
 have d:=h0.eZ;have M:=Md.refl [] w;have Z:=uQ;have Y:∀b,Q b→Q b:=fun _ h=>h;refine enter (n:=18) Tryz.func9 rfl rfl rfl fun B=>ns (dz rfl (an rfl (nm rfl (au ahk rfl (VW uQ h0 (by first|omega|(simp<;>omega)|(simp at *<;>omega))) ?_))));rintro en c ⟨I,U,D,rfl,L,E,S,G⟩;refine rv ?_;obtain⟨uQ,M⟩:=k2 L uQ M;refine mv rfl (se rfl rfl (se rfl rfl (dz rfl (an rfl (aS (nm rfl (st _ (fO (a:=D) (b:=0) rfl rfl) (nt ?_))))))));refine cL rfl (fun C=>?_) (fun C=>?_)
 ·(first|(have A:=dT C)|(have A:=dF (iV C))|(have A:=iV C)|(have A:=C));refine nm rfl (dz rfl (ar rfl (bw ?_)));exact ez (vs:=[SN,(.int .i64 D)]) trivial rfl ⟨rfl,rfl,tV⟩ rfl ⟨_,[],D,rfl,M,(Ls.nil _ _ _),(by first|assumption|omega|simp_all),(acv G A)⟩
 (first|(have A:=dF C)|(have A:=dT (iM C))|(have A:=iM C)|(have A:=C));refine bA (ak (ns ?_));obtain⟨q,y,P,W,e,g⟩:=WL G (by omega);have X:q.b=y.b:=(by rw[W];rfl);have R:=G;rw[P]at R;have O:Pt xE 145 c Q I q:=(by have h:=E;rw[P]at h;exact h);clear E;refine mv rfl (au ahl rfl (TW uQ O (by rw[X];omega)) ?_);rintro en f ⟨J,K,F,rfl,L,H,T,N⟩;refine rv ?_;replace M:=M.k L;refine se rfl rfl (se rfl rfl (dz rfl (ar rfl ?_)));exact ez (vs:=[J,(.int .i64 F)]) trivial rfl ⟨rfl,rfl,tV⟩ rfl ⟨_,K,F,rfl,M,(H.sub (fun b V _=>Y b V)),(by first|assumption|omega|simp_all),((Ra R A).trans N)⟩
end Go.Proofs.YtbmmkbejcnalcaaGreat
namespace Go.Wk
open Go Go.RowKit
def OC (v:Value):List PanicEntry:=[{v,recovered:=false}]
def JS (P:Program) (t:TypeId):Bool:=match P.underlying t with|some (.interface _)=>true|_=>false
def AJ (P:Program) (t:TypeId):Bool:=match P.underlying t with|some (.interface _)=>false|some _=>true|none=>false
theorem xV {P:Program} {t:TypeId} (h:AJ P t=true):∃X,P.underlying t=some X∧∀Y,X≠.interface Y:=by
  unfold AJ at h
  split at h
  · cases h
  · rename_i X h1 h2;exact⟨X,h2,fun Y e=>h1 Y e⟩
  cases h
theorem zQ {P:Program} {t:TypeId} (h:JS P t=true):∃X,P.underlying t=some (.interface X):=by
  unfold JS at h
  split at h
  · exact⟨_,by assumption⟩
  cases h
section
variable {P:Program} {ops:Array Oper} {Q:Exit→Act→World→Prop} {rest:List Oper}
variable {n:Nat} {A:Fr n} {D:List Deferred} {l:List (Nat × Value)} {w:World}
variable {d:Tmp} {op:Op} {ty:TypeId} {ps:String} {af:Array Edge} {g:Option (Nat × Bool)}
theorem door {vs:List Value} {m:Nat} (hn:m=n) (hle:Nat.ble vs.length n=true) :
    ∃B:Fr n,bh B [] (rP 0 vs)={tmps:=vs.toArray ++ Array.replicate (m-vs.toArray.size) undef,defers:=[]}:=by
  have hle':vs.length≤n:=lB hle
  have D:(vs.toArray ++ Array.replicate (m-vs.toArray.size) undef).size=n:=by simp[hn];omega
  refine⟨⟨_,D⟩,E1 ?_⟩
  intro p G
  obtain⟨j,E,F⟩:=AF G
  obtain⟨A,C⟩:=List.getElem?_eq_some_iff.1 F
  simp only[E,Nat.zero_add,Array.getD]
  rw[dif_pos (by simp;omega)]
  show(vs.toArray ++ _)[j]'_=_
  rw[Array.getElem_append_left (by simpa using A)]
  simpa using C
theorem aeg {f:FuncId} {fn:Func} {c:Code} {vs:List Value} {R:Ending→World→Prop} (hf:P.funcs[f]? = some fn) (hb:fn.body=some c) (hn:fn.ntmps=n) (hle:Nat.ble vs.length n=true)
    (h:∀B:Fr n,c.wp P (bodyPostD P fn R) (bh B [] (rP 0 vs)) w):Calls P f vs.toArray w R:=by
  refine calls_of_wp_defers hf hb ?_
  obtain⟨B,A⟩:=door hn hle
  rw[← A];exact h B
theorem aeh {f:FuncId} {fn:Func} {c:Code} {vs:List Value} {u:FrameMode} {R:Ending→FrameMode→World→Prop} (hf:P.funcs[f]? = some fn) (hb:fn.body=some c) (hn:fn.ntmps=n) (hle:Nat.ble vs.length n=true)
    (h:∀(B:Fr n) (c₀:Go.Frame) (cs:List Go.Frame),c₀.mode=u→c.wpS P (bodyPostS P fn c₀ cs R) (bh B [] (rP 0 vs)) (c₀ :: cs) w):CallsD P f vs.toArray u w R:=by
  refine callsD_of_wpS hf hb fun c₀ cs C=>?_
  obtain⟨B,A⟩:=door hn hle
  rw[← A];exact h B c₀ cs C
theorem sx {f:FuncId} {xs:List Operand} {vs:List Value} {d':Option Tmp} (hx:evs n l xs=some vs) :
    cZ P ⟨d',.makeFunc (.func f) #[] xs.toArray,ty,ps,af,g⟩ (bh A D l).eval w (.func (.func f) #[] vs.toArray):=by
  have B:=mC (A:=A) (D:=D) hx
  simp[cZ,execOp,Instr.makeFunc,B]
theorem VI (dd:Deferred) (v:Option Tmp) (x:Value):({bh A D l with defers:=dd :: (bh A D l).defers}.put v x)=match v with|some t=>bh A (dd :: D) ((t,x) :: l)|none=>bh A (dd :: D) l:=by
  have B:∀l:List (Nat × Value),({bh A D l with defers:=dd :: (bh A D l).defers}:Act)=bh A (dd :: D) l:=by
    intro l
    rw[fZ]
    induction l with
    | nil=>rfl
    | cons p r ih=>simp only[bh,Act.put]at ih ⊢;simp only[← ih]
  rw[B]
  cases v <;> rfl
theorem abl {f:FuncId} {c:Operand} {ts:Array TypeId} {cs:List Value} {d':Option Tmp} (hc:ev n l c=some (.func (.func f) #[] cs.toArray))
    (k:wpList P ops Q rest (match d' with|some t=>bh A (⟨.fn (.func f) cs.toArray,#[]⟩ :: D) ((t,undef) :: l)|none=>bh A (⟨.fn (.func f) cs.toArray,#[]⟩ :: D) l) w) :
    wpList P ops Q (⟨d',.defer {callee:=.value c,args:=#[],argTypes:=ts},ty,ps,af,none⟩ :: rest) (bh A D l) w:=by
  refine gJ q ?_
  unfold Oper.wp
  have B:(execOp (bh A D l).eval ⟨d',.defer {callee:=.value c,args:=#[],argTypes:=ts},ty,ps,af,none⟩).run P w = .ok (.defer ⟨.fn (.func f) cs.toArray,#[]⟩) w:=by
    simp[execOp,resolve,cC hc,Deferred.ofValue]
  rw[B]
  show wpList P ops Q rest ({bh A D l with defers:=_ :: (bh A D l).defers}.put d' undef) w
  rw[VI]
  cases d' <;> exact k
theorem WW {f:FuncId} {c:Operand} {xs:List Operand} {ts:Array TypeId} {vs cs:List Value} {R:Ending→World→Prop} {d':Option Tmp} (hc:ev n l c=some (.func (.func f) #[] cs.toArray)) (hf:dO P f=true) (ha:evs n l xs=some vs) (hr:Calls P f (vs ++ cs).toArray w R)
    (k:∀e w',R e w'→(∃v,e = .returned v∧wpList P ops Q rest ((bh A D l).put d' v) w')∨∃ch,e = .panicked ch∧Q (.panic ch) (bh A D l) w') :
    wpList P ops Q (⟨d',.call {callee:=.value c,args:=xs.toArray,argTypes:=ts},ty,ps,af,none⟩ :: rest) (bh A D l) w:=by
  refine gJ q ?_
  unfold Oper.wp
  have E:=mC (A:=A) (D:=D) ha
  have B:(execOp (bh A D l).eval ⟨d',.call {callee:=.value c,args:=xs.toArray,argTypes:=ts},ty,ps,af,none⟩).run P w = .ok (.enter f (vs ++ cs).toArray) w:=by
    simp only[execOp,resolve,cC hc,Deferred.ofValue,List.map_toArray,E]
    simp[invoke,oM hf]
  rw[B]
  refine hr.mono fun e w' C=>?_
  rcases k e w' C with⟨v,rfl,hk⟩|⟨ch,rfl,hk⟩
  · exact hk
  exact hk
theorem kW {f:FuncId} {xs:List Operand} {ts:Array TypeId} {vs:List Value} {R:Ending→World→Prop} (hf:dO P f=true) (ha:evs n l xs=some vs) (hr:Calls P f vs.toArray w R)
    (k:∀e w',R e w'→(∃v,e = .returned v∧wpList P ops Q rest (bh A D ((d,v) :: l)) w')∨∃ch,e = .panicked ch∧Q (.panic ch) (bh A D l) w') :
    wpList P ops Q (⟨some d,.call {callee:=.value (.func f),args:=xs.toArray,argTypes:=ts},ty,ps,af,none⟩ :: rest) (bh A D l) w:=by
  refine gJ q ?_
  unfold Oper.wp
  rw[wH hf ha]
  refine hr.mono fun e w' B=>?_
  rcases k e w' B with⟨v,rfl,hk⟩|⟨ch,rfl,hk⟩
  · exact hk
  exact hk
theorem mZ {x:Operand} {t:TypeId} {v:Value} {d':Option Tmp} (hT:AJ P t=true) (hx:ev n l x=some v) :
    cZ P ⟨d',.makeInterface t x,ty,ps,af,g⟩ (bh A D l).eval w (.iface t v):=by
  obtain⟨X,hT,B⟩:=xV hT
  cases X <;> simp_all [cZ,execOp,cC hx,Instr.makeInterface,run_underlying hT]
theorem pA {x:Operand} {t:TypeId} {v:Value} {d':Option Tmp} (hx:ev n l x=some (.iface t v)) (k:Q (.panic (OC (.iface t v))) (bh A D l) w) :
    wpList P ops Q (⟨d',.panic x,ty,ps,af,none⟩ :: rest) (bh A D l) w:=by
  refine gJ q ?_
  unfold Oper.wp
  have B:(execOp (bh A D l).eval ⟨d',.panic x,ty,ps,af,none⟩).run P w = .halt (.panic (.iface t v)) w:=by
    simp[execOp,cC hx,Instr.panic,goPanic]
  rw[B];exact k
theorem gX {fn:Func} {R:Ending→World→Prop} {ch:List PanicEntry} (h:R (.panicked ch) w):bodyPost P fn R (.panic ch) (bh A [] l) w:=⟨fZ,h⟩
theorem abP {t s:TypeId} {v:Value} {X} (w:World) (dd:Nat) (hT:P.underlying t=some (.interface X)):(Op.equalIn (dd+1) t (.iface s v) .nilIface).run P w = .ok false w:=by
  simp only[Op.equalIn,Sem.run_bind,run_underlying hT,Result.andThen_ok,Sem.run_pure]
theorem abO {t:TypeId} {X} (w:World) (dd:Nat) (hT:P.underlying t=some (.interface X)):(Op.equalIn (dd+1) t .nilIface .nilIface).run P w = .ok true w:=by
  simp only[Op.equalIn,Sem.run_bind,run_underlying hT,Result.andThen_ok,Sem.run_pure]
theorem acD {x:Operand} {t u s:TypeId} {v:Value} (hx:ev n l x=some (.iface s v)) (hT:JS P t=true) :
    cZ P ⟨some d,.binOp .neq t x (.const .nilIface) u,ty,ps,af,g⟩ (bh A D l).eval w (.bool true):=by
  obtain⟨X,hT⟩:=zQ hT
  have C:(bh A D l).eval (.const .nilIface) = .nilIface:=rfl
  have E:(eqGuard .neq t x (.const .nilIface) (.iface s v) .nilIface).run P w = .ok () w:=by unfold eqGuard;simp
  have B:(binOp .neq t (.iface s v) .nilIface).run P w = .ok (.bool true) w:=by
    simp only[binOp,Op.equal,Op.maxDepth,Sem.run_bind,abP w 9999 hT,Result.andThen_ok,Sem.run_pure,Bool.not_false]
  simp[cZ,execOp,cC hx,C,E,B]
theorem acE {x:Operand} {t u:TypeId} (hx:ev n l x=some .nilIface) (hT:JS P t=true) :
    cZ P ⟨some d,.binOp .neq t x (.const .nilIface) u,ty,ps,af,g⟩ (bh A D l).eval w (.bool false):=by
  obtain⟨X,hT⟩:=zQ hT
  have C:(bh A D l).eval (.const .nilIface) = .nilIface:=rfl
  have E:(eqGuard .neq t x (.const .nilIface) .nilIface .nilIface).run P w = .ok () w:=by unfold eqGuard;simp
  have B:(binOp .neq t .nilIface .nilIface).run P w = .ok (.bool false) w:=by
    simp only[binOp,Op.equal,Op.maxDepth,Sem.run_bind,abO w 9999 hT,Result.andThen_ok,Sem.run_pure,Bool.not_true]
  simp[cZ,execOp,cC hx,C,E,B]
end
section
variable {P:Program} {ops:Array Oper} {QS:Exit→Act→List Go.Frame→World→Prop} {cs:List Go.Frame} {rest:List Nat}
variable {n:Nat} {A:Fr n} {D:List Deferred} {l:List (Nat × Value)} {w:World}
theorem abk {i d:Nat} {o:Oper} (v:Value) (ho:ops[i]? = some o) (hg:o.guard=none) (hd:o.dst=some d) (hr:cZ P o (bh A D l).eval w v) (k:wpOpsS P ops QS rest (bh A D ((d,v) :: l)) cs w) :
    wpOpsS P ops QS (i :: rest) (bh A D l) cs w:=by
  have B:Region.wanted o (yielded ops (bh A D l).tmps)=true:=by simp[Region.wanted,hg]
  unfold cZ at hr
  simp only[wpOpsS,ho,B,if_true,hr,Oper.upon,hd]
  exact k
theorem aeX {i d:Nat} {o:Oper} {ts:Array TypeId} (ho:ops[i]? = some o) (hg:o.guard=none) (hd:o.dst=some d) (hop:o.op = .call {callee:=.builtin .recover,args:=#[],argTypes:=ts}) {v:Value} {older:List PanicEntry} {c:Go.Frame} {cs':List Go.Frame} (hcs:cs=c :: cs')
    (hm:c.mode = .panicking ({v,recovered:=false} :: older)) (k:wpOpsS P ops QS rest (bh A D ((d,v) :: l)) ({c with mode:=.panicking ({v,recovered:=true} :: older)} :: cs') w) :
    wpOpsS P ops QS (i :: rest) (bh A D l) cs w:=by
  have E:Region.wanted o (yielded ops (bh A D l).tmps)=true:=by simp[Region.wanted,hg]
  have C:(execOp (bh A D l).eval o).run P w = .ok .recover w:=by
    simp[execOp,hop,resolve,invoke,builtin]
  subst hcs
  have B:recoverD (c :: cs')=some (v,{c with mode:=.panicking ({v,recovered:=true} :: older)} :: cs'):=by simp[recoverD,hm]
  simp only[wpOpsS,ho,E,if_true,C,B,hd]
  exact k
theorem acW {i d:Nat} {o:Oper} {ts:Array TypeId} (ho:ops[i]? = some o) (hg:o.guard=none) (hd:o.dst=some d) (hop:o.op = .call {callee:=.builtin .recover,args:=#[],argTypes:=ts}) {c:Go.Frame} {cs':List Go.Frame} (hcs:cs=c :: cs')
    (hm:c.mode = .returning) (k:wpOpsS P ops QS rest (bh A D ((d,.nilIface) :: l)) cs w) :
    wpOpsS P ops QS (i :: rest) (bh A D l) cs w:=by
  have E:Region.wanted o (yielded ops (bh A D l).tmps)=true:=by simp[Region.wanted,hg]
  have C:(execOp (bh A D l).eval o).run P w = .ok .recover w:=by
    simp[execOp,hop,resolve,invoke,builtin]
  subst hcs
  have B:recoverD (c :: cs')=none:=by simp[recoverD,hm]
  simp only[wpOpsS,ho,E,if_true,C,B,hd]
  exact k
theorem abj (k:QS .normal (bh A D l) cs w):wpOpsS P ops QS [] (bh A D l) cs w:=k
end
section
variable {P:Program} {n:Nat} {A:Fr n} {l:List (Nat × Value)} {w:World}
theorem ag8 {fn:Func} {c₀:Go.Frame} {cs:List Go.Frame} {R:Ending→FrameMode→World→Prop} {u':FrameMode} {e:Exit} (he:r7 e) (hr:fn.results = #[]) (hR:R (.returned (.tuple #[])) u' w) :
    bodyPostS P fn c₀ cs R e (bh A [] l) ({c₀ with mode:=u'} :: cs) w:=by
  have h:=pO (P:=P) (w:=w) (A:=A) (D:=[]) (l:=l) (fn:=fn) (rs:=[]) (vs:=[]) hr trivial
  cases e with
  | normal=>exact⟨fZ,u',q,_,h,hR⟩
  | ret=>exact⟨fZ,u',q,_,h,hR⟩
  | _=>exact he.elim
theorem ag9 {fn:Func} {c₀:Go.Frame} {cs:List Go.Frame} {R:Ending→FrameMode→World→Prop} {u:FrameMode} {e:Exit} (hc:c₀.mode=u) (he:r7 e) (hr:fn.results = #[]) (hR:R (.returned (.tuple #[])) u w) :
    bodyPostS P fn c₀ cs R e (bh A [] l) (c₀ :: cs) w:=by
  have h:({c₀ with mode:=u}:Go.Frame)=c₀:=by subst hc;rfl
  have:=ag8 (P:=P) (A:=A) (l:=l) (c₀:=c₀) (cs:=cs) (u':=u) he hr hR
  rwa [h]at this
theorem leave1 {fn:Func} {R:Ending→World→Prop} {t ty:Nat} {d:Deferred} {u:FrameMode} {f:FuncId} {cs:List Value} (hu:u≠.run) (hd:d=⟨.fn (.func f) cs.toArray,#[]⟩) (hf:dO P f=true) (hr:fn.results = #[.cell t ty]) {p:Addr} (ht:ev n l (.tmp t)=some (.pointer (some p)))
    (h:CallsD P f cs.toArray u w fun e u' w'=>e = .returned (.tuple #[])∧settle u' = .returning∧∃v,(loadVar ty p).run P w' = .ok v w'∧R (.returned v) w') :
    Leaves P fn (bh A [d] l).tmps R [d] u w:=by
  subst hd
  refine leaves_cons hu (f:=f) (args:=cs.toArray) (by simp[invoke,oM hf]) (h.mono ?_)
  rintro e u' w' ⟨rfl,C,v,D,B⟩
  show Leaves P fn _ R [] (settle u') w'
  rw[C]
  exact⟨v,pO (A:=A) (rs:=[.cell t ty]) (vs:=[v]) hr ⟨⟨p,ht,D⟩,tV⟩,B⟩
end
section
variable {P:Program} {n:Nat} {A:Fr n} {D:List Deferred} {l:List (Nat × Value)} {w:World} {d:Option Tmp} {ty:TypeId} {ps:String} {af:Array Edge} {g:Option (Nat × Bool)}
theorem VY {x:Operand} {t a:TypeId} {v:Value} (hT:AJ P a=true) (hx:ev n l x=some (.iface a v)) :
    cZ P ⟨d,.typeAssert x t a true,ty,ps,af,g⟩ (bh A D l).eval w (.tuple #[v,.bool true]):=by
  obtain⟨X,hT,B⟩:=xV hT
  cases X <;> simp_all [cZ,execOp,cC hx,Instr.typeAssert,run_underlying hT]
end
end Go.Wk
namespace Go.Proofs.YtbmmkbejcnalcaaGreat
open Go Go.Wk Go.RowKit
set_option linter.unusedVariables false
set_option linter.unusedSimpArgs false
attribute [local irreducible] wpList wpQuiet wpStill gq Code.wp Calls bodyPost
variable {w:World} {Q:Nat→Prop}
theorem oP (uQ:Up w Q) {v0:Value} {l:Ly} (h0:Ls fe w Q v0 l) (a:Int) (a1:(-9223372036854775808≤a∧a<9223372036854775808)) (n:Int) (a2:(-9223372036854775808≤n∧n<9223372036854775808)) :
  Calls Zp 69 #[v0,(.int .i64 (a:Int)),(.int .i64 (n:Int))] w fun en w'=>∃r0:Nat,∃r1:Bool,en = .returned (.tuple #[(.int .u64 r0),(.bool r1)])∧Md [] w w'∧r0<18446744073709551616∧oG l a n=(r0,r1):=by
 have p:=h0.eZ;have M:=Md.refl [] w;have j:=uQ;have P:∀b,Q b→Q b:=fun _ h=>h;have F:∀b,Q b→b<w.heap.size→Q b:=fun _ h _=>h;refine enter (n:=42) Tryz.func69 q q q fun B=>ns (dz q (an q (aS (nm q (au agi q (NU uQ (n) (by omega)) ?_)))));rintro en u ⟨Z,rfl,R,d⟩;refine rv ?_;obtain⟨h0,uQ,M⟩:=k3 R h0 uQ M;refine st _ (jD q) (mv q ?_);refine cP (t:=13) q (fun C=>?_) (fun C=>?_)
 ·(have J:=iV C);refine sk C (sk C (st _ (bE q C q) (mv q (sk q (sk q (sk q (sk q (sk q (sk q (st _ (bE q q q) (nt (fV q q (ns ?_)))))))))))));refine dz q (ar q (bw ?_));exact ez (vs:=[(.int .u64 ((0:Nat):Int)),(.bool false)]) trivial q ⟨q,q,tV⟩ q ⟨0,false,q,M,(by omega),(yI (by rintro⟨U,V,W⟩;simp_all))⟩
 ·(have J:=iM C);refine sg C (aU q) (sg C (qU (a:=a) (b:=0) q q) (st _ (bn q C q) (mv q ?_)));refine cP (t:=17) q (fun A=>?_) (fun A=>?_)
  ·(have K:=dT A);refine sk A (sk A (sk A (sk A (sk A (sk A (st _ (bE q A q) (nt (fV q q (ns (dz q (ar q ?_)))))))))));refine bw ?_;exact ez (vs:=[(.int .u64 ((0:Nat):Int)),(.bool false)]) trivial q ⟨q,q,tV⟩ q ⟨0,false,q,M,(by omega),(yI (by rintro⟨U,V,W⟩;omega))⟩
  ·(have K:=dF A);have e:=xC (n:=n) (by simp_all);refine sg A (aU q) (sg A (aU q) (sg A (jC q fP h0.ej) (sg A (aU q) (sg A (lG (a:=((l.length:Nat):Int)) (b:=n) q q (by omega)) (sg A (uG (a:=a) (b:=((l.length:Nat):Int)-n) q q) (st _ (bn q A q) (nt ?_)))))));refine cL q (fun G=>?_) (fun G=>?_)
   ·(have L:=dT G);refine ns (dz q (ar q (bw ?_)));exact ez (vs:=[(.int .u64 ((0:Nat):Int)),(.bool false)]) trivial q ⟨q,q,tV⟩ q ⟨0,false,q,M,(by omega),(yI (by rintro⟨U,V,W⟩;omega))⟩
   ·(have L:=dF G);refine bA (ak (aS ?_));have T:oq n=true∧0≤a∧a+n≤l.length:=⟨by simp_all,by omega,by omega⟩;have e:=xC T.1;refine aR (an q (aS (nm q (st _ (lG (a:=n) (b:=1) q q (by omega)) (dz q (nt (bS ?_)))))))
    refine r9 (fun(v:Nat) (i:Int)=>[(8,(.int .u64 v)),(9,(.int .i64 (i:Int))),(0,v0),(1,(.int .i64 (a:Int))),(6,(.int .u64 ((0:Nat):Int))),(7,(.bool false))]) (fun(v:Nat) (i:Int) w'=>∃Q':Nat→Prop,(∀b,Q' b→Q b)∧(∀b,Q b→b<w.heap.size→Q' b)∧Up w' Q'∧Md [] w w'∧Ls fe w' Q' v0 l∧(-1≤i∧i<n)∧v=wV ((l.drop (a+(i+1)).toNat).take (n-1-i).toNat)∧v<18446744073709551616) (fun(v:Nat) (i:Int)=>(i+1).toNat) (x0:=0) (x1:=(n-1)) ?_ ?_ ?_
    ·exact⟨q,q,q,q,q,q,tV⟩
    ·exact⟨Q,P,F,uQ,M,h0,(by omega),(by simp[show n-1-(n-1)=0 by omega,wV]),(by omega)⟩
    ·clear M uQ P F h0
     rintro v i B x ⟨c,P,F,uQ,M,h0,X,D,Y⟩;refine aS (nm q (st _ (rJ (a:=i) (b:=0) q q) (nt ?_)));refine cL q (fun H=>?_) (fun H=>?_)
     ·(have N:=dT H);have f:=sV (l:=(l.drop (a+(i+1)).toNat).take (n-1-i).toNat) (k:=7) (by simp;omega);rw[← D]at f;refine bA (ak (aS (bS (aR (mv q (st _ (aeL (a:=v) (b:=8) 18446744073709551616 q q 64 q q q (by omega)) (m2 q q (mv q (st _ (eW (a:=a) (b:=i) q q (by omega)) (st _ (vQ (i:=a+i) 1 q q fP mO h0.ej (by omega)) ?_))))))))));obtain⟨I,O⟩:=eH (l:=l) (i:=(a+i).toNat) (by omega);obtain⟨r,S,E⟩:=h0.get O;obtain⟨rfl,_⟩:=S;have o:=UInt8.toNat_lt I;replace E:At _ v0 (((a+i).toNat)*1) [(b8 I)]:=E;refine st _ ((d8 (kk:=((a+i).toNat)*1) 0 q q pY E q).to (b:=(b8 I)) q) (st _ (dJ (a:=I.toNat) 18446744073709551616 q (by rw[u5];rfl) kY q (lq (UInt8.toNat_lt _) (by decide))) (st _ (ag4 (a:=(v*2 ^ 8%18446744073709551616)) (b:=I.toNat) 18446744073709551616 q q q q (by omega)) (dz q (ax ?_))));clear E;refine cA (ak (aR (mv q (st _ (lG (a:=i) (b:=1) q q (by omega)) (an q ?_)))));refine p5 (x0:=((v*2 ^ 8%18446744073709551616) ||| I.toNat)) (x1:=(i-1)) (by omega) ⟨(eA q (by rfl)),(eA q (by omega)),q,q,q,q,tV⟩ ⟨c,P,F,uQ,M,h0,(by omega),(by rw[abe (by omega),D];have g:=KC (k:=(n-1-i).toNat) O;rw[show(n-1-(i-1)).toNat=(n-1-i).toNat+1 by omega,show(a+(i-1+1)).toNat=(a+i).toNat by omega,g,show(a+i).toNat+1=(a+(i+1)).toNat by omega]),(by rw[abe (by omega)];have:=UInt8.toNat_lt I;omega)⟩
     ·(have N:=dF H);refine dG (bZ (bZ (ey (ak (nm q (dz q (ar q ?_)))))));exact ez (vs:=[(.int .u64 v),(.bool true)]) trivial q ⟨q,q,tV⟩ q ⟨v,true,q,M,(by assumption),(by rw[oG,if_pos (by omega),D,show i = -1 by omega];simp)⟩
theorem fB:gE Zp 103 91=true:=by kernel_rfl
theorem afp:gP Zp 221 1=true:=by kernel_rfl
theorem afq:gP Zp 224 1=true:=by kernel_rfl
theorem adZ:xL Zp 221 1 8=true:=by kernel_rfl
theorem aea:xL Zp 224 1 8=true:=by kernel_rfl
theorem Qu:dO Zp 127=true:=by kernel_rfl
theorem afA:dO Zp 128=true:=by kernel_rfl
theorem afB:dO Zp 129=true:=by kernel_rfl
theorem ZS:bf Zp 103 0=some 0:=by kernel_rfl
theorem AP:bf Zp 103 1=some 1:=by kernel_rfl
theorem DV:bf Zp 103 10=some 70:=by kernel_rfl
theorem DW:bf Zp 103 11=some 71:=by kernel_rfl
theorem DX:bf Zp 103 12=some 72:=by kernel_rfl
theorem UL:bf Zp 103 13=some 73:=by kernel_rfl
theorem UM:bf Zp 103 14=some 74:=by kernel_rfl
theorem UN:bf Zp 103 15=some 75:=by kernel_rfl
theorem UO:bf Zp 103 16=some 76:=by kernel_rfl
theorem UQ:bf Zp 103 17=some 77:=by kernel_rfl
theorem UR:bf Zp 103 18=some 78:=by kernel_rfl
theorem UU:bf Zp 103 19=some 79:=by kernel_rfl
theorem ZT:bf Zp 103 2=some 2:=by kernel_rfl
theorem UW:bf Zp 103 20=some 80:=by kernel_rfl
theorem UX:bf Zp 103 21=some 81:=by kernel_rfl
theorem UY:bf Zp 103 22=some 82:=by kernel_rfl
theorem UZ:bf Zp 103 23=some 83:=by kernel_rfl
theorem Vd:bf Zp 103 24=some 84:=by kernel_rfl
theorem Vl:bf Zp 103 25=some 85:=by kernel_rfl
theorem Vm:bf Zp 103 26=some 86:=by kernel_rfl
theorem Vw:bf Zp 103 27=some 87:=by kernel_rfl
theorem VA:bf Zp 103 28=some 88:=by kernel_rfl
theorem VB:bf Zp 103 29=some 89:=by kernel_rfl
theorem KQ:bf Zp 103 3=some 3:=by kernel_rfl
theorem VD:bf Zp 103 30=some 90:=by kernel_rfl
theorem ZU:bf Zp 103 4=some 19:=by kernel_rfl
theorem ZV:bf Zp 103 5=some 35:=by kernel_rfl
theorem ZW:bf Zp 103 6=some 51:=by kernel_rfl
theorem nI:bf Zp 103 7=some 67:=by kernel_rfl
theorem AQ:bf Zp 103 8=some 68:=by kernel_rfl
theorem KR:bf Zp 103 9=some 69:=by kernel_rfl
theorem ae6:iG Zp 221=true:=by kernel_rfl
theorem ae7:iG Zp 224=true:=by kernel_rfl
theorem rC:gC Zp 103=some [(0,1),(1,1),(2,1),(3,16),(19,16),(35,16),(51,16),(67,1),(68,1),(69,1),(70,1),(71,1),(72,1),(73,1),(74,1),(75,1),(76,1),(77,1),(78,1),(79,1),(80,1),(81,1),(82,1),(83,1),(84,1),(85,1),(86,1),(87,1),(88,1),(89,1),(90,1)]:=by kernel_rfl
theorem afd:Zp.underlying 219=some (.slice 221):=by kernel_rfl
theorem afe:Zp.underlying 222=some (.slice 224):=by kernel_rfl
theorem qG:eR Zp 103=some ([.int .u32 0,.int .u32 0,.int .i64 0] ++ (List.replicate 64 (.int .u8 0) ++ (List.replicate 21 (.int .u64 0) ++ ([.int .u32 0,.int .u32 0,.int .u64 0])))):=by kernel_rfl
theorem Zm {w:World} {b:Nat}:Calls Zp 128 #[.pointer (some ⟨b,0,none⟩)] w fun en w'=>∃x,en = .returned (.slice (some ⟨x,0,none⟩) 4 4)∧w.heap.size≤x∧Md [] w w'∧cG w' x (ptrs b 3 16 4) 221:=by
 refine enter (n:=16) Tryz.func128 q q q fun B=>ns (an q (aS (dN (ml 12) [12,13] (fun w'=>Md [] w w') dV (by kernel_rfl) ?_)));intro I C;refine⟨C,?_⟩;refine mo q (mz (fun w' A=>dn q) (mz (fun w' A=>aA q KQ) (mo q (mz (fun w' A=>dn q) (mz (fun w' A=>aA q ZU) (mo q (mz (fun w' A=>dn q) (mz (fun w' A=>aA q ZV) (mo q (mz (fun w' A=>dn q) (mz (fun w' A=>aA q ZW) (dZ (qd afd adZ (by decide) q q q (by simp[oV,Value.oneCell']) (by decide) ?_)))))))))))));intro x G E H D F;refine ar q ?_;exact iu trivial q q ⟨x,q,lj C.size E,C.k D,(show cG G x (ptrs b 3 16 4) 221 from F)⟩
theorem TJ {w:World} {b:Nat}:Calls Zp 129 #[.pointer (some ⟨b,0,none⟩)] w fun en w'=>∃x,en = .returned (.slice (some ⟨x,0,none⟩) 21 21)∧w.heap.size≤x∧Md [] w w'∧cG w' x (ptrs b 67 1 21) 224:=by
 refine enter (n:=67) Tryz.func129 q q q fun B=>ns (an q (aS (dN (ml 63) [63,64] (fun w'=>Md [] w w') dV (by kernel_rfl) ?_)));intro I C;refine⟨C,?_⟩;refine mo q (mz (fun w' A=>dn q) (mz (fun w' A=>aA q nI) (mo q (mz (fun w' A=>dn q) (mz (fun w' A=>aA q AQ) (mo q (mz (fun w' A=>dn q) (mz (fun w' A=>aA q KR) (mo q (mz (fun w' A=>dn q) (mz (fun w' A=>aA q DV) (mo q (mz (fun w' A=>dn q) ?_)))))))))))));refine mz (fun w' A=>aA q DW) (mo q (mz (fun w' A=>dn q) (mz (fun w' A=>aA q DX) (mo q (mz (fun w' A=>dn q) (mz (fun w' A=>aA q UL) (mo q (mz (fun w' A=>dn q) (mz (fun w' A=>aA q UM) (mo q (mz (fun w' A=>dn q) (mz (fun w' A=>aA q UN) (mo q ?_)))))))))))));refine mz (fun w' A=>dn q) (mz (fun w' A=>aA q UO) ?_)
 refine mo q (mz (fun w' A=>dn q) (mz (fun w' A=>aA q UQ) (mo q (mz (fun w' A=>dn q) (mz (fun w' A=>aA q UR) (mo q (mz (fun w' A=>dn q) (mz (fun w' A=>aA q UU) (mo q (mz (fun w' A=>dn q) (mz (fun w' A=>aA q UW) (mo q (mz (fun w' A=>dn q) ?_)))))))))))));refine mz (fun w' A=>aA q UX) (mo q (mz (fun w' A=>dn q) (mz (fun w' A=>aA q UY) (mo q (mz (fun w' A=>dn q) (mz (fun w' A=>aA q UZ) (mo q (mz (fun w' A=>dn q) (mz (fun w' A=>aA q Vd) (mo q (mz (fun w' A=>dn q) (mz (fun w' A=>aA q Vl) (mo q ?_)))))))))))));refine mz (fun w' A=>dn q) (mz (fun w' A=>aA q Vm) (mo q (mz (fun w' A=>dn q) (mz (fun w' A=>aA q Vw) (dZ (qd afe aea (by decide) q q q (by simp[oV,Value.oneCell']) (by decide) ?_))))));intro x G E H D F;refine ar q ?_;exact iu trivial q q ⟨x,q,lj C.size E,C.k D,(show cG G x (ptrs b 67 1 21) 224 from F)⟩
theorem sP {w:World} {Q:Nat→Prop} {b1:Nat} {v0:Value} {l:Ly} (hB:cG w b1 [v0] 31) (h0:Ls fe w Q v0 l) (a:Nat) (ha:a+4≤l.length) :
  Calls Zp 127 #[.int .i64 (a:Int),.pointer (some ⟨b1,0,none⟩)] w fun en w'=>en = .returned (.int .u32 ((at4 l a:Nat):Int))∧Md [] w w':=by
 have L:=h0.eZ;refine enter (n:=14) Tryz.func127 q q q fun B=>ns (an q (ns (st _ (ay q gy hB q) (mv q (au wM q (oP (Q:=fun _=>True) (fun _ _=>trivial) (h0.sub fun _ _ _=>trivial) (a:Int) (by omega) 4 (by omega)) ?_)))));rintro en H ⟨F,G,rfl,D,E,A⟩;refine rv ?_;have C:oG l a 4=(at4 l a,true):=vf (k:=4) (.inl q) ha;rw[C]at A;obtain⟨rfl,rfl⟩:=Prod.mk.inj A;refine mv q (se q q (se q q (dz q (an q (nm q (st _ (dJ (a:=at4 l a) 4294967296 q (by rw[kY];rfl) xF q (wC _ _)) (ar q ?_)))))));exact iu trivial q q ⟨q,D⟩
set_option maxRecDepth 100000 in
theorem ND (uQ:Up w Q) {v0:Value} {b:Ly} (h00:Ls fe w Q v0 b) (p0:272≤b.length) :
  Calls Zp 101 #[v0] w fun en w'=>∃r0:bY,en = .returned (.agg (bY.cells r0).toArray)∧Md [] w w'∧bY.ok r0∧fp b=r0:=by
 have L:=h00.eZ;obtain⟨U,f,F⟩:∃U:Nat→Prop,(∀x,w.heap.size≤x→¬U x)∧Ls fe w U v0 b:=⟨fun x=>x<w.heap.size,fun x h k=>by omega,h00.sub fun x _ h=>h⟩;clear h00;have M:=Md.refl [] w;refine enter (n:=73) Tryz.func101 q q q fun B=>ns (gG q (gL F.cO) ?_);intro O w1 g1 l1 C A;obtain⟨F,M⟩:=k2 C F M;refine cH qG ?_;intro S w2 t l2 C E;replace F:=F.o C;obtain⟨Z,hZ,E⟩:∃Z,(bY.cells (jj b 0 0 0 0)).length=Z.length∧cG w2 S Z 103:=⟨_,q,E⟩;have Am:O≠S:=(by have:=A.lt;omega);replace A:=A.o C;replace t:=lj M.size t;replace M:=M.k C;refine nt (ns (st _ (ay q gy A q) (st _ (bT (i:=16) 1 q q fP mO F.ej (by omega)) ?_)));obtain⟨x,hx⟩:=eH (l:=b) (i:=16) (by omega);obtain⟨cx,Aa,R⟩:=F.get hx;obtain⟨rfl,_⟩:=Aa;have ex:b.getD 16 0=x:=(by simp[List.getD,hx]);have lx:=UInt8.toNat_lt x;replace R:At _ v0 (16*1) [(b8 x)]:=R;refine st _ ((d8 (kk:=16*1) 0 q q pY R q).to (b:=(b8 x)) q) ?_;clear R;refine st _ (dJ (a:=x.toNat) 9223372036854775808 q (by rw[u5];rfl) u3 q (by omega)) (st (.agg (bY.cells (jj b 0 0 0 0)).toArray) (by rw[show bY.cells (jj b 0 0 0 0)=bY.cells {jj b 0 0 0 0 with state:=x.toNat} by rw[← ex];rfl];exact lU (cs:=bY.cells {jj b 0 0 0 0 with state:=x.toNat}) (ps:=[(2,2)]) qG rC q q (by simp[oV,Value.oneCell']) q q q) (cH qG ?_));intro I w3 P l3 C D;replace F:=F.o C;have K:O≠I:=(by have:=A.lt;omega);have J:S≠I:=(by have:=E.lt;omega);obtain⟨A,E⟩:=k2 C A E;replace P:=lj M.size P;replace M:=M.k C;refine gM q q (by exact fB) (fun u hu=>b9 bY.one u hu) D q ?_;intro w4 C D;have N:∀x∈[I],¬U x:=(by intro y r;simp at r;subst r;exact f _ P);have Ao:∀x∈[S],¬U x:=(by intro y r;simp at r;subst r;exact f _ t);replace F:=F.md C N;replace A:=A.uD C K;replace E:=E.uD C J;replace M:=M.eB C P;refine nt (aS ?_)
 refine aR (st _ (OM q) (an q (nm q (vY (cs:=[.pointer (some ⟨O,0,none⟩)]) q Qu q (sP A F 8 (by omega)) ?_))));rintro en w5 ⟨rfl,C⟩;refine rv ?_;obtain⟨F,A,E,D,M⟩:=k5 C F A E D M;refine mv q (vY (cs:=[.pointer (some ⟨O,0,none⟩)]) q Qu q (sP A F 12 (by omega)) ?_);rintro en w6 ⟨rfl,C⟩;refine rv ?_;obtain⟨F,A,E,D,M⟩:=k5 C F A E D M;refine sf q ZS (bK q q gO q D (by(show _<91;decide)) ?_);intro w7 C D;replace F:=F.md C N;replace A:=A.uD C K;replace E:=E.uD C J;replace M:=M.eB C P;refine sf q AP (bK q q gO q D (by(show _<91;decide)) ?_);intro w8 C D;replace F:=F.md C N;replace A:=A.uD C K;replace E:=E.uD C J;replace M:=M.eB C P;replace D:cG w8 I (bY.cells (jj b (at4 b 8) (at4 b 12) 0 0)) 103:=D;refine nt (ns (an q (aS (ns (au afA q (Zm (b:=I)) ?_)))));rintro en w9 ⟨Y,rfl,gi,C,G⟩;refine rv ?_;have Ac:Y≠I:=(by have:=D.lt;omega);obtain⟨F,A,E,D⟩:=k4 C F A E D;replace gi:=lj M.size gi;replace M:=M.k C;have g:SD (.slice (some ⟨Y,0,none⟩) 4 4) 4:=⟨_,_,q,Nat.le_refl _,by simp[maxLen],by simp⟩;refine sL q afd g (mv q (nt (bS ?_)))
 refine r9 (fun(k:Nat) (a:Nat)=>[(24,(.int .i64 k)),(5,(.int .i64 a)),(1,.pointer (some ⟨O,0,none⟩)),(2,.pointer (some ⟨S,0,none⟩)),(3,.pointer (some ⟨I,0,none⟩)),(4,.func (.func 127) #[] #[.pointer (some ⟨O,0,none⟩)]),(22,.slice (some ⟨Y,0,none⟩) 4 4),(23,.int .i64 ((4:Nat):Int))])
  (fun(k:Nat) (a:Nat) w'=>Md [] w w'∧Ls fe w' U v0 b∧cG w' O [v0] 31∧cG w' S Z 103∧cG w' I (bY.cells (jj b (at4 b 8) (at4 b 12) k 0)) 103∧cG w' Y (ptrs I 3 16 4) 221∧k≤4∧a=24+16*k) (fun(k:Nat) (a:Nat)=>4-k) (x0:=0) (x1:=24) ?_ ?_ ?_
 ·exact⟨q,q,q,q,q,q,q,q,tV⟩
 ·exact⟨M,F,A,E,D,G,by omega,q⟩
 clear M F A E D G
 rintro k a B Aq ⟨M,F,A,E,D,G,hk,p⟩;refine ns (st _ (eP (a:=k) (b:=4) q q) (nt (aS ?_)));refine cL q (fun V=>?_) (fun V=>?_)
 ·have d:=dT V
  refine bA (ak (aS (bS (ns (st _ ((bT (i:=k) 1 q q afd afp g (by omega)).to (b:=.pointer (some ⟨Y,k,none⟩)) (by simp[nE,Addr.mS])) (st _ (ay (b:=Y) (j:=k) (u:=.pointer (some ⟨I,3+k*16,none⟩)) q ae6 G (Lr (by omega))) (an q ?_)))))));have v:=F.ej;refine CI [(0,true),(1,true),(2,true),(3,true),(4,true),(5,true),(6,true),(7,false),(8,true),(9,true)] (fun w'=>cG w' O [v0] 31) dV (by kernel_rfl) ?_;intro Ar C;obtain⟨F,A,E,D,G,M⟩:=k6 C F A E D G M;refine⟨A,?_⟩;refine mo q (mo q (mz (fun w' X=>dn q) (mz (fun w' X=>gF SA mO q (by decide)) (mz (fun w' X=>ay q gy X q) (mo q (Go.Wk.m (ou v0 a b.length) (fun w' X=>by exact oK a b.length fP mO q v (by omega) (by omega) ⟨_,q⟩ q) ?_))))));refine lT ?_ rfl;have hT:=F.by.tail a (by omega);refine yV fP mO q q D hT (xj _) (by have:(bY.cells (jj b (at4 b 8) (at4 b 12) k 0)).length=91:=rfl;simp;omega) ?_;intro As C D;clear hT;rw[← List.map_take,p,Z0 (by omega) p0]at D;replace F:=F.md C N;replace A:=A.uD C K;replace E:=E.uD C J;replace G:=G.uD C Ac;replace M:=M.eB C P;refine ax ⟨q,A,?_⟩;have Ai:min ((b.drop a).map b8).length 16=16:=(by simp;omega);refine mz (fun w' X=>fM (a:=a) (b:=min ((b.drop a).map b8).length 16) 9223372036854775808 q q q (by omega)) (mz (fun w' X=>gg q) (dZ (cA (ak (aR (st _ (rA (a:=k) (b:=1) q q (by omega)) (mv q (nt ?_))))))));exact p5 (x0:=k+1) (x1:=a+min ((b.drop a).map b8).length 16) (by omega) ⟨q,q,q,q,q,q,q,q,tV⟩ ⟨M,F,A,E,D,G,by omega,by omega⟩
 have d:=dF V
 obtain rfl:k=4:=by omega
 subst p;clear G;refine dG (bZ (bZ (ey (ak (aS (ns (au afB q (TJ (b:=I)) ?_)))))));rintro en Au ⟨c,rfl,gj,C,H⟩;refine rv ?_;have Ad:c≠I:=(by have:=D.lt;omega);obtain⟨F,A,E,D,M⟩:=k5 C F A E D M;have o:SD (.slice (some ⟨c,0,none⟩) 21 21) 21:=⟨_,_,q,Nat.le_refl _,by simp[maxLen],by simp⟩;refine sL q afe o (mv q (nt (bS ?_)))
 refine r9 (fun(j:Nat) (a:Nat)=>[(40,(.int .i64 j)),(5,(.int .i64 a)),(1,.pointer (some ⟨O,0,none⟩)),(2,.pointer (some ⟨S,0,none⟩)),(3,.pointer (some ⟨I,0,none⟩)),(4,.func (.func 127) #[] #[.pointer (some ⟨O,0,none⟩)]),(38,.slice (some ⟨c,0,none⟩) 21 21),(39,.int .i64 ((21:Nat):Int))])
  (fun(j:Nat) (a:Nat) w'=>Md [] w w'∧Ls fe w' U v0 b∧cG w' O [v0] 31∧cG w' S Z 103∧cG w' I (bY.cells (jj b (at4 b 8) (at4 b 12) 4 j)) 103∧cG w' c (ptrs I 67 1 21) 224∧j≤21∧a=88+8*j) (fun(j:Nat) (a:Nat)=>21-j) (x0:=0) (x1:=24+16*4) ?_ ?_ ?_
 ·exact⟨q,q,q,q,q,q,q,q,tV⟩
 ·exact⟨M,F,A,E,D,H,by omega,q⟩
 clear M F A E D H
 rintro j a B Aw ⟨M,F,A,E,D,H,hj,p⟩;refine ns (st _ (eP (a:=j) (b:=21) q q) (nt (aS ?_)));refine cL q (fun W=>?_) (fun W=>?_)
 ·have T:=dT W
  refine bA (ak (aS (bS (ns (st _ ((bT (i:=j) 1 q q afe afq o (by omega)).to (b:=.pointer (some ⟨c,j,none⟩)) (by simp[nE,Addr.mS])) (st _ (ay (b:=c) (j:=j) (u:=.pointer (some ⟨I,67+j*1,none⟩)) q ae7 H (Lr (by omega))) (an q (nm q (st _ (ay q gy A q) (mv q (au wM q (oP (Q:=fun _=>True) (fun _ _=>trivial) (F.sub fun _ _ _=>trivial) (a:Int) (by omega) 8 (by omega)) ?_)))))))))));rintro en Ax ⟨r0,r1,rfl,C,hr,e⟩;refine rv ?_;have z:oG b a 8=(fR b a,true):=vf (k:=8) (.inr q) (by omega);rw[z]at e;obtain⟨rfl,rfl⟩:=Prod.mk.inj e;obtain⟨F,A,E,D,H,M⟩:=k6 C F A E D H M;refine mv q (st (.int .u64 ((fR b a:Nat):Int)) (mY q q) (se q q (sn q (bK (b:=I) (j:=67+j*1) q q bR q D (by have:(bY.cells (jj b (at4 b 8) (at4 b 12) 4 j)).length=91:=rfl;omega) ?_))));intro Ay C D;rw[Nat.mul_one,p,UB T]at D;replace F:=F.md C N;replace A:=A.uD C K;replace E:=E.uD C J;replace H:=H.uD C Ad;replace M:=M.eB C P;refine nt (aR (mv q (st _ (rA (a:=a) (b:=8) q q (by omega)) (dz q (ax (cA (ak (aR (st _ (rA (a:=j) (b:=1) q q (by omega)) (mv q (nt ?_)))))))))));exact p5 (x0:=j+1) (x1:=a+8) (by omega) ⟨q,q,q,q,q,q,q,q,tV⟩ ⟨M,F,A,E,D,H,by omega,by omega⟩
 have T:=dF W
 obtain rfl:j=21:=by omega
 subst p;clear H;refine dG (bZ (bZ (ey (ak (ns (m2 q q (vY (cs:=[.pointer (some ⟨O,0,none⟩)]) q Qu q (sP A F 256 (by omega)) ?_)))))));rintro en Az ⟨rfl,C⟩;refine rv ?_;obtain⟨F,A,E,D,M⟩:=k5 C F A E D M;refine m2 q q (st _ (rA (a:=256) (b:=4) q q (by omega)) (vY (cs:=[.pointer (some ⟨O,0,none⟩)]) q Qu q (sP A F 260 (by omega)) ?_));rintro en A0 ⟨rfl,C⟩;refine rv ?_;obtain⟨F,A,E,D,M⟩:=k5 C F A E D M;refine sf q VA (bK q q gO q D (by(show _<91;decide)) ?_);intro A1 C D;replace F:=F.md C N;replace A:=A.uD C K;replace E:=E.uD C J;replace M:=M.eB C P;refine sf q VB (bK q q gO q D (by(show _<91;decide)) ?_);intro A2 C D;replace F:=F.md C N;replace A:=A.uD C K;replace E:=E.uD C J;replace M:=M.eB C P;refine nt (ns (st _ (ay q gy A q) (mv q (st _ (rA (a:=256) (b:=8) q q (by omega)) (au wM q (oP (Q:=fun _=>True) (fun _ _=>trivial) (F.sub fun _ _ _=>trivial) ((264:Nat):Int) (by omega) 8 (by omega)) ?_)))));rintro en A3 ⟨r0,r1,rfl,C,hr,e⟩;refine rv ?_;have z:oG b ((264:Nat):Int) 8=(fR b 264,true):=vf (k:=8) (.inr q) (by omega);rw[z]at e;obtain⟨rfl,rfl⟩:=Prod.mk.inj e;obtain⟨E,D,M⟩:=k3 C E D M;refine mv q (st (.int .u64 ((fR b 264:Nat):Int)) (mY q q) (se q q (sf q VD (bK q q bR q D (by(show _<91;decide)) ?_))));intro Ae C D;replace E:=E.uD C J;replace M:=M.eB C P
 replace D:cG Ae I (bY.cells (fp b)) 103:=D;refine nt (ns (st _ (mg q (by exact fB) D) (gM q q (by exact fB) (fun u hu=>b9 bY.one u hu) E hZ ?_)));intro A4 C E;replace M:=M.eB C t;refine nt (j8 ?_);exact agA trivial q q (by exact fB) E ⟨_,q,M,vJ p0,q⟩
theorem af9:dO Zp 126=true:=by kernel_rfl
theorem NC (uQ:Up w Q) {v0:Value} {a:Ly} (h0:Ls fe w Q v0 a) {v1:Value} {b:Ly} (h1:Ls fe w Q v1 b) :
  Calls Zp 126 #[v0,v1] w fun en w'=>∃r0:Bool,en = .returned (.bool r0)∧Md [] w w'∧decide (a=b)=r0:=by
 have C:=h0.eZ;have D:=h1.eZ;have M:=Md.refl [] w;have A:=uQ;refine enter (n:=10) Tryz.func126 q q q fun B=>ns (an q (nm q (st _ (p8 (s:=a) fP u5 u9 q h0.by) (mv q (st _ (p8 (s:=b) fP u5 u9 q h1.by) (st _ (HU (a:=a) (b:=b) q q) (ar q ?_)))))));exact dA (v:=(.bool ((decide (a=b))))) trivial q ⟨q,tV⟩ ⟨(decide (a=b)),q,M,(by simp(disch:=first|omega|assumption|simp) only [SS,reduceIte])⟩
theorem TL (uQ:Up w Q) {v0:Value} {b:Ly} (h0:Ls fe w Q v0 b) {v1:Value} {p:Ly} (h1:Ls fe w Q v1 p) :
  Calls Zp 100 #[v0,v1] w fun en w'=>∃r0:Bool,en = .returned (.bool r0)∧Md [] w w'∧nP b p=r0:=by
 have I:=h0.eZ;have J:=h1.eZ;have M:=Md.refl [] w;have H:=uQ;refine enter (n:=18) Tryz.func100 q q q fun B=>ns (an q (nm q (sL q fP h0.ej (mv q (sL q fP h1.ej (st _ (LJ (a:=b.length) (b:=p.length) q q) (mv q ?_)))))));refine cP (t:=10) q (fun A=>?_) (fun A=>?_)
 ·(have C:=dT A);refine sg A (aU q) (sg A (aU q) (sg A (jC q fP h1.ej) (sg A (j5 1 0 p.length fP mO q h0.ej (by omega) (by omega) q ⟨_,q⟩) ?_)));have F:=h0.head (hi:=p.length) (by omega);refine sg A (aU q) (iA q q q A af9 q (NC uQ F h1) ?_);rintro en K ⟨D,rfl,G,E⟩;refine rv ?_;replace M:=M.k G;refine st _ (bE q A q) (ar q ?_);exact dA (v:=(.bool D)) trivial q ⟨q,tV⟩ ⟨D,q,M,(by rw[nP]<;>simp(disch:=first|omega|assumption|simp) only [SS,reduceIte,C,E])⟩
 (have C:=dF A);refine sk A (sk A (sk A (sk A (sk A (sk A (st _ (bn q A q) (ar q ?_)))))));exact dA (v:=(.bool false)) trivial q ⟨q,tV⟩ ⟨false,q,M,(by rw[nP]<;>simp(disch:=first|omega|assumption|simp) only [SS,reduceIte,C])⟩
theorem JO (uQ:Up w Q) (h:bY) (a0_0:bY.ok h) :
  Calls Zp 72 #[.agg (bY.cells h).toArray] w fun en w'=>∃r0:Nat,∃r1:Bool,en = .returned (.tuple #[(.int .u64 r0),(.bool r1)])∧Md [] w w'∧r0<18446744073709551616∧qK h=(r0,r1):=by
 have M:=Md.refl [] w;have J:=uQ;refine enter (n:=15) Tryz.func72 q q q fun B=>ns (gG (cs:=(bY.cells h)) q q ?_);intro G N C I H E;have F:=uQ _ C;replace C:=lj M.size C;replace M:=M.k H;refine dz q (an q (ns (sf q nI (sl (u:=(.int .u64 ((h.n.getD 0 0:Nat):Int))) q bR E q ?_))));have K:h.n.getD 0 0<18446744073709551616:=(eU a0_0.2.2.2.2.2.2.2.1 0);refine sf q AQ (sl (u:=(.int .u64 ((h.n.getD 1 0:Nat):Int))) q bR E q ?_);have L:h.n.getD 1 0<18446744073709551616:=(eU a0_0.2.2.2.2.2.2.2.1 1);refine st _ (qS (a:=(h.n.getD 0 0)) (b:=(h.n.getD 1 0)) 18446744073709551616 q q q q) (an q (aS (nm q (sf q nI (sl (u:=(.int .u64 ((h.n.getD 0 0:Nat):Int))) q bR E q (st _ (eP (a:=(((h.n.getD 0 0)+(h.n.getD 1 0))%18446744073709551616)) (b:=(h.n.getD 0 0)) q q) (nt ?_)))))));refine cL q (fun D=>?_) (fun D=>?_)
 ·(have A:=dT D);refine ns (dz q (ar q (bw ?_)));exact ez (vs:=[(.int .u64 ((0:Nat):Int)),(.bool false)]) trivial q ⟨q,q,tV⟩ q ⟨0,false,q,M,(by omega),(by rw[qK]<;>simp(disch:=first|omega|assumption|simp) only [SS,reduceIte,A])⟩
 (have A:=dF D);refine bA (ak (nm q (dz q (ar q ?_))));exact ez (vs:=[(.int .u64 ((((h.n.getD 0 0)+(h.n.getD 1 0))%18446744073709551616:Nat):Int)),(.bool true)]) trivial q ⟨q,q,tV⟩ q ⟨((h.n.getD 0 0)+(h.n.getD 1 0))%18446744073709551616,true,q,M,(by omega),(by rw[qK]<;>simp(disch:=first|omega|assumption|simp) only [SS,reduceIte,A])⟩
theorem zI (uQ:Up w Q) (h:bY) (a0_0:bY.ok h) (p:Nat) (a1:p<18446744073709551616) (size:Nat) (a2:size<18446744073709551616) (e:Nat) (a3:e<18446744073709551616) :
  Calls Zp 102 #[.agg (bY.cells h).toArray,(.int .u64 p),(.int .u64 size),(.int .u64 e)] w fun en w'=>∃r0:Nat,en = .returned (.int .i64 r0)∧Md [] w w'∧r0<9223372036854775808∧kD h p size e=r0:=by
 have M:=Md.refl [] w;have X:=uQ;refine enter (n:=45) Tryz.func102 q q q fun B=>ns (gG (cs:=(bY.cells h)) q q ?_);intro U Z N W V R;have T:=uQ _ N;replace N:=lj M.size N;replace M:=M.k V;refine an q (aS (bS (nm q (st _ (kU (a:=p) (b:=8) q q (by omega)) (st _ (fO (a:=(p%8)) (b:=0) q q) (dz q (nt ?_)))))));refine cL q (fun S=>?_) (fun S=>?_)
 ·(have I:=dT S);refine ns (ar q (cu (bw ?_)));exact dA (v:=(.int .i64 ((3:Nat):Int))) trivial q ⟨q,tV⟩ ⟨3,q,M,(by omega),(by rw[kD]<;>simp(disch:=first|omega|assumption|simp) only [SS,reduceIte,I])⟩
 (have I:=dF S);refine nm q (st _ (jB (a:=size) (b:=0) q q) (mv q ?_));refine cP (t:=16) q (fun F=>?_) (fun F=>?_)
 ·(have D:=dT F);refine sk F (sk F (sk F (st _ (bE q F q) (an q (fV q q (ns (ar q (cu (bw ?_)))))))));exact dA (v:=(.int .i64 ((5:Nat):Int))) trivial q ⟨q,tV⟩ ⟨5,q,M,(by omega),(by rw[kD]<;>simp(disch:=first|omega|assumption|simp) only [SS,reduceIte,I,D])⟩
 (have D:=dF F);refine sg F (aU q) (sg F (kU (a:=size) (b:=16) q q (by omega)) (sg F (fO (a:=(size%16)) (b:=0) q q) (st _ (bn q F q) (an q ?_))));refine cL q (fun O=>?_) (fun O=>?_)
 ·(have E:=dT O);refine ns (ar q (cu (bw ?_)));exact dA (v:=(.int .i64 ((5:Nat):Int))) trivial q ⟨q,tV⟩ ⟨5,q,M,(by omega),(by rw[kD]<;>simp(disch:=first|omega|assumption|simp) only [SS,reduceIte,I,D,E])⟩
 (have E:=dF O);refine nm q (sf q nI (sl (u:=(.int .u64 ((h.n.getD 0 0:Nat):Int))) q bR R q ?_));have Y:h.n.getD 0 0<18446744073709551616:=(eU a0_0.2.2.2.2.2.2.2.1 0);refine st _ (eP (a:=p) (b:=(h.n.getD 0 0)) q q) (mv q ?_);refine cP (t:=26) q (fun A=>?_) (fun A=>?_)
 ·(have H:=dT A);refine sk A (sk A (sk A (sk A (sk A (st _ (bE q A q) (mv q (sk q (sk q (sk q (st _ (bE q q q) (mv q (sk q (sk q ?_)))))))))))));refine sk q (sk q (sk q (st _ (bE q q q) (an q (fV q q (ns (ar q (cu (bw ?_)))))))));exact dA (v:=(.int .i64 ((2:Nat):Int))) trivial q ⟨q,tV⟩ ⟨2,q,M,(by omega),(by rw[kD]<;>simp(disch:=first|omega|assumption|simp) only [SS,reduceIte,I,D,E,H])⟩
 (have H:=dF A);refine sg A (aU q) (sg A (aA q nI) (sg A ((ay q bR R q).to (b:=(.int .u64 ((h.n.getD 0 0:Nat):Int))) q) (sg A (k9 (a:=p) (b:=(h.n.getD 0 0)) 18446744073709551616 q q q (by omega)) (sg A (eP (a:=(p-(h.n.getD 0 0))) (b:=16) q q) (st _ (bn q A q) (mv q ?_))))));refine cP (t:=33) q (fun G=>?_) (fun G=>?_)
 ·(have J:=dT G);refine sk G (sk G (sk G (st _ (bE q G q) (mv q (sk q (sk q (sk q (sk q (sk q (st _ (bE q q q) (an q (fV q q ?_))))))))))));refine ns (ar q (cu (bw ?_)));exact dA (v:=(.int .i64 ((2:Nat):Int))) trivial q ⟨q,tV⟩ ⟨2,q,M,(by omega),(by rw[kD]<;>simp(disch:=first|omega|assumption|simp) only [SS,reduceIte,I,D,E,H,J])⟩
 (have J:=dF G);refine sg G (aU q) (sg G (aU q) (sg G (jf (a:=p) (b:=e) q q) (st _ (bn q G q) (mv q ?_))));refine cP (t:=38) q (fun C=>?_) (fun C=>?_)
 ·(have K:=dT C);refine sk C (sk C (sk C (sk C (sk C (st _ (bE q C q) (an q (fV q q (ns (ar q (cu ?_))))))))));refine bw ?_;exact dA (v:=(.int .i64 ((2:Nat):Int))) trivial q ⟨q,tV⟩ ⟨2,q,M,(by omega),(by rw[kD]<;>simp(disch:=first|omega|assumption|simp) only [SS,reduceIte,I,D,E,H,J,K])⟩
 (have K:=dF C);refine sg C (aU q) (sg C (aU q) (sg C (aU q) (sg C (k9 (a:=e) (b:=p) 18446744073709551616 q q q (by omega)) (sg C (jf (a:=size) (b:=(e-p)) q q) (st _ (bn q C q) (an q ?_))))));refine cL q (fun P=>?_) (fun P=>?_)
 ·(have L:=dT P);refine ns (ar q (cu (bw ?_)));exact dA (v:=(.int .i64 ((2:Nat):Int))) trivial q ⟨q,tV⟩ ⟨2,q,M,(by omega),(by rw[kD]<;>simp(disch:=first|omega|assumption|simp) only [SS,reduceIte,I,D,E,H,J,K,L])⟩
 (have L:=dF P);refine bA (cA (ak (ns (ar q ?_))));exact dA (v:=(.int .i64 ((0:Nat):Int))) trivial q ⟨q,tV⟩ ⟨0,q,M,(by omega),(by rw[kD]<;>simp(disch:=first|omega|assumption|simp) only [SS,reduceIte,I,D,E,H,J,K,L])⟩
theorem aft:dO Zp 100=true:=by kernel_rfl
theorem afu:dO Zp 101=true:=by kernel_rfl
theorem adw:dO Zp 102=true:=by kernel_rfl
theorem afY:dO Zp 72=true:=by kernel_rfl
theorem MZ (uQ:Up w Q) {v0:Value} {l:Ly} (h0:Ls fe w Q v0 l) (p0:l.length≤140737488355328) :
  Calls Zp 70 #[v0] w fun en w'=>∃u0:Value,∃r0:List UInt8,∃Q':Nat→Prop,en = .returned (u0)∧Md [] w w'∧pX w w' Q Q'∧Ow fe 5 (cB [] w) w' Q' u0 r0∧l=r0:=by
 obtain⟨a,A,T,R,V⟩:∃a A,v0 = .slice a l.length A∧l.length≤A∧(a=none→l=[]):=by
  obtain⟨a,A,j,e,M,k,N,_⟩:=h0;exact⟨a,A,e,M,fun h=>List.eq_nil_of_length_eq_zero (by have:=N h;omega)⟩
 refine enter (n:=8) Tryz.func70 q q q fun B=>ns (an q (aS (nm q (st (.bool a.isNone) (by exact RQ (a:=a) (m:=l.length) (c:=A) (by rw[← T];rfl) fP) (nt ?_)))));refine cL q (fun H=>?_) (fun H=>?_)
 ·have S:l=[]:=V (Option.isNone_iff_eq_none.1 H)
  refine ns (ar q (bw ?_));exact iu trivial q q ⟨_,[],Q,q,Md.refl [] w,⟨fun x h _=>h,fun x h=>h,uQ⟩,Ow.nil _ _ _ _ _,S⟩
 refine bA ?_
 refine ak (ns (iT fP ji ?_));intro b i D W C O;obtain⟨K,J,Z,X,f⟩:=kI uQ D W C;have P:Ow fe 5 (cB [] w) i K (.slice (some ⟨b,0,none⟩) 0 0) []:=Ow.dP (m:=0) O q q (by simp[maxLen]) (.inr D) X;replace h0:=(h0.sub J).o C;refine mv q (sF (sz:=1) q fP ji q q P h0.lz f (cB.new C) (by simp;omega) (by simp;omega) ?_);intro p r L Y d g E F o _ U;refine ar q ?_;exact iu trivial q q ⟨_,_,L,q,C.eB F D,⟨fun x G I=>Y x (J x G I) (lq I C.size),fun x G=>Z x (d x G),g⟩,E,by simp⟩
theorem tJ (uQ:Up w Q) {v0:Value} {l:Ly} (h0:Ls fe w Q v0 l) (p0:l.length≤140737488355328) :
  Calls Zp 70 #[v0] w fun en w'=>∃u0:Value,∃r0:List UInt8,en = .returned (u0)∧Md [] w w'∧Ls fe w' Q u0 r0∧l=r0 :=
 (MZ uQ h0 p0).mono fun en w' ⟨u0,r0,Q2,he,hm,kq,k0,hF⟩=>⟨u0,r0,he,hm,k0.ls kq.2.1 (cB.up uQ),hF⟩
set_option maxRecDepth 100000 in
abbrev kH:bY:={eN:=0,cw:=0,state:=0,cV:=pu,dM:=pu,ck:=pu,seq:=pu,n:=(List.replicate 21 0),cT:=0,cW:=0,dr:=0}
set_option maxHeartbeats 4000000 in
theorem TM (uQ:Up w Q) {v0:Value} {b:Ly} (h0:Ls fe w Q v0 b) :
  Calls Zp 71 #[v0] w fun en w'=>∃r0:bY,∃r1:Nat,en = .returned (.tuple #[.agg (bY.cells r0).toArray,(.int .i64 r1)])∧Md [] w w'∧bY.ok r0∧r1<9223372036854775808∧iP b=(r0,r1):=by
 have L0:=h0.eZ;have M:=Md.refl [] w;have Bl:=uQ;refine enter (n:=90) Tryz.func71 q q q fun B=>ns (cH qG ?_);intro v w1 i Az E A;obtain⟨Q2,r,sT,A1,V⟩:=kI uQ i Az E;replace i:=lj M.size i;replace h0:=(h0.sub r).o E;replace M:=M.k E;replace uQ:=V;clear V r sT;have H:cB [] w v:=.inr i;replace A:cG _ _ (bY.cells (kH)) _:=A;have A9:bY.ok (kH):=(by exact⟨(by decide),(by decide),(by decide),q,q,q,q,(iy _),(by decide),(by decide),(by decide)⟩);refine an q (aS (bS (nm q (sL q fP h0.ej (st _ (eP (a:=b.length) (b:=272) q q) (dz q (nt ?_)))))));refine cL q (fun h9=>?_) (fun h9=>?_)
 ·(have R:=dT h9);refine ns (st _ (cE (us:=[]) (cs:=(bY.cells (kH))) [] qG rC q q trivial trivial q q) (aT (us:=(bY.cells (kH))) q q (by exact fB) (by exact fun u S=>b9 (bY.one) u S) A (lB q) ?_));have F:=A;clear A;intro w4 E A;replace M:=M.step E (hI H);clear F;replace A:cG _ _ (bY.cells (kH)) _:=A;refine ar q (cu (bw ?_));exact ez (vs:=[(.agg (bY.cells (kH)).toArray),(.int .i64 ((22:Nat):Int))]) trivial q ⟨⟨_,q,di (cs:=(bY.cells (kH))) (by exact fB) A⟩,q,tV⟩ q ⟨(kH),22,q,M,(by assumption),(by omega),(xX R)⟩
 (have R:=dF h9);refine nm q (bU [[(b8 76)],[(b8 80)],[(b8 75)],[(b8 83)],[(b8 72)],[(b8 72)],[(b8 82)],[(b8 72)]] fP ji (by decide) (by decide) q q ⟨q,q,q,q,q,q,q,q,tV⟩ ⟨q,q,q,q,q,q,q,q,tV⟩ q (by decide) ?_);intro e w5 l As E Z;have Aj:v≠e:=(by have:=A.lt;omega);have k:cB [] w e:=cB.new M _ l;obtain⟨Q6,r,sT,c,V⟩:=kI uQ l As E;replace h0:=(h0.sub r).o E;obtain⟨A,M⟩:=k2 E A M;replace uQ:=V;clear V r sT;refine S2 fP u5 q (show cG _ _ (([76,80,75,83,72,72,82,72]:Ly).map b8) _ from Z) (By.dP (show cG _ _ (([76,80,75,83,72,72,82,72]:Ly).map b8) _ from Z) q (by decide)) ?_;intro w7 E hY;have Af:=Z;clear Z;have hS:∀b∈[e],¬Q6 b:=(hI c);replace h0:=h0.md E hS;replace A:=A.md E (by intro d;simp at d;omega);replace uQ:=uQ.md E;replace M:=M.step E (hI k);obtain⟨Q8,fQ,fT,Ag⟩:=zY (Q:=Q6) hY;replace h0:=h0.sub (fun b d _=>fQ b d);replace uQ:Up w7 Q8:=fun b d=>fQ b (uQ b d);clear Af hS fQ fT hY c;refine au aft q (TL uQ h0 Ag) ?_;rintro en w9 ⟨Ba,rfl,E,T⟩;refine rv ?_;obtain⟨h0,A,uQ,M⟩:=k4 E h0 A uQ M;refine st _ (jD q) (an q ?_);refine cL q (fun y=>?_) (fun y=>?_)
 ·(have o:=iV y);refine ns (st _ (cE (us:=[]) (cs:=(bY.cells (kH))) [] qG rC q q trivial trivial q q) (aT (us:=(bY.cells (kH))) q q (by exact fB) (by exact fun u S=>b9 (bY.one) u S) A (lB q) ?_));have F:=A;clear A;intro Bm E A;replace M:=M.step E (hI H);clear F;replace A:cG _ _ (bY.cells (kH)) _:=A;refine ar q (cu (bw ?_));exact ez (vs:=[(.agg (bY.cells (kH)).toArray),(.int .i64 ((6:Nat):Int))]) trivial q ⟨⟨_,q,di (cs:=(bY.cells (kH))) (by exact fB) A⟩,q,tV⟩ q ⟨(kH),6,q,M,(by assumption),(by omega),(uI R (by rw[T];exact o))⟩
 (have o:=iM y);refine bA (cA (ak (nm q (au afu q (ND uQ h0 (by omega)) ?_))));rintro en Bn ⟨C,rfl,E,D,K⟩;refine rv ?_;obtain⟨h0,A,uQ,M⟩:=k4 E h0 A uQ M;refine cH qG ?_;intro x Bo j A0 E G;have Av:v≠x:=(by have:=A.lt;omega);obtain⟨Aw,r,sT,Ah,V⟩:=kI uQ j A0 E;replace j:=lj M.size j;replace h0:=(h0.sub r).o E;obtain⟨A,M⟩:=k2 E A M;replace uQ:=V;clear V r sT;have Ai:cB [] w x:=.inr j;replace G:cG _ _ (bY.cells (kH)) _:=G;have A2:bY.ok (kH):=(by exact⟨(by decide),(by decide),(by decide),q,q,q,q,(iy _),(by decide),(by decide),(by decide)⟩);refine aT (us:=(bY.cells C)) q q (by exact fB) (by exact fun u S=>b9 (bY.one) u S) G (lB q) ?_
 have Ar:=G;clear G;intro Bp E G;have hS:∀b∈[x],¬Aw b:=(hI Ah);replace h0:=h0.md E hS;replace A:=A.md E (by intro d;simp at d;omega);replace uQ:=uQ.md E;replace M:=M.step E (hI Ai);clear Ar hS;replace G:cG _ _ (bY.cells C) _:=G;refine nt (ns (st _ (cJ (bY.cells C) q (by exact fB) G q) (au afY q (JO uQ C D) ?_)));rintro en Bq ⟨W,A6,rfl,E,A3,L⟩;refine rv ?_;obtain⟨h0,A,G,uQ,M⟩:=k5 E h0 A G uQ M;refine mv q (se q q (se q q (dz q (an q (aS (bS (ns (sf q AP (sl (u:=(.int .u32 C.cw)) q gO G q ?_)))))))));have Bd:C.cw<4294967296:=D.2.1;refine st _ (EF (a:=C.cw) (b:=4) 4294967296 q q q q (by omega)) (st _ (fO (a:=(andNot C.cw 4)) (b:=0) q q) (an q ?_));refine cL q (fun z=>?_) (fun z=>?_)
 ·(have I:=dT z);refine ns (st _ (cE (us:=[]) (cs:=(bY.cells (kH))) [] qG rC q q trivial trivial q q) (aT (us:=(bY.cells (kH))) q q (by exact fB) (by exact fun u S=>b9 (bY.one) u S) A (lB q) ?_));have F:=A;clear A;intro Br E A;replace M:=M.step E (hI H);clear F;replace A:cG _ _ (bY.cells (kH)) _:=A;refine ar q (cu (bw ?_));exact ez (vs:=[(.agg (bY.cells (kH)).toArray),(.int .i64 ((7:Nat):Int))]) trivial q ⟨⟨_,q,di (cs:=(bY.cells (kH))) (by exact fB) A⟩,q,tV⟩ q ⟨(kH),7,q,M,(by assumption),(by omega),(lK R T (by simp_all) K (by rw[kK L];rw[if_pos I]) (by decide))⟩
 (have I:=dF z);refine ns (sf q ZT (sl (u:=(.int .i64 C.state)) q iK G q ?_));have Be:C.state<9223372036854775808:=D.2.2.1;refine st _ (jf (a:=C.state) (b:=2) q q) (an q ?_);refine cL q (fun Aa=>?_) (fun Aa=>?_)
 ·(have J:=dT Aa);refine ns (st _ (cE (us:=[]) (cs:=(bY.cells (kH))) [] qG rC q q trivial trivial q q) (aT (us:=(bY.cells (kH))) q q (by exact fB) (by exact fun u S=>b9 (bY.one) u S) A (lB q) ?_));have F:=A;clear A;intro Bs E A;replace M:=M.step E (hI H);clear F;replace A:cG _ _ (bY.cells (kH)) _:=A;refine ar q (cu (bw ?_));exact ez (vs:=[(.agg (bY.cells (kH)).toArray),(.int .i64 ((8:Nat):Int))]) trivial q ⟨⟨_,q,di (cs:=(bY.cells (kH))) (by exact fB) A⟩,q,tV⟩ q ⟨(kH),8,q,M,(by assumption),(by omega),(lK R T (by simp_all) K (by rw[kK L];rw[if_neg I,if_pos J]) (by decide))⟩
 (have J:=dF Aa);refine ns (sf q nI (sl (u:=(.int .u64 ((C.n.getD 0 0:Nat):Int))) q bR G q ?_));have Bf:C.n.getD 0 0<18446744073709551616:=(eU D.2.2.2.2.2.2.2.1 0);refine st _ (eP (a:=(C.n.getD 0 0)) (b:=272) q q) (mv q ?_);refine cP (t:=43) q (fun O=>?_) (fun O=>?_)
 ·(have Al:=dT O);refine sk O (sk O (sk O (sk O (st _ (bE q O q) (mv q (sk q (sk q (sk q (sk q (st _ (bE q q q) (an q (fV q q ?_))))))))))));refine ns (st _ (cE (us:=[]) (cs:=(bY.cells (kH))) [] qG rC q q trivial trivial q q) (aT (us:=(bY.cells (kH))) q q (by exact fB) (by exact fun u S=>b9 (bY.one) u S) A (lB q) ?_));have F:=A;clear A;intro Bt E A;replace M:=M.step E (hI H);clear F;replace A:cG _ _ (bY.cells (kH)) _:=A;refine ar q (cu (bw ?_));exact ez (vs:=[(.agg (bY.cells (kH)).toArray),(.int .i64 ((5:Nat):Int))]) trivial q ⟨⟨_,q,di (cs:=(bY.cells (kH))) (by exact fB) A⟩,q,tV⟩ q ⟨(kH),5,q,M,(by assumption),(by omega),(lK R T (by simp_all) K (by rw[kK L];rw[if_neg I,if_neg J,if_pos (by omega)]) (by decide))⟩
 (have Al:=dF O);refine sg O (aA q nI) (sg O ((ay q bR G q).to (b:=(.int .u64 ((C.n.getD 0 0:Nat):Int))) q) (sg O (kU (a:=(C.n.getD 0 0)) (b:=8) q q (by omega)) (sg O (fO (a:=((C.n.getD 0 0)%8)) (b:=0) q q) (st _ (bn q O q) (mv q ?_)))));refine cP (t:=49) q (fun P=>?_) (fun P=>?_)
 ·(have Am:=dT P);refine sk P (sk P (sk P (sk P (st _ (bE q P q) (an q (fV q q (ns (st _ (cE (us:=[]) (cs:=(bY.cells (kH))) [] qG rC q q trivial trivial q q) (aT (us:=(bY.cells (kH))) q q (by exact fB) (by exact fun u S=>b9 (bY.one) u S) A (lB q) ?_)))))))));have F:=A;clear A;intro Bu E A;replace M:=M.step E (hI H);clear F;replace A:cG _ _ (bY.cells (kH)) _:=A;refine ar q (cu (bw ?_));exact ez (vs:=[(.agg (bY.cells (kH)).toArray),(.int .i64 ((5:Nat):Int))]) trivial q ⟨⟨_,q,di (cs:=(bY.cells (kH))) (by exact fB) A⟩,q,tV⟩ q ⟨(kH),5,q,M,(by assumption),(by omega),(lK R T (by simp_all) K (by rw[kK L];rw[if_neg I,if_neg J,if_pos (by omega)]) (by decide))⟩
 (have Am:=dF P);refine sg P (aA q AQ) (sg P ((ay q bR G q).to (b:=(.int .u64 ((C.n.getD 1 0:Nat):Int))) q) ?_);have Bg:C.n.getD 1 0<18446744073709551616:=(eU D.2.2.2.2.2.2.2.1 1);refine sg P (kU (a:=(C.n.getD 1 0)) (b:=8) q q (by omega)) (sg P (fO (a:=((C.n.getD 1 0)%8)) (b:=0) q q) (st _ (bn q P q) (an q ?_)));refine cL q (fun Ab=>?_) (fun Ab=>?_)
 ·(have Ak:=dT Ab);refine ns (st _ (cE (us:=[]) (cs:=(bY.cells (kH))) [] qG rC q q trivial trivial q q) (aT (us:=(bY.cells (kH))) q q (by exact fB) (by exact fun u S=>b9 (bY.one) u S) A (lB q) ?_));have F:=A;clear A;intro Bv E A;replace M:=M.step E (hI H);clear F;replace A:cG _ _ (bY.cells (kH)) _:=A;refine ar q (cu (bw ?_));exact ez (vs:=[(.agg (bY.cells (kH)).toArray),(.int .i64 ((5:Nat):Int))]) trivial q ⟨⟨_,q,di (cs:=(bY.cells (kH))) (by exact fB) A⟩,q,tV⟩ q ⟨(kH),5,q,M,(by assumption),(by omega),(lK R T (by simp_all) K (by rw[kK L];rw[if_neg I,if_neg J,if_pos (by omega)]) (by decide))⟩
 (have Ak:=dF Ab);refine nm q (st _ (jD q) (mv q ?_));refine cP (t:=59) q (fun N=>?_) (fun N=>?_)
 ·(have Ap:=iV N);refine sk N (sk N (sk N (sk N (sk N (st _ (bE q N q) (an q (fV q q (ns (st _ (cE (us:=[]) (cs:=(bY.cells (kH))) [] qG rC q q trivial trivial q q) (aT (us:=(bY.cells (kH))) q q (by exact fB) (by exact fun u S=>b9 (bY.one) u S) A (lB q) ?_))))))))));have F:=A;clear A;intro Bw E A;replace M:=M.step E (hI H);clear F;replace A:cG _ _ (bY.cells (kH)) _:=A;refine ar q (cu (bw ?_));exact ez (vs:=[(.agg (bY.cells (kH)).toArray),(.int .i64 ((2:Nat):Int))]) trivial q ⟨⟨_,q,di (cs:=(bY.cells (kH))) (by exact fB) A⟩,q,tV⟩ q ⟨(kH),2,q,M,(by assumption),(by omega),(lK R T (by simp_all) K (by rw[kK L];rw[if_neg I,if_neg J,if_neg (by omega),if_pos (by(left;simp_all))]) (by decide))⟩
 (have Ap:=iM N);refine sg N (aU q) (sg N (aU q) (sg N (jC q fP h0.ej) (sg N (dJ (a:=b.length) 18446744073709551616 q (by rw[u3];rfl) kY q (by omega)) (sg N (jf (a:=W) (b:=b.length) q q) (st _ (bn q N q) (an q ?_))))));refine cL q (fun Ac=>?_) (fun Ac=>?_)
 ·(have Ao:=dT Ac);refine ns (st _ (cE (us:=[]) (cs:=(bY.cells (kH))) [] qG rC q q trivial trivial q q) (aT (us:=(bY.cells (kH))) q q (by exact fB) (by exact fun u S=>b9 (bY.one) u S) A (lB q) ?_));have F:=A;clear A;intro Bx E A;replace M:=M.step E (hI H);clear F;replace A:cG _ _ (bY.cells (kH)) _:=A;refine ar q (cu (bw ?_));exact ez (vs:=[(.agg (bY.cells (kH)).toArray),(.int .i64 ((2:Nat):Int))]) trivial q ⟨⟨_,q,di (cs:=(bY.cells (kH))) (by exact fB) A⟩,q,tV⟩ q ⟨(kH),2,q,M,(by assumption),(by omega),(lK R T (by simp_all) K (by rw[kK L];rw[if_neg I,if_neg J,if_neg (by omega),if_pos (by(right;omega))]) (by decide))⟩
 (have Ao:=dF Ac);refine bA (cA (ak (aS (ns (st _ (cJ (bY.cells C) q (by exact fB) G q) (sf q KR (sl (u:=(.int .u64 ((C.n.getD 2 0:Nat):Int))) q bR G q ?_)))))));have Bh:C.n.getD 2 0<18446744073709551616:=(eU D.2.2.2.2.2.2.2.1 2);refine sf q DV (sl (u:=(.int .u64 ((C.n.getD 3 0:Nat):Int))) q bR G q ?_);have Bi:C.n.getD 3 0<18446744073709551616:=(eU D.2.2.2.2.2.2.2.1 3);refine mv q (au adw q (zI uQ C D (C.n.getD 2 0) (by omega) (C.n.getD 3 0) (by omega) W (by omega)) ?_);rintro en B0 ⟨X,rfl,E,A4,g⟩;refine rv ?_;obtain⟨A,G,uQ,M⟩:=k4 E A G uQ M;refine an q (nm q (st _ (fO (a:=X) (b:=0) q q) (nt ?_)));refine cL q (fun Ad=>?_) (fun Ad=>?_)
 ·(have U:=dT Ad);refine ns (st _ (cE (us:=[]) (cs:=(bY.cells (kH))) [] qG rC q q trivial trivial q q) (mv q (aT (us:=(bY.cells (kH))) q q (by exact fB) (by exact fun u S=>b9 (bY.one) u S) A (lB q) ?_)));have F:=A;clear A;intro B2 E A;replace M:=M.step E (hI H);clear F;replace A:cG _ _ (bY.cells (kH)) _:=A;refine ar q (bw ?_);exact ez (vs:=[(.agg (bY.cells (kH)).toArray),(.int .i64 X)]) trivial q ⟨⟨_,q,di (cs:=(bY.cells (kH))) (by exact fB) A⟩,q,tV⟩ q ⟨(kH),X,q,M,(by assumption),(by assumption),(lK R T (by simp_all) K (by rw[kK L];rw[if_neg I,if_neg J,if_neg (by omega),if_neg (by rintro(h|h)<;>first|omega|simp_all),g,if_pos U]) U)⟩
 (have U:=dF Ad);refine bA (ak (aS (ns (st _ (cJ (bY.cells C) q (by exact fB) G q) (sf q DW (sl (u:=(.int .u64 ((C.n.getD 4 0:Nat):Int))) q bR G q ?_))))));have Bj:C.n.getD 4 0<18446744073709551616:=(eU D.2.2.2.2.2.2.2.1 4);refine sf q DX (sl (u:=(.int .u64 ((C.n.getD 5 0:Nat):Int))) q bR G q ?_);have Bk:C.n.getD 5 0<18446744073709551616:=(eU D.2.2.2.2.2.2.2.1 5);refine mv q (au adw q (zI uQ C D (C.n.getD 4 0) (by omega) (C.n.getD 5 0) (by omega) W (by omega)) ?_);rintro en B3 ⟨Y,rfl,E,A5,p⟩;refine rv ?_;obtain⟨A,G,M⟩:=k3 E A G M;refine an q (nm q (st _ (fO (a:=Y) (b:=0) q q) (nt ?_)));refine cL q (fun Ae=>?_) (fun Ae=>?_)
 ·(have f:=dT Ae);refine ns (st _ (cE (us:=[]) (cs:=(bY.cells (kH))) [] qG rC q q trivial trivial q q) (mv q (aT (us:=(bY.cells (kH))) q q (by exact fB) (by exact fun u S=>b9 (bY.one) u S) A (lB q) ?_)));have F:=A;clear A;intro B4 E A;replace M:=M.step E (hI H);clear F;replace A:cG _ _ (bY.cells (kH)) _:=A;refine ar q (bw ?_);exact ez (vs:=[(.agg (bY.cells (kH)).toArray),(.int .i64 Y)]) trivial q ⟨⟨_,q,di (cs:=(bY.cells (kH))) (by exact fB) A⟩,q,tV⟩ q ⟨(kH),Y,q,M,(by assumption),(by assumption),(lK R T (by simp_all) K (by rw[kK L];rw[if_neg I,if_neg J,if_neg (by omega),if_neg (by rintro(h|h)<;>first|omega|simp_all),g,if_neg U,p]) f)⟩
 (have f:=dF Ae);refine bA (ak (ns (st _ (cJ (bY.cells C) q (by exact fB) G q) (aT (us:=(bY.cells C)) q q (by exact fB) (by exact fun u S=>b9 (bY.one) u S) A (lB q) ?_))));have F:=A;clear A;intro B5 E A;replace M:=M.step E (hI H);clear F;replace A:cG _ _ (bY.cells C) _:=A;refine ar q ?_;exact ez (vs:=[(.agg (bY.cells C).toArray),(.int .i64 ((0:Nat):Int))]) trivial q ⟨⟨_,q,di (cs:=(bY.cells C)) (by exact fB) A⟩,q,tV⟩ q ⟨C,0,q,M,D,(by omega),(LP R T (by simp_all) K (by rw[kK L];rw[if_neg I,if_neg J,if_neg (by omega),if_neg (by rintro(h|h)<;>first|omega|simp_all),g,if_neg U,p];simpa using f))⟩
theorem afX:dO Zp 70=true:=by kernel_rfl
theorem ah0:dO Zp 71=true:=by kernel_rfl
theorem agr:gC Zp 105=some [(0,1),(1,91)]:=by kernel_rfl
theorem z105:eR Zp 105=some ([.slice none 0 0,.int .u32 0,.int .u32 0,.int .i64 0] ++ (List.replicate 64 (.int .u8 0) ++ (List.replicate 21 (.int .u64 0) ++ ([.int .u32 0,.int .u32 0,.int .u64 0])))):=by kernel_rfl
set_option maxRecDepth 100000 in
theorem SE (uQ:Up w Q) {v0:Value} {b:Ly} (h0:Ls fe w Q v0 b) (p0:b.length≤140737488355328) :
  Calls Zp 39 #[v0] w fun en w'=>∃u0:Value,∃r0:Option (fE),∃r1:Nat,en = .returned (.tuple #[u0,(.int .i64 r1)])∧Md [] w w'∧Po gu 105 w' Q u0 r0∧r1<9223372036854775808∧jw b=(r0,r1):=by
 have L0:=h0.eZ;have M:=Md.refl [] w;have t:=uQ;have l:∀b,Q b→Q b:=fun _ h=>h;refine enter (n:=28) Tryz.func39 q q q fun B=>ns (dz q (an q (nm q (au ah0 q (TM uQ h0) ?_))));rintro en w1 ⟨C,L,rfl,D,P,z,X⟩;refine rv ?_;obtain⟨h0,uQ,M⟩:=k3 D h0 uQ M;refine mv q (se q q (se q q (cH qG ?_)));intro V w2 O r D A;obtain⟨Q3,j,k,Z,J⟩:=kI uQ O r D;replace l:=tT l k;replace O:=lj M.size O;replace h0:=(h0.sub j).o D;replace M:=M.k D;replace uQ:=J;clear J j k;have c:cB [] w V:=.inr O;replace A:cG _ _ (bY.cells (kH)) _:=A;have y:bY.ok (kH):=(by exact⟨(by decide),(by decide),(by decide),q,q,q,q,(iy _),(by decide),(by decide),(by decide)⟩);refine aT (us:=(bY.cells C)) q q (by exact fB) (by exact fun u hu=>b9 (bY.one) u hu) A (lB q) ?_
 have g:=A;clear A;intro w5 D A;have v:∀b∈[V],¬Q3 b:=(hI Z);replace h0:=h0.md D v;replace uQ:=uQ.md D;replace M:=M.step D (hI c);clear g v;replace A:cG _ _ (bY.cells C) _:=A;refine an q (aS (nm q (st _ (fO (a:=L) (b:=0) q q) (nt ?_))));refine cL q (fun W=>?_) (fun W=>?_)
 ·(have H:=dT W);refine nm q (dz q (ar q (bw ?_)));exact ez (vs:=[(.pointer none),(.int .i64 L)]) trivial q ⟨q,q,tV⟩ q ⟨_,none,L,q,M,q,(by assumption),(by rw[jw,X,if_pos H])⟩
 (have H:=dF W);refine bA (ak (ns (st _ (cJ (bY.cells C) q (by exact fB) A q) (au afY q (JO uQ C P) ?_))));rintro en w6 ⟨U,Ab,rfl,D,Aa,e⟩;refine rv ?_;obtain⟨h0,A,uQ,M⟩:=k4 D h0 A uQ M;refine mv q (se q q (se q q (dz q (an q (aS ?_)))));have I:=A;refine dN [(0,true),(1,true),(2,true),(4,true),(3,false)] [5,6,7,8] (fun w'=>Md [] w6 w') dV (by kernel_rfl) ?_;intro w7 G;refine⟨G.mono (by simp),?_⟩;have o:=G.mono (T:=[]) (by simp);have rf:iP b=(C,0):=(by rw[X];simp only[Prod.mk.injEq,true_and];omega);have en:=BG rf e;refine mo q (mo q (mz (fun w' x=>j5 1 0 U fP mO q h0.ej (by omega) (by omega) q ⟨_,q⟩) ?_));have Y:=h0.head (hi:=U) (by omega);refine mz (fun w' x=>cJ (bY.cells C) q (by exact fB) (I.o x) q) ?_;obtain⟨A,Y,uQ,M⟩:=k4 G A Y uQ M;refine lT ?_ rfl;refine au afX q (tJ uQ Y (by(simp<;>omega))) ?_;rintro en w9 ⟨K,N,rfl,D,E,Ae⟩;refine rv ?_;obtain⟨A,uQ,M,o⟩:=k4 D A uQ M o;refine ax ⟨q,o,?_⟩;refine dZ ?_;clear I;clear o;refine st _ (cE (us:=[[K],(bY.cells C)]) (cs:=(fE.cells (({b:=N,h:=C}:fE)) K)) [(0,0,1),(1,1,91)] z105 agr q q ⟨(gL E.cO),q,tV⟩ ⟨q,q,tV⟩ q q) (gG (cs:=(fE.cells (({b:=N,h:=C}:fE)) K)) q q ?_);intro R Ah F i D f;have d:V≠R:=(by have:=A.lt;omega);obtain⟨Ac,j,k,p,J⟩:=kI uQ F i D
 replace l:=tT l k;replace F:=lj M.size F;replace E:=(E.sub j).o D;replace M:=M.k D;replace uQ:=J;clear J j k;refine dz q (ar q ?_);exact ez (vs:=[(.pointer (some ⟨R,0,none⟩)),(.int .i64 ((0:Nat):Int))]) trivial q ⟨q,q,tV⟩ q ⟨_,(some (({b:=N,h:=C}:fE))),0,q,M,⟨_,_,q,t _ F,f,fU (by assumption) (E.sub (fun b S _=>l b S))⟩,(by omega),(by rw[jw,X,if_neg H,e];simp_all)⟩
end Go.Proofs.YtbmmkbejcnalcaaGreat
