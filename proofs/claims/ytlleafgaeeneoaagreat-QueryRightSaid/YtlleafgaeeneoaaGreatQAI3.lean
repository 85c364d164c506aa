/- Part 3 of what the walk of a law stands on: WName, WRSplit, VLe, VGet, VHead, VHead2, VHead3, VHead4, VView, VView2, VRSplit, VRCom, RefV, RefV2. No statement is proved here. -/
import Derived.Test.YtlleafgaeeneoaaGreatQAI2
import Derived.Test.YtlleafgaeeneoaaGreatRows
set_option linter.unusedVariables false
set_option linter.unusedSimpArgs false
namespace Go.Proofs.YtlleafgaeeneoaaGreat
open Go Go.Wk Go.RowKit
attribute [local irreducible] wpList wpQuiet wpStill fF Code.wp Calls bodyPost
variable {w:World} {Q:Nat→Prop}
theorem u9:Zp.underlying 9=some (.string):=Yz
theorem DL (s:Ly) (w:World) (hl:s.length≤9223372036854775807):Calls Zp 107 #[str s] w fun e w'=>e = .returned (.bool (eP s))∧w=w':=by
 have M:=Md.refl [] w;refine enter (n:=44) Tryz.func107 q q q fun B=>ns (an q (au (ns (cE q (nt (b9 ?_))))));refine ja (X:=Nat) (fun i=>[(0,str s),(3,.int .i64 i)]) (fun i w'=>w=w'∧i≤s.length∧∀j,j<i→iN (s.getD j 0)=true∧(j=0→digit (s.getD j 0)=false)) (fun i=>s.length-i) 0 ?_ ?_ ?_
 ·exact⟨q,q,tV⟩
 ·exact⟨q,by omega,fun j I=>by omega⟩
 clear M
 rintro i B Z ⟨rfl,Y,O⟩;have M:=Md.refl [] w;refine au (ns (m2 q q (st _ (qI q u9) (st _ (qd q q) (nt ?_)))));refine bV q (fun V=>?_) (fun V=>?_)
 ·(have W:=dT V);refine aY (ai (au (b9 (ns (m2 q q (st _ (vA q q u9 Ok) (an q (au (nm q (st _ (qc q q) ?_))))))))));refine mv q ?_;refine cB (t:=16) q (fun J=>?_) (fun J=>?_)
  ·(have Q:=dT J);refine sg J (bf q) (sg J (vB q q) (st _ (bF q J q) (mv q ?_)));refine cB (t:=20) q (fun K=>?_) (fun K=>?_)
   ·(have R:=dT K);refine sg K (bf q) (sg K (tf q q) (st _ (bF q K q) (mv q ?_)));refine cB (t:=24) q (fun F=>?_) (fun F=>?_)
    ·(have S:=dT F);refine sk F (sk F (sk F (jJ q q q (jJ q q q (sk F (st _ (bF q F q) (mv q (sk q (sk q (st _ (bF q q q) (nt (fZ q q (cw ?_)))))))))))));refine bD (cZ (ai (ax (mv q (st _ (eE q q Ok) (an q (next (i+1) Ok ⟨q,dA q Oj,tV⟩ ?_)))))))
     exact⟨q,by omega,fun j I=>by
      rcases Nat.lt_or_eq_of_le (Nat.le_of_lt_succ I)with h|h
      ·exact O j h
      ·subst h;exact⟨by unfold iN;exact decide_eq_true Ok,fun H=>by unfold digit;exact decide_eq_false Ok⟩⟩
    (have S:=dF F);refine sg F (bf q) (sg F (qc q q) (sg F (bf q) ?_));refine cB (t:=27) q (fun A=>?_) (fun A=>?_)
    ·(have L:=dT A);refine sg A (bf q) (sg A (vB q q) (sg F (bF q A q) (st _ (bE q F q) (mv q ?_))));refine cB (t:=32) q (fun C=>?_) (fun C=>?_)
     ·(have N:=dT C);refine sk C (sk C (st _ (bF q C q) (nt (fZ q q (cw (bD (cZ (ai (ax (mv q (st _ (eE q q Ok) (an q ?_))))))))))));refine next (i+1) Ok ⟨q,dA q Oj,tV⟩ ?_
      exact⟨q,by omega,fun j I=>by
       rcases Nat.lt_or_eq_of_le (Nat.le_of_lt_succ I)with h|h
       ·exact O j h
       ·subst h;exact⟨by unfold iN;exact decide_eq_true Ok,fun H=>by unfold digit;exact decide_eq_false Ok⟩⟩
     (have N:=dF C);refine sg C (bf q) (sg C (kJ q q) (st _ (bE q C q) (nt ?_)));refine bV q (fun D=>?_) (fun D=>?_)
     ·(have E:=dT D);refine cw (bD (cZ (ai (ax (mv q (st _ (eE q q Ok) (an q (next (i+1) Ok ⟨q,dA q Oj,tV⟩ ?_))))))))
      exact⟨q,by omega,fun j I=>by
       rcases Nat.lt_or_eq_of_le (Nat.le_of_lt_succ I)with h|h
       ·exact O j h
       ·subst h;exact⟨by unfold iN;exact decide_eq_true Ok,fun H=>by unfold digit;exact decide_eq_false Ok⟩⟩
     (have E:=dF D);refine aY (ai (ns (ar q (bG (aV (aV (bG (aV ?_))))))));exact gI trivial q q ⟨nv (by cases hh:eP s with|false=>rfl|true=>(exfalso;have hl:=fM hh;have P:=gO hh;have U:=jR hh i Ok;rcases Nat.eq_zero_or_pos i with H|H<;>omega)),q⟩
    (have L:=dF A);refine sk A (sk A (sg F (bE q A q) (st _ (bE q F q) (mv q (sg q (bf q) (sg q (kJ q q) (st _ (bE q q q) (nt ?_))))))));refine bV q (fun D=>?_) (fun D=>?_)
    ·(have E:=dT D);refine cw (bD (cZ (ai (ax (mv q (st _ (eE q q Ok) (an q (next (i+1) Ok ⟨q,dA q Oj,tV⟩ ?_))))))))
     exact⟨q,by omega,fun j I=>by
      rcases Nat.lt_or_eq_of_le (Nat.le_of_lt_succ I)with h|h
      ·exact O j h
      ·subst h;exact⟨by unfold iN;exact decide_eq_true Ok,fun H=>by unfold digit;exact decide_eq_false Ok⟩⟩
    (have E:=dF D);refine aY (ai (ns (ar q (bG (aV (aV (bG (aV ?_))))))));exact gI trivial q q ⟨nv (by cases hh:eP s with|false=>rfl|true=>(exfalso;have hl:=fM hh;have P:=gO hh;have U:=jR hh i Ok;rcases Nat.eq_zero_or_pos i with H|H<;>first|omega|(subst H;omega))),q⟩
   (have R:=dF K);refine sk K (sk K (st _ (bE q K q) (mv q (sg q (bf q) (sg q (qc q q) (sg q (bf q) ?_))))));refine cB (t:=27) q (fun A=>?_) (fun A=>?_)
   ·(have L:=dT A);refine sg A (bf q) (sg A (vB q q) (sg q (bF q A q) (st _ (bE q q q) (mv q ?_))));refine cB (t:=32) q (fun C=>?_) (fun C=>?_)
    ·(have N:=dT C);refine sk C (sk C (st _ (bF q C q) (nt (fZ q q (cw (bD (cZ (ai (ax (mv q (st _ (eE q q Ok) (an q ?_))))))))))));refine next (i+1) Ok ⟨q,dA q Oj,tV⟩ ?_
     exact⟨q,by omega,fun j I=>by
      rcases Nat.lt_or_eq_of_le (Nat.le_of_lt_succ I)with h|h
      ·exact O j h
      ·subst h;exact⟨by unfold iN;exact decide_eq_true Ok,fun H=>by unfold digit;exact decide_eq_false Ok⟩⟩
    (have N:=dF C);refine sg C (bf q) (sg C (kJ q q) (st _ (bE q C q) (nt ?_)));refine bV q (fun D=>?_) (fun D=>?_)
    ·(have E:=dT D);refine cw (bD (cZ (ai (ax (mv q (st _ (eE q q Ok) (an q (next (i+1) Ok ⟨q,dA q Oj,tV⟩ ?_))))))))
     exact⟨q,by omega,fun j I=>by
      rcases Nat.lt_or_eq_of_le (Nat.le_of_lt_succ I)with h|h
      ·exact O j h
      ·subst h;exact⟨by unfold iN;exact decide_eq_true Ok,fun H=>by unfold digit;exact decide_eq_false Ok⟩⟩
    (have E:=dF D);refine aY (ai (ns (ar q (bG (aV (aV (bG (aV ?_))))))));exact gI trivial q q ⟨nv (by cases hh:eP s with|false=>rfl|true=>(exfalso;have hl:=fM hh;have P:=gO hh;have U:=jR hh i Ok;rcases Nat.eq_zero_or_pos i with H|H<;>omega)),q⟩
   (have L:=dF A);refine sk A (sk A (sg q (bE q A q) (st _ (bE q q q) (mv q (sg q (bf q) (sg q (kJ q q) (st _ (bE q q q) (nt ?_))))))));refine bV q (fun D=>?_) (fun D=>?_)
   ·(have E:=dT D);refine cw (bD (cZ (ai (ax (mv q (st _ (eE q q Ok) (an q (next (i+1) Ok ⟨q,dA q Oj,tV⟩ ?_))))))))
    exact⟨q,by omega,fun j I=>by
     rcases Nat.lt_or_eq_of_le (Nat.le_of_lt_succ I)with h|h
     ·exact O j h
     ·subst h;exact⟨by unfold iN;exact decide_eq_true Ok,fun H=>by unfold digit;exact decide_eq_false Ok⟩⟩
   (have E:=dF D);refine aY (ai (ns (ar q (bG (aV (aV (bG (aV ?_))))))));exact gI trivial q q ⟨nv (by cases hh:eP s with|false=>rfl|true=>(exfalso;have hl:=fM hh;have P:=gO hh;have U:=jR hh i Ok;rcases Nat.eq_zero_or_pos i with H|H<;>omega)),q⟩
  (have Q:=dF J);refine sk J (sk J (st _ (bE q J q) (mv q (sk q (sk q (st _ (bE q q q) (mv q (sg q (bf q) (sg q (qc q q) (sg q (bf q) ?_))))))))));refine cB (t:=27) q (fun A=>?_) (fun A=>?_)
  ·(have L:=dT A);refine sg A (bf q) (sg A (vB q q) (sg q (bF q A q) (st _ (bE q q q) (mv q ?_))));refine cB (t:=32) q (fun C=>?_) (fun C=>?_)
   ·(have N:=dT C);refine sk C (sk C (st _ (bF q C q) (nt (fZ q q (cw (bD (cZ (ai (ax (mv q (st _ (eE q q Ok) (an q ?_))))))))))));refine next (i+1) Ok ⟨q,dA q Oj,tV⟩ ?_
    exact⟨q,by omega,fun j I=>by
     rcases Nat.lt_or_eq_of_le (Nat.le_of_lt_succ I)with h|h
     ·exact O j h
     ·subst h;exact⟨by unfold iN;exact decide_eq_true Ok,fun H=>by unfold digit;exact decide_eq_false Ok⟩⟩
   (have N:=dF C);refine sg C (bf q) (sg C (kJ q q) (st _ (bE q C q) (nt ?_)));refine bV q (fun D=>?_) (fun D=>?_)
   ·(have E:=dT D);refine cw (bD (cZ (ai (ax (mv q (st _ (eE q q Ok) (an q (next (i+1) Ok ⟨q,dA q Oj,tV⟩ ?_))))))))
    exact⟨q,by omega,fun j I=>by
     rcases Nat.lt_or_eq_of_le (Nat.le_of_lt_succ I)with h|h
     ·exact O j h
     ·subst h;exact⟨by unfold iN;exact decide_eq_true Ok,fun H=>by unfold digit;exact decide_eq_false Ok⟩⟩
   (have E:=dF D);refine aY (ai (ns (ar q (bG (aV (aV (bG (aV ?_))))))));exact gI trivial q q ⟨nv (by cases hh:eP s with|false=>rfl|true=>(exfalso;have hl:=fM hh;have P:=gO hh;have U:=jR hh i Ok;rcases Nat.eq_zero_or_pos i with H|H<;>omega)),q⟩
  (have L:=dF A);refine sk A (sk A (sg q (bE q A q) (st _ (bE q q q) (mv q (sg q (bf q) (sg q (kJ q q) (st _ (bE q q q) (nt ?_))))))));refine bV q (fun D=>?_) (fun D=>?_)
  ·(have E:=dT D);refine cw (bD (cZ (ai (ax (mv q (st _ (eE q q Ok) (an q (next (i+1) Ok ⟨q,dA q Oj,tV⟩ ?_))))))))
   exact⟨q,by omega,fun j I=>by
    rcases Nat.lt_or_eq_of_le (Nat.le_of_lt_succ I)with h|h
    ·exact O j h
    ·subst h;exact⟨by unfold iN;exact decide_eq_true Ok,fun H=>by unfold digit;exact decide_eq_false Ok⟩⟩
  (have E:=dF D);refine aY (ai (ns (ar q (bG (aV (aV (bG (aV ?_))))))));exact gI trivial q q ⟨nv (by cases hh:eP s with|false=>rfl|true=>(exfalso;have hl:=fM hh;have P:=gO hh;have U:=jR hh i Ok;rcases Nat.eq_zero_or_pos i with H|H<;>omega)),q⟩
 (have W:=dF V);refine cw (bD (bD (cZ (ai (nm q (st _ (qI q u9) (st _ (qc q q) (mv q ?_))))))));refine cB (t:=39) q (fun G=>?_) (fun G=>?_)
 ·(have T:=dT G);refine sg G (bf q) (sg G (qI q u9) (sg G (vB q q) (st _ (bF q G q) (ar q ?_))));exact gI trivial q q ⟨nv (YR Ok (fun j I=>O j Ok)),q⟩
 (have T:=dF G);refine sk G (sk G (sk G (st _ (bE q G q) (ar q ?_))));exact gI trivial q q ⟨nv (by cases hh:eP s with|false=>rfl|true=>(exfalso;have hl:=fM hh;have P:=gO hh;omega)),q⟩
theorem fp:fA Zp 61 2=true:=Yz
theorem mX:gu Zp 5 1=true:=Yz
theorem acZ:cM Zp 107=true:=Yz
theorem um:gZ Zp 5=true:=Yz
theorem uo:fw Zp 61=some [(0,1),(1,1)]:=Yz
theorem fG:Zp.underlying 27=some (.slice 5):=Yz
theorem u5:Zp.underlying 5=some (.int .u8):=Yz
theorem z61:ea Zp 61=some [.string ByteArray.empty,.string ByteArray.empty]:=Yz
theorem NH (v:Value) (l:Ly) (w:World) (hB:By w v l) (hl:l.length≤4611686018427387904) :
  Calls Zp 68 #[v] w fun e w'=>e = .returned (.tuple #[lK (oH l),.int .i64 (gT l)])∧Md [] w w':=by
 have V:=hB.dN;have M:=Md.refl [] w;refine enter (n:=41) Tryz.func68 q q q fun B=>ns (bU z61 ?_);intro U a N Z E A;replace N:=ly M.size N;replace M:=M.k E;refine an q (au (ns (cE q (nt (b9 ?_)))));refine ja (X:=Nat) (fun i=>[(0,v),(2,.pointer (some ⟨U,0,none⟩)),(4,.int .i64 i)]) (fun i w'=>Md [] w w'∧bO w' U [.string ByteArray.empty,.string ByteArray.empty] 61∧i≤l.length∧∀j,j<i→l.getD j 0≠61) (fun i=>l.length-i) 0 ?_ ?_ ?_
 ·exact⟨q,q,q,tV⟩
 ·exact⟨M,A,by omega,fun j T=>by omega⟩
 clear M
 clear A;rintro i B b ⟨M,A,Y,Q⟩;refine au (ns (m2 q q (sL q fG hB.cV (st _ (qd q q) (nt ?_)))));refine bV q (fun R=>?_) (fun R=>?_)
 ·(have S:=dT R);refine aY (ai (au (b9 (au (ns (m2 q q (st _ (xZ q q fG mX hB.cV Ok) (st _ (yc q um (hB.o M) Ok) (st _ (Ni q q) (nt ?_))))))))));refine bV q (fun H=>?_) (fun H=>?_)
  ·(have F:=dT H);refine cw (bD (cZ (ai (ax (mv q (st _ (eE q q Ok) (an q (next (i+1) Ok ⟨q,q,dA q Oj,tV⟩ ?_))))))))
   exact⟨M,A,by omega,fun j T=>by
    rcases Nat.lt_or_eq_of_le (Nat.le_of_lt_succ T)with h|h
    ·exact Q j h
    ·subst h;intro W;apply F;rw[Int.toNat_natCast,W];rfl⟩
  (have F:=dF H);have O:=F;rw[Int.toNat_natCast]at O;have G:Lib.indexByte l 61=i:=agp Ok (UInt8.toNat_inj.1 (by show _=61;omega)) Q;refine aY (ai (au (ns (m2 q q (st _ (kP 0 i fG mX q hB.cV Ok Ok q ⟨_,q⟩) (st _ (mR fG u5 u9 q ((hB.head i Ok).o M)) (aj acZ q (DL (l.take i) _ Yw) ?_)))))));rintro e _ ⟨rfl,rfl⟩;refine rv ?_;refine st _ (gR q) (nt ?_);refine bV q (fun I=>?_) (fun I=>?_)
  ·(have D:=eM I);refine ns (st (.agg [_,_].toArray) (ji (ps:=[]) z61 uo q q trivial q q q) (eW q q (by exact fp) (by simp[lK,str,Value.oneCell']) A (by rfl) ?_));have K:=A;clear A;intro c E A;replace M:=M.ej E N;refine ar q (aV (bG (aV (aV (bG (aV ?_))))));have C:gT l=20:=(by unfold gT;rw[G,if_neg Ok,Int.toNat_natCast,if_pos D]);have L:=nW (s:=l) (by rw[C];decide);exact xh trivial q q (by exact fp) A q ⟨by rw[C,L];rfl,M⟩
  (have D:=eL I);refine aY (ai (au (nm q (sL q fG hB.cV (mv q (st _ (jx q q Ok) (st _ (jx q q Ok) (st _ (tf q q) (nt ?_)))))))));refine bV q (fun J=>?_) (fun J=>?_)
  ·(have P:=dT J);refine ns (st (.agg [_,_].toArray) (ji (ps:=[]) z61 uo q q trivial q q q) (eW q q (by exact fp) (by simp[lK,str,Value.oneCell']) A (by rfl) ?_));have K:=A;clear A;intro d E A;replace M:=M.ej E N;refine ar q (aV (bG (aV (aV (bG (aV ?_))))));have C:gT l=21:=(by unfold gT;rw[G,if_neg Ok,Int.toNat_natCast,if_neg (by simp[D]),if_pos Yw]);have L:=nW (s:=l) (by rw[C];decide);exact xh trivial q q (by exact fp) A q ⟨by rw[C,L];rfl,M⟩
  (have P:=dF J);refine aY (ai (au (yC [(0,true),(1,true),(2,true),(3,true),(4,true),(5,true),(6,true),(7,true),(8,true),(9,true),(10,false),(11,true)] (fun w'=>By w' v l) mixed Yz ?_)));intro f E;obtain⟨A,M⟩:=k2 E A M;refine⟨(hB.o M),?_⟩;refine m _ (fun w' C=>bf q) (m _ (fun w' C=>bf q) (m _ (fun w' C=>kP 0 i fG mX q hB.cV Ok Ok q ⟨_,q⟩) (m _ (fun w' C=>mR fG u5 u9 q (By.head C i Ok)) (m _ (fun w' C=>bf q) (m _ (fun w' C=>bf q) (m _ (fun w' C=>(eE q q Ok).jd (show _=((i+1:Nat):Int)from by simp)) (m _ (fun w' C=>kP (i+1) l.length fG mX q hB.cV Ok Ok ⟨_,q⟩ q) (m _ (fun w' C=>mR fG u5 u9 q (By.tail C (i+1) Ok)) (m (.agg [_,_].toArray) (fun w' C=>ji (ps:=[(0,0),(1,1)]) z61 uo q q ⟨q,q,tV⟩ q q q) ?_)))))))));refine kZ ?_ rfl;refine eW q q (by exact fp) (by simp[lK,str,Value.oneCell']) A (by rfl) ?_;have K:=A;clear A;intro g E A;replace M:=M.ej E N;refine ak ⟨q,(hB.o M),?_⟩;refine m _ (fun w' C=>eU q) (d9 (ai (gW (bG (aV (aV (bG (aV ?_))))))));have C:gT l=0:=(by unfold gT;rw[G,if_neg Ok,Int.toNat_natCast,if_neg (by simp[D]),if_neg Yw]);have L:oH l=(l.take i,l.drop (i+1)):=(by unfold oH;rw[if_pos C,G,Int.toNat_natCast]);exact xh trivial q q (by exact fp) A q ⟨by rw[C,L];rfl,M⟩
 (have S:=dF R);refine cw (bD (bD (cZ (ai (ns (st (.agg [_,_].toArray) (ji (ps:=[]) z61 uo q q trivial q q q) (eW q q (by exact fp) (by simp[lK,str,Value.oneCell']) A (by rfl) ?_)))))));have K:=A;clear A;intro k E A;replace M:=M.ej E N;refine ar q ?_;have C:gT l=20:=(by unfold gT;rw[if_pos (abC fun j T=>Q j Ok)]);have L:=nW (s:=l) (by rw[C];decide);exact xh trivial q q (by exact fp) A q ⟨by rw[C,L];rfl,M⟩
theorem kU:Zp.underlying 46=some (.int .u64):=Yz
theorem MH (uQ:Up w Q) (n:Int) (a0:(-9223372036854775808≤n∧n<9223372036854775808)) :
  Calls Zp 163 #[(.int .i64 (n:Int))] w fun en w'=>∃r0:Bool,en = .returned (.bool r0)∧Md [] w w'∧nA n=r0:=by
 have M:=Md.refl [] w;have H:=uQ;refine enter (n:=17) Tryz.func163 q q q fun B=>ns (an q (nm q (st _ (kJ (a:=n) (b:=1) q q) (mv q ?_))));refine cB (t:=5) q (fun C=>?_) (fun C=>?_)
 ·(have F:=dT C);refine sk C (sk C (st _ (bF q C q) (mv q (sk q (sk q (st _ (bF q q q) (mv q (sk q (sk q (st _ (bF q q q) (ar q ?_)))))))))));exact cu (v:=(.bool true)) trivial q ⟨q,tV⟩ ⟨true,q,M,(by simp only[nA];exact decide_eq_true Ok)⟩
 (have F:=dF C);refine sg C (bf q) (sg C (kJ (a:=n) (b:=2) q q) (st _ (bE q C q) (mv q ?_)));refine cB (t:=9) q (fun D=>?_) (fun D=>?_)
 ·(have G:=dT D);refine sk D (sk D (st _ (bF q D q) (mv q (sk q (sk q (st _ (bF q q q) (ar q ?_)))))));exact cu (v:=(.bool true)) trivial q ⟨q,tV⟩ ⟨true,q,M,(by simp only[nA];exact decide_eq_true Ok)⟩
 (have G:=dF D);refine sg D (bf q) (sg D (kJ (a:=n) (b:=4) q q) (st _ (bE q D q) (mv q ?_)));refine cB (t:=13) q (fun A=>?_) (fun A=>?_)
 ·(have E:=dT A);refine sk A (sk A (st _ (bF q A q) (ar q ?_)));exact cu (v:=(.bool true)) trivial q ⟨q,tV⟩ ⟨true,q,M,(by simp only[nA];exact decide_eq_true Ok)⟩
 (have E:=dF A);refine sg A (bf q) (sg A (kJ (a:=n) (b:=8) q q) (st _ (bE q A q) (ar q ?_)));exact cu (v:=(.bool ((decide (n=8))))) trivial q ⟨q,tV⟩ ⟨(decide (n=8)),q,M,(by simp only[nA];exact(decide_eq_decide.2 Ok))⟩
theorem NA (uQ:Up w Q) {v0:Value} {l:Ly} (h0:Ls eD w Q v0 l) (a:Int) (a1:(-9223372036854775808≤a∧a<9223372036854775808)) (n:Int) (a2:(-9223372036854775808≤n∧n<9223372036854775808)) :
  Calls Zp 91 #[v0,(.int .i64 (a:Int)),(.int .i64 (n:Int))] w fun en w'=>∃r0:Nat,∃r1:Bool,en = .returned (.tuple #[(.int .u64 r0),(.bool r1)])∧Md [] w w'∧r0<18446744073709551616∧pL l a n=(r0,r1):=by
 have u:=h0.dN;have M:=Md.refl [] w;have p:=uQ;have Z:∀b,Q b→Q b:=fun _ h=>h;have P:∀b,Q b→b<w.heap.size→Q b:=fun _ h _=>h;refine enter (n:=59) Tryz.func91 q q q fun B=>ns (cE q (an q (au (au ?_))));refine yB (fun b=>[(41,.bool b),(0,v0),(1,(.int .i64 (a:Int))),(2,(.int .i64 (n:Int))),(6,(.int .u64 ((0:Nat):Int))),(7,(.bool false))]) (fun b w'=>w=w'∧(b=true↔¬(nA n=true∧0≤a∧a+n≤l.length))) ?_ ?_
 ·refine mv q (st _ (Ni (a:=n) (b:=1) q q) (mv q ?_));refine cB (t:=12) q (fun H=>?_) (fun H=>?_)
  ·(have T:=dT H);refine sg H (bf q) (sg H (Ni (a:=n) (b:=2) q q) (st _ (bF q H q) (mv q ?_)));refine cB (t:=16) q (fun I=>?_) (fun I=>?_)
   ·(have U:=dT I);refine sg I (bf q) (sg I (Ni (a:=n) (b:=4) q q) (st _ (bF q I q) (mv q ?_)));refine cB (t:=20) q (fun J=>?_) (fun J=>?_)
    ·(have V:=dT J);refine sg J (bf q) (sg J (Ni (a:=n) (b:=8) q q) (st _ (bF q J q) (mv q ?_)));refine cB (t:=24) q (fun K=>?_) (fun K=>?_)
     ·(have W:=dT K);refine sk K (sk K (st _ (bF q K q) (mv q (sk q (sk q (sk q (sk q (st _ (bF q q q) (mv q (sk q (sk q (sk q (sk q ?_)))))))))))));refine sk q (sk q (st _ (bF q q q) (ak ?_)));refine⟨q,jn true ?_ ?_⟩
      ·exact⟨q,q,q,q,q,q,tV⟩
      ·exact⟨q,by rw[eZ];simp;omega⟩
     ·(have W:=dF K);refine sg K (bf q) (sg K (qd (a:=a) (b:=0) q q) (st _ (bE q K q) (mv q ?_)));refine cB (t:=28) q (fun C=>?_) (fun C=>?_)
      ·(have E:=dT C);refine sk C (sk C (sk C (sk C (st _ (bF q C q) (mv q (sk q (sk q (sk q (sk q (sk q (sk q (st _ (bF q q q) (ak ?_)))))))))))));refine⟨q,jn true ?_ ?_⟩
       ·exact⟨q,q,q,q,q,q,tV⟩
       ·exact⟨q,by rw[eZ];simp;omega⟩
      ·(have E:=dF C);refine sg C (bf q) (sg C (bf q) (sg C (iu q fG h0.cV) (sg C (tf (a:=a) (b:=((l.length:Nat):Int)) q q) (st _ (bE q C q) (mv q ?_)))));refine cB (t:=34) q (fun A=>?_) (fun A=>?_)
       ·(have F:=dT A);refine sk A (sk A (sk A (sk A (sk A (sk A (st _ (bF q A q) (ak ?_)))))));refine⟨q,jn true ?_ ?_⟩
        ·exact⟨q,q,q,q,q,q,tV⟩
        ·exact⟨q,by rw[eZ];simp;omega⟩
       ·(have F:=dF A);refine sg A (bf q) (sg A (iu q fG h0.cV) (sg A (bf q) (sg A (jx (a:=((l.length:Nat):Int)) (b:=a) q q Ok) (sg A (bf q) (sg A (qd (a:=((l.length:Nat):Int)-a) (b:=n) q q) (st _ (bE q A q) ?_))))));refine cB (t:=41) q (fun D=>?_) (fun D=>?_)
        ·(have G:=dT D);refine ak ?_;refine⟨q,jn true ?_ ?_⟩
         ·exact⟨sY q D,q,q,q,q,q,tV⟩
         ·exact⟨q,by rw[eZ];simp;omega⟩
        ·(have G:=dF D);refine ak ?_;refine⟨q,jn false ?_ ?_⟩
         ·exact⟨sY q D,q,q,q,q,q,tV⟩
         ·exact⟨q,by rw[eZ];simp;omega⟩
    ·(have V:=dF J);refine sk J (sk J (st _ (bE q J q) (mv q (sg q (bf q) (sg q (qd (a:=a) (b:=0) q q) (st _ (bE q q q) (mv q ?_)))))));refine cB (t:=28) q (fun C=>?_) (fun C=>?_)
     ·(have E:=dT C);refine sk C (sk C (sk C (sk C (st _ (bF q C q) (mv q (sk q (sk q (sk q (sk q (sk q (sk q (st _ (bF q q q) (ak ?_)))))))))))));refine⟨q,jn true ?_ ?_⟩
      ·exact⟨q,q,q,q,q,q,tV⟩
      ·exact⟨q,by rw[eZ];simp;omega⟩
     ·(have E:=dF C);refine sg C (bf q) (sg C (bf q) (sg C (iu q fG h0.cV) (sg C (tf (a:=a) (b:=((l.length:Nat):Int)) q q) (st _ (bE q C q) (mv q ?_)))));refine cB (t:=34) q (fun A=>?_) (fun A=>?_)
      ·(have F:=dT A);refine sk A (sk A (sk A (sk A (sk A (sk A (st _ (bF q A q) (ak ?_)))))));refine⟨q,jn true ?_ ?_⟩
       ·exact⟨q,q,q,q,q,q,tV⟩
       ·exact⟨q,by rw[eZ];simp;omega⟩
      ·(have F:=dF A);refine sg A (bf q) (sg A (iu q fG h0.cV) (sg A (bf q) (sg A (jx (a:=((l.length:Nat):Int)) (b:=a) q q Ok) (sg A (bf q) (sg A (qd (a:=((l.length:Nat):Int)-a) (b:=n) q q) (st _ (bE q A q) ?_))))));refine cB (t:=41) q (fun D=>?_) (fun D=>?_)
       ·(have G:=dT D);refine ak ?_;refine⟨q,jn true ?_ ?_⟩
        ·exact⟨sY q D,q,q,q,q,q,tV⟩
        ·exact⟨q,by rw[eZ];simp;omega⟩
       ·(have G:=dF D);refine ak ?_;refine⟨q,jn false ?_ ?_⟩
        ·exact⟨sY q D,q,q,q,q,q,tV⟩
        ·exact⟨q,by rw[eZ];simp;omega⟩
   ·(have U:=dF I);refine sk I (sk I (st _ (bE q I q) (mv q (sk q (sk q (st _ (bE q q q) (mv q (sg q (bf q) (sg q (qd (a:=a) (b:=0) q q) (st _ (bE q q q) (mv q ?_)))))))))));refine cB (t:=28) q (fun C=>?_) (fun C=>?_)
    ·(have E:=dT C);refine sk C (sk C (sk C (sk C (st _ (bF q C q) (mv q (sk q (sk q (sk q (sk q (sk q (sk q (st _ (bF q q q) (ak ?_)))))))))))));refine⟨q,jn true ?_ ?_⟩
     ·exact⟨q,q,q,q,q,q,tV⟩
     ·exact⟨q,by rw[eZ];simp;omega⟩
    ·(have E:=dF C);refine sg C (bf q) (sg C (bf q) (sg C (iu q fG h0.cV) (sg C (tf (a:=a) (b:=((l.length:Nat):Int)) q q) (st _ (bE q C q) (mv q ?_)))));refine cB (t:=34) q (fun A=>?_) (fun A=>?_)
     ·(have F:=dT A);refine sk A (sk A (sk A (sk A (sk A (sk A (st _ (bF q A q) (ak ?_)))))));refine⟨q,jn true ?_ ?_⟩
      ·exact⟨q,q,q,q,q,q,tV⟩
      ·exact⟨q,by rw[eZ];simp;omega⟩
     ·(have F:=dF A);refine sg A (bf q) (sg A (iu q fG h0.cV) (sg A (bf q) (sg A (jx (a:=((l.length:Nat):Int)) (b:=a) q q Ok) (sg A (bf q) (sg A (qd (a:=((l.length:Nat):Int)-a) (b:=n) q q) (st _ (bE q A q) ?_))))));refine cB (t:=41) q (fun D=>?_) (fun D=>?_)
      ·(have G:=dT D);refine ak ?_;refine⟨q,jn true ?_ ?_⟩
       ·exact⟨sY q D,q,q,q,q,q,tV⟩
       ·exact⟨q,by rw[eZ];simp;omega⟩
      ·(have G:=dF D);refine ak ?_;refine⟨q,jn false ?_ ?_⟩
       ·exact⟨sY q D,q,q,q,q,q,tV⟩
       ·exact⟨q,by rw[eZ];simp;omega⟩
  ·(have T:=dF H);refine sk H (sk H (st _ (bE q H q) (mv q (sk q (sk q (st _ (bE q q q) (mv q (sk q (sk q (st _ (bE q q q) (mv q (sg q (bf q) (sg q (qd (a:=a) (b:=0) q q) ?_)))))))))))));refine st _ (bE q q q) (mv q ?_);refine cB (t:=28) q (fun C=>?_) (fun C=>?_)
   ·(have E:=dT C);refine sk C (sk C (sk C (sk C (st _ (bF q C q) (mv q (sk q (sk q (sk q (sk q (sk q (sk q (st _ (bF q q q) (ak ?_)))))))))))));refine⟨q,jn true ?_ ?_⟩
    ·exact⟨q,q,q,q,q,q,tV⟩
    ·exact⟨q,by rw[eZ];simp;omega⟩
   ·(have E:=dF C);refine sg C (bf q) (sg C (bf q) (sg C (iu q fG h0.cV) (sg C (tf (a:=a) (b:=((l.length:Nat):Int)) q q) (st _ (bE q C q) (mv q ?_)))));refine cB (t:=34) q (fun A=>?_) (fun A=>?_)
    ·(have F:=dT A);refine sk A (sk A (sk A (sk A (sk A (sk A (st _ (bF q A q) (ak ?_)))))));refine⟨q,jn true ?_ ?_⟩
     ·exact⟨q,q,q,q,q,q,tV⟩
     ·exact⟨q,by rw[eZ];simp;omega⟩
    ·(have F:=dF A);refine sg A (bf q) (sg A (iu q fG h0.cV) (sg A (bf q) (sg A (jx (a:=((l.length:Nat):Int)) (b:=a) q q Ok) (sg A (bf q) (sg A (qd (a:=((l.length:Nat):Int)-a) (b:=n) q q) (st _ (bE q A q) ?_))))));refine cB (t:=41) q (fun D=>?_) (fun D=>?_)
     ·(have G:=dT D);refine ak ?_;refine⟨q,jn true ?_ ?_⟩
      ·exact⟨sY q D,q,q,q,q,q,tV⟩
      ·exact⟨q,by rw[eZ];simp;omega⟩
     ·(have G:=dF D);refine ak ?_;refine⟨q,jn false ?_ ?_⟩
      ·exact⟨sY q D,q,q,q,q,q,tV⟩
      ·exact⟨q,by rw[eZ];simp;omega⟩
 ·rintro c B _ ⟨rfl,L⟩
  refine og c (fun D=>?_) (fun D=>?_)
  ·replace L:=L.1 D;refine ai (fZ q D (ns (cE q (ar q (aV ?_)))));exact dB (vs:=[(.int .u64 ((0:Nat):Int)),(.bool false)]) trivial q ⟨q,q,tV⟩ q ⟨0,false,q,M,Ok,(xN Ok)⟩
  ·replace L:=mt L.2 (by rw[D];simp);refine ai (fW q D (aY (ai (au ?_))));replace L:=Classical.not_not.1 L;have y:=wP L.1;refine ax (an q (au (nm q (st _ (jx (a:=n) (b:=1) q q Ok) (cE q (nt (b9 ?_)))))))
   refine qV (fun(v:Nat) (i:Int)=>[(8,(.int .u64 v)),(9,(.int .i64 (i:Int))),(0,v0),(1,(.int .i64 (a:Int)))]) (fun(v:Nat) (i:Int) w'=>∃Q':Nat→Prop,(∀b,Q' b→Q b)∧(∀b,Q b→b<w.heap.size→Q' b)∧Up w' Q'∧Md [] w w'∧Ls eD w' Q' v0 l∧(-1≤i∧i<n)∧v=MF ((l.drop (a+(i+1)).toNat).take (n-1-i).toNat)∧v<18446744073709551616) (fun(v:Nat) (i:Int)=>(i+1).toNat) (x0:=0) (x1:=(n-1)) ?_ ?_ ?_
   ·exact⟨q,q,q,q,tV⟩
   ·exact⟨Q,Z,P,uQ,M,h0,Ok,(by simp[show n-1-(n-1)=0 by omega,MF]),Ok⟩
   ·clear M uQ Z P h0
    rintro v i B z ⟨g,Z,P,uQ,M,h0,e,N,f⟩;refine au (nm q (st _ (qc (a:=i) (b:=0) q q) (nt ?_)));refine bV q (fun R=>?_) (fun R=>?_)
    ·(have X:=dT R);have j:=sJ (l:=(l.drop (a+(i+1)).toNat).take (n-1-i).toNat) (k:=7) Yw;rw[← N]at j;refine aY (ai (au (b9 (ax (mv q (st _ (mg (a:=v) (b:=256) 18446744073709551616 q q q Ok) (m2 q q (mv q (st _ (eE (a:=a) (b:=i) q q Ok) (st _ (rY (i:=a+i) 1 q q fG mX h0.cV Ok) ?_))))))))));obtain⟨S,Y⟩:=dQ (l:=l) (i:=(a+i).toNat) Ok;obtain⟨x,d,O⟩:=h0.get Y;obtain⟨rfl,_⟩:=d;have r:=UInt8.toNat_lt S;replace O:At _ v0 (((a+i).toNat)*1) [(b8 S)]:=O;refine st _ ((cg (kk:=((a+i).toNat)*1) 0 q q um O q).to (b:=(b8 S)) q) (st _ (dG (a:=S.toNat) 18446744073709551616 q (by rw[u5];rfl) kU q (lj (UInt8.toNat_lt _) Jk)) (st _ (gE (a:=(v*256)) (b:=S.toNat) 18446744073709551616 q q q Ok) (cE q (ak ?_))));clear O;refine bL (ai (ax (mv q (st _ (jx (a:=i) (b:=1) q q Ok) (an q ?_)))));refine o7 (x0:=((v*256)+S.toNat)) (x1:=(i-1)) Ok ⟨(dA q (by rfl)),(dA q Ok),q,q,tV⟩ ⟨g,Z,P,uQ,M,h0,Ok,(by rw[N];have o:=IG (k:=(n-1-i).toNat) Y;rw[show(n-1-(i-1)).toNat=(n-1-i).toNat+1 by omega,show(a+(i-1+1)).toNat=(a+i).toNat by omega,o,show(a+i).toNat+1=(a+(i+1)).toNat by omega];omega),Ok⟩
    ·(have X:=dF R);refine cw (bD (bD (cZ (ai (nm q (cE q (ar q ?_)))))));exact dB (vs:=[(.int .u64 v),(.bool true)]) trivial q ⟨q,q,tV⟩ q ⟨v,true,q,M,Yj,(by rw[pL,if_pos Ok,N,show i = -1 by omega];simp)⟩
theorem adi:cM Zp 163=true:=Yz
theorem nS (uQ:Up w Q) {v0:Value} {l:Ly} (h0:Ls eD w Q v0 l) (a:Int) (a1:(-9223372036854775808≤a∧a<9223372036854775808)) (n:Int) (a2:(-9223372036854775808≤n∧n<9223372036854775808)) :
  Calls Zp 139 #[v0,(.int .i64 (a:Int)),(.int .i64 (n:Int))] w fun en w'=>∃r0:Nat,∃r1:Bool,en = .returned (.tuple #[(.int .u64 r0),(.bool r1)])∧Md [] w w'∧r0<18446744073709551616∧pL l a n=(r0,r1):=by
 have p:=h0.dN;have M:=Md.refl [] w;have j:=uQ;have P:∀b,Q b→Q b:=fun _ h=>h;have F:∀b,Q b→b<w.heap.size→Q b:=fun _ h _=>h;refine enter (n:=42) Tryz.func139 q q q fun B=>ns (cE q (an q (au (nm q (aj adi q (MH uQ (n) Ok) ?_)))));rintro en u ⟨Z,rfl,R,d⟩;refine rv ?_;obtain⟨h0,uQ,M⟩:=k3 R h0 uQ M;refine st _ (gR q) (mv q ?_);refine cB (t:=13) q (fun C=>?_) (fun C=>?_)
 ·(have J:=eM C);refine sk C (sk C (st _ (bF q C q) (mv q (sk q (sk q (sk q (sk q (sk q (sk q (st _ (bF q q q) (nt (fZ q q (ns ?_)))))))))))));refine cE q (ar q (aV ?_));exact dB (vs:=[(.int .u64 ((0:Nat):Int)),(.bool false)]) trivial q ⟨q,q,tV⟩ q ⟨0,false,q,M,Ok,(xN (by rintro⟨U,V,W⟩;simp_all))⟩
 ·(have J:=eL C);refine sg C (bf q) (sg C (qd (a:=a) (b:=0) q q) (st _ (bE q C q) (mv q ?_)));refine cB (t:=17) q (fun A=>?_) (fun A=>?_)
  ·(have K:=dT A);refine sk A (sk A (sk A (sk A (sk A (sk A (st _ (bF q A q) (nt (fZ q q (ns (cE q (ar q ?_)))))))))));refine aV ?_;exact dB (vs:=[(.int .u64 ((0:Nat):Int)),(.bool false)]) trivial q ⟨q,q,tV⟩ q ⟨0,false,q,M,Ok,(xN (by rintro⟨U,V,W⟩;omega))⟩
  ·(have K:=dF A);have e:=wP (n:=n) (by simp_all);refine sg A (bf q) (sg A (bf q) (sg A (iu q fG h0.cV) (sg A (bf q) (sg A (jx (a:=((l.length:Nat):Int)) (b:=n) q q Ok) (sg A (tf (a:=a) (b:=((l.length:Nat):Int)-n) q q) (st _ (bE q A q) (nt ?_)))))));refine bV q (fun G=>?_) (fun G=>?_)
   ·(have L:=dT G);refine ns (cE q (ar q (aV ?_)));exact dB (vs:=[(.int .u64 ((0:Nat):Int)),(.bool false)]) trivial q ⟨q,q,tV⟩ q ⟨0,false,q,M,Ok,(xN (by rintro⟨U,V,W⟩;omega))⟩
   ·(have L:=dF G);refine aY (ai (au ?_));have T:nA n=true∧0≤a∧a+n≤l.length:=⟨by simp_all,by omega,by omega⟩;have e:=wP T.1;refine ax (an q (au (nm q (st _ (jx (a:=n) (b:=1) q q Ok) (cE q (nt (b9 ?_)))))))
    refine qV (fun(v:Nat) (i:Int)=>[(8,(.int .u64 v)),(9,(.int .i64 (i:Int))),(0,v0),(1,(.int .i64 (a:Int)))]) (fun(v:Nat) (i:Int) w'=>∃Q':Nat→Prop,(∀b,Q' b→Q b)∧(∀b,Q b→b<w.heap.size→Q' b)∧Up w' Q'∧Md [] w w'∧Ls eD w' Q' v0 l∧(-1≤i∧i<n)∧v=MF ((l.drop (a+(i+1)).toNat).take (n-1-i).toNat)∧v<18446744073709551616) (fun(v:Nat) (i:Int)=>(i+1).toNat) (x0:=0) (x1:=(n-1)) ?_ ?_ ?_
    ·exact⟨q,q,q,q,tV⟩
    ·exact⟨Q,P,F,uQ,M,h0,Ok,(by simp[show n-1-(n-1)=0 by omega,MF]),Ok⟩
    ·clear M uQ P F h0
     rintro v i B x ⟨c,P,F,uQ,M,h0,X,D,Y⟩;refine au (nm q (st _ (qc (a:=i) (b:=0) q q) (nt ?_)));refine bV q (fun H=>?_) (fun H=>?_)
     ·(have N:=dT H);have f:=sJ (l:=(l.drop (a+(i+1)).toNat).take (n-1-i).toNat) (k:=7) Yw;rw[← D]at f;refine aY (ai (au (b9 (ax (mv q (st _ (aeB (a:=v) (b:=8) 18446744073709551616 q q 64 q q q Ok) (m2 q q (mv q (st _ (eE (a:=a) (b:=i) q q Ok) (st _ (rY (i:=a+i) 1 q q fG mX h0.cV Ok) ?_))))))))));obtain⟨I,O⟩:=dQ (l:=l) (i:=(a+i).toNat) Ok;obtain⟨r,S,E⟩:=h0.get O;obtain⟨rfl,_⟩:=S;have o:=UInt8.toNat_lt I;replace E:At _ v0 (((a+i).toNat)*1) [(b8 I)]:=E;refine st _ ((cg (kk:=((a+i).toNat)*1) 0 q q um E q).to (b:=(b8 I)) q) (st _ (dG (a:=I.toNat) 18446744073709551616 q (by rw[u5];rfl) kU q (lj (UInt8.toNat_lt _) Jk)) (st _ (agF (a:=(v*2 ^ 8%18446744073709551616)) (b:=I.toNat) 18446744073709551616 q q q q Ok) (cE q (ak ?_))));clear E;refine bL (ai (ax (mv q (st _ (jx (a:=i) (b:=1) q q Ok) (an q ?_)))));refine o7 (x0:=((v*2 ^ 8%18446744073709551616) ||| I.toNat)) (x1:=(i-1)) Ok ⟨(dA q (by rfl)),(dA q Ok),q,q,tV⟩ ⟨c,P,F,uQ,M,h0,Ok,(by rw[aaG Ok,D];have g:=IG (k:=(n-1-i).toNat) O;rw[show(n-1-(i-1)).toNat=(n-1-i).toNat+1 by omega,show(a+(i-1+1)).toNat=(a+i).toNat by omega,g,show(a+i).toNat+1=(a+(i+1)).toNat by omega]),(by rw[aaG Ok];have:=UInt8.toNat_lt I;omega)⟩
     ·(have N:=dF H);refine cw (bD (bD (cZ (ai (nm q (cE q (ar q ?_)))))));exact dB (vs:=[(.int .u64 v),(.bool true)]) trivial q ⟨q,q,tV⟩ q ⟨v,true,q,M,Yj,(by rw[pL,if_pos Ok,D,show i = -1 by omega];simp)⟩
theorem eX:fA Zp 129 91=true:=Yz
theorem afl:gu Zp 226 1=true:=Yz
theorem afm:gu Zp 229 1=true:=Yz
theorem adI:uH Zp 226 1 8=true:=Yz
theorem adJ:uH Zp 229 1 8=true:=Yz
theorem OV:cM Zp 138=true:=Yz
theorem pI:cM Zp 139=true:=Yz
theorem af4:cM Zp 140=true:=Yz
theorem af5:cM Zp 141=true:=Yz
theorem Z4:bh Zp 129 0=some 0:=Yz
theorem zC:bh Zp 129 1=some 1:=Yz
theorem wB:bh Zp 129 10=some 70:=Yz
theorem wC:bh Zp 129 11=some 71:=Yz
theorem wD:bh Zp 129 12=some 72:=Yz
theorem SJ:bh Zp 129 13=some 73:=Yz
theorem SK:bh Zp 129 14=some 74:=Yz
theorem SL:bh Zp 129 15=some 75:=Yz
theorem SQ:bh Zp 129 16=some 76:=Yz
theorem SR:bh Zp 129 17=some 77:=Yz
theorem SV:bh Zp 129 18=some 78:=Yz
theorem SX:bh Zp 129 19=some 79:=Yz
theorem Z5:bh Zp 129 2=some 2:=Yz
theorem SY:bh Zp 129 20=some 80:=Yz
theorem SZ:bh Zp 129 21=some 81:=Yz
theorem TA:bh Zp 129 22=some 82:=Yz
theorem TB:bh Zp 129 23=some 83:=Yz
theorem TD:bh Zp 129 24=some 84:=Yz
theorem TF:bh Zp 129 25=some 85:=Yz
theorem TG:bh Zp 129 26=some 86:=Yz
theorem TH:bh Zp 129 27=some 87:=Yz
theorem TI:bh Zp 129 28=some 88:=Yz
theorem TJ:bh Zp 129 29=some 89:=Yz
theorem JF:bh Zp 129 3=some 3:=Yz
theorem TK:bh Zp 129 30=some 90:=Yz
theorem Z6:bh Zp 129 4=some 19:=Yz
theorem Z7:bh Zp 129 5=some 35:=Yz
theorem Z8:bh Zp 129 6=some 51:=Yz
theorem mK:bh Zp 129 7=some 67:=Yz
theorem zD:bh Zp 129 8=some 68:=Yz
theorem zF:bh Zp 129 9=some 69:=Yz
theorem aew:gZ Zp 226=true:=Yz
theorem aex:gZ Zp 229=true:=Yz
theorem fC:gZ Zp 27=true:=Yz
theorem bH:gZ Zp 46=true:=Yz
theorem gX:gZ Zp 88=true:=Yz
theorem qY:fw Zp 129=some [(0,1),(1,1),(2,1),(3,16),(19,16),(35,16),(51,16),(67,1),(68,1),(69,1),(70,1),(71,1),(72,1),(73,1),(74,1),(75,1),(76,1),(77,1),(78,1),(79,1),(80,1),(81,1),(82,1),(83,1),(84,1),(85,1),(86,1),(87,1),(88,1),(89,1),(90,1)]:=Yz
theorem aeU:Zp.underlying 224=some (.slice 226):=Yz
theorem aeV:Zp.underlying 227=some (.slice 229):=Yz
theorem u3:Zp.underlying 3=some (.int .i64):=Yz
theorem VI:Zp.underlying 48=some (.array 16 5):=Yz
theorem AJ:Zp.underlying 88=some (.int .u32):=Yz
theorem ru:ea Zp 129=some ([.int .u32 0,.int .u32 0,.int .i64 0] ++ (List.replicate 64 (.int .u8 0) ++ (List.replicate 21 (.int .u64 0) ++ ([.int .u32 0,.int .u32 0,.int .u64 0])))):=Yz
theorem Yn {w:World} {b:Nat}:Calls Zp 140 #[.pointer (some ⟨b,0,none⟩)] w fun en w'=>∃x,en = .returned (.slice (some ⟨x,0,none⟩) 4 4)∧w.heap.size≤x∧Md [] w w'∧bO w' x (ptrs b 3 16 4) 226:=by
 refine enter (n:=16) Tryz.func140 q q q fun B=>ns (an q (au (cT (ml 12) [12,13] (fun w'=>Md [] w w') mixed Yz ?_)));intro I C;refine⟨C,?_⟩;refine mo q (mz (fun w' A=>cH q) (mz (fun w' A=>aU q JF) (mo q (mz (fun w' A=>cH q) (mz (fun w' A=>aU q Z6) (mo q (mz (fun w' A=>cH q) (mz (fun w' A=>aU q Z7) (mo q (mz (fun w' A=>cH q) (mz (fun w' A=>aU q Z8) (d9 (pD aeU adI Jk q q q (by simp[nY,Value.oneCell']) Jk ?_)))))))))))));intro x G E H D F;refine ar q ?_;exact gI trivial q q ⟨x,q,ly C.size E,C.k D,(show bO G x (ptrs b 3 16 4) 226 from F)⟩
theorem RL {w:World} {b:Nat}:Calls Zp 141 #[.pointer (some ⟨b,0,none⟩)] w fun en w'=>∃x,en = .returned (.slice (some ⟨x,0,none⟩) 21 21)∧w.heap.size≤x∧Md [] w w'∧bO w' x (ptrs b 67 1 21) 229:=by
 refine enter (n:=67) Tryz.func141 q q q fun B=>ns (an q (au (cT (ml 63) [63,64] (fun w'=>Md [] w w') mixed Yz ?_)));intro I C;refine⟨C,?_⟩;refine mo q (mz (fun w' A=>cH q) (mz (fun w' A=>aU q mK) (mo q (mz (fun w' A=>cH q) (mz (fun w' A=>aU q zD) (mo q (mz (fun w' A=>cH q) (mz (fun w' A=>aU q zF) (mo q (mz (fun w' A=>cH q) (mz (fun w' A=>aU q wB) (mo q (mz (fun w' A=>cH q) ?_)))))))))))));refine mz (fun w' A=>aU q wC) (mo q (mz (fun w' A=>cH q) (mz (fun w' A=>aU q wD) (mo q (mz (fun w' A=>cH q) (mz (fun w' A=>aU q SJ) (mo q (mz (fun w' A=>cH q) (mz (fun w' A=>aU q SK) (mo q (mz (fun w' A=>cH q) (mz (fun w' A=>aU q SL) (mo q ?_)))))))))))));refine mz (fun w' A=>cH q) (mz (fun w' A=>aU q SQ) ?_)
 refine mo q (mz (fun w' A=>cH q) (mz (fun w' A=>aU q SR) (mo q (mz (fun w' A=>cH q) (mz (fun w' A=>aU q SV) (mo q (mz (fun w' A=>cH q) (mz (fun w' A=>aU q SX) (mo q (mz (fun w' A=>cH q) (mz (fun w' A=>aU q SY) (mo q (mz (fun w' A=>cH q) ?_)))))))))))));refine mz (fun w' A=>aU q SZ) (mo q (mz (fun w' A=>cH q) (mz (fun w' A=>aU q TA) (mo q (mz (fun w' A=>cH q) (mz (fun w' A=>aU q TB) (mo q (mz (fun w' A=>cH q) (mz (fun w' A=>aU q TD) (mo q (mz (fun w' A=>cH q) (mz (fun w' A=>aU q TF) (mo q ?_)))))))))))));refine mz (fun w' A=>cH q) (mz (fun w' A=>aU q TG) (mo q (mz (fun w' A=>cH q) (mz (fun w' A=>aU q TH) (d9 (pD aeV adJ Jk q q q (by simp[nY,Value.oneCell']) Jk ?_))))));intro x G E H D F;refine ar q ?_;exact gI trivial q q ⟨x,q,ly C.size E,C.k D,(show bO G x (ptrs b 67 1 21) 229 from F)⟩
theorem sG {w:World} {Q:Nat→Prop} {b1:Nat} {v0:Value} {l:Ly} (hB:bO w b1 [v0] 27) (h0:Ls eD w Q v0 l) (a:Nat) (ha:a+4≤l.length) :
  Calls Zp 138 #[.int .i64 (a:Int),.pointer (some ⟨b1,0,none⟩)] w fun en w'=>en = .returned (.int .u32 ((at4 l a:Nat):Int))∧Md [] w w':=by
 have L:=h0.dN;refine enter (n:=14) Tryz.func138 q q q fun B=>ns (an q (ns (st _ (aA q fC hB q) (mv q (aj pI q (nS (Q:=fun _=>True) (fun _ _=>trivial) (h0.sub fun _ _ _=>trivial) (a:Int) Ok 4 Ok) ?_)))));rintro en H ⟨F,G,rfl,D,E,A⟩;refine rv ?_;have C:pL l a 4=(at4 l a,true):=xM (k:=4) (.inl q) ha;rw[C]at A;obtain⟨rfl,rfl⟩:=Prod.mk.inj A;refine mv q (se q q (se q q (cE q (an q (nm q (st _ (dG (a:=at4 l a) 4294967296 q (by rw[kU];rfl) AJ q (yA _ _)) (ar q ?_)))))));exact gI trivial q q ⟨q,D⟩
set_option maxRecDepth 100000 in
theorem LM (uQ:Up w Q) {v0:Value} {b:Ly} (h00:Ls eD w Q v0 b) (p0:272≤b.length) :
  Calls Zp 103 #[v0] w fun en w'=>∃r0:bR,en = .returned (.agg (bR.cells r0).toArray)∧Md [] w w'∧bR.ok r0∧oA b=r0:=by
 have L:=h00.dN;obtain⟨U,f,F⟩:∃U:Nat→Prop,(∀x,w.heap.size≤x→¬U x)∧Ls eD w U v0 b:=⟨fun x=>x<w.heap.size,fun x h k=>by omega,h00.sub fun x _ h=>h⟩;clear h00;have M:=Md.refl [] w;refine enter (n:=73) Tryz.func103 q q q fun B=>ns (eC q (dY F.bN) ?_);intro O w1 g1 l1 C A;obtain⟨F,M⟩:=k2 C F M;refine bU ru ?_;intro S w2 t l2 C E;replace F:=F.o C;obtain⟨Z,hZ,E⟩:∃Z,(bR.cells (j9 b 0 0 0 0)).length=Z.length∧bO w2 S Z 129:=⟨_,q,E⟩;have Am:O≠S:=(by have:=A.lt;omega);replace A:=A.o C;replace t:=ly M.size t;replace M:=M.k C;refine nt (ns (st _ (aA q fC A q) (st _ (bB (i:=16) 1 q q fG mX F.cV Ok) ?_)));obtain⟨x,hx⟩:=dQ (l:=b) (i:=16) Ok;obtain⟨cx,Aa,R⟩:=F.get hx;obtain⟨rfl,_⟩:=Aa;have ex:b.getD 16 0=x:=(by simp[List.getD,hx]);have lx:=UInt8.toNat_lt x;replace R:At _ v0 (16*1) [(b8 x)]:=R;refine st _ ((cg (kk:=16*1) 0 q q um R q).to (b:=(b8 x)) q) ?_;clear R;refine st _ (dG (a:=x.toNat) 9223372036854775808 q (by rw[u5];rfl) u3 q Ok) (st (.agg (bR.cells (j9 b 0 0 0 0)).toArray) (by rw[show bR.cells (j9 b 0 0 0 0)=bR.cells {j9 b 0 0 0 0 with state:=x.toNat} by rw[← ex];rfl];exact ji (cs:=bR.cells {j9 b 0 0 0 0 with state:=x.toNat}) (ps:=[(2,2)]) ru qY q q (by simp[nY,Value.oneCell']) q q q) (bU ru ?_));intro I w3 P l3 C D;replace F:=F.o C;have K:O≠I:=(by have:=A.lt;omega);have J:S≠I:=(by have:=E.lt;omega);obtain⟨A,E⟩:=k2 C A E;replace P:=ly M.size P;replace M:=M.k C;refine eW q q (by exact eX) (fun u hu=>bn bR.one u hu) D q ?_;intro w4 C D;have N:∀x∈[I],¬U x:=(by intro y r;simp at r;subst r;exact f _ P);have Ao:∀x∈[S],¬U x:=(by intro y r;simp at r;subst r;exact f _ t);replace F:=F.md C N;replace A:=A.sM C K;replace E:=E.sM C J;replace M:=M.ej C P;refine nt (au ?_)
 refine ax (st _ (zS q) (an q (nm q (lS (cs:=[.pointer (some ⟨O,0,none⟩)]) q OV q (sG A F 8 Ok) ?_))));rintro en w5 ⟨rfl,C⟩;refine rv ?_;obtain⟨F,A,E,D,M⟩:=k5 C F A E D M;refine mv q (lS (cs:=[.pointer (some ⟨O,0,none⟩)]) q OV q (sG A F 12 Ok) ?_);rintro en w6 ⟨rfl,C⟩;refine rv ?_;obtain⟨F,A,E,D,M⟩:=k5 C F A E D M;refine sf q Z4 (bI q q gX q D (by(show _<91;decide)) ?_);intro w7 C D;replace F:=F.md C N;replace A:=A.sM C K;replace E:=E.sM C J;replace M:=M.ej C P;refine sf q zC (bI q q gX q D (by(show _<91;decide)) ?_);intro w8 C D;replace F:=F.md C N;replace A:=A.sM C K;replace E:=E.sM C J;replace M:=M.ej C P;replace D:bO w8 I (bR.cells (j9 b (at4 b 8) (at4 b 12) 0 0)) 129:=D;refine nt (ns (an q (au (ns (aj af4 q (Yn (b:=I)) ?_)))));rintro en w9 ⟨Y,rfl,gi,C,G⟩;refine rv ?_;have Ac:Y≠I:=(by have:=D.lt;omega);obtain⟨F,A,E,D⟩:=k4 C F A E D;replace gi:=ly M.size gi;replace M:=M.k C;have g:GC (.slice (some ⟨Y,0,none⟩) 4 4) 4:=⟨_,_,q,Nat.le_refl _,by simp[maxLen],by simp⟩;refine sL q aeU g (mv q (nt (b9 ?_)))
 refine qV (fun(k:Nat) (a:Nat)=>[(24,(.int .i64 k)),(5,(.int .i64 a)),(1,.pointer (some ⟨O,0,none⟩)),(2,.pointer (some ⟨S,0,none⟩)),(3,.pointer (some ⟨I,0,none⟩)),(4,.func (.func 138) #[] #[.pointer (some ⟨O,0,none⟩)]),(22,.slice (some ⟨Y,0,none⟩) 4 4),(23,.int .i64 ((4:Nat):Int))])
  (fun(k:Nat) (a:Nat) w'=>Md [] w w'∧Ls eD w' U v0 b∧bO w' O [v0] 27∧bO w' S Z 129∧bO w' I (bR.cells (j9 b (at4 b 8) (at4 b 12) k 0)) 129∧bO w' Y (ptrs I 3 16 4) 226∧k≤4∧a=24+16*k) (fun(k:Nat) (a:Nat)=>4-k) (x0:=0) (x1:=24) ?_ ?_ ?_
 ·exact⟨q,q,q,q,q,q,q,q,tV⟩
 ·exact⟨M,F,A,E,D,G,by omega,q⟩
 clear M F A E D G
 rintro k a B Aq ⟨M,F,A,E,D,G,hk,p⟩;refine ns (st _ (dV (a:=k) (b:=4) q q) (nt (au ?_)));refine bV q (fun V=>?_) (fun V=>?_)
 ·have d:=dT V
  refine aY (ai (au (b9 (ns (st _ ((bB (i:=k) 1 q q aeU afl g Ok).to (b:=.pointer (some ⟨Y,k,none⟩)) (by simp[lC,Addr.jL])) (st _ (aA (b:=Y) (j:=k) (u:=.pointer (some ⟨I,3+k*16,none⟩)) q aew G (JN Ok)) (an q ?_)))))));have v:=F.cV;refine yC [(0,true),(1,true),(2,true),(3,true),(4,true),(5,true),(6,true),(7,false),(8,true),(9,true)] (fun w'=>bO w' O [v0] 27) mixed Yz ?_;intro Ar C;obtain⟨F,A,E,D,G,M⟩:=k6 C F A E D G M;refine⟨A,?_⟩;refine mo q (mo q (mz (fun w' X=>cH q) (mz (fun w' X=>fP VI mX q Jk) (mz (fun w' X=>aA q fC X q) (mo q (Go.Wk.m (nC v0 a b.length) (fun w' X=>by exact kP a b.length fG mX q v Ok Ok ⟨_,q⟩ q) ?_))))));refine kZ ?_ rfl;have hT:=F.by.tail a Ok;refine yg fG mX q q D hT (wF _) (by have:(bR.cells (j9 b (at4 b 8) (at4 b 12) k 0)).length=91:=rfl;simp;omega) ?_;intro As C D;clear hT;rw[← List.map_take,p,Y2 Ok p0]at D;replace F:=F.md C N;replace A:=A.sM C K;replace E:=E.sM C J;replace G:=G.sM C Ac;replace M:=M.ej C P;refine ak ⟨q,A,?_⟩;have Ai:min ((b.drop a).map b8).length 16=16:=Yw;refine mz (fun w' X=>gE (a:=a) (b:=min ((b.drop a).map b8).length 16) 9223372036854775808 q q q Ok) (mz (fun w' X=>eU q) (d9 (bL (ai (ax (st _ (rA (a:=k) (b:=1) q q Ok) (mv q (nt ?_))))))));exact o7 (x0:=k+1) (x1:=a+min ((b.drop a).map b8).length 16) Ok ⟨q,q,q,q,q,q,q,q,tV⟩ ⟨M,F,A,E,D,G,by omega,by omega⟩
 have d:=dF V
 obtain rfl:k=4:=by omega
 subst p;clear G;refine cw (bD (bD (cZ (ai (au (ns (aj af5 q (RL (b:=I)) ?_)))))));rintro en Au ⟨c,rfl,gj,C,H⟩;refine rv ?_;have Ad:c≠I:=(by have:=D.lt;omega);obtain⟨F,A,E,D,M⟩:=k5 C F A E D M;have o:GC (.slice (some ⟨c,0,none⟩) 21 21) 21:=⟨_,_,q,Nat.le_refl _,by simp[maxLen],by simp⟩;refine sL q aeV o (mv q (nt (b9 ?_)))
 refine qV (fun(j:Nat) (a:Nat)=>[(40,(.int .i64 j)),(5,(.int .i64 a)),(1,.pointer (some ⟨O,0,none⟩)),(2,.pointer (some ⟨S,0,none⟩)),(3,.pointer (some ⟨I,0,none⟩)),(4,.func (.func 138) #[] #[.pointer (some ⟨O,0,none⟩)]),(38,.slice (some ⟨c,0,none⟩) 21 21),(39,.int .i64 ((21:Nat):Int))])
  (fun(j:Nat) (a:Nat) w'=>Md [] w w'∧Ls eD w' U v0 b∧bO w' O [v0] 27∧bO w' S Z 129∧bO w' I (bR.cells (j9 b (at4 b 8) (at4 b 12) 4 j)) 129∧bO w' c (ptrs I 67 1 21) 229∧j≤21∧a=88+8*j) (fun(j:Nat) (a:Nat)=>21-j) (x0:=0) (x1:=24+16*4) ?_ ?_ ?_
 ·exact⟨q,q,q,q,q,q,q,q,tV⟩
 ·exact⟨M,F,A,E,D,H,by omega,q⟩
 clear M F A E D H
 rintro j a B Aw ⟨M,F,A,E,D,H,hj,p⟩;refine ns (st _ (dV (a:=j) (b:=21) q q) (nt (au ?_)));refine bV q (fun W=>?_) (fun W=>?_)
 ·have T:=dT W
  refine aY (ai (au (b9 (ns (st _ ((bB (i:=j) 1 q q aeV afm o Ok).to (b:=.pointer (some ⟨c,j,none⟩)) (by simp[lC,Addr.jL])) (st _ (aA (b:=c) (j:=j) (u:=.pointer (some ⟨I,67+j*1,none⟩)) q aex H (JN Ok)) (an q (nm q (st _ (aA q fC A q) (mv q (aj pI q (nS (Q:=fun _=>True) (fun _ _=>trivial) (F.sub fun _ _ _=>trivial) (a:Int) Ok 8 Ok) ?_)))))))))));rintro en Ax ⟨r0,r1,rfl,C,hr,e⟩;refine rv ?_;have z:pL b a 8=(lW b a,true):=xM (k:=8) (.inr q) Ok;rw[z]at e;obtain⟨rfl,rfl⟩:=Prod.mk.inj e;obtain⟨F,A,E,D,H,M⟩:=k6 C F A E D H M;refine mv q (st (.int .u64 ((lW b a:Nat):Int)) (jw q q) (se q q (sn q (bI (b:=I) (j:=67+j*1) q q bH q D (by have:(bR.cells (j9 b (at4 b 8) (at4 b 12) 4 j)).length=91:=rfl;omega) ?_))));intro Ay C D;rw[Nat.mul_one,p,SA T]at D;replace F:=F.md C N;replace A:=A.sM C K;replace E:=E.sM C J;replace H:=H.sM C Ad;replace M:=M.ej C P;refine nt (ax (mv q (st _ (rA (a:=a) (b:=8) q q Ok) (cE q (ak (bL (ai (ax (st _ (rA (a:=j) (b:=1) q q Ok) (mv q (nt ?_)))))))))));exact o7 (x0:=j+1) (x1:=a+8) Ok ⟨q,q,q,q,q,q,q,q,tV⟩ ⟨M,F,A,E,D,H,by omega,by omega⟩
 have T:=dF W
 obtain rfl:j=21:=by omega
 subst p;clear H;refine cw (bD (bD (cZ (ai (ns (m2 q q (lS (cs:=[.pointer (some ⟨O,0,none⟩)]) q OV q (sG A F 256 Ok) ?_)))))));rintro en Az ⟨rfl,C⟩;refine rv ?_;obtain⟨F,A,E,D,M⟩:=k5 C F A E D M;refine m2 q q (st _ (rA (a:=256) (b:=4) q q Ok) (lS (cs:=[.pointer (some ⟨O,0,none⟩)]) q OV q (sG A F 260 Ok) ?_));rintro en A0 ⟨rfl,C⟩;refine rv ?_;obtain⟨F,A,E,D,M⟩:=k5 C F A E D M;refine sf q TI (bI q q gX q D (by(show _<91;decide)) ?_);intro A1 C D;replace F:=F.md C N;replace A:=A.sM C K;replace E:=E.sM C J;replace M:=M.ej C P;refine sf q TJ (bI q q gX q D (by(show _<91;decide)) ?_);intro A2 C D;replace F:=F.md C N;replace A:=A.sM C K;replace E:=E.sM C J;replace M:=M.ej C P;refine nt (ns (st _ (aA q fC A q) (mv q (st _ (rA (a:=256) (b:=8) q q Ok) (aj pI q (nS (Q:=fun _=>True) (fun _ _=>trivial) (F.sub fun _ _ _=>trivial) ((264:Nat):Int) Ok 8 Ok) ?_)))));rintro en A3 ⟨r0,r1,rfl,C,hr,e⟩;refine rv ?_;have z:pL b ((264:Nat):Int) 8=(lW b 264,true):=xM (k:=8) (.inr q) Ok;rw[z]at e;obtain⟨rfl,rfl⟩:=Prod.mk.inj e;obtain⟨E,D,M⟩:=k3 C E D M;refine mv q (st (.int .u64 ((lW b 264:Nat):Int)) (jw q q) (se q q (sf q TK (bI q q bH q D (by(show _<91;decide)) ?_))));intro Ae C D;replace E:=E.sM C J;replace M:=M.ej C P
 replace D:bO Ae I (bR.cells (oA b)) 129:=D;refine nt (ns (st _ (lZ q (by exact eX) D) (eW q q (by exact eX) (fun u hu=>bn bR.one u hu) E hZ ?_)));intro A4 C E;replace M:=M.ej C t;refine nt (gW ?_);exact agL trivial q q (by exact eX) E ⟨_,q,M,JL p0,q⟩
theorem adb:cM Zp 135=true:=Yz
theorem yT (uQ:Up w Q) {v0:Value} {a:Ly} (h0:Ls eD w Q v0 a) {v1:Value} {b:Ly} (h1:Ls eD w Q v1 b) :
  Calls Zp 135 #[v0,v1] w fun en w'=>∃r0:Bool,en = .returned (.bool r0)∧Md [] w w'∧decide (a=b)=r0:=by
 have C:=h0.dN;have D:=h1.dN;have M:=Md.refl [] w;have A:=uQ;refine enter (n:=10) Tryz.func135 q q q fun B=>ns (an q (nm q (st _ (mR (s:=a) fG u5 u9 q h0.by) (mv q (st _ (mR (s:=b) fG u5 u9 q h1.by) (st _ (qH (a:=a) (b:=b) q q) (ar q ?_)))))));exact cu (v:=(.bool ((decide (a=b))))) trivial q ⟨q,tV⟩ ⟨(decide (a=b)),q,M,(by simp(disch:=first|omega|assumption|simp) only [SS,reduceIte])⟩
theorem RO (uQ:Up w Q) {v0:Value} {b:Ly} (h0:Ls eD w Q v0 b) {v1:Value} {p:Ly} (h1:Ls eD w Q v1 p) :
  Calls Zp 102 #[v0,v1] w fun en w'=>∃r0:Bool,en = .returned (.bool r0)∧Md [] w w'∧xf b p=r0:=by
 have I:=h0.dN;have J:=h1.dN;have M:=Md.refl [] w;have H:=uQ;refine enter (n:=18) Tryz.func102 q q q fun B=>ns (an q (nm q (sL q fG h0.cV (mv q (sL q fG h1.cV (st _ (DC (a:=b.length) (b:=p.length) q q) (mv q ?_)))))));refine cB (t:=10) q (fun A=>?_) (fun A=>?_)
 ·(have C:=dT A);refine sg A (bf q) (sg A (bf q) (sg A (iu q fG h1.cV) (sg A (fe 1 0 p.length fG mX q h0.cV Ok Ok q ⟨_,q⟩) ?_)));have F:=h0.head (hi:=p.length) Ok;refine sg A (bf q) (gH q q q A adb q (yT uQ F h1) ?_);rintro en K ⟨D,rfl,G,E⟩;refine rv ?_;replace M:=M.k G;refine st _ (bF q A q) (ar q ?_);exact cu (v:=(.bool D)) trivial q ⟨q,tV⟩ ⟨D,q,M,(by rw[xf]<;>simp(disch:=first|omega|assumption|simp) only [SS,reduceIte,C,E])⟩
 (have C:=dF A);refine sk A (sk A (sk A (sk A (sk A (sk A (st _ (bE q A q) (ar q ?_)))))));exact cu (v:=(.bool false)) trivial q ⟨q,tV⟩ ⟨false,q,M,(by rw[xf]<;>simp(disch:=first|omega|assumption|simp) only [SS,reduceIte,C])⟩
theorem HG (uQ:Up w Q) (h:bR) (a0_0:bR.ok h) :
  Calls Zp 60 #[.agg (bR.cells h).toArray] w fun en w'=>∃r0:Nat,∃r1:Bool,en = .returned (.tuple #[(.int .u64 r0),(.bool r1)])∧Md [] w w'∧r0<18446744073709551616∧yK h=(r0,r1):=by
 have M:=Md.refl [] w;have J:=uQ;refine enter (n:=15) Tryz.func60 q q q fun B=>ns (eC (cs:=(bR.cells h)) q q ?_);intro G N C I H E;have F:=uQ _ C;replace C:=ly M.size C;replace M:=M.k H;refine cE q (an q (ns (sf q mK (sl (u:=(.int .u64 ((h.n.getD 0 0:Nat):Int))) q bH E q ?_))));have K:h.n.getD 0 0<18446744073709551616:=(fJ a0_0.2.2.2.2.2.2.2.1 0);refine sf q zD (sl (u:=(.int .u64 ((h.n.getD 1 0:Nat):Int))) q bH E q ?_);have L:h.n.getD 1 0<18446744073709551616:=(fJ a0_0.2.2.2.2.2.2.2.1 1);refine st _ (qF (a:=(h.n.getD 0 0)) (b:=(h.n.getD 1 0)) 18446744073709551616 q q q q) (an q (au (nm q (sf q mK (sl (u:=(.int .u64 ((h.n.getD 0 0:Nat):Int))) q bH E q (st _ (dV (a:=(((h.n.getD 0 0)+(h.n.getD 1 0))%18446744073709551616)) (b:=(h.n.getD 0 0)) q q) (nt ?_)))))));refine bV q (fun D=>?_) (fun D=>?_)
 ·(have A:=dT D);refine ns (cE q (ar q (aV ?_)));exact dB (vs:=[(.int .u64 ((0:Nat):Int)),(.bool false)]) trivial q ⟨q,q,tV⟩ q ⟨0,false,q,M,Ok,(by rw[yK]<;>simp(disch:=first|omega|assumption|simp) only [SS,reduceIte,A])⟩
 (have A:=dF D);refine aY (ai (nm q (cE q (ar q ?_))));exact dB (vs:=[(.int .u64 ((((h.n.getD 0 0)+(h.n.getD 1 0))%18446744073709551616:Nat):Int)),(.bool true)]) trivial q ⟨q,q,tV⟩ q ⟨((h.n.getD 0 0)+(h.n.getD 1 0))%18446744073709551616,true,q,M,Ok,(by rw[yK]<;>simp(disch:=first|omega|assumption|simp) only [SS,reduceIte,A])⟩
theorem yU (uQ:Up w Q) (h:bR) (a0_0:bR.ok h) (p:Nat) (a1:p<18446744073709551616) (size:Nat) (a2:size<18446744073709551616) (e:Nat) (a3:e<18446744073709551616) :
  Calls Zp 104 #[.agg (bR.cells h).toArray,(.int .u64 p),(.int .u64 size),(.int .u64 e)] w fun en w'=>∃r0:Nat,en = .returned (.int .i64 r0)∧Md [] w w'∧r0<9223372036854775808∧kC h p size e=r0:=by
 have M:=Md.refl [] w;have X:=uQ;refine enter (n:=45) Tryz.func104 q q q fun B=>ns (eC (cs:=(bR.cells h)) q q ?_);intro U Z N W V R;have T:=uQ _ N;replace N:=ly M.size N;replace M:=M.k V;refine an q (au (b9 (nm q (st _ (oE (a:=p) (b:=8) q q Ok) (st _ (eN (a:=(p%8)) (b:=0) q q) (cE q (nt ?_)))))));refine bV q (fun S=>?_) (fun S=>?_)
 ·(have I:=dT S);refine ns (ar q (bG (aV ?_)));exact cu (v:=(.int .i64 ((3:Nat):Int))) trivial q ⟨q,tV⟩ ⟨3,q,M,Ok,(by rw[kC]<;>simp(disch:=first|omega|assumption|simp) only [SS,reduceIte,I])⟩
 (have I:=dF S);refine nm q (st _ (ir (a:=size) (b:=0) q q) (mv q ?_));refine cB (t:=16) q (fun F=>?_) (fun F=>?_)
 ·(have D:=dT F);refine sk F (sk F (sk F (st _ (bF q F q) (an q (fZ q q (ns (ar q (bG (aV ?_)))))))));exact cu (v:=(.int .i64 ((5:Nat):Int))) trivial q ⟨q,tV⟩ ⟨5,q,M,Ok,(by rw[kC]<;>simp(disch:=first|omega|assumption|simp) only [SS,reduceIte,I,D])⟩
 (have D:=dF F);refine sg F (bf q) (sg F (oE (a:=size) (b:=16) q q Ok) (sg F (eN (a:=(size%16)) (b:=0) q q) (st _ (bE q F q) (an q ?_))));refine bV q (fun O=>?_) (fun O=>?_)
 ·(have E:=dT O);refine ns (ar q (bG (aV ?_)));exact cu (v:=(.int .i64 ((5:Nat):Int))) trivial q ⟨q,tV⟩ ⟨5,q,M,Ok,(by rw[kC]<;>simp(disch:=first|omega|assumption|simp) only [SS,reduceIte,I,D,E])⟩
 (have E:=dF O);refine nm q (sf q mK (sl (u:=(.int .u64 ((h.n.getD 0 0:Nat):Int))) q bH R q ?_));have Y:h.n.getD 0 0<18446744073709551616:=(fJ a0_0.2.2.2.2.2.2.2.1 0);refine st _ (dV (a:=p) (b:=(h.n.getD 0 0)) q q) (mv q ?_);refine cB (t:=26) q (fun A=>?_) (fun A=>?_)
 ·(have H:=dT A);refine sk A (sk A (sk A (sk A (sk A (st _ (bF q A q) (mv q (sk q (sk q (sk q (st _ (bF q q q) (mv q (sk q (sk q ?_)))))))))))));refine sk q (sk q (sk q (st _ (bF q q q) (an q (fZ q q (ns (ar q (bG (aV ?_)))))))));exact cu (v:=(.int .i64 ((2:Nat):Int))) trivial q ⟨q,tV⟩ ⟨2,q,M,Ok,(by rw[kC]<;>simp(disch:=first|omega|assumption|simp) only [SS,reduceIte,I,D,E,H])⟩
 (have H:=dF A);refine sg A (bf q) (sg A (aU q mK) (sg A ((aA q bH R q).to (b:=(.int .u64 ((h.n.getD 0 0:Nat):Int))) q) (sg A (lO (a:=p) (b:=(h.n.getD 0 0)) 18446744073709551616 q q q Ok) (sg A (dV (a:=(p-(h.n.getD 0 0))) (b:=16) q q) (st _ (bE q A q) (mv q ?_))))));refine cB (t:=33) q (fun G=>?_) (fun G=>?_)
 ·(have J:=dT G);refine sk G (sk G (sk G (st _ (bF q G q) (mv q (sk q (sk q (sk q (sk q (sk q (st _ (bF q q q) (an q (fZ q q ?_))))))))))));refine ns (ar q (bG (aV ?_)));exact cu (v:=(.int .i64 ((2:Nat):Int))) trivial q ⟨q,tV⟩ ⟨2,q,M,Ok,(by rw[kC]<;>simp(disch:=first|omega|assumption|simp) only [SS,reduceIte,I,D,E,H,J])⟩
 (have J:=dF G);refine sg G (bf q) (sg G (bf q) (sg G (iY (a:=p) (b:=e) q q) (st _ (bE q G q) (mv q ?_))));refine cB (t:=38) q (fun C=>?_) (fun C=>?_)
 ·(have K:=dT C);refine sk C (sk C (sk C (sk C (sk C (st _ (bF q C q) (an q (fZ q q (ns (ar q (bG ?_))))))))));refine aV ?_;exact cu (v:=(.int .i64 ((2:Nat):Int))) trivial q ⟨q,tV⟩ ⟨2,q,M,Ok,(by rw[kC]<;>simp(disch:=first|omega|assumption|simp) only [SS,reduceIte,I,D,E,H,J,K])⟩
 (have K:=dF C);refine sg C (bf q) (sg C (bf q) (sg C (bf q) (sg C (lO (a:=e) (b:=p) 18446744073709551616 q q q Ok) (sg C (iY (a:=size) (b:=(e-p)) q q) (st _ (bE q C q) (an q ?_))))));refine bV q (fun P=>?_) (fun P=>?_)
 ·(have L:=dT P);refine ns (ar q (bG (aV ?_)));exact cu (v:=(.int .i64 ((2:Nat):Int))) trivial q ⟨q,tV⟩ ⟨2,q,M,Ok,(by rw[kC]<;>simp(disch:=first|omega|assumption|simp) only [SS,reduceIte,I,D,E,H,J,K,L])⟩
 (have L:=dF P);refine aY (bL (ai (ns (ar q ?_))));exact cu (v:=(.int .i64 ((0:Nat):Int))) trivial q ⟨q,tV⟩ ⟨0,q,M,Ok,(by rw[kC]<;>simp(disch:=first|omega|assumption|simp) only [SS,reduceIte,I,D,E,H,J,K,L])⟩
theorem jb:uH Zp 5 1 1=true:=Yz
theorem afq:cM Zp 102=true:=Yz
theorem afr:cM Zp 103=true:=Yz
theorem acY:cM Zp 104=true:=Yz
theorem agb:cM Zp 60=true:=Yz
theorem gB:gZ Zp 3=true:=Yz
theorem LB (uQ:Up w Q) {v0:Value} {l:Ly} (h0:Ls eD w Q v0 l) (p0:l.length≤140737488355328) :
  Calls Zp 61 #[v0] w fun en w'=>∃u0:Value,∃r0:List UInt8,∃Q':Nat→Prop,en = .returned (u0)∧Md [] w w'∧nG w w' Q Q'∧Ow eD 5 (bM [] w) w' Q' u0 r0∧l=r0:=by
 obtain⟨a,A,T,R,V⟩:∃a A,v0 = .slice a l.length A∧l.length≤A∧(a=none→l=[]):=by
  obtain⟨a,A,j,e,M,k,N,_⟩:=h0;exact⟨a,A,e,M,fun h=>List.eq_nil_of_length_eq_zero (by have:=N h;omega)⟩
 refine enter (n:=8) Tryz.func61 q q q fun B=>ns (an q (au (nm q (st (.bool a.isNone) (by exact QB (a:=a) (m:=l.length) (c:=A) (by rw[← T];rfl) fG) (nt ?_)))));refine bV q (fun H=>?_) (fun H=>?_)
 ·have S:l=[]:=V (Option.isNone_iff_eq_none.1 H)
  refine ns (ar q (aV ?_));exact gI trivial q q ⟨_,[],Q,q,Md.refl [] w,⟨fun x h _=>h,fun x h=>h,uQ⟩,Ow.nil _ _ _ _ _,S⟩
 refine aY ?_
 refine ai (ns (fB fG jb ?_));intro b i D W C O;obtain⟨K,J,Z,X,f⟩:=jh uQ D W C;have P:Ow eD 5 (bM [] w) i K (.slice (some ⟨b,0,none⟩) 0 0) []:=Ow.cK (m:=0) O q q (by simp[maxLen]) (.inr D) X;replace h0:=(h0.sub J).o C;refine mv q (si (sz:=1) q fG jb q q P h0.lz f (bM.new C) Yw Yw ?_);intro p r L Y d g E F o _ U;refine ar q ?_;exact gI trivial q q ⟨_,_,L,q,C.ej F D,⟨fun x G I=>Y x (J x G I) (lj I C.size),fun x G=>Z x (d x G),g⟩,E,by simp⟩
theorem tq (uQ:Up w Q) {v0:Value} {l:Ly} (h0:Ls eD w Q v0 l) (p0:l.length≤140737488355328) :
  Calls Zp 61 #[v0] w fun en w'=>∃u0:Value,∃r0:List UInt8,en = .returned (u0)∧Md [] w w'∧Ls eD w' Q u0 r0∧l=r0 :=
 (LB uQ h0 p0).mono fun en w' ⟨u0,r0,Q2,he,hm,kq,k0,hF⟩=>⟨u0,r0,he,hm,k0.ls kq.2.1 (bM.up uQ),hF⟩
set_option maxRecDepth 100000 in
abbrev jU:bR:={gK:=0,cF:=0,state:=0,dI:=oq,dO:=oq,cG:=oq,seq:=oq,n:=(List.replicate 21 0),dD:=0,dK:=0,dJ:=0}
set_option maxHeartbeats 4000000 in
theorem RP (uQ:Up w Q) {v0:Value} {b:Ly} (h0:Ls eD w Q v0 b) :
  Calls Zp 59 #[v0] w fun en w'=>∃r0:bR,∃r1:Nat,en = .returned (.tuple #[.agg (bR.cells r0).toArray,(.int .i64 r1)])∧Md [] w w'∧bR.ok r0∧r1<9223372036854775808∧kE b=(r0,r1):=by
 have L0:=h0.dN;have M:=Md.refl [] w;have Bl:=uQ;refine enter (n:=90) Tryz.func59 q q q fun B=>ns (bU ru ?_);intro v w1 i Az E A;obtain⟨Q2,r,sT,A1,V⟩:=jh uQ i Az E;replace i:=ly M.size i;replace h0:=(h0.sub r).o E;replace M:=M.k E;replace uQ:=V;clear V r sT;have H:bM [] w v:=.inr i;replace A:bO _ _ (bR.cells (jU)) _:=A;have A9:bR.ok (jU):=(by exact⟨Jk,Jk,Jk,q,q,q,q,(lg _),Jk,Jk,Jk⟩);refine an q (au (b9 (nm q (sL q fG h0.cV (st _ (dV (a:=b.length) (b:=272) q q) (cE q (nt ?_)))))));refine bV q (fun h9=>?_) (fun h9=>?_)
 ·(have R:=dT h9);refine ns (st _ (bY (us:=[]) (cs:=(bR.cells (jU))) [] ru qY q q trivial trivial q q) (aX (us:=(bR.cells (jU))) q q (by exact eX) (by exact fun u S=>bn (bR.one) u S) A (lB q) ?_));have F:=A;clear A;intro w4 E A;replace M:=M.step E (hI H);clear F;replace A:bO _ _ (bR.cells (jU)) _:=A;refine ar q (bG (aV ?_));exact dB (vs:=[(.agg (bR.cells (jU)).toArray),(.int .i64 ((22:Nat):Int))]) trivial q ⟨⟨_,q,cJ (cs:=(bR.cells (jU))) (by exact eX) A⟩,q,tV⟩ q ⟨(jU),22,q,M,Yj,Ok,(JZ R)⟩
 (have R:=dF h9);refine nm q (bg [[(b8 76)],[(b8 80)],[(b8 75)],[(b8 83)],[(b8 72)],[(b8 72)],[(b8 82)],[(b8 72)]] fG jb Jk Jk q q ⟨q,q,q,q,q,q,q,q,tV⟩ ⟨q,q,q,q,q,q,q,q,tV⟩ q Jk ?_);intro e w5 l As E Z;have Aj:v≠e:=(by have:=A.lt;omega);have k:bM [] w e:=bM.new M _ l;obtain⟨Q6,r,sT,c,V⟩:=jh uQ l As E;replace h0:=(h0.sub r).o E;obtain⟨A,M⟩:=k2 E A M;replace uQ:=V;clear V r sT;refine QH fG u5 q (show bO _ _ (([76,80,75,83,72,72,82,72]:Ly).map b8) _ from Z) (By.cK (show bO _ _ (([76,80,75,83,72,72,82,72]:Ly).map b8) _ from Z) q Jk) ?_;intro w7 E hY;have Af:=Z;clear Z;have hS:∀b∈[e],¬Q6 b:=(hI c);replace h0:=h0.md E hS;replace A:=A.md E Vk;replace uQ:=uQ.md E;replace M:=M.step E (hI k);obtain⟨Q8,fQ,fT,Ag⟩:=zn (Q:=Q6) hY;replace h0:=h0.sub (fun b d _=>fQ b d);replace uQ:Up w7 Q8:=fun b d=>fQ b (uQ b d);clear Af hS fQ fT hY c;refine aj afq q (RO uQ h0 Ag) ?_;rintro en w9 ⟨Ba,rfl,E,T⟩;refine rv ?_;obtain⟨h0,A,uQ,M⟩:=k4 E h0 A uQ M;refine st _ (gR q) (an q ?_);refine bV q (fun y=>?_) (fun y=>?_)
 ·(have o:=eM y);refine ns (st _ (bY (us:=[]) (cs:=(bR.cells (jU))) [] ru qY q q trivial trivial q q) (aX (us:=(bR.cells (jU))) q q (by exact eX) (by exact fun u S=>bn (bR.one) u S) A (lB q) ?_));have F:=A;clear A;intro Bm E A;replace M:=M.step E (hI H);clear F;replace A:bO _ _ (bR.cells (jU)) _:=A;refine ar q (bG (aV ?_));exact dB (vs:=[(.agg (bR.cells (jU)).toArray),(.int .i64 ((6:Nat):Int))]) trivial q ⟨⟨_,q,cJ (cs:=(bR.cells (jU))) (by exact eX) A⟩,q,tV⟩ q ⟨(jU),6,q,M,Yj,Ok,(Ns R (by rw[T];exact o))⟩
 (have o:=eL y);refine aY (bL (ai (nm q (aj afr q (LM uQ h0 Ok) ?_))));rintro en Bn ⟨C,rfl,E,D,K⟩;refine rv ?_;obtain⟨h0,A,uQ,M⟩:=k4 E h0 A uQ M;refine bU ru ?_;intro x Bo j A0 E G;have Av:v≠x:=(by have:=A.lt;omega);obtain⟨Aw,r,sT,Ah,V⟩:=jh uQ j A0 E;replace j:=ly M.size j;replace h0:=(h0.sub r).o E;obtain⟨A,M⟩:=k2 E A M;replace uQ:=V;clear V r sT;have Ai:bM [] w x:=.inr j;replace G:bO _ _ (bR.cells (jU)) _:=G;have A2:bR.ok (jU):=(by exact⟨Jk,Jk,Jk,q,q,q,q,(lg _),Jk,Jk,Jk⟩);refine aX (us:=(bR.cells C)) q q (by exact eX) (by exact fun u S=>bn (bR.one) u S) G (lB q) ?_
 have Ar:=G;clear G;intro Bp E G;have hS:∀b∈[x],¬Aw b:=(hI Ah);replace h0:=h0.md E hS;replace A:=A.md E Vk;replace uQ:=uQ.md E;replace M:=M.step E (hI Ai);clear Ar hS;replace G:bO _ _ (bR.cells C) _:=G;refine nt (ns (st _ (bX (bR.cells C) q (by exact eX) G q) (aj agb q (HG uQ C D) ?_)));rintro en Bq ⟨W,A6,rfl,E,A3,L⟩;refine rv ?_;obtain⟨h0,A,G,uQ,M⟩:=k5 E h0 A G uQ M;refine mv q (se q q (se q q (cE q (an q (au (b9 (ns (sf q zC (sl (u:=(.int .u32 C.cF)) q gX G q ?_)))))))));have Bd:C.cF<4294967296:=D.2.1;refine st _ (UD (a:=C.cF) (b:=4) 4294967296 q q q q Ok) (st _ (eN (a:=(andNot C.cF 4)) (b:=0) q q) (an q ?_));refine bV q (fun z=>?_) (fun z=>?_)
 ·(have I:=dT z);refine ns (st _ (bY (us:=[]) (cs:=(bR.cells (jU))) [] ru qY q q trivial trivial q q) (aX (us:=(bR.cells (jU))) q q (by exact eX) (by exact fun u S=>bn (bR.one) u S) A (lB q) ?_));have F:=A;clear A;intro Br E A;replace M:=M.step E (hI H);clear F;replace A:bO _ _ (bR.cells (jU)) _:=A;refine ar q (bG (aV ?_));exact dB (vs:=[(.agg (bR.cells (jU)).toArray),(.int .i64 ((7:Nat):Int))]) trivial q ⟨⟨_,q,cJ (cs:=(bR.cells (jU))) (by exact eX) A⟩,q,tV⟩ q ⟨(jU),7,q,M,Yj,Ok,(lQ R T (by simp_all) K (by rw[jW L];rw[if_pos I]) Jk)⟩
 (have I:=dF z);refine ns (sf q Z5 (sl (u:=(.int .i64 C.state)) q gB G q ?_));have Be:C.state<9223372036854775808:=D.2.2.1;refine st _ (iY (a:=C.state) (b:=2) q q) (an q ?_);refine bV q (fun Aa=>?_) (fun Aa=>?_)
 ·(have J:=dT Aa);refine ns (st _ (bY (us:=[]) (cs:=(bR.cells (jU))) [] ru qY q q trivial trivial q q) (aX (us:=(bR.cells (jU))) q q (by exact eX) (by exact fun u S=>bn (bR.one) u S) A (lB q) ?_));have F:=A;clear A;intro Bs E A;replace M:=M.step E (hI H);clear F;replace A:bO _ _ (bR.cells (jU)) _:=A;refine ar q (bG (aV ?_));exact dB (vs:=[(.agg (bR.cells (jU)).toArray),(.int .i64 ((8:Nat):Int))]) trivial q ⟨⟨_,q,cJ (cs:=(bR.cells (jU))) (by exact eX) A⟩,q,tV⟩ q ⟨(jU),8,q,M,Yj,Ok,(lQ R T (by simp_all) K (by rw[jW L];rw[if_neg I,if_pos J]) Jk)⟩
 (have J:=dF Aa);refine ns (sf q mK (sl (u:=(.int .u64 ((C.n.getD 0 0:Nat):Int))) q bH G q ?_));have Bf:C.n.getD 0 0<18446744073709551616:=(fJ D.2.2.2.2.2.2.2.1 0);refine st _ (dV (a:=(C.n.getD 0 0)) (b:=272) q q) (mv q ?_);refine cB (t:=43) q (fun O=>?_) (fun O=>?_)
 ·(have Al:=dT O);refine sk O (sk O (sk O (sk O (st _ (bF q O q) (mv q (sk q (sk q (sk q (sk q (st _ (bF q q q) (an q (fZ q q ?_))))))))))));refine ns (st _ (bY (us:=[]) (cs:=(bR.cells (jU))) [] ru qY q q trivial trivial q q) (aX (us:=(bR.cells (jU))) q q (by exact eX) (by exact fun u S=>bn (bR.one) u S) A (lB q) ?_));have F:=A;clear A;intro Bt E A;replace M:=M.step E (hI H);clear F;replace A:bO _ _ (bR.cells (jU)) _:=A;refine ar q (bG (aV ?_));exact dB (vs:=[(.agg (bR.cells (jU)).toArray),(.int .i64 ((5:Nat):Int))]) trivial q ⟨⟨_,q,cJ (cs:=(bR.cells (jU))) (by exact eX) A⟩,q,tV⟩ q ⟨(jU),5,q,M,Yj,Ok,(lQ R T (by simp_all) K (by rw[jW L];rw[if_neg I,if_neg J,if_pos Ok]) Jk)⟩
 (have Al:=dF O);refine sg O (aU q mK) (sg O ((aA q bH G q).to (b:=(.int .u64 ((C.n.getD 0 0:Nat):Int))) q) (sg O (oE (a:=(C.n.getD 0 0)) (b:=8) q q Ok) (sg O (eN (a:=((C.n.getD 0 0)%8)) (b:=0) q q) (st _ (bE q O q) (mv q ?_)))));refine cB (t:=49) q (fun P=>?_) (fun P=>?_)
 ·(have Am:=dT P);refine sk P (sk P (sk P (sk P (st _ (bF q P q) (an q (fZ q q (ns (st _ (bY (us:=[]) (cs:=(bR.cells (jU))) [] ru qY q q trivial trivial q q) (aX (us:=(bR.cells (jU))) q q (by exact eX) (by exact fun u S=>bn (bR.one) u S) A (lB q) ?_)))))))));have F:=A;clear A;intro Bu E A;replace M:=M.step E (hI H);clear F;replace A:bO _ _ (bR.cells (jU)) _:=A;refine ar q (bG (aV ?_));exact dB (vs:=[(.agg (bR.cells (jU)).toArray),(.int .i64 ((5:Nat):Int))]) trivial q ⟨⟨_,q,cJ (cs:=(bR.cells (jU))) (by exact eX) A⟩,q,tV⟩ q ⟨(jU),5,q,M,Yj,Ok,(lQ R T (by simp_all) K (by rw[jW L];rw[if_neg I,if_neg J,if_pos Ok]) Jk)⟩
 (have Am:=dF P);refine sg P (aU q zD) (sg P ((aA q bH G q).to (b:=(.int .u64 ((C.n.getD 1 0:Nat):Int))) q) ?_);have Bg:C.n.getD 1 0<18446744073709551616:=(fJ D.2.2.2.2.2.2.2.1 1);refine sg P (oE (a:=(C.n.getD 1 0)) (b:=8) q q Ok) (sg P (eN (a:=((C.n.getD 1 0)%8)) (b:=0) q q) (st _ (bE q P q) (an q ?_)));refine bV q (fun Ab=>?_) (fun Ab=>?_)
 ·(have Ak:=dT Ab);refine ns (st _ (bY (us:=[]) (cs:=(bR.cells (jU))) [] ru qY q q trivial trivial q q) (aX (us:=(bR.cells (jU))) q q (by exact eX) (by exact fun u S=>bn (bR.one) u S) A (lB q) ?_));have F:=A;clear A;intro Bv E A;replace M:=M.step E (hI H);clear F;replace A:bO _ _ (bR.cells (jU)) _:=A;refine ar q (bG (aV ?_));exact dB (vs:=[(.agg (bR.cells (jU)).toArray),(.int .i64 ((5:Nat):Int))]) trivial q ⟨⟨_,q,cJ (cs:=(bR.cells (jU))) (by exact eX) A⟩,q,tV⟩ q ⟨(jU),5,q,M,Yj,Ok,(lQ R T (by simp_all) K (by rw[jW L];rw[if_neg I,if_neg J,if_pos Ok]) Jk)⟩
 (have Ak:=dF Ab);refine nm q (st _ (gR q) (mv q ?_));refine cB (t:=59) q (fun N=>?_) (fun N=>?_)
 ·(have Ap:=eM N);refine sk N (sk N (sk N (sk N (sk N (st _ (bF q N q) (an q (fZ q q (ns (st _ (bY (us:=[]) (cs:=(bR.cells (jU))) [] ru qY q q trivial trivial q q) (aX (us:=(bR.cells (jU))) q q (by exact eX) (by exact fun u S=>bn (bR.one) u S) A (lB q) ?_))))))))));have F:=A;clear A;intro Bw E A;replace M:=M.step E (hI H);clear F;replace A:bO _ _ (bR.cells (jU)) _:=A;refine ar q (bG (aV ?_));exact dB (vs:=[(.agg (bR.cells (jU)).toArray),(.int .i64 ((2:Nat):Int))]) trivial q ⟨⟨_,q,cJ (cs:=(bR.cells (jU))) (by exact eX) A⟩,q,tV⟩ q ⟨(jU),2,q,M,Yj,Ok,(lQ R T (by simp_all) K (by rw[jW L];rw[if_neg I,if_neg J,if_neg Ok,if_pos (by(left;simp_all))]) Jk)⟩
 (have Ap:=eL N);refine sg N (bf q) (sg N (bf q) (sg N (iu q fG h0.cV) (sg N (dG (a:=b.length) 18446744073709551616 q (by rw[u3];rfl) kU q Ok) (sg N (iY (a:=W) (b:=b.length) q q) (st _ (bE q N q) (an q ?_))))));refine bV q (fun Ac=>?_) (fun Ac=>?_)
 ·(have Ao:=dT Ac);refine ns (st _ (bY (us:=[]) (cs:=(bR.cells (jU))) [] ru qY q q trivial trivial q q) (aX (us:=(bR.cells (jU))) q q (by exact eX) (by exact fun u S=>bn (bR.one) u S) A (lB q) ?_));have F:=A;clear A;intro Bx E A;replace M:=M.step E (hI H);clear F;replace A:bO _ _ (bR.cells (jU)) _:=A;refine ar q (bG (aV ?_));exact dB (vs:=[(.agg (bR.cells (jU)).toArray),(.int .i64 ((2:Nat):Int))]) trivial q ⟨⟨_,q,cJ (cs:=(bR.cells (jU))) (by exact eX) A⟩,q,tV⟩ q ⟨(jU),2,q,M,Yj,Ok,(lQ R T (by simp_all) K (by rw[jW L];rw[if_neg I,if_neg J,if_neg Ok,if_pos (by(right;omega))]) Jk)⟩
 (have Ao:=dF Ac);refine aY (bL (ai (au (ns (st _ (bX (bR.cells C) q (by exact eX) G q) (sf q zF (sl (u:=(.int .u64 ((C.n.getD 2 0:Nat):Int))) q bH G q ?_)))))));have Bh:C.n.getD 2 0<18446744073709551616:=(fJ D.2.2.2.2.2.2.2.1 2);refine sf q wB (sl (u:=(.int .u64 ((C.n.getD 3 0:Nat):Int))) q bH G q ?_);have Bi:C.n.getD 3 0<18446744073709551616:=(fJ D.2.2.2.2.2.2.2.1 3);refine mv q (aj acY q (yU uQ C D (C.n.getD 2 0) Ok (C.n.getD 3 0) Ok W Ok) ?_);rintro en Bz ⟨X,rfl,E,A4,g⟩;refine rv ?_;obtain⟨A,G,uQ,M⟩:=k4 E A G uQ M;refine an q (nm q (st _ (eN (a:=X) (b:=0) q q) (nt ?_)));refine bV q (fun Ad=>?_) (fun Ad=>?_)
 ·(have U:=dT Ad);refine ns (st _ (bY (us:=[]) (cs:=(bR.cells (jU))) [] ru qY q q trivial trivial q q) (mv q (aX (us:=(bR.cells (jU))) q q (by exact eX) (by exact fun u S=>bn (bR.one) u S) A (lB q) ?_)));have F:=A;clear A;intro B0 E A;replace M:=M.step E (hI H);clear F;replace A:bO _ _ (bR.cells (jU)) _:=A;refine ar q (aV ?_);exact dB (vs:=[(.agg (bR.cells (jU)).toArray),(.int .i64 X)]) trivial q ⟨⟨_,q,cJ (cs:=(bR.cells (jU))) (by exact eX) A⟩,q,tV⟩ q ⟨(jU),X,q,M,Yj,Yj,(lQ R T (by simp_all) K (by rw[jW L];rw[if_neg I,if_neg J,if_neg Ok,if_neg (by rintro(h|h)<;>first|omega|simp_all),g,if_pos U]) U)⟩
 (have U:=dF Ad);refine aY (ai (au (ns (st _ (bX (bR.cells C) q (by exact eX) G q) (sf q wC (sl (u:=(.int .u64 ((C.n.getD 4 0:Nat):Int))) q bH G q ?_))))));have Bj:C.n.getD 4 0<18446744073709551616:=(fJ D.2.2.2.2.2.2.2.1 4);refine sf q wD (sl (u:=(.int .u64 ((C.n.getD 5 0:Nat):Int))) q bH G q ?_);have Bk:C.n.getD 5 0<18446744073709551616:=(fJ D.2.2.2.2.2.2.2.1 5);refine mv q (aj acY q (yU uQ C D (C.n.getD 4 0) Ok (C.n.getD 5 0) Ok W Ok) ?_);rintro en B1 ⟨Y,rfl,E,A5,p⟩;refine rv ?_;obtain⟨A,G,M⟩:=k3 E A G M;refine an q (nm q (st _ (eN (a:=Y) (b:=0) q q) (nt ?_)));refine bV q (fun Ae=>?_) (fun Ae=>?_)
 ·(have f:=dT Ae);refine ns (st _ (bY (us:=[]) (cs:=(bR.cells (jU))) [] ru qY q q trivial trivial q q) (mv q (aX (us:=(bR.cells (jU))) q q (by exact eX) (by exact fun u S=>bn (bR.one) u S) A (lB q) ?_)));have F:=A;clear A;intro B2 E A;replace M:=M.step E (hI H);clear F;replace A:bO _ _ (bR.cells (jU)) _:=A;refine ar q (aV ?_);exact dB (vs:=[(.agg (bR.cells (jU)).toArray),(.int .i64 Y)]) trivial q ⟨⟨_,q,cJ (cs:=(bR.cells (jU))) (by exact eX) A⟩,q,tV⟩ q ⟨(jU),Y,q,M,Yj,Yj,(lQ R T (by simp_all) K (by rw[jW L];rw[if_neg I,if_neg J,if_neg Ok,if_neg (by rintro(h|h)<;>first|omega|simp_all),g,if_neg U,p]) f)⟩
 (have f:=dF Ae);refine aY (ai (ns (st _ (bX (bR.cells C) q (by exact eX) G q) (aX (us:=(bR.cells C)) q q (by exact eX) (by exact fun u S=>bn (bR.one) u S) A (lB q) ?_))));have F:=A;clear A;intro B3 E A;replace M:=M.step E (hI H);clear F;replace A:bO _ _ (bR.cells C) _:=A;refine ar q ?_;exact dB (vs:=[(.agg (bR.cells C).toArray),(.int .i64 ((0:Nat):Int))]) trivial q ⟨⟨_,q,cJ (cs:=(bR.cells C)) (by exact eX) A⟩,q,tV⟩ q ⟨C,0,q,M,D,Ok,(aa7 R T (by simp_all) K (by rw[jW L];rw[if_neg I,if_neg J,if_neg Ok,if_neg (by rintro(h|h)<;>first|omega|simp_all),g,if_neg U,p];simpa using f))⟩
theorem ahw:cM Zp 59=true:=Yz
theorem agc:cM Zp 61=true:=Yz
theorem ag5:fw Zp 135=some [(0,1),(1,91)]:=Yz
theorem ahV:ea Zp 135=some ([.slice none 0 0,.int .u32 0,.int .u32 0,.int .i64 0] ++ (List.replicate 64 (.int .u8 0) ++ (List.replicate 21 (.int .u64 0) ++ ([.int .u32 0,.int .u32 0,.int .u64 0])))):=Yz
set_option maxRecDepth 100000 in
theorem BG (uQ:Up w Q) {v0:Value} {b:Ly} (h0:Ls eD w Q v0 b) (p0:b.length≤140737488355328) :
  Calls Zp 23 #[v0] w fun en w'=>∃u0:Value,∃r0:Option (dH),∃r1:Nat,en = .returned (.tuple #[u0,(.int .i64 r1)])∧Md [] w w'∧Po dR 135 w' Q u0 r0∧r1<9223372036854775808∧jT b=(r0,r1):=by
 have L0:=h0.dN;have M:=Md.refl [] w;have t:=uQ;have l:∀b,Q b→Q b:=fun _ h=>h;refine enter (n:=28) Tryz.func23 q q q fun B=>ns (cE q (an q (nm q (aj ahw q (RP uQ h0) ?_))));rintro en w1 ⟨C,L,rfl,D,P,z,X⟩;refine rv ?_;obtain⟨h0,uQ,M⟩:=k3 D h0 uQ M;refine mv q (se q q (se q q (bU ru ?_)));intro V w2 O r D A;obtain⟨Q3,j,k,Z,J⟩:=jh uQ O r D;replace l:=tT l k;replace O:=ly M.size O;replace h0:=(h0.sub j).o D;replace M:=M.k D;replace uQ:=J;clear J j k;have c:bM [] w V:=.inr O;replace A:bO _ _ (bR.cells (jU)) _:=A;have y:bR.ok (jU):=(by exact⟨Jk,Jk,Jk,q,q,q,q,(lg _),Jk,Jk,Jk⟩);refine aX (us:=(bR.cells C)) q q (by exact eX) (by exact fun u hu=>bn (bR.one) u hu) A (lB q) ?_
 have g:=A;clear A;intro w5 D A;have v:∀b∈[V],¬Q3 b:=(hI Z);replace h0:=h0.md D v;replace uQ:=uQ.md D;replace M:=M.step D (hI c);clear g v;replace A:bO _ _ (bR.cells C) _:=A;refine an q (au (nm q (st _ (eN (a:=L) (b:=0) q q) (nt ?_))));refine bV q (fun W=>?_) (fun W=>?_)
 ·(have H:=dT W);refine nm q (cE q (ar q (aV ?_)));exact dB (vs:=[(.pointer none),(.int .i64 L)]) trivial q ⟨q,q,tV⟩ q ⟨_,none,L,q,M,q,Yj,(by rw[jT,X,if_pos H])⟩
 (have H:=dF W);refine aY (ai (ns (st _ (bX (bR.cells C) q (by exact eX) A q) (aj agb q (HG uQ C P) ?_))));rintro en w6 ⟨U,Ab,rfl,D,Aa,e⟩;refine rv ?_;obtain⟨h0,A,uQ,M⟩:=k4 D h0 A uQ M;refine mv q (se q q (se q q (cE q (an q (au ?_)))));have I:=A;refine cT [(0,true),(1,true),(2,true),(4,true),(3,false)] [5,6,7,8] (fun w'=>Md [] w6 w') mixed Yz ?_;intro w7 G;refine⟨G.mono Oj,?_⟩;have o:=G.mono (T:=[]) Oj;have rf:kE b=(C,0):=(by rw[X];simp only[Prod.mk.injEq,true_and];omega);have en:=aa8 rf e;refine mo q (mo q (mz (fun w' x=>fe 1 0 U fG mX q h0.cV Ok Ok q ⟨_,q⟩) ?_));have Y:=h0.head (hi:=U) Ok;refine mz (fun w' x=>bX (bR.cells C) q (by exact eX) (I.o x) q) ?_;obtain⟨A,Y,uQ,M⟩:=k4 G A Y uQ M;refine kZ ?_ rfl;refine aj agc q (tq uQ Y Yk) ?_;rintro en w9 ⟨K,N,rfl,D,E,Ae⟩;refine rv ?_;obtain⟨A,uQ,M,o⟩:=k4 D A uQ M o;refine ak ⟨q,o,?_⟩;refine d9 ?_;clear I;clear o;refine st _ (bY (us:=[[K],(bR.cells C)]) (cs:=(dH.cells (({b:=N,h:=C}:dH)) K)) [(0,0,1),(1,1,91)] ahV ag5 q q ⟨(dY E.bN),q,tV⟩ ⟨q,q,tV⟩ q q) (eC (cs:=(dH.cells (({b:=N,h:=C}:dH)) K)) q q ?_);intro R Ah F i D f;have d:V≠R:=(by have:=A.lt;omega);obtain⟨Ac,j,k,p,J⟩:=jh uQ F i D
 replace l:=tT l k;replace F:=ly M.size F;replace E:=(E.sub j).o D;replace M:=M.k D;replace uQ:=J;clear J j k;refine cE q (ar q ?_);exact dB (vs:=[(.pointer (some ⟨R,0,none⟩)),(.int .i64 ((0:Nat):Int))]) trivial q ⟨q,q,tV⟩ q ⟨_,(some (({b:=N,h:=C}:dH))),0,q,M,⟨_,_,q,t _ F,f,d8 Yj (E.sub (fun b S _=>l b S))⟩,Ok,(by rw[jT,X,if_neg H,e];simp_all)⟩
theorem mZ:fA Zp 185 2=true:=Yz
theorem iO:fA Zp 267 3=true:=Yz
theorem ew:gu Zp 46 1=true:=Yz
theorem iA:uH Zp 46 1 8=true:=Yz
theorem XR:cM Zp 164=true:=Yz
theorem XT:cM Zp 165=true:=Yz
theorem adl:cM Zp 174=true:=Yz
theorem vk:bh Zp 267 0=some 0:=Yz
theorem aah:bh Zp 267 1=some 1:=Yz
theorem mM:bh Zp 267 2=some 2:=Yz
theorem ady:fw Zp 185=some [(0,1),(1,1)]:=Yz
theorem vt:fw Zp 267=some [(0,1),(1,1),(2,1)]:=Yz
theorem jj:Zp.underlying 65=some (.slice 46):=Yz
theorem NZ:ea Zp 185=some [.int .u64 0,.slice none 0 0]:=Yz
theorem wR:ea Zp 267=some [.int .i64 0,.int .i64 0,.int .u64 0]:=Yz
abbrev lU:iJ:={kind:=0,flags:=0,size:=0}
theorem CS (uQ:Up w Q) {v0:Value} {b:Ly} (h0:Ls eD w Q v0 b) (p:Nat) (a1:p<18446744073709551616) :
  Calls Zp 174 #[v0,(.int .u64 p)] w fun en w'=>∃r0:iJ,∃r1:Nat,en = .returned (.tuple #[.agg (iJ.cells r0).toArray,(.int .i64 r1)])∧Md [] w w'∧iJ.ok r0∧r1<9223372036854775808∧dS b p=(r0,r1):=by
 have L0:=h0.dN;have M:=Md.refl [] w;have A3:=uQ;refine enter (n:=78) Tryz.func174 q q q fun B=>ns (bU wR ?_);intro Ac w1 e Ar E A;obtain⟨Q2,sQ,sT,Au,Z⟩:=jh uQ e Ar E;replace e:=ly M.size e;replace h0:=(h0.sub sQ).o E;replace M:=M.k E;replace uQ:=Z;clear Z sQ sT;have F:bM [] w Ac:=.inr e;replace A:bO _ _ (iJ.cells (lU)) _:=A;have A0:iJ.ok (lU):=(by exact⟨Jk,Jk,Jk⟩);refine an q (nm q (sL q fG h0.cV (st _ (dG (a:=b.length) 18446744073709551616 q (by rw[u3];rfl) kU q Ok) (cE q (nt (au (b9 (ns (mv q (st _ (oE (a:=p) (b:=8) q q Ok) (st _ (eN (a:=(p%8)) (b:=0) q q) ?_)))))))))));refine an q ?_;refine bV q (fun j=>?_) (fun j=>?_)
 ·(have H:=dT j);refine ns (st _ (bY (us:=[]) (cs:=(iJ.cells (lU))) [] wR vt q q trivial trivial q q) (aX (us:=(iJ.cells (lU))) q q (by exact iO) (by exact fun u P=>bn (iJ.one) u P) A (lB q) ?_));have C:=A;clear A;intro w4 E A;replace M:=M.step E (hI F);clear C;replace A:bO _ _ (iJ.cells (lU)) _:=A;refine ar q (bG (aV ?_));exact dB (vs:=[(.agg (iJ.cells (lU)).toArray),(.int .i64 ((3:Nat):Int))]) trivial q ⟨⟨_,q,cJ (cs:=(iJ.cells (lU))) (by exact iO) A⟩,q,tV⟩ q ⟨(lU),3,q,M,Yj,Ok,(Yd H)⟩
 (have H:=dF j);refine ns (m2 q q (st _ (iY (a:=p) (b:=b.length) q q) (mv q ?_)));refine cB (t:=20) q (fun I=>?_) (fun I=>?_)
 ·(have Ae:=dT I);refine sk I (sk I (sk I (sk I (st _ (bF q I q) (an q (fZ q q (ns (st _ (bY (us:=[]) (cs:=(iJ.cells (lU))) [] wR vt q q trivial trivial q q) (aX (us:=(iJ.cells (lU))) q q (by exact iO) (by exact fun u P=>bn (iJ.one) u P) A (lB q) ?_)))))))));have C:=A;clear A;intro w5 E A;replace M:=M.step E (hI F);clear C;replace A:bO _ _ (iJ.cells (lU)) _:=A;refine ar q (bG (aV ?_));exact dB (vs:=[(.agg (iJ.cells (lU)).toArray),(.int .i64 ((2:Nat):Int))]) trivial q ⟨⟨_,q,cJ (cs:=(iJ.cells (lU))) (by exact iO) A⟩,q,tV⟩ q ⟨(lU),2,q,M,Yj,Ok,(HC H Ok)⟩
 (have Ae:=dF I);refine sg I (bf q) (sg I (bf q) (sg I (lO (a:=b.length) (b:=p) 18446744073709551616 q q q Ok) (sg I (dV (a:=(b.length-p)) (b:=16) q q) (st _ (bE q I q) (an q ?_)))));refine bV q (fun k=>?_) (fun k=>?_)
 ·(have Ad:=dT k);refine ns (st _ (bY (us:=[]) (cs:=(iJ.cells (lU))) [] wR vt q q trivial trivial q q) (aX (us:=(iJ.cells (lU))) q q (by exact iO) (by exact fun u P=>bn (iJ.one) u P) A (lB q) ?_));have C:=A;clear A;intro w6 E A;replace M:=M.step E (hI F);clear C;replace A:bO _ _ (iJ.cells (lU)) _:=A;refine ar q (bG (aV ?_));exact dB (vs:=[(.agg (iJ.cells (lU)).toArray),(.int .i64 ((2:Nat):Int))]) trivial q ⟨⟨_,q,cJ (cs:=(iJ.cells (lU))) (by exact iO) A⟩,q,tV⟩ q ⟨(lU),2,q,M,Yj,Ok,(HC H Ok)⟩
 (have Ad:=dF k);refine aY (bL (ai (ns (m2 q q (st _ (lO (a:=b.length) (b:=p) 18446744073709551616 q q q Ok) (an q (au ?_)))))));have W:=h0;refine cT [(0,true),(1,true),(2,true),(3,true),(4,true),(5,true),(6,true),(7,true),(8,true),(9,true),(10,true),(11,true),(12,false)] [13] (fun w'=>Md [] w1 w') mixed Yz ?_;intro w7 U;refine⟨U.mono Oj,?_⟩;have MC:=U.mono (T:=[]) Oj;refine mo q (mo q (mz (fun w' g=>bB (i:=p) 1 q q fG mX h0.cV Ok) ?_));obtain⟨d,R⟩:=dQ (l:=b) (i:=p) Ok;obtain⟨c9,Aq,f⟩:=W.get R;obtain⟨rfl,_⟩:=Aq;have Bf:=UInt8.toNat_lt d;replace f:At _ v0 (p*1) [(b8 d)]:=f;refine mz (fun w' g=>(cg (kk:=p*1) 0 q q um (f.o g) q).to (b:=(b8 d)) q) (mz (fun w' g=>dG (a:=d.toNat) 9223372036854775808 q (by rw[u5];rfl) u3 q (lj (UInt8.toNat_lt _) Jk)) (mo q (mo q (mz (fun w' g=>gE (a:=p) (b:=1) 18446744073709551616 q q q Ok) (mz (fun w' g=>bB (i:=p+1) 1 q q fG mX h0.cV Ok) ?_)))));obtain⟨N,L⟩:=dQ (l:=b) (i:=p+1) Ok;obtain⟨A2,Ak,S⟩:=W.get L;obtain⟨rfl,_⟩:=Ak;have A1:=UInt8.toNat_lt N;replace S:At _ v0 ((p+1)*1) [(b8 N)]:=S;refine mz (fun w' g=>(cg (kk:=(p+1)*1) 0 q q um (S.o g) q).to (b:=(b8 N)) q) (mz (fun w' g=>dG (a:=N.toNat) 9223372036854775808 q (by rw[u5];rfl) u3 q (lj (UInt8.toNat_lt _) Jk)) (mz (fun w' g=>bY (us:=[[(.int .i64 d.toNat)],[(.int .i64 N.toNat)]]) (cs:=(iJ.cells (({kind:=d.toNat,flags:=N.toNat,size:=0}:iJ)))) [(0,0,1),(1,1,1)] wR vt q q ⟨q,q,tV⟩ ⟨q,q,tV⟩ q q) ?_))
 obtain⟨h0,A,uQ,M⟩:=k4 U h0 A uQ M;refine kZ ?_ rfl;refine bU wR ?_;intro h A5 V As E D;have Ap:=ly MC.size V;have Am:Ac≠h:=(by have:=A.lt;omega);obtain⟨Ao,sQ,sT,z,Z⟩:=jh uQ V As E;replace V:=ly M.size V;replace h0:=(h0.sub sQ).o E;obtain⟨A,M,MC⟩:=k3 E A M MC;replace uQ:=Z;clear Z sQ sT;have Y:bM [] w h:=.inr V;replace D:bO _ _ (iJ.cells (lU)) _:=D;have Av:iJ.ok (lU):=(by exact⟨Jk,Jk,Jk⟩);refine ak ⟨q,MC,?_⟩;refine d9 ?_;clear W;clear MC;refine aX (us:=(iJ.cells (({kind:=d.toNat,flags:=N.toNat,size:=0}:iJ)))) q q (by exact iO) (by exact fun u P=>bn (iJ.one) u P) D (lB q) ?_;have X:=D;clear D;intro A6 E D;have hS:∀b∈[h],¬Ao b:=(hI z);replace h0:=h0.md E hS;replace A:=A.md E Vk;replace uQ:=uQ.md E;replace M:=M.step E (hI Y);clear X hS;replace D:bO _ _ (iJ.cells (({kind:=d.toNat,flags:=N.toNat,size:=0}:iJ))) _:=D;refine ak ?_;clear f;clear S;refine ai (ns (m2 q q (st _ (dG (a:=p) 9223372036854775808 q (by rw[kU];rfl) u3 q Ok) (st _ (rA (a:=p) (b:=8) q q Ok) (aj pI q (nS uQ h0 (((p+8:Nat):Int)) Ok (8) Ok) ?_)))));rintro en A7 ⟨c,Ay,rfl,E,Aw,O⟩;refine rv ?_;replace A:=A.o E
 obtain⟨D,M⟩:=k2 E D M;refine mv q (se q q (se q q (sf q mM (bI q q bH q D (lB q) ?_))));have X:=D;clear D;intro A8 E D;replace A:=A.md E Vk;replace M:=M.step E (hI Y);clear X;obtain⟨G,J⟩:∃y,y=({({kind:=d.toNat,flags:=N.toNat,size:=0}:iJ)with size:=c}:iJ):=⟨_,q⟩;replace D:bO _ _ (iJ.cells ({({kind:=d.toNat,flags:=N.toNat,size:=0}:iJ)with size:=c})) _:=D;rw[← J]at D;refine nt (au (b9 (ns (sf q vk (sl (u:=(.int .i64 G.kind)) q gB D q (st _ (dV (a:=G.kind) (b:=1) q q) (mv q ?_)))))));refine cB (t:=55) q (fun K=>?_) (fun K=>?_)
 ·(have Ag:=dT K);refine sk K (sk K (sk K (st _ (bF q K q) (an q (fZ q q (ns (st _ (bY (us:=[]) (cs:=(iJ.cells (lU))) [] wR vt q q trivial trivial q q) (aX (us:=(iJ.cells (lU))) q q (by exact iO) (by exact fun u P=>bn (iJ.one) u P) A (lB q) ?_))))))));have C:=A;clear A;intro A9 E A;replace M:=M.step E (hI F);clear C;replace A:bO _ _ (iJ.cells (lU)) _:=A;refine ar q (bG (aV ?_));exact dB (vs:=[(.agg (iJ.cells (lU)).toArray),(.int .i64 ((4:Nat):Int))]) trivial q ⟨⟨_,q,cJ (cs:=(iJ.cells (lU))) (by exact iO) A⟩,q,tV⟩ q ⟨(lU),4,q,M,Yj,Ok,(by rw[pK J H Ok (iT R) (iT L) (r9 O q Ok),if_pos Ok];rfl)⟩
 (have Ag:=dF K);refine sg K (aU q vk) (sg K ((aA q gB D q).to (b:=(.int .i64 G.kind)) q) (sg K (iY (a:=G.kind) (b:=7) q q) (st _ (bE q K q) (an q ?_))));refine bV q (fun o=>?_) (fun o=>?_)
 ·(have Af:=dT o);refine ns (st _ (bY (us:=[]) (cs:=(iJ.cells (lU))) [] wR vt q q trivial trivial q q) (aX (us:=(iJ.cells (lU))) q q (by exact iO) (by exact fun u P=>bn (iJ.one) u P) A (lB q) ?_));have C:=A;clear A;intro Ba E A;replace M:=M.step E (hI F);clear C;replace A:bO _ _ (iJ.cells (lU)) _:=A;refine ar q (bG (aV ?_));exact dB (vs:=[(.agg (iJ.cells (lU)).toArray),(.int .i64 ((4:Nat):Int))]) trivial q ⟨⟨_,q,cJ (cs:=(iJ.cells (lU))) (by exact iO) A⟩,q,tV⟩ q ⟨(lU),4,q,M,Yj,Ok,(by rw[pK J H Ok (iT R) (iT L) (r9 O q Ok),if_pos Ok];rfl)⟩
 (have Af:=dF o);refine ns (sf q aah (sl (u:=(.int .i64 G.flags)) q gB D q (st _ (eN (a:=G.flags) (b:=0) q q) (an q ?_))));refine bV q (fun r=>?_) (fun r=>?_)
 ·(have Ah:=dT r);refine ns (st _ (bY (us:=[]) (cs:=(iJ.cells (lU))) [] wR vt q q trivial trivial q q) (aX (us:=(iJ.cells (lU))) q q (by exact iO) (by exact fun u P=>bn (iJ.one) u P) A (lB q) ?_));have C:=A;clear A;intro Bb E A;replace M:=M.step E (hI F);clear C;replace A:bO _ _ (iJ.cells (lU)) _:=A;refine ar q (bG (aV ?_));exact dB (vs:=[(.agg (iJ.cells (lU)).toArray),(.int .i64 ((7:Nat):Int))]) trivial q ⟨⟨_,q,cJ (cs:=(iJ.cells (lU))) (by exact iO) A⟩,q,tV⟩ q ⟨(lU),7,q,M,Yj,Ok,(by rw[pK J H Ok (iT R) (iT L) (r9 O q Ok),if_neg Ok,if_pos Ok];rfl)⟩
 (have Ah:=dF r);refine ns (sf q mM (sl (u:=(.int .u64 G.size)) q bH D q (st _ (dV (a:=G.size) (b:=16) q q) (an q ?_))));refine bV q (fun v=>?_) (fun v=>?_)
 ·(have Ai:=dT v);refine ns (st _ (bY (us:=[]) (cs:=(iJ.cells (lU))) [] wR vt q q trivial trivial q q) (aX (us:=(iJ.cells (lU))) q q (by exact iO) (by exact fun u P=>bn (iJ.one) u P) A (lB q) ?_));have C:=A;clear A;intro Bc E A;replace M:=M.step E (hI F);clear C;replace A:bO _ _ (iJ.cells (lU)) _:=A;refine ar q (bG (aV ?_));exact dB (vs:=[(.agg (iJ.cells (lU)).toArray),(.int .i64 ((5:Nat):Int))]) trivial q ⟨⟨_,q,cJ (cs:=(iJ.cells (lU))) (by exact iO) A⟩,q,tV⟩ q ⟨(lU),5,q,M,Yj,Ok,(by rw[pK J H Ok (iT R) (iT L) (r9 O q Ok),if_neg Ok,if_neg Ok,if_pos Ok];rfl)⟩
 (have Ai:=dF v);refine ns (sf q mM (sl (u:=(.int .u64 G.size)) q bH D q (mv q (st _ (iY (a:=G.size) (b:=(b.length-p)) q q) (an q ?_)))));refine bV q (fun x=>?_) (fun x=>?_)
 ·(have Aj:=dT x);refine ns (st _ (bY (us:=[]) (cs:=(iJ.cells (lU))) [] wR vt q q trivial trivial q q) (aX (us:=(iJ.cells (lU))) q q (by exact iO) (by exact fun u P=>bn (iJ.one) u P) A (lB q) ?_));have C:=A;clear A;intro Bd E A;replace M:=M.step E (hI F);clear C;replace A:bO _ _ (iJ.cells (lU)) _:=A;refine ar q (bG (aV ?_));exact dB (vs:=[(.agg (iJ.cells (lU)).toArray),(.int .i64 ((2:Nat):Int))]) trivial q ⟨⟨_,q,cJ (cs:=(iJ.cells (lU))) (by exact iO) A⟩,q,tV⟩ q ⟨(lU),2,q,M,Yj,Ok,(by rw[pK J H Ok (iT R) (iT L) (r9 O q Ok),if_neg Ok,if_neg Ok,if_neg Ok,if_pos Ok];rfl)⟩
 (have Aj:=dF x);refine aY (bL (ai (ns (st _ (bX (iJ.cells G) q (by exact iO) D q) (aX (us:=(iJ.cells G)) q q (by exact iO) (by exact fun u P=>bn (iJ.one) u P) A (lB q) ?_)))));have C:=A;clear A;intro Be E A;replace M:=M.step E (hI F);clear C;replace A:bO _ _ (iJ.cells G) _:=A;refine ar q ?_;exact dB (vs:=[(.agg (iJ.cells G).toArray),(.int .i64 ((0:Nat):Int))]) trivial q ⟨⟨_,q,cJ (cs:=(iJ.cells G)) (by exact iO) A⟩,q,tV⟩ q ⟨G,0,q,M,(by exact⟨Ok,Ok,Ok⟩),Ok,(by rw[pK J H Ok (iT R) (iT L) (r9 O q Ok),if_neg Ok,if_neg Ok,if_neg Ok,if_neg Ok])⟩
theorem vO (uQ:Up w Q) {v0:Value} {b:Ly} (h0:Ls eD w Q v0 b) (p:Nat) (a1:p<18446744073709551616) (kind:Nat) (a2:kind<9223372036854775808) (ahead:Nat) (a3:ahead<9223372036854775808) (item:Nat) (a4:item<9223372036854775808) (p0:ahead≤1000) (p1:item≠0∧item≤1000) :
  Calls Zp 164 #[v0,(.int .u64 p),(.int .i64 kind),(.int .i64 ahead),(.int .i64 item)] w fun en w'=>∃u0:Value,∃r0:List UInt8,∃r1:Nat,en = .returned (.tuple #[u0,(.int .i64 r1)])∧Md [] w w'∧Ls eD w' Q u0 r0∧r1<9223372036854775808∧jY b p kind ahead item=(r0,r1):=by
 have o:=h0.dN;have M:=Md.refl [] w;have l:=uQ;have c:∀b,Q b→Q b:=fun _ h=>h;refine enter (n:=56) Tryz.func164 q q q fun B=>ns (cE q (an q (ns (m2 q q (aj adl q (CS uQ h0 p Ok) ?_)))));rintro en z ⟨A,N,rfl,L,I,f,J⟩;refine rv ?_;obtain⟨h0,uQ,M⟩:=k3 L h0 uQ M;refine mv q (se q q (se q q (bU wR ?_)));intro R w2 G X L D;obtain⟨j,g,i,O,Y⟩:=jh uQ G X L;replace c:=tT c i;replace G:=ly M.size G;replace h0:=(h0.sub g).o L;replace M:=M.k L;replace uQ:=Y;clear Y g i;have P:bM [] w R:=.inr G;replace D:bO _ _ (iJ.cells (lU)) _:=D;have e:iJ.ok (lU):=(by exact⟨Jk,Jk,Jk⟩);refine aX (us:=(iJ.cells A)) q q (by exact iO) (by exact fun u k=>bn (iJ.one) u k) D (lB q) ?_;have V:=D;clear D;intro w5 L D;have d:∀b∈[R],¬j b:=(hI O);replace h0:=h0.md L d;replace M:=M.step L (hI P);clear V d;replace D:bO _ _ (iJ.cells A) _:=D;refine an q (nm q (st _ (rA (a:=16) (b:=ahead) q q Ok) (st _ (dG (a:=16+ahead) 18446744073709551616 q (by rw[u3];rfl) kU q Ok) ?_)))
 refine an q (au (b9 (nm q (st _ (eN (a:=N) (b:=0) q q) (cE q (nt ?_))))));refine bV q (fun S=>?_) (fun S=>?_)
 ·(have E:=dT S);refine nm q (cE q (ar q (bG (aV ?_))));exact dB (vs:=[SN,(.int .i64 N)]) trivial q ⟨q,q,tV⟩ q ⟨_,[],N,q,M,(Ls.nil _ _ _),Yj,(by rw[jY]<;>simp(disch:=first|omega|assumption|simp) only [SS,reduceIte,J,E])⟩
 (have E:=dF S);refine ns (sf q vk (sl (u:=(.int .i64 A.kind)) q gB D q ?_));have v:A.kind<9223372036854775808:=I.1;refine mv q (st _ (eN (a:=A.kind) (b:=kind) q q) (an q ?_));refine bV q (fun T=>?_) (fun T=>?_)
 ·(have F:=dT T);refine ns (cE q (ar q (bG (aV ?_))));exact dB (vs:=[SN,(.int .i64 ((4:Nat):Int))]) trivial q ⟨q,q,tV⟩ q ⟨_,[],4,q,M,(Ls.nil _ _ _),Ok,(by rw[jY]<;>simp(disch:=first|omega|assumption|simp) only [SS,reduceIte,J,E,F])⟩
 (have F:=dF T);refine ns (sf q mM (sl (u:=(.int .u64 A.size)) q bH D q ?_));have x:A.size<18446744073709551616:=I.2.2;refine mv q (st _ (DF (a:=A.size) (b:=(16+ahead)) q q) (mv q ?_));refine cB (t:=38) q (fun C=>?_) (fun C=>?_)
 ·(have H:=dT C);refine sk C (sk C (sk C (sk C (sk C (sk C (sk C (sk C (st _ (bF q C q) (an q (fZ q q (ns (cE q ?_))))))))))));refine ar q (bG (aV ?_));exact dB (vs:=[SN,(.int .i64 ((5:Nat):Int))]) trivial q ⟨q,q,tV⟩ q ⟨_,[],5,q,M,(Ls.nil _ _ _),Ok,(by rw[jY]<;>simp(disch:=first|omega|assumption|simp) only [SS,reduceIte,J,E,F,H])⟩
 (have H:=dF C);refine sg C (aU q mM) (sg C ((aA q bH D q).to (b:=(.int .u64 A.size)) q) (sg C (bf q) (sg C (lO (a:=A.size) (b:=(16+ahead)) 18446744073709551616 q q q Ok) (sg C (bf q) (sg C (dG (a:=item) 18446744073709551616 q (by rw[u3];rfl) kU q Ok) (sg C (oE (a:=(A.size-(16+ahead))) (b:=item) q q Ok) ?_))))));have y:(A.size-(16+ahead))%item<item:=Nat.mod_lt _ Ok;refine sg C (eN (a:=((A.size-(16+ahead))%item)) (b:=0) q q) (st _ (bE q C q) (an q ?_));refine bV q (fun U=>?_) (fun U=>?_)
 ·(have K:=dT U);refine ns (cE q (ar q (bG (aV ?_))));exact dB (vs:=[SN,(.int .i64 ((5:Nat):Int))]) trivial q ⟨q,q,tV⟩ q ⟨_,[],5,q,M,(Ls.nil _ _ _),Ok,(by rw[jY]<;>simp(disch:=first|omega|assumption|simp) only [SS,reduceIte,J,E,F,H,K])⟩
 (have K:=dF U);refine aY (bL (ai (ns ?_)));have r:=oP J E;refine m2 q q (st _ (gE (a:=p) (b:=16) 18446744073709551616 q q q Ok) (mv q (sf q mM (sl (u:=(.int .u64 A.size)) q bH D q (st _ (gE (a:=p) (b:=A.size) 18446744073709551616 q q q Ok) (st _ (fe 1 (p+16) (p+A.size) fG mX q h0.cV Ok Ok ⟨_,q⟩ ⟨_,q⟩) ?_))))));have Z:=h0.part (p+16) (p+A.size) Ok Ok;refine cE q (ar q ?_);exact dB (vs:=[(jQ 1 v0 (p+16) (p+A.size)),(.int .i64 ((0:Nat):Int))]) trivial q ⟨q,q,tV⟩ q ⟨_,((b.take (p+A.size)).drop (p+16)),0,q,M,(Z.sub (fun b W _=>c b W)),Ok,(by rw[jY]<;>simp(disch:=first|omega|assumption|simp) only [SS,reduceIte,J,E,F,H,K])⟩
theorem yH (uQ:Up w Q) {v0:Value} {b:Ly} (h0:Ls eD w Q v0 b) (p0:b.length%8=0) (p1:b.length≤140737488355328) :
  Calls Zp 165 #[v0] w fun en w'=>∃u0:Value,∃r0:List Nat,en = .returned (u0)∧Md [] w w'∧Ls dw w' Q u0 r0∧gD b 0 (b.length/8)=r0:=by
 have u:=h0.dN;have M:=Md.refl [] w;have Z:=uQ;have J:∀b,Q b→Q b:=fun _ h=>h;have D:∀b,Q b→b<w.heap.size→Q b:=fun _ h _=>h;refine enter (n:=24) Tryz.func165 q q q fun B=>ns (an q (ns (cE q (nt (au (ns (cE q (nt (b9 ?_)))))))));refine jH (fun(K:Value) (l:List Nat) (i:Nat)=>[(3,K),(4,(.int .i64 i)),(0,v0)]) (fun(K:Value) (l:List Nat) (i:Nat) w'=>∃Q':Nat→Prop,(∀b,Q' b→Q b)∧(∀b,Q b→b<w.heap.size→Q' b)∧Up w' Q'∧Md [] w w'∧Ow dw 46 (bM [] w) w' Q' K l∧Ls eD w' Q' v0 b∧i%8=0∧i≤b.length∧l=gD b 0 (i/8)) (fun(K:Value) (l:List Nat) (i:Nat)=>b.length-i) (x0:=SN) (x1:=([]:List Nat)) (x2:=0) ?_ ?_ ?_
 ·exact⟨q,q,q,tV⟩
 ·exact⟨Q,J,D,uQ,M,(Ow.nil _ _ _ _ _),h0,Ok,Ok,q⟩
 clear M uQ J D h0
 rintro K l i B y ⟨p,J,D,uQ,M,A,h0,P,f,F⟩;refine au (ns (m2 q q (sL q fG h0.cV (st _ (dV (a:=i) (b:=b.length) q q) (nt ?_)))));refine bV q (fun H=>?_) (fun H=>?_)
 ·(have O:=dT H);refine aY (ai (au (b9 (ns (m2 q q (aj pI q (nS uQ h0 (((i:Nat):Int)) Ok (8) Ok) ?_))))));rintro en z ⟨G,o,rfl,C,j,V⟩;refine rv ?_;obtain⟨A,h0,uQ,M⟩:=k4 C A h0 uQ M;refine mv q (se q q (se q q (cE q (an q (ax ?_)))));have x:l.length=i/8:=(by rw[F,kr]);refine m2 q q (bg [[(.int .u64 G)]] jj iA Jk Jk q q ⟨q,tV⟩ ⟨q,tV⟩ q Jk ?_);intro c w4 N g C E;have U:=uQ _ N;obtain⟨A,h0,uQ,M⟩:=k4 C A h0 uQ M;replace E:=Ls.cK (m:=1) (R:=p) (T:=dw) (xs:=[G]) E ⟨_,_,q,⟨q,Ok⟩,q⟩ q Jk U;refine dZ (sz:=1) (by rfl) jj iA q q A E (fun _ h _=>h) uQ (bM.new M) Yk Yk ?_;intro t w7 r Y k S W C d _ X;have L:=A;clear A;replace J:=tT J k;replace D:=fun b I e=>Y b (D b I e) (lj e M.size);replace h0:=(h0.sub Y).md C d;replace uQ:=uQ.md C;replace M:=M.cP C (fun b I=>(L.2 b I).1);replace uQ:=S;clear S Y k d X;refine cE q (ak (bL (ai (ax (mv q (st _ (rA (a:=i) (b:=8) q q Ok) (an q ?_)))))));refine ic (x0:=t) (x1:=(l ++ ([G]))) (x2:=(i+8)) Ok ⟨q,(dA q Ok),q,tV⟩ ⟨r,J,D,uQ,M,W,h0,Ok,Ok,(JA F P Ok V)⟩
 (have O:=dF H);refine cw (bD (bD (cZ (ai (nm q (ar q ?_))))));exact cu (v:=K) trivial q ⟨q,tV⟩ ⟨_,l,q,M,(A.ls (fun b I=>J b I) (bM.up Z)),(by rw[F,show i=b.length by omega])⟩
theorem uF (uQ:Up w Q) {v0:Value} {b:Ly} (h0:Ls eD w Q v0 b) (p:Nat) (a1:p<18446744073709551616) (p0:b.length≤140737488355328) :
  Calls Zp 144 #[v0,(.int .u64 p)] w fun en w'=>∃u0_0:Value,∃r0:iq,∃r1:Nat,en = .returned (.tuple #[.agg (iq.cells r0 u0_0).toArray,(.int .i64 r1)])∧Md [] w w'∧iq.ok r0∧Ls dw w' Q u0_0 r0.bJ∧r1<9223372036854775808∧k9 b p=(r0,r1):=by
 have L0:=h0.dN;have M:=Md.refl [] w;have Ae:=uQ;have k:∀b,Q b→Q b:=fun _ h=>h;refine enter (n:=27) Tryz.func144 q q q fun B=>ns (bU NZ ?_);intro X w1 O j F A;obtain⟨Q2,x,y,V,c⟩:=jh uQ O j F;replace k:=tT k y;replace O:=ly M.size O;replace h0:=(h0.sub x).o F;replace M:=M.k F;replace uQ:=c;clear c x y;have L:bM [] w X:=.inr O;replace A:bO _ _ (iq.cells (({next:=0,bJ:=[]}:iq)) SN) _:=A;have t:iq.ok (({next:=0,bJ:=[]}:iq)):=(by exact(by exact(show(({next:=0,bJ:=[]}:iq)).next<18446744073709551616 from Yk)));refine an q (ns (m2 q q (aj XR q (vO uQ h0 p Ok 6 Ok 8 Ok 8 Ok Ok Ok) ?_)));rintro en w4 ⟨z,Aa,N,rfl,F,Y,v,U⟩;refine rv ?_;obtain⟨A,uQ,M⟩:=k3 F A uQ M;refine mv q (se q q (se q q (cE q (an q (au (nm q (st _ (eN (a:=N) (b:=0) q q) (nt ?_))))))));refine bV q (fun S=>?_) (fun S=>?_)
 ·(have G:=dT S);refine ns (st _ (bY (us:=[]) (cs:=(iq.cells (({next:=0,bJ:=[]}:iq)) SN)) [] NZ ady q q trivial trivial q q) (mv q (aX (us:=(iq.cells (({next:=0,bJ:=[]}:iq)) SN)) q q (by exact mZ) (by exact fun u g=>bn (iq.one q) u g) A (lB q) ?_)));have J:=A;clear A;intro w5 F A;replace M:=M.step F (hI L);clear J;replace A:bO _ _ (iq.cells (({next:=0,bJ:=[]}:iq)) SN) _:=A;refine ar q (aV ?_);exact dB (vs:=[(.agg (iq.cells (({next:=0,bJ:=[]}:iq)) SN).toArray),(.int .i64 N)]) trivial q ⟨⟨_,q,cJ (cs:=(iq.cells (({next:=0,bJ:=[]}:iq)) SN)) (by exact mZ) A⟩,q,tV⟩ q ⟨_,(({next:=0,bJ:=[]}:iq)),N,q,M,Yj,(Ls.nil _ _ _),Yj,(Nq U G)⟩
 (have G:=dF S);refine aY (ai (ns ?_));have bo:=rB U (Classical.not_not.1 G);refine mv q (aj XT q (yH uQ Y Ok Ok) ?_);rintro en w6 ⟨E,C,rfl,F,H,d⟩;refine rv ?_;obtain⟨A,M⟩:=k2 F A M;refine an q (au ?_);have ra:=Nr U G d;have I:=H;refine cT (ml 5) [5,6,7] (fun w'=>Md [] w6 w') mixed Yz ?_;intro w7 K;refine⟨K.mono Oj,?_⟩;have MC:=K.mono (T:=[]) Oj;refine mo q (mz (fun w' e=>bB (i:=0) 1 q q jj ew H.cV Ok) ?_);obtain⟨R,Z⟩:=dQ (l:=C) (i:=0) Ok;obtain⟨c9,f,P⟩:=I.get Z;obtain⟨rfl,r⟩:=f;replace P:At _ E (0*1) [(.int .u64 R)]:=P;refine mz (fun w' e=>(cg (kk:=0*1) 0 q q bH (P.o e) q).to (b:=(.int .u64 R)) q) (mo q (mz (fun w' e=>fe 1 1 C.length jj ew q H.cV Ok Ok ⟨_,q⟩ q) ?_));have D:=H.tail (lo:=1) Ok;refine d9 ?_;obtain⟨A,D,M⟩:=k3 K A D M;clear I;clear MC;refine st _ (bY (us:=[[(.int .u64 R)],[(jQ 1 E 1 C.length)]]) (cs:=(iq.cells (({next:=R,bJ:=C.drop 1}:iq)) (jQ 1 E 1 C.length))) [(0,0,1),(1,1,1)] NZ ady q q ⟨q,(dY D.bN),tV⟩ ⟨q,q,tV⟩ q q) (aX (us:=(iq.cells (({next:=R,bJ:=C.drop 1}:iq)) (jQ 1 E 1 C.length))) q q (by exact mZ) (by exact fun u g=>bn (iq.one D.bN) u g) A (lB q) ?_)
 have J:=A;clear A;intro Af F A;have o:∀b∈[X],¬Q2 b:=(hI V);replace D:=D.md F o;replace M:=M.step F (hI L);clear J o;replace A:bO _ _ (iq.cells (({next:=R,bJ:=C.drop 1}:iq)) (jQ 1 E 1 C.length)) _:=A;refine cE q (ak ?_);clear P;refine ai (gW ?_);exact dB (vs:=[(.agg (iq.cells (({next:=R,bJ:=C.drop 1}:iq)) (jQ 1 E 1 C.length)).toArray),(.int .i64 ((0:Nat):Int))]) trivial q ⟨⟨_,q,cJ (cs:=(iq.cells (({next:=R,bJ:=C.drop 1}:iq)) (jQ 1 E 1 C.length))) (by exact mZ) A⟩,q,tV⟩ q ⟨_,(({next:=R,bJ:=C.drop 1}:iq)),0,q,M,Yj,(D.sub (fun b W _=>k b W)),Ok,(by rw[ra.2.2,List.getD_eq_getElem?_getD,Z];rfl)⟩
theorem XP:cM Zp 105=true:=Yz
theorem rP:zw Zp 234=true:=Yz
theorem o8:bh Zp 135 0=some 0:=Yz
theorem mL:bh Zp 135 1=some 1:=Yz
theorem zN:fw Zp 234=some [(0,1)]:=Yz
theorem z234:ea Zp 234=some [.int .i64 0]:=Yz
theorem AK (uQ:Up w Q) {v0:Value} {v:dH} (h0:Pt dR 135 w Q v0 v) :
  Calls Zp 105 #[v0] w fun en w'=>∃r0:Nat,en = .returned (.int .u64 r0)∧Md [] w w'∧r0<18446744073709551616∧v.b.length=r0:=by
 obtain⟨D,E,rfl,C,h0,po⟩:=h0;obtain⟨G,rfl,I,A⟩:=e6 po;have M:=Md.refl [] w;have F:=uQ;refine enter (n:=9) Tryz.func105 q q q fun B=>ns (an q (nm q (sn q (sf q o8 (sl (u:=G) q fC h0 q ?_)))));have H:=A.dN;refine sL q fG A.cV (st _ (dG (a:=v.b.length) 18446744073709551616 q (by rw[u3];rfl) kU q Ok) (ar q ?_));exact cu (v:=(.int .u64 v.b.length)) trivial q ⟨q,tV⟩ ⟨v.b.length,q,M,Ok,q⟩
theorem pz (uQ:Up w Q) {v0:Value} {v:dH} (h0:Pt dR 135 w Q v0 v) (p:Nat) (a1:p<18446744073709551616) :
  Calls Zp 143 #[v0,(.int .u64 p)] w fun en w'=>(en = .returned (.tuple #[])∧Md [] w w'∧pC (v.h.n.getD 0 0) v.b p=0)∨∃cp:Nat,en = .panicked (FJ (.iface 234 (.agg #[.int .i64 cp])))∧(cp≠0∧cp<9223372036854775808)∧Md [] w w'∧pC (v.h.n.getD 0 0) v.b p=cp:=by
 obtain⟨K,L,rfl,F,h0,po⟩:=h0;obtain⟨S,rfl,I,H⟩:=e6 po;have M:=Md.refl [] w;have P:=uQ;refine enter (n:=19) Tryz.func143 q q q fun B=>ns (m2 q q (sn q (sf q mL (sf q mK (sl (u:=(.int .u64 ((v.h.n.getD 0 0:Nat):Int))) q bH h0 q ?_)))));have R:v.h.n.getD 0 0<18446744073709551616:=(fJ I.2.2.2.2.2.2.2.1 0);refine st _ (dV (a:=p) (b:=(v.h.n.getD 0 0)) q q) (mv q ?_);refine cB (t:=11) q (fun A=>?_) (fun A=>?_)
 ·(have D:=dT A);refine sk A (sk A (sk A (sk A (st _ (bF q A q) (nt (fZ q q (ax (st _ (bY (us:=[[(.int .i64 ((2:Nat):Int))]]) (cs:=(Stop.cells (({code:=2}:Stop)))) [(0,0,1)] z234 zN q q ⟨q,tV⟩ ⟨q,tV⟩ q q) (st _ (me rP q) (oI q ?_))))))))));exact gq (Or.inr ⟨2,q,⟨by omega,by omega⟩,M,(by unfold pC;rw[if_pos Ok])⟩)
 (have D:=dF A);refine sg A (bf q) (sg A (bf q) (gH q q q A XP q (AK uQ ⟨_,_,q,F,h0,d8 I H⟩) ?_));rintro en T ⟨G,rfl,O,J,N⟩;refine rv ?_;replace M:=M.k O;refine sg A (DC (a:=p) (b:=G) q q) (st _ (bE q A q) (nt ?_));refine bV q (fun C=>?_) (fun C=>?_)
 ·(have E:=dT C);refine ax (st _ (bY (us:=[[(.int .i64 ((2:Nat):Int))]]) (cs:=(Stop.cells (({code:=2}:Stop)))) [(0,0,1)] z234 zN q q ⟨q,tV⟩ ⟨q,tV⟩ q q) (st _ (me rP q) (oI q ?_)));exact gq (Or.inr ⟨2,q,⟨by omega,by omega⟩,M,(by unfold pC;rw[if_pos Ok])⟩)
 (have E:=dF C);refine aY ?_;exact dB (vs:=[]) trivial q trivial q (Or.inl ⟨q,M,(by unfold pC;rw[if_neg Ok])⟩)
theorem qj (uQ:Up w Q) (c:Nat) (a0:c<9223372036854775808) :
  Calls Zp 145 #[(.int .i64 c)] w fun en w'=>(en = .returned (.tuple #[])∧Md [] w w'∧c=0)∨∃cp:Nat,en = .panicked (FJ (.iface 234 (.agg #[.int .i64 cp])))∧(cp≠0∧cp<9223372036854775808)∧Md [] w w'∧c=cp:=by
 have M:=Md.refl [] w;have D:=uQ;refine enter (n:=7) Tryz.func145 q q q fun B=>nm q (st _ (eN (a:=c) (b:=0) q q) (nt ?_));refine bV q (fun A=>?_) (fun A=>?_)
 ·(have C:=dT A);refine ax (mv q (st _ (bY (us:=[[(.int .i64 c)]]) (cs:=(Stop.cells (({code:=c}:Stop)))) [(0,0,1)] z234 zN q q ⟨q,tV⟩ ⟨q,tV⟩ q q) (st _ (me rP q) (oI q ?_))));exact gq (Or.inr ⟨c,q,⟨by omega,by omega⟩,M,q⟩)
 (have C:=dF A);refine aY ?_;exact dB (vs:=[]) trivial q trivial q (Or.inl ⟨q,M,Ok⟩)
theorem MX (uQ:Up w Q) {v0:Value} {l:Ly} (h0:Ls eD w Q v0 l) (p0:l.length≤4611686018427387904) :
  Calls Zp 68 #[v0] w fun en w'=>∃r0:Pr,∃r1:Nat,en = .returned (.tuple #[.agg (Pr.cells r0).toArray,(.int .i64 r1)])∧Md [] w w'∧r1<9223372036854775808∧iQ l=(r0,r1):=by
 refine(NH _ l w h0.by p0).mono fun en w' ⟨he,hm⟩=>⟨(iQ l).1,(iQ l).2,?_,hm,DV l,q⟩;rw[he,AF l]
 rfl
theorem jm:fA Zp 32 1=true:=Yz
theorem OJ:uH Zp 81 1 24=true:=Yz
theorem ahz:cM Zp 68=true:=Yz
theorem ah0:cM Zp 69=true:=Yz
theorem nK:bh Zp 32 0=some 0:=Yz
theorem vq:gZ Zp 30=true:=Yz
theorem JM:fw Zp 32=some [(0,1)]:=Yz
theorem VH:Zp.underlying 30=some (.slice 81):=Yz
theorem z32:ea Zp 32=some [.slice none 0 0]:=Yz
set_option maxHeartbeats 16000000 in
abbrev oL:Pr:={name:=[],value:=[]}
theorem zQ (uQ:Up w Q) {v0:Value} {l:List (List UInt8)} (h0:Ls ij w Q v0 l) (p0:∀s∈l,s.length≤1000000) :
  Calls Zp 29 #[v0] w fun en w'=>∃u0_0:Value,∃r0:eT,∃r1:Nat,en = .returned (.tuple #[.agg (eT.cells r0 u0_0).toArray,(.int .i64 r1)])∧Md [] w w'∧Ls (ql jK) w' Q u0_0 r0.rows∧r1<9223372036854775808∧tG l=(r0,r1):=by
 have L0:=h0.dN;have M:=Md.refl [] w;have Bx:=uQ;have tQ:∀b,Q b→Q b:=fun _ h=>h;have Y:∀b,Q b→b<w.heap.size→Q b:=fun _ h _=>h;refine enter (n:=74) Tryz.func29 q q q fun B=>ns (bU z32 ?_);intro Ao w1 Bb B8 D C;obtain⟨Q2,sQ,z,I,X⟩:=jh uQ Bb B8 D;replace tQ:=tT tQ z;replace Y:=fun b K hl=>sQ b (Y b K hl) (lj hl M.size);replace Bb:=ly M.size Bb;replace h0:=(h0.sub sQ).o D;replace M:=M.k D;replace uQ:=X;clear X sQ z;have V:bM [] w Ao:=.inr Bb;replace C:bO _ _ (eT.cells (({rows:=[]}:eT)) SN) _:=C;refine an q (au (nm q (sL q iv h0.cV (st _ (iY (a:=l.length) (b:=32) q q) (nt ?_)))));refine bV q (fun Ad=>?_) (fun Ad=>?_)
 ·(first|(have c:=dT Ad)|(have c:=dF (eM Ad))|(have c:=eM Ad)|(have c:=Ad));refine ns (st _ (bY (us:=[]) (cs:=(eT.cells (({rows:=[]}:eT)) SN)) [] z32 JM q q trivial trivial q q) (aX (us:=(eT.cells (({rows:=[]}:eT)) SN)) q q (by exact jm) (by first|exact fun u U=>bn (eT.one q) u U|exact fun u U=>bn q u U) C (lB q) ?_));have N:=C;clear C;intro w3 D C;replace M:=M.step D (hI V);clear N;replace C:bO _ _ (eT.cells (({rows:=[]}:eT)) SN) _:=C;refine ar q (aV ?_);exact dB (vs:=[(.agg (eT.cells (({rows:=[]}:eT)) SN).toArray),(.int .i64 ((21:Nat):Int))]) trivial q ⟨⟨_,q,cJ (cs:=(eT.cells (({rows:=[]}:eT)) SN)) (by exact jm) C⟩,q,tV⟩ q ⟨_,(({rows:=[]}:eT)),21,q,M,(Ls.nil _ _ _),Ym,(by unfold tG;rw[if_pos Ok])⟩
 (first|(have c:=dF Ad)|(have c:=dT (eL Ad))|(have c:=eL Ad)|(have c:=Ad));refine aY (ai (ns (bU z32 ?_)));intro Ap w4 Bc B9 D E;have B4:Ao≠Ap:=(by have:=C.lt;omega);obtain⟨Q5,sQ,z,J,X⟩:=jh uQ Bc B9 D;replace I:=nQ I z;replace tQ:=tT tQ z;replace Y:=fun b K hl=>sQ b (Y b K hl) (lj hl M.size);replace Bc:=ly M.size Bc;replace h0:=(h0.sub sQ).o D;obtain⟨C,M⟩:=k2 D C M;replace uQ:=X;clear X sQ z;have A9:bM [] w Ap:=.inr Bc;replace E:bO _ _ (eT.cells (({rows:=[]}:eT)) SN) _:=E;refine nt (ns (an q (au (ns (cE q (nt (b9 ?_)))))));obtain⟨r0,A7⟩:∃r,jP l l 0 [] []=r:=⟨_,q⟩;have k:=A7
 try simp only[List.nil_append]at A7
 refine PD (fun(x:eT) (F:Value) (o:Value) (S:List fR) (i:Nat)=>[(5,o),(6,(.int .i64 i)),(0,v0),(2,(.pointer (some ⟨Ao,0,none⟩))),(4,(.pointer (some ⟨Ap,0,none⟩)))]) (fun(x:eT) (F:Value) (o:Value) (S:List fR) (i:Nat) w'=>∃Q':Nat→Prop,(∀b,Q' b→Q b)∧(∀b,Q b→b<w.heap.size→Q' b)∧Up w' Q'∧Md [] w w'∧bO w' Ap (eT.cells x F) 32∧Ow (ql jK) 81 (bM [] w) w' Q' F x.rows∧Ls jK w' Q' o S∧Ls ij w' Q' v0 l∧bO w' Ao (eT.cells (({rows:=[]}:eT)) SN) 32∧¬Q' Ap∧¬Q' Ao∧(x.rows.length≤i∧S.length≤i∧i≤l.length)∧(∀a∈S,a.values.length≤i)∧jP l (l.drop i) i x.rows S=r0) (fun(x:eT) (F:Value) (o:Value) (S:List fR) (i:Nat)=>l.length-i) (x0:=(({rows:=[]}:eT))) (x1:=SN) (x2:=SN) (x3:=([]:List fR)) (x4:=0) ?_ ?_ ?_
 ·exact⟨q,q,q,q,q,tV⟩
 ·exact⟨Q5,tQ,Y,uQ,M,E,(by first|exact Ow.nil _ _ _ _ _|(simp only[];exact Ow.nil _ _ _ _ _)),(Ls.nil _ _ _),h0,C,J,I,⟨by simp,by simp,Nat.zero_le _⟩,Oj,(by have hh:=A7;first|exact hh|exact k|(simp only[List.nil_append]at hh;exact hh))⟩
 clear M uQ tQ Y I J h0 C E
 rintro x F o S i B w6 ⟨Q7,tQ,Y,uQ,M,E,A,G,h0,C,J,I,Ce,Bg,Aa⟩;refine au (ns (m2 q q (sL q iv h0.cV (st _ (dV (a:=i) (b:=l.length) q q) (nt ?_)))));refine bV q (fun Ae=>?_) (fun Ae=>?_)
 ·(first|(have W:=dT Ae)|(have W:=dF (eM Ae))|(have W:=eM Ae)|(have W:=Ae));refine aY (ai (au (b9 (au (ns (m2 q q (st _ (bB (i:=i) 1 q q iv EO h0.cV Ok) ?_)))))));obtain⟨x8,Ak⟩:=dQ (l:=l) (i:=i) Yh;obtain⟨c9,B7,Be⟩:=h0.get Ak;obtain⟨rfl,_⟩:=B7;replace Be:At _ v0 (i*1) [(str x8)]:=Be;refine st _ ((cg (kk:=i*1) 0 q q jO Be q).to (b:=(str x8)) q) (st _ (qH (a:=x8) (b:=(([43]:Ly))) q q) (ak ?_));clear Be;refine ai ?_;refine bV q (fun Af=>?_) (fun Af=>?_)
  ·(first|(have P:=dT Af)|(have P:=dF (eM Af))|(have P:=eM Af)|(have P:=Af));refine au (nm q (st _ (ir (a:=i) (b:=0) q q) (mv q ?_)));refine cB (t:=26) q (fun O=>?_) (fun O=>?_)
   ·(first|(have d:=dT O)|(have d:=dF (eM O))|(have d:=eM O)|(have d:=O));refine sk O (sk O (sk O (sk O (sk O (st _ (bF q O q) (mv q (sk q (sk q (sk q (sk q (sk q (sk q (st _ (bF q q q) ?_)))))))))))));refine nt (fZ q q (ns (st _ (bY (us:=[]) (cs:=(eT.cells (({rows:=[]}:eT)) SN)) [] z32 JM q q trivial trivial q q) (aX (us:=(eT.cells (({rows:=[]}:eT)) SN)) q q (by exact jm) (by first|exact fun u U=>bn (eT.one q) u U|exact fun u U=>bn q u U) C (lB q) ?_))));have N:=C;clear C;intro Cm D C;replace M:=M.step D (hI V);clear N;replace C:bO _ _ (eT.cells (({rows:=[]}:eT)) SN) _:=C;refine ar q (aV (aV (bG (aV (aV (bG (aV ?_)))))));exact dB (vs:=[(.agg (eT.cells (({rows:=[]}:eT)) SN).toArray),(.int .i64 ((20:Nat):Int))]) trivial q ⟨⟨_,q,cJ (cs:=(eT.cells (({rows:=[]}:eT)) SN)) (by exact jm) C⟩,q,tV⟩ q ⟨_,(({rows:=[]}:eT)),20,q,M,(Ls.nil _ _ _),Ym,(by unfold tG;rw[if_neg Ok];exact k.trans (Aa.symm.trans (zR Ak P (.inl Ok))))⟩
   (first|(have d:=dF O)|(have d:=dT (eL O))|(have d:=eL O)|(have d:=O));refine sg O (bf q) (sg O (bf q) (sg O (iu q iv h0.cV) (sg O (jx (a:=((l.length:Nat):Int)) (b:=1) q q Ok) (sg O (kJ (a:=((i:Nat):Int)) (b:=((l.length:Nat):Int)-1) q q) (st _ (bE q O q) (mv q ?_))))));refine cB (t:=33) q (fun L=>?_) (fun L=>?_)
   ·(first|(have e:=dT L)|(have e:=dF (eM L))|(have e:=eM L)|(have e:=L));refine sk L (sk L (sk L (sk L (sk L (sk L (st _ (bF q L q) (nt (fZ q q (ns (st _ (bY (us:=[]) (cs:=(eT.cells (({rows:=[]}:eT)) SN)) [] z32 JM q q trivial trivial q q) (aX (us:=(eT.cells (({rows:=[]}:eT)) SN)) q q (by exact jm) (by first|exact fun u U=>bn (eT.one q) u U|exact fun u U=>bn q u U) C (lB q) ?_)))))))))));have N:=C;clear C;intro Cn D C;replace M:=M.step D (hI V);clear N;replace C:bO _ _ (eT.cells (({rows:=[]}:eT)) SN) _:=C;refine ar q (aV (aV (bG (aV (aV (bG (aV ?_)))))));exact dB (vs:=[(.agg (eT.cells (({rows:=[]}:eT)) SN).toArray),(.int .i64 ((20:Nat):Int))]) trivial q ⟨⟨_,q,cJ (cs:=(eT.cells (({rows:=[]}:eT)) SN)) (by exact jm) C⟩,q,tV⟩ q ⟨_,(({rows:=[]}:eT)),20,q,M,(Ls.nil _ _ _),Ym,(by unfold tG;rw[if_neg Ok];exact k.trans (Aa.symm.trans (zR Ak P (.inr (.inl Ok)))))⟩
   (first|(have e:=dF L)|(have e:=dT (eL L))|(have e:=eL L)|(have e:=L));refine sg L (bf q) (sg L (bf q) (sg L (jx (a:=((i:Nat):Int)) (b:=1) q q Ok) (sg L (rY (i:=((i:Nat):Int)-1) 1 q q iv EO h0.cV Ok) ?_)));obtain⟨Bn,A8⟩:=dQ (l:=l) (i:=(((i:Nat):Int)-1).toNat) Yh;obtain⟨Ci,Bv,Aw⟩:=h0.get A8;obtain⟨rfl,_⟩:=Bv;replace Aw:At _ v0 (((((i:Nat):Int)-1).toNat)*1) [(str Bn)]:=Aw;refine sg L ((cg (kk:=((((i:Nat):Int)-1).toNat)*1) 0 q q jO Aw q).to (b:=(str Bn)) q) (sg L (qH (a:=Bn) (b:=(([43]:Ly))) q q) (st _ (bE q L q) (ak ?_)));clear Aw;refine ai ?_;refine bV q (fun Ag=>?_) (fun Ag=>?_)
   ·(first|(have f:=dT Ag)|(have f:=dF (eM Ag))|(have f:=eM Ag)|(have f:=Ag));refine ns (st _ (bY (us:=[]) (cs:=(eT.cells (({rows:=[]}:eT)) SN)) [] z32 JM q q trivial trivial q q) (aX (us:=(eT.cells (({rows:=[]}:eT)) SN)) q q (by exact jm) (by first|exact fun u U=>bn (eT.one q) u U|exact fun u U=>bn q u U) C (lB q) ?_));have N:=C;clear C;intro Co D C;replace M:=M.step D (hI V);clear N;replace C:bO _ _ (eT.cells (({rows:=[]}:eT)) SN) _:=C;refine ar q (aV (aV (bG (aV (aV (bG (aV ?_)))))));exact dB (vs:=[(.agg (eT.cells (({rows:=[]}:eT)) SN).toArray),(.int .i64 ((20:Nat):Int))]) trivial q ⟨⟨_,q,cJ (cs:=(eT.cells (({rows:=[]}:eT)) SN)) (by exact jm) C⟩,q,tV⟩ q ⟨_,(({rows:=[]}:eT)),20,q,M,(Ls.nil _ _ _),Ym,(by unfold tG;rw[if_neg Ok];exact k.trans (Aa.symm.trans (zR Ak P (.inr (.inr (by rw[KR (show l[i-1]? = some _ from by have h:=A8;rwa [show((i:Int)-1).toNat=i-1 by omega]at h)];simp_all))))))⟩
   (first|(have f:=dF Ag)|(have f:=dT (eL Ag))|(have f:=eL Ag)|(have f:=Ag));refine aY (ai (ns (sf q nK (sl (u:=F) q vq E q (mv q (bg [[o]] VH OJ Jk Jk q q ⟨(dY G.bN),tV⟩ ⟨q,tV⟩ q Jk ?_))))));intro Cc Cp Bt Cf D A4;have B1:=uQ _ Bt;obtain⟨A,E,G,h0,C,uQ,M⟩:=k7 D A E G h0 C uQ M;replace A4:=Ls.cK (m:=1) (R:=Q7) (T:=(ql jK)) (xs:=[S]) A4 ⟨_,_,q,⟨_,q,G⟩,q⟩ q Jk B1;refine dZ (sz:=1) (by rfl) VH OJ q q A A4 (fun _ h _=>h) uQ (bM.new M) Zw Zw ?_;intro Bz Cq Bq sQ z X Ab D v _ Bi;have H:=A;clear A;replace J:=nQ J z;replace I:=nQ I z;replace tQ:=tT tQ z;replace Y:=fun b K hl=>sQ b (Y b K hl) (lj hl M.size);replace E:=E.md D (aW H E);replace h0:=(h0.sub sQ).md D v;replace C:=C.md D (aW H C);replace uQ:=uQ.md D;replace M:=M.cP D (fun b K=>(H.2 b K).1);replace uQ:=X;clear X sQ z v Bi;refine sf q nK (bI q q vq Ab.bN E (lB q) ?_);have Aq:=E;clear E;intro Cr D E;have v:∀b∈[Ap],¬Bq b:=(hI J);replace h0:=h0.md D v;replace C:=C.md D Vk;replace Ab:=Ab.md D (aB Aq Ab) v;replace uQ:=uQ.md D;replace M:=M.step D (hI A9);clear Aq v;obtain⟨Bl,Av⟩:∃y,y=({x with rows:=x.rows ++ ([S])}:eT):=⟨_,q⟩
   replace E:bO _ _ (eT.cells ({x with rows:=x.rows ++ ([S])}) Bz) _:=E;rw[← Av]at E;rw[show x.rows ++ ([S])=Bl.rows by rw[Av]]at Ab;refine nt (ns (an q (cw (bD (cZ (ai (ax (mv q (st _ (rA (a:=i) (b:=1) q q Ok) (cE q (nt ?_)))))))))));refine IY (x0:=Bl) (x1:=Bz) (x2:=SN) (x3:=([])) (x4:=(i+1)) Ok ⟨q,(dA q Ok),q,q,q,tV⟩ ⟨Bq,tQ,Y,uQ,M,E,Ab,(Ls.nil _ _ _),h0,C,J,I,⟨by rw[Av];simp;omega,by simp,by omega⟩,Oj,(by rw[TX Ak P (by rintro(h|h|h)<;>first|omega|(rw[KR (show l[i-1]? = some _ from by have h:=A8;rwa [show((i:Int)-1).toNat=i-1 by omega]at h)]at h;simp_all))]at Aa;rw[show Bl.rows=x.rows ++ [S]by rw[Av]];exact Aa)⟩
  (first|(have P:=dF Af)|(have P:=dT (eL Af))|(have P:=eL Af)|(have P:=Af));refine aY (ai (ns (m2 q q (st _ (bB (i:=i) 1 q q iv EO h0.cV Ok) ?_))));obtain⟨Cj,Bw,Ax⟩:=h0.get Ak;obtain⟨rfl,_⟩:=Bw;replace Ax:At _ v0 (i*1) [(str x8)]:=Ax;refine st _ ((cg (kk:=i*1) 0 q q jO Ax q).to (b:=(str x8)) q) ?_;have Cl:=p0 _ (List.mem_of_getElem? Ak);refine kD (s:=x8) u9 fG u5 q (by simp[maxLen];omega) ?_;intro B0 Cs D A5 A2;replace A5:=Ls.of_by (Q:=Q7) A5 (fun b K _=>uQ b (A2 b K).1);replace A2:∀b,ah B0=some b→w.heap.size≤b:=fun b K=>ly M.size (A2 b K).1;obtain⟨A,E,G,h0,C,uQ,M⟩:=k7 D A E G h0 C uQ M;refine aj ahz q (MX uQ A5 Ok) ?_;rintro en Ct ⟨p,Am,rfl,D,Cb,Bf⟩;refine rv ?_;obtain⟨A,E,G,h0,C,uQ,M⟩:=k7 D A E G h0 C uQ M;refine mv q (se q q (se q q (bU z61 ?_)));intro Ba Cu Bd Ca D Aj;have B6:Ap≠Ba:=(by have:=E.lt;omega);have B5:Ao≠Ba:=(by have:=C.lt;omega);obtain⟨Br,sQ,z,Bj,X⟩:=jh uQ Bd Ca D;replace J:=nQ J z;replace I:=nQ I z;replace tQ:=tT tQ z;replace Y:=fun b K hl=>sQ b (Y b K hl) (lj hl M.size);replace Bd:=ly M.size Bd;replace A:=(A.sub sQ z).o D;replace E:=E.o D;replace G:=(G.sub sQ).o D;replace h0:=(h0.sub sQ).o D;obtain⟨C,M⟩:=k2 D C M;replace uQ:=X;clear X sQ z;have Bk:bM [] w Ba:=.inr Bd
  replace Aj:bO _ _ (Pr.cells (oL)) _:=Aj;refine aX (us:=(Pr.cells p)) q q (by exact fp) (by first|exact fun u U=>bn (Pr.one) u U|exact fun u U=>bn q u U) Aj (lB q) ?_;have Ac:=Aj;clear Aj;intro Cv D Aj;have v:∀b∈[Ba],¬Br b:=(hI Bj);replace A:=A.md D (aB Ac A) v;replace E:=E.md D Vk;replace G:=G.md D v;replace h0:=h0.md D v;replace C:=C.md D Vk;clear Ax;replace uQ:=uQ.md D;replace M:=M.step D (hI Bk);clear Ac v;replace Aj:bO _ _ (Pr.cells p) _:=Aj;refine an q (au (nm q (st _ (eN (a:=Am) (b:=0) q q) (nt ?_))));refine bV q (fun Ah=>?_) (fun Ah=>?_)
  ·(first|(have Z:=dT Ah)|(have Z:=dF (eM Ah))|(have Z:=eM Ah)|(have Z:=Ah));refine ns (st _ (bY (us:=[]) (cs:=(eT.cells (({rows:=[]}:eT)) SN)) [] z32 JM q q trivial trivial q q) (mv q (aX (us:=(eT.cells (({rows:=[]}:eT)) SN)) q q (by exact jm) (by first|exact fun u U=>bn (eT.one q) u U|exact fun u U=>bn q u U) C (lB q) ?_)));have N:=C;clear C;intro Cw D C;replace M:=M.step D (hI V);clear N;replace C:bO _ _ (eT.cells (({rows:=[]}:eT)) SN) _:=C;refine ar q (aV (bG (aV (aV (bG (aV ?_))))));exact dB (vs:=[(.agg (eT.cells (({rows:=[]}:eT)) SN).toArray),(.int .i64 Am)]) trivial q ⟨⟨_,q,cJ (cs:=(eT.cells (({rows:=[]}:eT)) SN)) (by exact jm) C⟩,q,tV⟩ q ⟨_,(({rows:=[]}:eT)),Am,q,M,(Ls.nil _ _ _),Ym,(by unfold tG;rw[if_neg Ok];exact k.trans (Aa.symm.trans (aax Ak P Bf Z)))⟩
  (first|(have Z:=dF Ah)|(have Z:=dT (eL Ah))|(have Z:=eL Ah)|(have Z:=Ah));refine aY (ai (ax (mv q (st _ (bX (Pr.cells p) q (by exact fp) Aj q) (aj ah0 q (JV uQ G p Ok (by intro a ha;have:=Bg a ha;omega)) ?_)))));rintro en Cx ⟨Bm,Bo,rfl,D,Bh,A3⟩;refine rv ?_;obtain⟨A,E,h0,C,uQ,M⟩:=k6 D A E h0 C uQ M;refine cE q (ak (bL (ai (ax (mv q (st _ (rA (a:=i) (b:=1) q q Ok) (an q ?_)))))));refine IY (x0:=x) (x1:=F) (x2:=Bm) (x3:=Bo) (x4:=(i+1)) Ok ⟨q,(dA q Ok),q,q,q,tV⟩ ⟨Br,tQ,Y,uQ,M,E,A,Bh,h0,C,J,I,⟨by omega,by rw[← A3];have:=tL p false S;simp only[Bool.false_eq_true,if_false]at this;omega,by omega⟩,(by rw[← A3];exact r6 _ _ _ Bg),(by rw[TY Ak P (by rw[Bf,show Am=0 by omega])]at Aa;rw[← Aa,A3])⟩
 (first|(have W:=dF Ae)|(have W:=dT (eL Ae))|(have W:=eL Ae)|(have W:=Ae));refine cw (bD (bD (cZ (ai (au (nm q (sL q iv h0.cV (st _ (iY (a:=l.length) (b:=0) q q) (nt ?_)))))))));refine bV q (fun Ai=>?_) (fun Ai=>?_)
 ·(first|(have g:=dT Ai)|(have g:=dF (eM Ai))|(have g:=eM Ai)|(have g:=Ai));refine ax (sf q nK (sl (u:=F) q vq E q (mv q (bg [[o]] VH OJ Jk Jk q q ⟨(dY G.bN),tV⟩ ⟨q,tV⟩ q Jk ?_))));intro Cd rz Bu Cg D Ac;have B2:=uQ _ Bu;obtain⟨A,E,G,C,uQ,M⟩:=k6 D A E G C uQ M;replace Ac:=Ls.cK (m:=1) (R:=Q7) (T:=(ql jK)) (xs:=[S]) Ac ⟨_,_,q,⟨_,q,G⟩,q⟩ q Jk B2;refine dZ (sz:=1) (by rfl) VH OJ q q A Ac (fun _ h _=>h) uQ (bM.new M) Zw Zw ?_;intro A0 Cy Bs sQ z X j D v _ Bi;have H:=A;clear A;replace J:=nQ J z;replace I:=nQ I z;replace tQ:=tT tQ z;replace E:=E.md D (aW H E);replace C:=C.md D (aW H C);replace uQ:=uQ.md D;replace M:=M.cP D (fun b K=>(H.2 b K).1);replace uQ:=X;clear X sQ z v Bi;refine sf q nK (bI q q vq j.bN E (lB q) ?_);have Aq:=E;clear E;intro Cz D E;have v:∀b∈[Ap],¬Bs b:=(hI J);replace C:=C.md D Vk;replace j:=j.md D (aB Aq j) v;replace M:=M.step D (hI A9);clear Aq v;obtain⟨Au,A1⟩:∃y,y=({x with rows:=x.rows ++ ([S])}:eT):=⟨_,q⟩;replace E:bO _ _ (eT.cells ({x with rows:=x.rows ++ ([S])}) A0) _:=E
  rw[← A1]at E;rw[show x.rows ++ ([S])=Au.rows by rw[A1]]at j;refine nt (ns (st _ (bX (eT.cells Au A0) q (by exact jm) E q) (aX (us:=(eT.cells Au A0)) q q (by exact jm) (by first|exact fun u U=>bn (eT.one j.bN) u U|exact fun u U=>bn q u U) C (lB q) ?_)));have Ay:=j;have N:=C;clear C;intro C0 D C;have v:∀b∈[Ao],¬Bs b:=(hI I);replace Ay:=Ay.md D (aB N Ay) v;replace M:=M.step D (hI V);clear N v;replace C:bO _ _ (eT.cells Au A0) _:=C;refine ar q ?_;exact dB (vs:=[(.agg (eT.cells Au A0).toArray),(.int .i64 ((0:Nat):Int))]) trivial q ⟨⟨_,q,cJ (cs:=(eT.cells Au A0)) (by exact jm) C⟩,q,tV⟩ q ⟨_,Au,0,q,M,(Ay.ls (fun b K=>tQ b K) (bM.up Bx)),Ym,(by unfold tG;rw[if_neg Ok];exact k.trans (Aa.symm.trans ((JW W).trans (by rw[if_pos Ok];rw[A1]))))⟩
 (first|(have g:=dF Ai)|(have g:=dT (eL Ai))|(have g:=eL Ai)|(have g:=Ai));refine aY (ai (ns (st _ (bX (eT.cells x F) q (by exact jm) E q) (aX (us:=(eT.cells x F)) q q (by exact jm) (by first|exact fun u U=>bn (eT.one A.bN) u U|exact fun u U=>bn q u U) C (lB q) ?_))));have Az:=A;have N:=C;clear C;intro C1 D C;have v:∀b∈[Ao],¬Q7 b:=(hI I);replace Az:=Az.md D (aB N Az) v;replace M:=M.step D (hI V);clear N v;replace C:bO _ _ (eT.cells x F) _:=C;refine ar q ?_;exact dB (vs:=[(.agg (eT.cells x F).toArray),(.int .i64 ((0:Nat):Int))]) trivial q ⟨⟨_,q,cJ (cs:=(eT.cells x F)) (by exact jm) C⟩,q,tV⟩ q ⟨_,x,0,q,M,(Az.ls (fun b K=>tQ b K) (bM.up Bx)),Ym,(by unfold tG;rw[if_neg Ok];exact k.trans (Aa.symm.trans ((JW W).trans (by rw[if_neg Ok]))))⟩
end Go.Proofs.YtlleafgaeeneoaaGreat
namespace Go.Wk
open Go Go.RowKit
def rn (b:Ly) (j:Nat):List Nat:=(List.range 20).map fun q=>if q<j then lW b (88+8*q)else 0
def po:eK:={gK:=0,cF:=0,state:=0,dI:=oq,dO:=oq,cG:=oq,seq:=oq,n:=List.replicate 20 0,dD:=0,dK:=0,dJ:=0}
end Go.Wk
namespace Go.Wk
open Go Go.RowKit
end Go.Wk
