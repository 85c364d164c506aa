/- Part 3 of what the walk of a law stands on: WName, WRSplit, VLe, VGet, VHead, VHead2, VHead3, VHead4, VView, VView2, VRSplit, VRCom, RefV, RefV2. No statement is proved here. -/
import Derived.Test.YtlleafgaeeneoaaGreatQAI2
import Derived.Test.YtlleafgaeeneoaaGreatRows
set_option linter.unusedVariables false
set_option linter.unusedSimpArgs false
namespace Go.Proofs.YtlleafgaeeneoaaGreat
open Go Go.Wk Go.RowKit
attribute [local irreducible] wpList wpQuiet wpStill fH Code.wp Calls bodyPost
variable {w:World} {Q:Nat→Prop}
theorem u9:Zp.underlying 9=some (.string):=Yz
theorem DO (s:Ly) (w:World) (hl:s.length≤9223372036854775807):Calls Zp 107 #[str s] w fun e w'=>e = .returned (.bool (eU s))∧w=w':=by
 have M:=Md.refl [] w;refine enter (n:=44) Tryz.func107 q q q fun B=>ns (an q (au (ns (cE q (nt (b9 ?_))))));refine jc (X:=Nat) (fun i=>[(0,str s),(3,.int .i64 i)]) (fun i w'=>w=w'∧i≤s.length∧∀j,j<i→iP (s.getD j 0)=true∧(j=0→digit (s.getD j 0)=false)) (fun i=>s.length-i) 0 ?_ ?_ ?_
 ·exact⟨q,q,tV⟩
 ·exact⟨q,by omega,fun j I=>by omega⟩
 clear M
 rintro i B Z ⟨rfl,Y,O⟩;have M:=Md.refl [] w;refine au (ns (m2 q q (st _ (qK q u9) (st _ (qg q q) (nt ?_)))));refine bV q (fun V=>?_) (fun V=>?_)
 ·(have W:=dT V);refine aY (ai (au (b9 (ns (m2 q q (st _ (vC q q u9 Ok) (an q (au (nm q (st _ (qf q q) ?_))))))))));refine mv q ?_;refine cB (t:=16) q (fun J=>?_) (fun J=>?_)
  ·(have Q:=dT J);refine sg J (bf q) (sg J (vD q q) (st _ (bF q J q) (mv q ?_)));refine cB (t:=20) q (fun K=>?_) (fun K=>?_)
   ·(have R:=dT K);refine sg K (bf q) (sg K (tr q q) (st _ (bF q K q) (mv q ?_)));refine cB (t:=24) q (fun F=>?_) (fun F=>?_)
    ·(have S:=dT F);refine sk F (sk F (sk F (jL q q q (jL q q q (sk F (st _ (bF q F q) (mv q (sk q (sk q (st _ (bF q q q) (nt (gq q q (cw ?_)))))))))))));refine bD (cZ (ai (ax (mv q (st _ (eG q q Ok) (an q (next (i+1) Ok ⟨q,dB q Oj,tV⟩ ?_)))))))
     exact⟨q,by omega,fun j I=>by
      rcases Nat.lt_or_eq_of_le (Nat.le_of_lt_succ I)with h|h
      ·exact O j h
      ·subst h;exact⟨by unfold iP;exact decide_eq_true Ok,fun H=>by unfold digit;exact decide_eq_false Ok⟩⟩
    (have S:=dF F);refine sg F (bf q) (sg F (qf q q) (sg F (bf q) ?_));refine cB (t:=27) q (fun A=>?_) (fun A=>?_)
    ·(have L:=dT A);refine sg A (bf q) (sg A (vD q q) (sg F (bF q A q) (st _ (bE q F q) (mv q ?_))));refine cB (t:=32) q (fun C=>?_) (fun C=>?_)
     ·(have N:=dT C);refine sk C (sk C (st _ (bF q C q) (nt (gq q q (cw (bD (cZ (ai (ax (mv q (st _ (eG q q Ok) (an q ?_))))))))))));refine next (i+1) Ok ⟨q,dB q Oj,tV⟩ ?_
      exact⟨q,by omega,fun j I=>by
       rcases Nat.lt_or_eq_of_le (Nat.le_of_lt_succ I)with h|h
       ·exact O j h
       ·subst h;exact⟨by unfold iP;exact decide_eq_true Ok,fun H=>by unfold digit;exact decide_eq_false Ok⟩⟩
     (have N:=dF C);refine sg C (bf q) (sg C (kL q q) (st _ (bE q C q) (nt ?_)));refine bV q (fun D=>?_) (fun D=>?_)
     ·(have E:=dT D);refine cw (bD (cZ (ai (ax (mv q (st _ (eG q q Ok) (an q (next (i+1) Ok ⟨q,dB q Oj,tV⟩ ?_))))))))
      exact⟨q,by omega,fun j I=>by
       rcases Nat.lt_or_eq_of_le (Nat.le_of_lt_succ I)with h|h
       ·exact O j h
       ·subst h;exact⟨by unfold iP;exact decide_eq_true Ok,fun H=>by unfold digit;exact decide_eq_false Ok⟩⟩
     (have E:=dF D);refine aY (ai (ns (ar q (bG (aV (aV (bG (aV ?_))))))));exact gK trivial q q ⟨nA (by cases hh:eU s with|false=>rfl|true=>(exfalso;have hl:=fP hh;have P:=gQ hh;have U:=jT hh i Ok;rcases Nat.eq_zero_or_pos i with H|H<;>omega)),q⟩
    (have L:=dF A);refine sk A (sk A (sg F (bE q A q) (st _ (bE q F q) (mv q (sg q (bf q) (sg q (kL q q) (st _ (bE q q q) (nt ?_))))))));refine bV q (fun D=>?_) (fun D=>?_)
    ·(have E:=dT D);refine cw (bD (cZ (ai (ax (mv q (st _ (eG q q Ok) (an q (next (i+1) Ok ⟨q,dB q Oj,tV⟩ ?_))))))))
     exact⟨q,by omega,fun j I=>by
      rcases Nat.lt_or_eq_of_le (Nat.le_of_lt_succ I)with h|h
      ·exact O j h
      ·subst h;exact⟨by unfold iP;exact decide_eq_true Ok,fun H=>by unfold digit;exact decide_eq_false Ok⟩⟩
    (have E:=dF D);refine aY (ai (ns (ar q (bG (aV (aV (bG (aV ?_))))))));exact gK trivial q q ⟨nA (by cases hh:eU s with|false=>rfl|true=>(exfalso;have hl:=fP hh;have P:=gQ hh;have U:=jT hh i Ok;rcases Nat.eq_zero_or_pos i with H|H<;>first|omega|(subst H;omega))),q⟩
   (have R:=dF K);refine sk K (sk K (st _ (bE q K q) (mv q (sg q (bf q) (sg q (qf q q) (sg q (bf q) ?_))))));refine cB (t:=27) q (fun A=>?_) (fun A=>?_)
   ·(have L:=dT A);refine sg A (bf q) (sg A (vD q q) (sg q (bF q A q) (st _ (bE q q q) (mv q ?_))));refine cB (t:=32) q (fun C=>?_) (fun C=>?_)
    ·(have N:=dT C);refine sk C (sk C (st _ (bF q C q) (nt (gq q q (cw (bD (cZ (ai (ax (mv q (st _ (eG q q Ok) (an q ?_))))))))))));refine next (i+1) Ok ⟨q,dB q Oj,tV⟩ ?_
     exact⟨q,by omega,fun j I=>by
      rcases Nat.lt_or_eq_of_le (Nat.le_of_lt_succ I)with h|h
      ·exact O j h
      ·subst h;exact⟨by unfold iP;exact decide_eq_true Ok,fun H=>by unfold digit;exact decide_eq_false Ok⟩⟩
    (have N:=dF C);refine sg C (bf q) (sg C (kL q q) (st _ (bE q C q) (nt ?_)));refine bV q (fun D=>?_) (fun D=>?_)
    ·(have E:=dT D);refine cw (bD (cZ (ai (ax (mv q (st _ (eG q q Ok) (an q (next (i+1) Ok ⟨q,dB q Oj,tV⟩ ?_))))))))
     exact⟨q,by omega,fun j I=>by
      rcases Nat.lt_or_eq_of_le (Nat.le_of_lt_succ I)with h|h
      ·exact O j h
      ·subst h;exact⟨by unfold iP;exact decide_eq_true Ok,fun H=>by unfold digit;exact decide_eq_false Ok⟩⟩
    (have E:=dF D);refine aY (ai (ns (ar q (bG (aV (aV (bG (aV ?_))))))));exact gK trivial q q ⟨nA (by cases hh:eU s with|false=>rfl|true=>(exfalso;have hl:=fP hh;have P:=gQ hh;have U:=jT hh i Ok;rcases Nat.eq_zero_or_pos i with H|H<;>omega)),q⟩
   (have L:=dF A);refine sk A (sk A (sg q (bE q A q) (st _ (bE q q q) (mv q (sg q (bf q) (sg q (kL q q) (st _ (bE q q q) (nt ?_))))))));refine bV q (fun D=>?_) (fun D=>?_)
   ·(have E:=dT D);refine cw (bD (cZ (ai (ax (mv q (st _ (eG q q Ok) (an q (next (i+1) Ok ⟨q,dB q Oj,tV⟩ ?_))))))))
    exact⟨q,by omega,fun j I=>by
     rcases Nat.lt_or_eq_of_le (Nat.le_of_lt_succ I)with h|h
     ·exact O j h
     ·subst h;exact⟨by unfold iP;exact decide_eq_true Ok,fun H=>by unfold digit;exact decide_eq_false Ok⟩⟩
   (have E:=dF D);refine aY (ai (ns (ar q (bG (aV (aV (bG (aV ?_))))))));exact gK trivial q q ⟨nA (by cases hh:eU s with|false=>rfl|true=>(exfalso;have hl:=fP hh;have P:=gQ hh;have U:=jT hh i Ok;rcases Nat.eq_zero_or_pos i with H|H<;>omega)),q⟩
  (have Q:=dF J);refine sk J (sk J (st _ (bE q J q) (mv q (sk q (sk q (st _ (bE q q q) (mv q (sg q (bf q) (sg q (qf q q) (sg q (bf q) ?_))))))))));refine cB (t:=27) q (fun A=>?_) (fun A=>?_)
  ·(have L:=dT A);refine sg A (bf q) (sg A (vD q q) (sg q (bF q A q) (st _ (bE q q q) (mv q ?_))));refine cB (t:=32) q (fun C=>?_) (fun C=>?_)
   ·(have N:=dT C);refine sk C (sk C (st _ (bF q C q) (nt (gq q q (cw (bD (cZ (ai (ax (mv q (st _ (eG q q Ok) (an q ?_))))))))))));refine next (i+1) Ok ⟨q,dB q Oj,tV⟩ ?_
    exact⟨q,by omega,fun j I=>by
     rcases Nat.lt_or_eq_of_le (Nat.le_of_lt_succ I)with h|h
     ·exact O j h
     ·subst h;exact⟨by unfold iP;exact decide_eq_true Ok,fun H=>by unfold digit;exact decide_eq_false Ok⟩⟩
   (have N:=dF C);refine sg C (bf q) (sg C (kL q q) (st _ (bE q C q) (nt ?_)));refine bV q (fun D=>?_) (fun D=>?_)
   ·(have E:=dT D);refine cw (bD (cZ (ai (ax (mv q (st _ (eG q q Ok) (an q (next (i+1) Ok ⟨q,dB q Oj,tV⟩ ?_))))))))
    exact⟨q,by omega,fun j I=>by
     rcases Nat.lt_or_eq_of_le (Nat.le_of_lt_succ I)with h|h
     ·exact O j h
     ·subst h;exact⟨by unfold iP;exact decide_eq_true Ok,fun H=>by unfold digit;exact decide_eq_false Ok⟩⟩
   (have E:=dF D);refine aY (ai (ns (ar q (bG (aV (aV (bG (aV ?_))))))));exact gK trivial q q ⟨nA (by cases hh:eU s with|false=>rfl|true=>(exfalso;have hl:=fP hh;have P:=gQ hh;have U:=jT hh i Ok;rcases Nat.eq_zero_or_pos i with H|H<;>omega)),q⟩
  (have L:=dF A);refine sk A (sk A (sg q (bE q A q) (st _ (bE q q q) (mv q (sg q (bf q) (sg q (kL q q) (st _ (bE q q q) (nt ?_))))))));refine bV q (fun D=>?_) (fun D=>?_)
  ·(have E:=dT D);refine cw (bD (cZ (ai (ax (mv q (st _ (eG q q Ok) (an q (next (i+1) Ok ⟨q,dB q Oj,tV⟩ ?_))))))))
   exact⟨q,by omega,fun j I=>by
    rcases Nat.lt_or_eq_of_le (Nat.le_of_lt_succ I)with h|h
    ·exact O j h
    ·subst h;exact⟨by unfold iP;exact decide_eq_true Ok,fun H=>by unfold digit;exact decide_eq_false Ok⟩⟩
  (have E:=dF D);refine aY (ai (ns (ar q (bG (aV (aV (bG (aV ?_))))))));exact gK trivial q q ⟨nA (by cases hh:eU s with|false=>rfl|true=>(exfalso;have hl:=fP hh;have P:=gQ hh;have U:=jT hh i Ok;rcases Nat.eq_zero_or_pos i with H|H<;>omega)),q⟩
 (have W:=dF V);refine cw (bD (bD (cZ (ai (nm q (st _ (qK q u9) (st _ (qf q q) (mv q ?_))))))));refine cB (t:=39) q (fun G=>?_) (fun G=>?_)
 ·(have T:=dT G);refine sg G (bf q) (sg G (qK q u9) (sg G (vD q q) (st _ (bF q G q) (ar q ?_))));exact gK trivial q q ⟨nA (YT Ok (fun j I=>O j Ok)),q⟩
 (have T:=dF G);refine sk G (sk G (sk G (st _ (bE q G q) (ar q ?_))));exact gK trivial q q ⟨nA (by cases hh:eU s with|false=>rfl|true=>(exfalso;have hl:=fP hh;have P:=gQ hh;omega)),q⟩
theorem fu:fC Zp 61 2=true:=Yz
theorem mZ:gy Zp 5 1=true:=Yz
theorem ada:cM Zp 107=true:=Yz
theorem uq:ig Zp 5=true:=Yz
theorem uw:fB Zp 61=some [(0,1),(1,1)]:=Yz
theorem fI:Zp.underlying 27=some (.slice 5):=Yz
theorem u5:Zp.underlying 5=some (.int .u8):=Yz
theorem z61:ej Zp 61=some [.string ByteArray.empty,.string ByteArray.empty]:=Yz
theorem NJ (v:Value) (l:Ly) (w:World) (hB:By w v l) (hl:l.length≤4611686018427387904) :
  Calls Zp 68 #[v] w fun e w'=>e = .returned (.tuple #[lN (oJ l),.int .i64 (gV l)])∧Md [] w w':=by
 have V:=hB.dP;have M:=Md.refl [] w;refine enter (n:=41) Tryz.func68 q q q fun B=>ns (bU z61 ?_);intro U a N Z E A;replace N:=ly M.size N;replace M:=M.k E;refine an q (au (ns (cE q (nt (b9 ?_)))));refine jc (X:=Nat) (fun i=>[(0,v),(2,.pointer (some ⟨U,0,none⟩)),(4,.int .i64 i)]) (fun i w'=>Md [] w w'∧bO w' U [.string ByteArray.empty,.string ByteArray.empty] 61∧i≤l.length∧∀j,j<i→l.getD j 0≠61) (fun i=>l.length-i) 0 ?_ ?_ ?_
 ·exact⟨q,q,q,tV⟩
 ·exact⟨M,A,by omega,fun j T=>by omega⟩
 clear M
 clear A;rintro i B b ⟨M,A,Y,Q⟩;refine au (ns (m2 q q (sL q fI hB.cV (st _ (qg q q) (nt ?_)))));refine bV q (fun R=>?_) (fun R=>?_)
 ·(have S:=dT R);refine aY (ai (au (b9 (au (ns (m2 q q (st _ (yg q q fI mZ hB.cV Ok) (st _ (yh q uq (hB.o M) Ok) (st _ (Nn q q) (nt ?_))))))))));refine bV q (fun H=>?_) (fun H=>?_)
  ·(have F:=dT H);refine cw (bD (cZ (ai (ax (mv q (st _ (eG q q Ok) (an q (next (i+1) Ok ⟨q,q,dB q Oj,tV⟩ ?_))))))))
   exact⟨M,A,by omega,fun j T=>by
    rcases Nat.lt_or_eq_of_le (Nat.le_of_lt_succ T)with h|h
    ·exact Q j h
    ·subst h;intro W;apply F;rw[Int.toNat_natCast,W];rfl⟩
  (have F:=dF H);have O:=F;rw[Int.toNat_natCast]at O;have G:Lib.indexByte l 61=i:=agp Ok (UInt8.toNat_inj.1 (by show _=61;omega)) Q;refine aY (ai (au (ns (m2 q q (st _ (kR 0 i fI mZ q hB.cV Ok Ok q ⟨_,q⟩) (st _ (mU fI u5 u9 q ((hB.head i Ok).o M)) (aj ada q (DO (l.take i) _ Yw) ?_)))))));rintro e _ ⟨rfl,rfl⟩;refine rv ?_;refine st _ (gU q) (nt ?_);refine bV q (fun I=>?_) (fun I=>?_)
  ·(have D:=eO I);refine ns (st (.agg [_,_].toArray) (jm (ps:=[]) z61 uw q q trivial q q q) (eY q q (by exact fu) (by simp[lN,str,Value.oneCell']) A (by rfl) ?_));have K:=A;clear A;intro c E A;replace M:=M.eu E N;refine ar q (aV (bG (aV (aV (bG (aV ?_))))));have C:gV l=20:=(by unfold gV;rw[G,if_neg Ok,Int.toNat_natCast,if_pos D]);have L:=nZ (s:=l) (by rw[C];decide);exact xk trivial q q (by exact fu) A q ⟨by rw[C,L];rfl,M⟩
  (have D:=eN I);refine aY (ai (au (nm q (sL q fI hB.cV (mv q (st _ (j4 q q Ok) (st _ (j4 q q Ok) (st _ (tr q q) (nt ?_)))))))));refine bV q (fun J=>?_) (fun J=>?_)
  ·(have P:=dT J);refine ns (st (.agg [_,_].toArray) (jm (ps:=[]) z61 uw q q trivial q q q) (eY q q (by exact fu) (by simp[lN,str,Value.oneCell']) A (by rfl) ?_));have K:=A;clear A;intro d E A;replace M:=M.eu E N;refine ar q (aV (bG (aV (aV (bG (aV ?_))))));have C:gV l=21:=(by unfold gV;rw[G,if_neg Ok,Int.toNat_natCast,if_neg (by simp[D]),if_pos Yw]);have L:=nZ (s:=l) (by rw[C];decide);exact xk trivial q q (by exact fu) A q ⟨by rw[C,L];rfl,M⟩
  (have P:=dF J);refine aY (ai (au (yE [(0,true),(1,true),(2,true),(3,true),(4,true),(5,true),(6,true),(7,true),(8,true),(9,true),(10,false),(11,true)] (fun w'=>By w' v l) di Yz ?_)));intro f E;obtain⟨A,M⟩:=k2 E A M;refine⟨(hB.o M),?_⟩;refine m _ (fun w' C=>bf q) (m _ (fun w' C=>bf q) (m _ (fun w' C=>kR 0 i fI mZ q hB.cV Ok Ok q ⟨_,q⟩) (m _ (fun w' C=>mU fI u5 u9 q (By.head C i Ok)) (m _ (fun w' C=>bf q) (m _ (fun w' C=>bf q) (m _ (fun w' C=>(eG q q Ok).jh (show _=((i+1:Nat):Int)from by simp)) (m _ (fun w' C=>kR (i+1) l.length fI mZ q hB.cV Ok Ok ⟨_,q⟩ q) (m _ (fun w' C=>mU fI u5 u9 q (By.tail C (i+1) Ok)) (m (.agg [_,_].toArray) (fun w' C=>jm (ps:=[(0,0),(1,1)]) z61 uw q q ⟨q,q,tV⟩ q q q) ?_)))))))));refine lp ?_ rfl;refine eY q q (by exact fu) (by simp[lN,str,Value.oneCell']) A (by rfl) ?_;have K:=A;clear A;intro g E A;replace M:=M.eu E N;refine ak ⟨q,(hB.o M),?_⟩;refine m _ (fun w' C=>eW q) (dA (ai (gY (bG (aV (aV (bG (aV ?_))))))));have C:gV l=0:=(by unfold gV;rw[G,if_neg Ok,Int.toNat_natCast,if_neg (by simp[D]),if_neg Yw]);have L:oJ l=(l.take i,l.drop (i+1)):=(by unfold oJ;rw[if_pos C,G,Int.toNat_natCast]);exact xk trivial q q (by exact fu) A q ⟨by rw[C,L];rfl,M⟩
 (have S:=dF R);refine cw (bD (bD (cZ (ai (ns (st (.agg [_,_].toArray) (jm (ps:=[]) z61 uw q q trivial q q q) (eY q q (by exact fu) (by simp[lN,str,Value.oneCell']) A (by rfl) ?_)))))));have K:=A;clear A;intro k E A;replace M:=M.eu E N;refine ar q ?_;have C:gV l=20:=(by unfold gV;rw[if_pos (abD fun j T=>Q j Ok)]);have L:=nZ (s:=l) (by rw[C];decide);exact xk trivial q q (by exact fu) A q ⟨by rw[C,L];rfl,M⟩
theorem kW:Zp.underlying 46=some (.int .u64):=Yz
theorem MJ (uQ:Up w Q) (n:Int) (a0:(-9223372036854775808≤n∧n<9223372036854775808)) :
  Calls Zp 163 #[(.int .i64 (n:Int))] w fun en w'=>∃r0:Bool,en = .returned (.bool r0)∧Md [] w w'∧nC n=r0:=by
 have M:=Md.refl [] w;have H:=uQ;refine enter (n:=17) Tryz.func163 q q q fun B=>ns (an q (nm q (st _ (kL (a:=n) (b:=1) q q) (mv q ?_))));refine cB (t:=5) q (fun C=>?_) (fun C=>?_)
 ·(have F:=dT C);refine sk C (sk C (st _ (bF q C q) (mv q (sk q (sk q (st _ (bF q q q) (mv q (sk q (sk q (st _ (bF q q q) (ar q ?_)))))))))));exact cu (v:=(.bool true)) trivial q ⟨q,tV⟩ ⟨true,q,M,(by simp only[nC];exact decide_eq_true Ok)⟩
 (have F:=dF C);refine sg C (bf q) (sg C (kL (a:=n) (b:=2) q q) (st _ (bE q C q) (mv q ?_)));refine cB (t:=9) q (fun D=>?_) (fun D=>?_)
 ·(have G:=dT D);refine sk D (sk D (st _ (bF q D q) (mv q (sk q (sk q (st _ (bF q q q) (ar q ?_)))))));exact cu (v:=(.bool true)) trivial q ⟨q,tV⟩ ⟨true,q,M,(by simp only[nC];exact decide_eq_true Ok)⟩
 (have G:=dF D);refine sg D (bf q) (sg D (kL (a:=n) (b:=4) q q) (st _ (bE q D q) (mv q ?_)));refine cB (t:=13) q (fun A=>?_) (fun A=>?_)
 ·(have E:=dT A);refine sk A (sk A (st _ (bF q A q) (ar q ?_)));exact cu (v:=(.bool true)) trivial q ⟨q,tV⟩ ⟨true,q,M,(by simp only[nC];exact decide_eq_true Ok)⟩
 (have E:=dF A);refine sg A (bf q) (sg A (kL (a:=n) (b:=8) q q) (st _ (bE q A q) (ar q ?_)));exact cu (v:=(.bool ((decide (n=8))))) trivial q ⟨q,tV⟩ ⟨(decide (n=8)),q,M,(by simp only[nC];exact(decide_eq_decide.2 Ok))⟩
theorem ND (uQ:Up w Q) {v0:Value} {l:Ly} (h0:Ls eF w Q v0 l) (a:Int) (a1:(-9223372036854775808≤a∧a<9223372036854775808)) (n:Int) (a2:(-9223372036854775808≤n∧n<9223372036854775808)) :
  Calls Zp 91 #[v0,(.int .i64 (a:Int)),(.int .i64 (n:Int))] w fun en w'=>∃r0:Nat,∃r1:Bool,en = .returned (.tuple #[(.int .u64 r0),(.bool r1)])∧Md [] w w'∧r0<18446744073709551616∧pN l a n=(r0,r1):=by
 have u:=h0.dP;have M:=Md.refl [] w;have p:=uQ;have Z:∀b,Q b→Q b:=fun _ h=>h;have P:∀b,Q b→b<w.heap.size→Q b:=fun _ h _=>h;refine enter (n:=59) Tryz.func91 q q q fun B=>ns (cE q (an q (au (au ?_))));refine yD (fun b=>[(41,.bool b),(0,v0),(1,(.int .i64 (a:Int))),(2,(.int .i64 (n:Int))),(6,(.int .u64 ((0:Nat):Int))),(7,(.bool false))]) (fun b w'=>w=w'∧(b=true↔¬(nC n=true∧0≤a∧a+n≤l.length))) ?_ ?_
 ·refine mv q (st _ (Nn (a:=n) (b:=1) q q) (mv q ?_));refine cB (t:=12) q (fun H=>?_) (fun H=>?_)
  ·(have T:=dT H);refine sg H (bf q) (sg H (Nn (a:=n) (b:=2) q q) (st _ (bF q H q) (mv q ?_)));refine cB (t:=16) q (fun I=>?_) (fun I=>?_)
   ·(have U:=dT I);refine sg I (bf q) (sg I (Nn (a:=n) (b:=4) q q) (st _ (bF q I q) (mv q ?_)));refine cB (t:=20) q (fun J=>?_) (fun J=>?_)
    ·(have V:=dT J);refine sg J (bf q) (sg J (Nn (a:=n) (b:=8) q q) (st _ (bF q J q) (mv q ?_)));refine cB (t:=24) q (fun K=>?_) (fun K=>?_)
     ·(have W:=dT K);refine sk K (sk K (st _ (bF q K q) (mv q (sk q (sk q (sk q (sk q (st _ (bF q q q) (mv q (sk q (sk q (sk q (sk q ?_)))))))))))));refine sk q (sk q (st _ (bF q q q) (ak ?_)));refine⟨q,jn true ?_ ?_⟩
      ·exact⟨q,q,q,q,q,q,tV⟩
      ·exact⟨q,by rw[fo];simp;omega⟩
     ·(have W:=dF K);refine sg K (bf q) (sg K (qg (a:=a) (b:=0) q q) (st _ (bE q K q) (mv q ?_)));refine cB (t:=28) q (fun C=>?_) (fun C=>?_)
      ·(have E:=dT C);refine sk C (sk C (sk C (sk C (st _ (bF q C q) (mv q (sk q (sk q (sk q (sk q (sk q (sk q (st _ (bF q q q) (ak ?_)))))))))))));refine⟨q,jn true ?_ ?_⟩
       ·exact⟨q,q,q,q,q,q,tV⟩
       ·exact⟨q,by rw[fo];simp;omega⟩
      ·(have E:=dF C);refine sg C (bf q) (sg C (bf q) (sg C (iw q fI h0.cV) (sg C (tr (a:=a) (b:=((l.length:Nat):Int)) q q) (st _ (bE q C q) (mv q ?_)))));refine cB (t:=34) q (fun A=>?_) (fun A=>?_)
       ·(have F:=dT A);refine sk A (sk A (sk A (sk A (sk A (sk A (st _ (bF q A q) (ak ?_)))))));refine⟨q,jn true ?_ ?_⟩
        ·exact⟨q,q,q,q,q,q,tV⟩
        ·exact⟨q,by rw[fo];simp;omega⟩
       ·(have F:=dF A);refine sg A (bf q) (sg A (iw q fI h0.cV) (sg A (bf q) (sg A (j4 (a:=((l.length:Nat):Int)) (b:=a) q q Ok) (sg A (bf q) (sg A (qg (a:=((l.length:Nat):Int)-a) (b:=n) q q) (st _ (bE q A q) ?_))))));refine cB (t:=41) q (fun D=>?_) (fun D=>?_)
        ·(have G:=dT D);refine ak ?_;refine⟨q,jn true ?_ ?_⟩
         ·exact⟨tc q D,q,q,q,q,q,tV⟩
         ·exact⟨q,by rw[fo];simp;omega⟩
        ·(have G:=dF D);refine ak ?_;refine⟨q,jn false ?_ ?_⟩
         ·exact⟨tc q D,q,q,q,q,q,tV⟩
         ·exact⟨q,by rw[fo];simp;omega⟩
    ·(have V:=dF J);refine sk J (sk J (st _ (bE q J q) (mv q (sg q (bf q) (sg q (qg (a:=a) (b:=0) q q) (st _ (bE q q q) (mv q ?_)))))));refine cB (t:=28) q (fun C=>?_) (fun C=>?_)
     ·(have E:=dT C);refine sk C (sk C (sk C (sk C (st _ (bF q C q) (mv q (sk q (sk q (sk q (sk q (sk q (sk q (st _ (bF q q q) (ak ?_)))))))))))));refine⟨q,jn true ?_ ?_⟩
      ·exact⟨q,q,q,q,q,q,tV⟩
      ·exact⟨q,by rw[fo];simp;omega⟩
     ·(have E:=dF C);refine sg C (bf q) (sg C (bf q) (sg C (iw q fI h0.cV) (sg C (tr (a:=a) (b:=((l.length:Nat):Int)) q q) (st _ (bE q C q) (mv q ?_)))));refine cB (t:=34) q (fun A=>?_) (fun A=>?_)
      ·(have F:=dT A);refine sk A (sk A (sk A (sk A (sk A (sk A (st _ (bF q A q) (ak ?_)))))));refine⟨q,jn true ?_ ?_⟩
       ·exact⟨q,q,q,q,q,q,tV⟩
       ·exact⟨q,by rw[fo];simp;omega⟩
      ·(have F:=dF A);refine sg A (bf q) (sg A (iw q fI h0.cV) (sg A (bf q) (sg A (j4 (a:=((l.length:Nat):Int)) (b:=a) q q Ok) (sg A (bf q) (sg A (qg (a:=((l.length:Nat):Int)-a) (b:=n) q q) (st _ (bE q A q) ?_))))));refine cB (t:=41) q (fun D=>?_) (fun D=>?_)
       ·(have G:=dT D);refine ak ?_;refine⟨q,jn true ?_ ?_⟩
        ·exact⟨tc q D,q,q,q,q,q,tV⟩
        ·exact⟨q,by rw[fo];simp;omega⟩
       ·(have G:=dF D);refine ak ?_;refine⟨q,jn false ?_ ?_⟩
        ·exact⟨tc q D,q,q,q,q,q,tV⟩
        ·exact⟨q,by rw[fo];simp;omega⟩
   ·(have U:=dF I);refine sk I (sk I (st _ (bE q I q) (mv q (sk q (sk q (st _ (bE q q q) (mv q (sg q (bf q) (sg q (qg (a:=a) (b:=0) q q) (st _ (bE q q q) (mv q ?_)))))))))));refine cB (t:=28) q (fun C=>?_) (fun C=>?_)
    ·(have E:=dT C);refine sk C (sk C (sk C (sk C (st _ (bF q C q) (mv q (sk q (sk q (sk q (sk q (sk q (sk q (st _ (bF q q q) (ak ?_)))))))))))));refine⟨q,jn true ?_ ?_⟩
     ·exact⟨q,q,q,q,q,q,tV⟩
     ·exact⟨q,by rw[fo];simp;omega⟩
    ·(have E:=dF C);refine sg C (bf q) (sg C (bf q) (sg C (iw q fI h0.cV) (sg C (tr (a:=a) (b:=((l.length:Nat):Int)) q q) (st _ (bE q C q) (mv q ?_)))));refine cB (t:=34) q (fun A=>?_) (fun A=>?_)
     ·(have F:=dT A);refine sk A (sk A (sk A (sk A (sk A (sk A (st _ (bF q A q) (ak ?_)))))));refine⟨q,jn true ?_ ?_⟩
      ·exact⟨q,q,q,q,q,q,tV⟩
      ·exact⟨q,by rw[fo];simp;omega⟩
     ·(have F:=dF A);refine sg A (bf q) (sg A (iw q fI h0.cV) (sg A (bf q) (sg A (j4 (a:=((l.length:Nat):Int)) (b:=a) q q Ok) (sg A (bf q) (sg A (qg (a:=((l.length:Nat):Int)-a) (b:=n) q q) (st _ (bE q A q) ?_))))));refine cB (t:=41) q (fun D=>?_) (fun D=>?_)
      ·(have G:=dT D);refine ak ?_;refine⟨q,jn true ?_ ?_⟩
       ·exact⟨tc q D,q,q,q,q,q,tV⟩
       ·exact⟨q,by rw[fo];simp;omega⟩
      ·(have G:=dF D);refine ak ?_;refine⟨q,jn false ?_ ?_⟩
       ·exact⟨tc q D,q,q,q,q,q,tV⟩
       ·exact⟨q,by rw[fo];simp;omega⟩
  ·(have T:=dF H);refine sk H (sk H (st _ (bE q H q) (mv q (sk q (sk q (st _ (bE q q q) (mv q (sk q (sk q (st _ (bE q q q) (mv q (sg q (bf q) (sg q (qg (a:=a) (b:=0) q q) ?_)))))))))))));refine st _ (bE q q q) (mv q ?_);refine cB (t:=28) q (fun C=>?_) (fun C=>?_)
   ·(have E:=dT C);refine sk C (sk C (sk C (sk C (st _ (bF q C q) (mv q (sk q (sk q (sk q (sk q (sk q (sk q (st _ (bF q q q) (ak ?_)))))))))))));refine⟨q,jn true ?_ ?_⟩
    ·exact⟨q,q,q,q,q,q,tV⟩
    ·exact⟨q,by rw[fo];simp;omega⟩
   ·(have E:=dF C);refine sg C (bf q) (sg C (bf q) (sg C (iw q fI h0.cV) (sg C (tr (a:=a) (b:=((l.length:Nat):Int)) q q) (st _ (bE q C q) (mv q ?_)))));refine cB (t:=34) q (fun A=>?_) (fun A=>?_)
    ·(have F:=dT A);refine sk A (sk A (sk A (sk A (sk A (sk A (st _ (bF q A q) (ak ?_)))))));refine⟨q,jn true ?_ ?_⟩
     ·exact⟨q,q,q,q,q,q,tV⟩
     ·exact⟨q,by rw[fo];simp;omega⟩
    ·(have F:=dF A);refine sg A (bf q) (sg A (iw q fI h0.cV) (sg A (bf q) (sg A (j4 (a:=((l.length:Nat):Int)) (b:=a) q q Ok) (sg A (bf q) (sg A (qg (a:=((l.length:Nat):Int)-a) (b:=n) q q) (st _ (bE q A q) ?_))))));refine cB (t:=41) q (fun D=>?_) (fun D=>?_)
     ·(have G:=dT D);refine ak ?_;refine⟨q,jn true ?_ ?_⟩
      ·exact⟨tc q D,q,q,q,q,q,tV⟩
      ·exact⟨q,by rw[fo];simp;omega⟩
     ·(have G:=dF D);refine ak ?_;refine⟨q,jn false ?_ ?_⟩
      ·exact⟨tc q D,q,q,q,q,q,tV⟩
      ·exact⟨q,by rw[fo];simp;omega⟩
 ·rintro c B _ ⟨rfl,L⟩
  refine om c (fun D=>?_) (fun D=>?_)
  ·replace L:=L.1 D;refine ai (gq q D (ns (cE q (ar q (aV ?_)))));exact dD (vs:=[(.int .u64 ((0:Nat):Int)),(.bool false)]) trivial q ⟨q,q,tV⟩ q ⟨0,false,q,M,Ok,(xP Ok)⟩
  ·replace L:=mt L.2 (by rw[D];simp);refine ai (gh q D (aY (ai (au ?_))));replace L:=Classical.not_not.1 L;have y:=wR L.1;refine ax (an q (au (nm q (st _ (j4 (a:=n) (b:=1) q q Ok) (cE q (nt (b9 ?_)))))))
   refine qX (fun(v:Nat) (i:Int)=>[(8,(.int .u64 v)),(9,(.int .i64 (i:Int))),(0,v0),(1,(.int .i64 (a:Int)))]) (fun(v:Nat) (i:Int) w'=>∃Q':Nat→Prop,(∀b,Q' b→Q b)∧(∀b,Q b→b<w.heap.size→Q' b)∧Up w' Q'∧Md [] w w'∧Ls eF w' Q' v0 l∧(-1≤i∧i<n)∧v=MH ((l.drop (a+(i+1)).toNat).take (n-1-i).toNat)∧v<18446744073709551616) (fun(v:Nat) (i:Int)=>(i+1).toNat) (x0:=0) (x1:=(n-1)) ?_ ?_ ?_
   ·exact⟨q,q,q,q,tV⟩
   ·exact⟨Q,Z,P,uQ,M,h0,Ok,(by simp[show n-1-(n-1)=0 by omega,MH]),Ok⟩
   ·clear M uQ Z P h0
    rintro v i B z ⟨g,Z,P,uQ,M,h0,e,N,f⟩;refine au (nm q (st _ (qf (a:=i) (b:=0) q q) (nt ?_)));refine bV q (fun R=>?_) (fun R=>?_)
    ·(have X:=dT R);have j:=sM (l:=(l.drop (a+(i+1)).toNat).take (n-1-i).toNat) (k:=7) Yw;rw[← N]at j;refine aY (ai (au (b9 (ax (mv q (st _ (mj (a:=v) (b:=256) 18446744073709551616 q q q Ok) (m2 q q (mv q (st _ (eG (a:=a) (b:=i) q q Ok) (st _ (sd (i:=a+i) 1 q q fI mZ h0.cV Ok) ?_))))))))));obtain⟨S,Y⟩:=dS (l:=l) (i:=(a+i).toNat) Ok;obtain⟨x,d,O⟩:=h0.get Y;obtain⟨rfl,_⟩:=d;have r:=UInt8.toNat_lt S;replace O:At _ v0 (((a+i).toNat)*1) [(b8 S)]:=O;refine st _ ((cg (kk:=((a+i).toNat)*1) 0 q q uq O q).to (b:=(b8 S)) q) (st _ (dH (a:=S.toNat) 18446744073709551616 q (by rw[u5];rfl) kW q (lj (UInt8.toNat_lt _) Jk)) (st _ (gG (a:=(v*256)) (b:=S.toNat) 18446744073709551616 q q q Ok) (cE q (ak ?_))));clear O;refine bL (ai (ax (mv q (st _ (j4 (a:=i) (b:=1) q q Ok) (an q ?_)))));refine o9 (x0:=((v*256)+S.toNat)) (x1:=(i-1)) Ok ⟨(dB q (by rfl)),(dB q Ok),q,q,tV⟩ ⟨g,Z,P,uQ,M,h0,Ok,(by rw[N];have o:=IJ (k:=(n-1-i).toNat) Y;rw[show(n-1-(i-1)).toNat=(n-1-i).toNat+1 by omega,show(a+(i-1+1)).toNat=(a+i).toNat by omega,o,show(a+i).toNat+1=(a+(i+1)).toNat by omega];omega),Ok⟩
    ·(have X:=dF R);refine cw (bD (bD (cZ (ai (nm q (cE q (ar q ?_)))))));exact dD (vs:=[(.int .u64 v),(.bool true)]) trivial q ⟨q,q,tV⟩ q ⟨v,true,q,M,Yj,(by rw[pN,if_pos Ok,N,show i = -1 by omega];simp)⟩
theorem adj:cM Zp 163=true:=Yz
theorem nU (uQ:Up w Q) {v0:Value} {l:Ly} (h0:Ls eF w Q v0 l) (a:Int) (a1:(-9223372036854775808≤a∧a<9223372036854775808)) (n:Int) (a2:(-9223372036854775808≤n∧n<9223372036854775808)) :
  Calls Zp 139 #[v0,(.int .i64 (a:Int)),(.int .i64 (n:Int))] w fun en w'=>∃r0:Nat,∃r1:Bool,en = .returned (.tuple #[(.int .u64 r0),(.bool r1)])∧Md [] w w'∧r0<18446744073709551616∧pN l a n=(r0,r1):=by
 have p:=h0.dP;have M:=Md.refl [] w;have j:=uQ;have P:∀b,Q b→Q b:=fun _ h=>h;have F:∀b,Q b→b<w.heap.size→Q b:=fun _ h _=>h;refine enter (n:=42) Tryz.func139 q q q fun B=>ns (cE q (an q (au (nm q (aj adj q (MJ uQ (n) Ok) ?_)))));rintro en u ⟨Z,rfl,R,d⟩;refine rv ?_;obtain⟨h0,uQ,M⟩:=k3 R h0 uQ M;refine st _ (gU q) (mv q ?_);refine cB (t:=13) q (fun C=>?_) (fun C=>?_)
 ·(have J:=eO C);refine sk C (sk C (st _ (bF q C q) (mv q (sk q (sk q (sk q (sk q (sk q (sk q (st _ (bF q q q) (nt (gq q q (ns ?_)))))))))))));refine cE q (ar q (aV ?_));exact dD (vs:=[(.int .u64 ((0:Nat):Int)),(.bool false)]) trivial q ⟨q,q,tV⟩ q ⟨0,false,q,M,Ok,(xP (by rintro⟨U,V,W⟩;simp_all))⟩
 ·(have J:=eN C);refine sg C (bf q) (sg C (qg (a:=a) (b:=0) q q) (st _ (bE q C q) (mv q ?_)));refine cB (t:=17) q (fun A=>?_) (fun A=>?_)
  ·(have K:=dT A);refine sk A (sk A (sk A (sk A (sk A (sk A (st _ (bF q A q) (nt (gq q q (ns (cE q (ar q ?_)))))))))));refine aV ?_;exact dD (vs:=[(.int .u64 ((0:Nat):Int)),(.bool false)]) trivial q ⟨q,q,tV⟩ q ⟨0,false,q,M,Ok,(xP (by rintro⟨U,V,W⟩;omega))⟩
  ·(have K:=dF A);have e:=wR (n:=n) (by simp_all);refine sg A (bf q) (sg A (bf q) (sg A (iw q fI h0.cV) (sg A (bf q) (sg A (j4 (a:=((l.length:Nat):Int)) (b:=n) q q Ok) (sg A (tr (a:=a) (b:=((l.length:Nat):Int)-n) q q) (st _ (bE q A q) (nt ?_)))))));refine bV q (fun G=>?_) (fun G=>?_)
   ·(have L:=dT G);refine ns (cE q (ar q (aV ?_)));exact dD (vs:=[(.int .u64 ((0:Nat):Int)),(.bool false)]) trivial q ⟨q,q,tV⟩ q ⟨0,false,q,M,Ok,(xP (by rintro⟨U,V,W⟩;omega))⟩
   ·(have L:=dF G);refine aY (ai (au ?_));have T:nC n=true∧0≤a∧a+n≤l.length:=⟨by simp_all,by omega,by omega⟩;have e:=wR T.1;refine ax (an q (au (nm q (st _ (j4 (a:=n) (b:=1) q q Ok) (cE q (nt (b9 ?_)))))))
    refine qX (fun(v:Nat) (i:Int)=>[(8,(.int .u64 v)),(9,(.int .i64 (i:Int))),(0,v0),(1,(.int .i64 (a:Int)))]) (fun(v:Nat) (i:Int) w'=>∃Q':Nat→Prop,(∀b,Q' b→Q b)∧(∀b,Q b→b<w.heap.size→Q' b)∧Up w' Q'∧Md [] w w'∧Ls eF w' Q' v0 l∧(-1≤i∧i<n)∧v=MH ((l.drop (a+(i+1)).toNat).take (n-1-i).toNat)∧v<18446744073709551616) (fun(v:Nat) (i:Int)=>(i+1).toNat) (x0:=0) (x1:=(n-1)) ?_ ?_ ?_
    ·exact⟨q,q,q,q,tV⟩
    ·exact⟨Q,P,F,uQ,M,h0,Ok,(by simp[show n-1-(n-1)=0 by omega,MH]),Ok⟩
    ·clear M uQ P F h0
     rintro v i B x ⟨c,P,F,uQ,M,h0,X,D,Y⟩;refine au (nm q (st _ (qf (a:=i) (b:=0) q q) (nt ?_)));refine bV q (fun H=>?_) (fun H=>?_)
     ·(have N:=dT H);have f:=sM (l:=(l.drop (a+(i+1)).toNat).take (n-1-i).toNat) (k:=7) Yw;rw[← D]at f;refine aY (ai (au (b9 (ax (mv q (st _ (aeC (a:=v) (b:=8) 18446744073709551616 q q 64 q q q Ok) (m2 q q (mv q (st _ (eG (a:=a) (b:=i) q q Ok) (st _ (sd (i:=a+i) 1 q q fI mZ h0.cV Ok) ?_))))))))));obtain⟨I,O⟩:=dS (l:=l) (i:=(a+i).toNat) Ok;obtain⟨r,S,E⟩:=h0.get O;obtain⟨rfl,_⟩:=S;have o:=UInt8.toNat_lt I;replace E:At _ v0 (((a+i).toNat)*1) [(b8 I)]:=E;refine st _ ((cg (kk:=((a+i).toNat)*1) 0 q q uq E q).to (b:=(b8 I)) q) (st _ (dH (a:=I.toNat) 18446744073709551616 q (by rw[u5];rfl) kW q (lj (UInt8.toNat_lt _) Jk)) (st _ (agF (a:=(v*2 ^ 8%18446744073709551616)) (b:=I.toNat) 18446744073709551616 q q q q Ok) (cE q (ak ?_))));clear E;refine bL (ai (ax (mv q (st _ (j4 (a:=i) (b:=1) q q Ok) (an q ?_)))));refine o9 (x0:=((v*2 ^ 8%18446744073709551616) ||| I.toNat)) (x1:=(i-1)) Ok ⟨(dB q (by rfl)),(dB q Ok),q,q,tV⟩ ⟨c,P,F,uQ,M,h0,Ok,(by rw[aaH Ok,D];have g:=IJ (k:=(n-1-i).toNat) O;rw[show(n-1-(i-1)).toNat=(n-1-i).toNat+1 by omega,show(a+(i-1+1)).toNat=(a+i).toNat by omega,g,show(a+i).toNat+1=(a+(i+1)).toNat by omega]),(by rw[aaH Ok];have:=UInt8.toNat_lt I;omega)⟩
     ·(have N:=dF H);refine cw (bD (bD (cZ (ai (nm q (cE q (ar q ?_)))))));exact dD (vs:=[(.int .u64 v),(.bool true)]) trivial q ⟨q,q,tV⟩ q ⟨v,true,q,M,Yj,(by rw[pN,if_pos Ok,D,show i = -1 by omega];simp)⟩
theorem eZ:fC Zp 129 91=true:=Yz
theorem afl:gy Zp 226 1=true:=Yz
theorem afm:gy Zp 229 1=true:=Yz
theorem adJ:uJ Zp 226 1 8=true:=Yz
theorem adK:uJ Zp 229 1 8=true:=Yz
theorem OX:cM Zp 138=true:=Yz
theorem pK:cM Zp 139=true:=Yz
theorem af4:cM Zp 140=true:=Yz
theorem af5:cM Zp 141=true:=Yz
theorem Z6:bh Zp 129 0=some 0:=Yz
theorem zF:bh Zp 129 1=some 1:=Yz
theorem wD:bh Zp 129 10=some 70:=Yz
theorem wE:bh Zp 129 11=some 71:=Yz
theorem wF:bh Zp 129 12=some 72:=Yz
theorem SL:bh Zp 129 13=some 73:=Yz
theorem SQ:bh Zp 129 14=some 74:=Yz
theorem SR:bh Zp 129 15=some 75:=Yz
theorem SV:bh Zp 129 16=some 76:=Yz
theorem SX:bh Zp 129 17=some 77:=Yz
theorem SY:bh Zp 129 18=some 78:=Yz
theorem SZ:bh Zp 129 19=some 79:=Yz
theorem Z7:bh Zp 129 2=some 2:=Yz
theorem TA:bh Zp 129 20=some 80:=Yz
theorem TB:bh Zp 129 21=some 81:=Yz
theorem TD:bh Zp 129 22=some 82:=Yz
theorem TF:bh Zp 129 23=some 83:=Yz
theorem TG:bh Zp 129 24=some 84:=Yz
theorem TH:bh Zp 129 25=some 85:=Yz
theorem TI:bh Zp 129 26=some 86:=Yz
theorem TJ:bh Zp 129 27=some 87:=Yz
theorem TK:bh Zp 129 28=some 88:=Yz
theorem TL:bh Zp 129 29=some 89:=Yz
theorem JH:bh Zp 129 3=some 3:=Yz
theorem TM:bh Zp 129 30=some 90:=Yz
theorem Z8:bh Zp 129 4=some 19:=Yz
theorem Z9:bh Zp 129 5=some 35:=Yz
theorem ZA:bh Zp 129 6=some 51:=Yz
theorem mM:bh Zp 129 7=some 67:=Yz
theorem zG:bh Zp 129 8=some 68:=Yz
theorem zH:bh Zp 129 9=some 69:=Yz
theorem aex:ig Zp 226=true:=Yz
theorem aey:ig Zp 229=true:=Yz
theorem fE:ig Zp 27=true:=Yz
theorem bH:ig Zp 46=true:=Yz
theorem gZ:ig Zp 88=true:=Yz
theorem ri:fB Zp 129=some [(0,1),(1,1),(2,1),(3,16),(19,16),(35,16),(51,16),(67,1),(68,1),(69,1),(70,1),(71,1),(72,1),(73,1),(74,1),(75,1),(76,1),(77,1),(78,1),(79,1),(80,1),(81,1),(82,1),(83,1),(84,1),(85,1),(86,1),(87,1),(88,1),(89,1),(90,1)]:=Yz
theorem aeV:Zp.underlying 224=some (.slice 226):=Yz
theorem aeW:Zp.underlying 227=some (.slice 229):=Yz
theorem u3:Zp.underlying 3=some (.int .i64):=Yz
theorem VK:Zp.underlying 48=some (.array 16 5):=Yz
theorem AL:Zp.underlying 88=some (.int .u32):=Yz
theorem r5:ej Zp 129=some ([.int .u32 0,.int .u32 0,.int .i64 0] ++ (List.replicate 64 (.int .u8 0) ++ (List.replicate 21 (.int .u64 0) ++ ([.int .u32 0,.int .u32 0,.int .u64 0])))):=Yz
theorem Y0 {w:World} {b:Nat}:Calls Zp 140 #[.pointer (some ⟨b,0,none⟩)] w fun en w'=>∃x,en = .returned (.slice (some ⟨x,0,none⟩) 4 4)∧w.heap.size≤x∧Md [] w w'∧bO w' x (ptrs b 3 16 4) 226:=by
 refine enter (n:=16) Tryz.func140 q q q fun B=>ns (an q (au (cT (ml 12) [12,13] (fun w'=>Md [] w w') di Yz ?_)));intro I C;refine⟨C,?_⟩;refine mo q (mz (fun w' A=>cH q) (mz (fun w' A=>aU q JH) (mo q (mz (fun w' A=>cH q) (mz (fun w' A=>aU q Z8) (mo q (mz (fun w' A=>cH q) (mz (fun w' A=>aU q Z9) (mo q (mz (fun w' A=>cH q) (mz (fun w' A=>aU q ZA) (dA (pF aeV adJ Jk q q q (by simp[oc,Value.oneCell']) Jk ?_)))))))))))));intro x G E H D F;refine ar q ?_;exact gK trivial q q ⟨x,q,ly C.size E,C.k D,(show bO G x (ptrs b 3 16 4) 226 from F)⟩
theorem RO {w:World} {b:Nat}:Calls Zp 141 #[.pointer (some ⟨b,0,none⟩)] w fun en w'=>∃x,en = .returned (.slice (some ⟨x,0,none⟩) 21 21)∧w.heap.size≤x∧Md [] w w'∧bO w' x (ptrs b 67 1 21) 229:=by
 refine enter (n:=67) Tryz.func141 q q q fun B=>ns (an q (au (cT (ml 63) [63,64] (fun w'=>Md [] w w') di Yz ?_)));intro I C;refine⟨C,?_⟩;refine mo q (mz (fun w' A=>cH q) (mz (fun w' A=>aU q mM) (mo q (mz (fun w' A=>cH q) (mz (fun w' A=>aU q zG) (mo q (mz (fun w' A=>cH q) (mz (fun w' A=>aU q zH) (mo q (mz (fun w' A=>cH q) (mz (fun w' A=>aU q wD) (mo q (mz (fun w' A=>cH q) ?_)))))))))))));refine mz (fun w' A=>aU q wE) (mo q (mz (fun w' A=>cH q) (mz (fun w' A=>aU q wF) (mo q (mz (fun w' A=>cH q) (mz (fun w' A=>aU q SL) (mo q (mz (fun w' A=>cH q) (mz (fun w' A=>aU q SQ) (mo q (mz (fun w' A=>cH q) (mz (fun w' A=>aU q SR) (mo q ?_)))))))))))));refine mz (fun w' A=>cH q) (mz (fun w' A=>aU q SV) ?_)
 refine mo q (mz (fun w' A=>cH q) (mz (fun w' A=>aU q SX) (mo q (mz (fun w' A=>cH q) (mz (fun w' A=>aU q SY) (mo q (mz (fun w' A=>cH q) (mz (fun w' A=>aU q SZ) (mo q (mz (fun w' A=>cH q) (mz (fun w' A=>aU q TA) (mo q (mz (fun w' A=>cH q) ?_)))))))))))));refine mz (fun w' A=>aU q TB) (mo q (mz (fun w' A=>cH q) (mz (fun w' A=>aU q TD) (mo q (mz (fun w' A=>cH q) (mz (fun w' A=>aU q TF) (mo q (mz (fun w' A=>cH q) (mz (fun w' A=>aU q TG) (mo q (mz (fun w' A=>cH q) (mz (fun w' A=>aU q TH) (mo q ?_)))))))))))));refine mz (fun w' A=>cH q) (mz (fun w' A=>aU q TI) (mo q (mz (fun w' A=>cH q) (mz (fun w' A=>aU q TJ) (dA (pF aeW adK Jk q q q (by simp[oc,Value.oneCell']) Jk ?_))))));intro x G E H D F;refine ar q ?_;exact gK trivial q q ⟨x,q,ly C.size E,C.k D,(show bO G x (ptrs b 67 1 21) 229 from F)⟩
theorem sI {w:World} {Q:Nat→Prop} {b1:Nat} {v0:Value} {l:Ly} (hB:bO w b1 [v0] 27) (h0:Ls eF w Q v0 l) (a:Nat) (ha:a+4≤l.length) :
  Calls Zp 138 #[.int .i64 (a:Int),.pointer (some ⟨b1,0,none⟩)] w fun en w'=>en = .returned (.int .u32 ((at4 l a:Nat):Int))∧Md [] w w':=by
 have L:=h0.dP;refine enter (n:=14) Tryz.func138 q q q fun B=>ns (an q (ns (st _ (aA q fE hB q) (mv q (aj pK q (nU (Q:=fun _=>True) (fun _ _=>trivial) (h0.sub fun _ _ _=>trivial) (a:Int) Ok 4 Ok) ?_)))));rintro en H ⟨F,G,rfl,D,E,A⟩;refine rv ?_;have C:pN l a 4=(at4 l a,true):=xO (k:=4) (.inl q) ha;rw[C]at A;obtain⟨rfl,rfl⟩:=Prod.mk.inj A;refine mv q (se q q (se q q (cE q (an q (nm q (st _ (dH (a:=at4 l a) 4294967296 q (by rw[kW];rfl) AL q (yC _ _)) (ar q ?_)))))));exact gK trivial q q ⟨q,D⟩
set_option maxRecDepth 100000 in
theorem LQ (uQ:Up w Q) {v0:Value} {b:Ly} (h00:Ls eF w Q v0 b) (p0:272≤b.length) :
  Calls Zp 103 #[v0] w fun en w'=>∃r0:bR,en = .returned (.agg (bR.cells r0).toArray)∧Md [] w w'∧bR.ok r0∧oD b=r0:=by
 have L:=h00.dP;obtain⟨U,f,F⟩:∃U:Nat→Prop,(∀x,w.heap.size≤x→¬U x)∧Ls eF w U v0 b:=⟨fun x=>x<w.heap.size,fun x h k=>by omega,h00.sub fun x _ h=>h⟩;clear h00;have M:=Md.refl [] w;refine enter (n:=73) Tryz.func103 q q q fun B=>ns (eE q (ea F.bN) ?_);intro O w1 g1 l1 C A;obtain⟨F,M⟩:=k2 C F M;refine bU r5 ?_;intro S w2 t l2 C E;replace F:=F.o C;obtain⟨Z,hZ,E⟩:∃Z,(bR.cells (jB b 0 0 0 0)).length=Z.length∧bO w2 S Z 129:=⟨_,q,E⟩;have Am:O≠S:=(by have:=A.lt;omega);replace A:=A.o C;replace t:=ly M.size t;replace M:=M.k C;refine nt (ns (st _ (aA q fE A q) (st _ (bB (i:=16) 1 q q fI mZ F.cV Ok) ?_)));obtain⟨x,hx⟩:=dS (l:=b) (i:=16) Ok;obtain⟨cx,Aa,R⟩:=F.get hx;obtain⟨rfl,_⟩:=Aa;have ex:b.getD 16 0=x:=(by simp[List.getD,hx]);have lx:=UInt8.toNat_lt x;replace R:At _ v0 (16*1) [(b8 x)]:=R;refine st _ ((cg (kk:=16*1) 0 q q uq R q).to (b:=(b8 x)) q) ?_;clear R;refine st _ (dH (a:=x.toNat) 9223372036854775808 q (by rw[u5];rfl) u3 q Ok) (st (.agg (bR.cells (jB b 0 0 0 0)).toArray) (by rw[show bR.cells (jB b 0 0 0 0)=bR.cells {jB b 0 0 0 0 with state:=x.toNat} by rw[← ex];rfl];exact jm (cs:=bR.cells {jB b 0 0 0 0 with state:=x.toNat}) (ps:=[(2,2)]) r5 ri q q (by simp[oc,Value.oneCell']) q q q) (bU r5 ?_));intro I w3 P l3 C D;replace F:=F.o C;have K:O≠I:=(by have:=A.lt;omega);have J:S≠I:=(by have:=E.lt;omega);obtain⟨A,E⟩:=k2 C A E;replace P:=ly M.size P;replace M:=M.k C;refine eY q q (by exact eZ) (fun u hu=>bn bR.one u hu) D q ?_;intro w4 C D;have N:∀x∈[I],¬U x:=(by intro y r;simp at r;subst r;exact f _ P);have Ao:∀x∈[S],¬U x:=(by intro y r;simp at r;subst r;exact f _ t);replace F:=F.md C N;replace A:=A.sO C K;replace E:=E.sO C J;replace M:=M.eu C P;refine nt (au ?_)
 refine ax (st _ (zU q) (an q (nm q (lU (cs:=[.pointer (some ⟨O,0,none⟩)]) q OX q (sI A F 8 Ok) ?_))));rintro en w5 ⟨rfl,C⟩;refine rv ?_;obtain⟨F,A,E,D,M⟩:=k5 C F A E D M;refine mv q (lU (cs:=[.pointer (some ⟨O,0,none⟩)]) q OX q (sI A F 12 Ok) ?_);rintro en w6 ⟨rfl,C⟩;refine rv ?_;obtain⟨F,A,E,D,M⟩:=k5 C F A E D M;refine sf q Z6 (bI q q gZ q D (by(show _<91;decide)) ?_);intro w7 C D;replace F:=F.md C N;replace A:=A.sO C K;replace E:=E.sO C J;replace M:=M.eu C P;refine sf q zF (bI q q gZ q D (by(show _<91;decide)) ?_);intro w8 C D;replace F:=F.md C N;replace A:=A.sO C K;replace E:=E.sO C J;replace M:=M.eu C P;replace D:bO w8 I (bR.cells (jB b (at4 b 8) (at4 b 12) 0 0)) 129:=D;refine nt (ns (an q (au (ns (aj af4 q (Y0 (b:=I)) ?_)))));rintro en w9 ⟨Y,rfl,gi,C,G⟩;refine rv ?_;have Ac:Y≠I:=(by have:=D.lt;omega);obtain⟨F,A,E,D⟩:=k4 C F A E D;replace gi:=ly M.size gi;replace M:=M.k C;have g:GF (.slice (some ⟨Y,0,none⟩) 4 4) 4:=⟨_,_,q,Nat.le_refl _,by simp[maxLen],by simp⟩;refine sL q aeV g (mv q (nt (b9 ?_)))
 refine qX (fun(k:Nat) (a:Nat)=>[(24,(.int .i64 k)),(5,(.int .i64 a)),(1,.pointer (some ⟨O,0,none⟩)),(2,.pointer (some ⟨S,0,none⟩)),(3,.pointer (some ⟨I,0,none⟩)),(4,.func (.func 138) #[] #[.pointer (some ⟨O,0,none⟩)]),(22,.slice (some ⟨Y,0,none⟩) 4 4),(23,.int .i64 ((4:Nat):Int))])
  (fun(k:Nat) (a:Nat) w'=>Md [] w w'∧Ls eF w' U v0 b∧bO w' O [v0] 27∧bO w' S Z 129∧bO w' I (bR.cells (jB b (at4 b 8) (at4 b 12) k 0)) 129∧bO w' Y (ptrs I 3 16 4) 226∧k≤4∧a=24+16*k) (fun(k:Nat) (a:Nat)=>4-k) (x0:=0) (x1:=24) ?_ ?_ ?_
 ·exact⟨q,q,q,q,q,q,q,q,tV⟩
 ·exact⟨M,F,A,E,D,G,by omega,q⟩
 clear M F A E D G
 rintro k a B Aq ⟨M,F,A,E,D,G,hk,p⟩;refine ns (st _ (dX (a:=k) (b:=4) q q) (nt (au ?_)));refine bV q (fun V=>?_) (fun V=>?_)
 ·have d:=dT V
  refine aY (ai (au (b9 (ns (st _ ((bB (i:=k) 1 q q aeV afl g Ok).to (b:=.pointer (some ⟨Y,k,none⟩)) (by simp[lF,Addr.jN])) (st _ (aA (b:=Y) (j:=k) (u:=.pointer (some ⟨I,3+k*16,none⟩)) q aex G (JP Ok)) (an q ?_)))))));have v:=F.cV;refine yE [(0,true),(1,true),(2,true),(3,true),(4,true),(5,true),(6,true),(7,false),(8,true),(9,true)] (fun w'=>bO w' O [v0] 27) di Yz ?_;intro Ar C;obtain⟨F,A,E,D,G,M⟩:=k6 C F A E D G M;refine⟨A,?_⟩;refine mo q (mo q (mz (fun w' X=>cH q) (mz (fun w' X=>fU VK mZ q Jk) (mz (fun w' X=>aA q fE X q) (mo q (Go.Wk.m (nE v0 a b.length) (fun w' X=>by exact kR a b.length fI mZ q v Ok Ok ⟨_,q⟩ q) ?_))))));refine lp ?_ rfl;have hT:=F.by.tail a Ok;refine yj fI mZ q q D hT (wH _) (by have:(bR.cells (jB b (at4 b 8) (at4 b 12) k 0)).length=91:=rfl;simp;omega) ?_;intro As C D;clear hT;rw[← List.map_take,p,Y8 Ok p0]at D;replace F:=F.md C N;replace A:=A.sO C K;replace E:=E.sO C J;replace G:=G.sO C Ac;replace M:=M.eu C P;refine ak ⟨q,A,?_⟩;have Ai:min ((b.drop a).map b8).length 16=16:=Yw;refine mz (fun w' X=>gG (a:=a) (b:=min ((b.drop a).map b8).length 16) 9223372036854775808 q q q Ok) (mz (fun w' X=>eW q) (dA (bL (ai (ax (st _ (rA (a:=k) (b:=1) q q Ok) (mv q (nt ?_))))))));exact o9 (x0:=k+1) (x1:=a+min ((b.drop a).map b8).length 16) Ok ⟨q,q,q,q,q,q,q,q,tV⟩ ⟨M,F,A,E,D,G,by omega,by omega⟩
 have d:=dF V
 obtain rfl:k=4:=by omega
 subst p;clear G;refine cw (bD (bD (cZ (ai (au (ns (aj af5 q (RO (b:=I)) ?_)))))));rintro en Au ⟨c,rfl,gj,C,H⟩;refine rv ?_;have Ad:c≠I:=(by have:=D.lt;omega);obtain⟨F,A,E,D,M⟩:=k5 C F A E D M;have o:GF (.slice (some ⟨c,0,none⟩) 21 21) 21:=⟨_,_,q,Nat.le_refl _,by simp[maxLen],by simp⟩;refine sL q aeW o (mv q (nt (b9 ?_)))
 refine qX (fun(j:Nat) (a:Nat)=>[(40,(.int .i64 j)),(5,(.int .i64 a)),(1,.pointer (some ⟨O,0,none⟩)),(2,.pointer (some ⟨S,0,none⟩)),(3,.pointer (some ⟨I,0,none⟩)),(4,.func (.func 138) #[] #[.pointer (some ⟨O,0,none⟩)]),(38,.slice (some ⟨c,0,none⟩) 21 21),(39,.int .i64 ((21:Nat):Int))])
  (fun(j:Nat) (a:Nat) w'=>Md [] w w'∧Ls eF w' U v0 b∧bO w' O [v0] 27∧bO w' S Z 129∧bO w' I (bR.cells (jB b (at4 b 8) (at4 b 12) 4 j)) 129∧bO w' c (ptrs I 67 1 21) 229∧j≤21∧a=88+8*j) (fun(j:Nat) (a:Nat)=>21-j) (x0:=0) (x1:=24+16*4) ?_ ?_ ?_
 ·exact⟨q,q,q,q,q,q,q,q,tV⟩
 ·exact⟨M,F,A,E,D,H,by omega,q⟩
 clear M F A E D H
 rintro j a B Aw ⟨M,F,A,E,D,H,hj,p⟩;refine ns (st _ (dX (a:=j) (b:=21) q q) (nt (au ?_)));refine bV q (fun W=>?_) (fun W=>?_)
 ·have T:=dT W
  refine aY (ai (au (b9 (ns (st _ ((bB (i:=j) 1 q q aeW afm o Ok).to (b:=.pointer (some ⟨c,j,none⟩)) (by simp[lF,Addr.jN])) (st _ (aA (b:=c) (j:=j) (u:=.pointer (some ⟨I,67+j*1,none⟩)) q aey H (JP Ok)) (an q (nm q (st _ (aA q fE A q) (mv q (aj pK q (nU (Q:=fun _=>True) (fun _ _=>trivial) (F.sub fun _ _ _=>trivial) (a:Int) Ok 8 Ok) ?_)))))))))));rintro en Ax ⟨r0,r1,rfl,C,hr,e⟩;refine rv ?_;have z:pN b a 8=(lY b a,true):=xO (k:=8) (.inr q) Ok;rw[z]at e;obtain⟨rfl,rfl⟩:=Prod.mk.inj e;obtain⟨F,A,E,D,H,M⟩:=k6 C F A E D H M;refine mv q (st (.int .u64 ((lY b a:Nat):Int)) (jy q q) (se q q (sn q (bI (b:=I) (j:=67+j*1) q q bH q D (by have:(bR.cells (jB b (at4 b 8) (at4 b 12) 4 j)).length=91:=rfl;omega) ?_))));intro Ay C D;rw[Nat.mul_one,p,SC T]at D;replace F:=F.md C N;replace A:=A.sO C K;replace E:=E.sO C J;replace H:=H.sO C Ad;replace M:=M.eu C P;refine nt (ax (mv q (st _ (rA (a:=a) (b:=8) q q Ok) (cE q (ak (bL (ai (ax (st _ (rA (a:=j) (b:=1) q q Ok) (mv q (nt ?_)))))))))));exact o9 (x0:=j+1) (x1:=a+8) Ok ⟨q,q,q,q,q,q,q,q,tV⟩ ⟨M,F,A,E,D,H,by omega,by omega⟩
 have T:=dF W
 obtain rfl:j=21:=by omega
 subst p;clear H;refine cw (bD (bD (cZ (ai (ns (m2 q q (lU (cs:=[.pointer (some ⟨O,0,none⟩)]) q OX q (sI A F 256 Ok) ?_)))))));rintro en Az ⟨rfl,C⟩;refine rv ?_;obtain⟨F,A,E,D,M⟩:=k5 C F A E D M;refine m2 q q (st _ (rA (a:=256) (b:=4) q q Ok) (lU (cs:=[.pointer (some ⟨O,0,none⟩)]) q OX q (sI A F 260 Ok) ?_));rintro en A0 ⟨rfl,C⟩;refine rv ?_;obtain⟨F,A,E,D,M⟩:=k5 C F A E D M;refine sf q TK (bI q q gZ q D (by(show _<91;decide)) ?_);intro A1 C D;replace F:=F.md C N;replace A:=A.sO C K;replace E:=E.sO C J;replace M:=M.eu C P;refine sf q TL (bI q q gZ q D (by(show _<91;decide)) ?_);intro A2 C D;replace F:=F.md C N;replace A:=A.sO C K;replace E:=E.sO C J;replace M:=M.eu C P;refine nt (ns (st _ (aA q fE A q) (mv q (st _ (rA (a:=256) (b:=8) q q Ok) (aj pK q (nU (Q:=fun _=>True) (fun _ _=>trivial) (F.sub fun _ _ _=>trivial) ((264:Nat):Int) Ok 8 Ok) ?_)))));rintro en A3 ⟨r0,r1,rfl,C,hr,e⟩;refine rv ?_;have z:pN b ((264:Nat):Int) 8=(lY b 264,true):=xO (k:=8) (.inr q) Ok;rw[z]at e;obtain⟨rfl,rfl⟩:=Prod.mk.inj e;obtain⟨E,D,M⟩:=k3 C E D M;refine mv q (st (.int .u64 ((lY b 264:Nat):Int)) (jy q q) (se q q (sf q TM (bI q q bH q D (by(show _<91;decide)) ?_))));intro Ae C D;replace E:=E.sO C J;replace M:=M.eu C P
 replace D:bO Ae I (bR.cells (oD b)) 129:=D;refine nt (ns (st _ (mg q (by exact eZ) D) (eY q q (by exact eZ) (fun u hu=>bn bR.one u hu) E hZ ?_)));intro A4 C E;replace M:=M.eu C t;refine nt (gY ?_);exact agL trivial q q (by exact eZ) E ⟨_,q,M,JN p0,q⟩
theorem ade:cM Zp 135=true:=Yz
theorem yV (uQ:Up w Q) {v0:Value} {a:Ly} (h0:Ls eF w Q v0 a) {v1:Value} {b:Ly} (h1:Ls eF w Q v1 b) :
  Calls Zp 135 #[v0,v1] w fun en w'=>∃r0:Bool,en = .returned (.bool r0)∧Md [] w w'∧decide (a=b)=r0:=by
 have C:=h0.dP;have D:=h1.dP;have M:=Md.refl [] w;have A:=uQ;refine enter (n:=10) Tryz.func135 q q q fun B=>ns (an q (nm q (st _ (mU (s:=a) fI u5 u9 q h0.by) (mv q (st _ (mU (s:=b) fI u5 u9 q h1.by) (st _ (qJ (a:=a) (b:=b) q q) (ar q ?_)))))));exact cu (v:=(.bool ((decide (a=b))))) trivial q ⟨q,tV⟩ ⟨(decide (a=b)),q,M,(by simp(disch:=first|omega|assumption|simp) only [SS,reduceIte])⟩
theorem RQ (uQ:Up w Q) {v0:Value} {b:Ly} (h0:Ls eF w Q v0 b) {v1:Value} {p:Ly} (h1:Ls eF w Q v1 p) :
  Calls Zp 102 #[v0,v1] w fun en w'=>∃r0:Bool,en = .returned (.bool r0)∧Md [] w w'∧xj b p=r0:=by
 have I:=h0.dP;have J:=h1.dP;have M:=Md.refl [] w;have H:=uQ;refine enter (n:=18) Tryz.func102 q q q fun B=>ns (an q (nm q (sL q fI h0.cV (mv q (sL q fI h1.cV (st _ (DG (a:=b.length) (b:=p.length) q q) (mv q ?_)))))));refine cB (t:=10) q (fun A=>?_) (fun A=>?_)
 ·(have C:=dT A);refine sg A (bf q) (sg A (bf q) (sg A (iw q fI h1.cV) (sg A (fp 1 0 p.length fI mZ q h0.cV Ok Ok q ⟨_,q⟩) ?_)));have F:=h0.head (hi:=p.length) Ok;refine sg A (bf q) (gJ q q q A ade q (yV uQ F h1) ?_);rintro en K ⟨D,rfl,G,E⟩;refine rv ?_;replace M:=M.k G;refine st _ (bF q A q) (ar q ?_);exact cu (v:=(.bool D)) trivial q ⟨q,tV⟩ ⟨D,q,M,(by rw[xj]<;>simp(disch:=first|omega|assumption|simp) only [SS,reduceIte,C,E])⟩
 (have C:=dF A);refine sk A (sk A (sk A (sk A (sk A (sk A (st _ (bE q A q) (ar q ?_)))))));exact cu (v:=(.bool false)) trivial q ⟨q,tV⟩ ⟨false,q,M,(by rw[xj]<;>simp(disch:=first|omega|assumption|simp) only [SS,reduceIte,C])⟩
theorem HK (uQ:Up w Q) (h:bR) (a0_0:bR.ok h) :
  Calls Zp 60 #[.agg (bR.cells h).toArray] w fun en w'=>∃r0:Nat,∃r1:Bool,en = .returned (.tuple #[(.int .u64 r0),(.bool r1)])∧Md [] w w'∧r0<18446744073709551616∧yM h=(r0,r1):=by
 have M:=Md.refl [] w;have J:=uQ;refine enter (n:=15) Tryz.func60 q q q fun B=>ns (eE (cs:=(bR.cells h)) q q ?_);intro G N C I H E;have F:=uQ _ C;replace C:=ly M.size C;replace M:=M.k H;refine cE q (an q (ns (sf q mM (sl (u:=(.int .u64 ((h.n.getD 0 0:Nat):Int))) q bH E q ?_))));have K:h.n.getD 0 0<18446744073709551616:=(fM a0_0.2.2.2.2.2.2.2.1 0);refine sf q zG (sl (u:=(.int .u64 ((h.n.getD 1 0:Nat):Int))) q bH E q ?_);have L:h.n.getD 1 0<18446744073709551616:=(fM a0_0.2.2.2.2.2.2.2.1 1);refine st _ (qH (a:=(h.n.getD 0 0)) (b:=(h.n.getD 1 0)) 18446744073709551616 q q q q) (an q (au (nm q (sf q mM (sl (u:=(.int .u64 ((h.n.getD 0 0:Nat):Int))) q bH E q (st _ (dX (a:=(((h.n.getD 0 0)+(h.n.getD 1 0))%18446744073709551616)) (b:=(h.n.getD 0 0)) q q) (nt ?_)))))));refine bV q (fun D=>?_) (fun D=>?_)
 ·(have A:=dT D);refine ns (cE q (ar q (aV ?_)));exact dD (vs:=[(.int .u64 ((0:Nat):Int)),(.bool false)]) trivial q ⟨q,q,tV⟩ q ⟨0,false,q,M,Ok,(by rw[yM]<;>simp(disch:=first|omega|assumption|simp) only [SS,reduceIte,A])⟩
 (have A:=dF D);refine aY (ai (nm q (cE q (ar q ?_))));exact dD (vs:=[(.int .u64 ((((h.n.getD 0 0)+(h.n.getD 1 0))%18446744073709551616:Nat):Int)),(.bool true)]) trivial q ⟨q,q,tV⟩ q ⟨((h.n.getD 0 0)+(h.n.getD 1 0))%18446744073709551616,true,q,M,Ok,(by rw[yM]<;>simp(disch:=first|omega|assumption|simp) only [SS,reduceIte,A])⟩
theorem yW (uQ:Up w Q) (h:bR) (a0_0:bR.ok h) (p:Nat) (a1:p<18446744073709551616) (size:Nat) (a2:size<18446744073709551616) (e:Nat) (a3:e<18446744073709551616) :
  Calls Zp 104 #[.agg (bR.cells h).toArray,(.int .u64 p),(.int .u64 size),(.int .u64 e)] w fun en w'=>∃r0:Nat,en = .returned (.int .i64 r0)∧Md [] w w'∧r0<9223372036854775808∧kE h p size e=r0:=by
 have M:=Md.refl [] w;have X:=uQ;refine enter (n:=45) Tryz.func104 q q q fun B=>ns (eE (cs:=(bR.cells h)) q q ?_);intro U Z N W V R;have T:=uQ _ N;replace N:=ly M.size N;replace M:=M.k V;refine an q (au (b9 (nm q (st _ (oG (a:=p) (b:=8) q q Ok) (st _ (eP (a:=(p%8)) (b:=0) q q) (cE q (nt ?_)))))));refine bV q (fun S=>?_) (fun S=>?_)
 ·(have I:=dT S);refine ns (ar q (bG (aV ?_)));exact cu (v:=(.int .i64 ((3:Nat):Int))) trivial q ⟨q,tV⟩ ⟨3,q,M,Ok,(by rw[kE]<;>simp(disch:=first|omega|assumption|simp) only [SS,reduceIte,I])⟩
 (have I:=dF S);refine nm q (st _ (iv (a:=size) (b:=0) q q) (mv q ?_));refine cB (t:=16) q (fun F=>?_) (fun F=>?_)
 ·(have D:=dT F);refine sk F (sk F (sk F (st _ (bF q F q) (an q (gq q q (ns (ar q (bG (aV ?_)))))))));exact cu (v:=(.int .i64 ((5:Nat):Int))) trivial q ⟨q,tV⟩ ⟨5,q,M,Ok,(by rw[kE]<;>simp(disch:=first|omega|assumption|simp) only [SS,reduceIte,I,D])⟩
 (have D:=dF F);refine sg F (bf q) (sg F (oG (a:=size) (b:=16) q q Ok) (sg F (eP (a:=(size%16)) (b:=0) q q) (st _ (bE q F q) (an q ?_))));refine bV q (fun O=>?_) (fun O=>?_)
 ·(have E:=dT O);refine ns (ar q (bG (aV ?_)));exact cu (v:=(.int .i64 ((5:Nat):Int))) trivial q ⟨q,tV⟩ ⟨5,q,M,Ok,(by rw[kE]<;>simp(disch:=first|omega|assumption|simp) only [SS,reduceIte,I,D,E])⟩
 (have E:=dF O);refine nm q (sf q mM (sl (u:=(.int .u64 ((h.n.getD 0 0:Nat):Int))) q bH R q ?_));have Y:h.n.getD 0 0<18446744073709551616:=(fM a0_0.2.2.2.2.2.2.2.1 0);refine st _ (dX (a:=p) (b:=(h.n.getD 0 0)) q q) (mv q ?_);refine cB (t:=26) q (fun A=>?_) (fun A=>?_)
 ·(have H:=dT A);refine sk A (sk A (sk A (sk A (sk A (st _ (bF q A q) (mv q (sk q (sk q (sk q (st _ (bF q q q) (mv q (sk q (sk q ?_)))))))))))));refine sk q (sk q (sk q (st _ (bF q q q) (an q (gq q q (ns (ar q (bG (aV ?_)))))))));exact cu (v:=(.int .i64 ((2:Nat):Int))) trivial q ⟨q,tV⟩ ⟨2,q,M,Ok,(by rw[kE]<;>simp(disch:=first|omega|assumption|simp) only [SS,reduceIte,I,D,E,H])⟩
 (have H:=dF A);refine sg A (bf q) (sg A (aU q mM) (sg A ((aA q bH R q).to (b:=(.int .u64 ((h.n.getD 0 0:Nat):Int))) q) (sg A (lR (a:=p) (b:=(h.n.getD 0 0)) 18446744073709551616 q q q Ok) (sg A (dX (a:=(p-(h.n.getD 0 0))) (b:=16) q q) (st _ (bE q A q) (mv q ?_))))));refine cB (t:=33) q (fun G=>?_) (fun G=>?_)
 ·(have J:=dT G);refine sk G (sk G (sk G (st _ (bF q G q) (mv q (sk q (sk q (sk q (sk q (sk q (st _ (bF q q q) (an q (gq q q ?_))))))))))));refine ns (ar q (bG (aV ?_)));exact cu (v:=(.int .i64 ((2:Nat):Int))) trivial q ⟨q,tV⟩ ⟨2,q,M,Ok,(by rw[kE]<;>simp(disch:=first|omega|assumption|simp) only [SS,reduceIte,I,D,E,H,J])⟩
 (have J:=dF G);refine sg G (bf q) (sg G (bf q) (sg G (ja (a:=p) (b:=e) q q) (st _ (bE q G q) (mv q ?_))));refine cB (t:=38) q (fun C=>?_) (fun C=>?_)
 ·(have K:=dT C);refine sk C (sk C (sk C (sk C (sk C (st _ (bF q C q) (an q (gq q q (ns (ar q (bG ?_))))))))));refine aV ?_;exact cu (v:=(.int .i64 ((2:Nat):Int))) trivial q ⟨q,tV⟩ ⟨2,q,M,Ok,(by rw[kE]<;>simp(disch:=first|omega|assumption|simp) only [SS,reduceIte,I,D,E,H,J,K])⟩
 (have K:=dF C);refine sg C (bf q) (sg C (bf q) (sg C (bf q) (sg C (lR (a:=e) (b:=p) 18446744073709551616 q q q Ok) (sg C (ja (a:=size) (b:=(e-p)) q q) (st _ (bE q C q) (an q ?_))))));refine bV q (fun P=>?_) (fun P=>?_)
 ·(have L:=dT P);refine ns (ar q (bG (aV ?_)));exact cu (v:=(.int .i64 ((2:Nat):Int))) trivial q ⟨q,tV⟩ ⟨2,q,M,Ok,(by rw[kE]<;>simp(disch:=first|omega|assumption|simp) only [SS,reduceIte,I,D,E,H,J,K,L])⟩
 (have L:=dF P);refine aY (bL (ai (ns (ar q ?_))));exact cu (v:=(.int .i64 ((0:Nat):Int))) trivial q ⟨q,tV⟩ ⟨0,q,M,Ok,(by rw[kE]<;>simp(disch:=first|omega|assumption|simp) only [SS,reduceIte,I,D,E,H,J,K,L])⟩
theorem jd:uJ Zp 5 1 1=true:=Yz
theorem afq:cM Zp 102=true:=Yz
theorem afr:cM Zp 103=true:=Yz
theorem acZ:cM Zp 104=true:=Yz
theorem agb:cM Zp 60=true:=Yz
theorem gD:ig Zp 3=true:=Yz
theorem LD (uQ:Up w Q) {v0:Value} {l:Ly} (h0:Ls eF w Q v0 l) (p0:l.length≤140737488355328) :
  Calls Zp 61 #[v0] w fun en w'=>∃u0:Value,∃r0:List UInt8,∃Q':Nat→Prop,en = .returned (u0)∧Md [] w w'∧nI w w' Q Q'∧Ow eF 5 (bM [] w) w' Q' u0 r0∧l=r0:=by
 obtain⟨a,A,T,R,V⟩:∃a A,v0 = .slice a l.length A∧l.length≤A∧(a=none→l=[]):=by
  obtain⟨a,A,j,e,M,k,N,_⟩:=h0;exact⟨a,A,e,M,fun h=>List.eq_nil_of_length_eq_zero (by have:=N h;omega)⟩
 refine enter (n:=8) Tryz.func61 q q q fun B=>ns (an q (au (nm q (st (.bool a.isNone) (by exact QD (a:=a) (m:=l.length) (c:=A) (by rw[← T];rfl) fI) (nt ?_)))));refine bV q (fun H=>?_) (fun H=>?_)
 ·have S:l=[]:=V (Option.isNone_iff_eq_none.1 H)
  refine ns (ar q (aV ?_));exact gK trivial q q ⟨_,[],Q,q,Md.refl [] w,⟨fun x h _=>h,fun x h=>h,uQ⟩,Ow.nil _ _ _ _ _,S⟩
 refine aY ?_
 refine ai (ns (fD fI jd ?_));intro b i D W C O;obtain⟨K,J,Z,X,f⟩:=jj uQ D W C;have P:Ow eF 5 (bM [] w) i K (.slice (some ⟨b,0,none⟩) 0 0) []:=Ow.cK (m:=0) O q q (by simp[maxLen]) (.inr D) X;replace h0:=(h0.sub J).o C;refine mv q (su (sz:=1) q fI jd q q P h0.lz f (bM.new C) Yw Yw ?_);intro p r L Y d g E F o _ U;refine ar q ?_;exact gK trivial q q ⟨_,_,L,q,C.eu F D,⟨fun x G I=>Y x (J x G I) (lj I C.size),fun x G=>Z x (d x G),g⟩,E,by simp⟩
theorem tu (uQ:Up w Q) {v0:Value} {l:Ly} (h0:Ls eF w Q v0 l) (p0:l.length≤140737488355328) :
  Calls Zp 61 #[v0] w fun en w'=>∃u0:Value,∃r0:List UInt8,en = .returned (u0)∧Md [] w w'∧Ls eF w' Q u0 r0∧l=r0 :=
 (LD uQ h0 p0).mono fun en w' ⟨u0,r0,Q2,he,hm,kq,k0,hF⟩=>⟨u0,r0,he,hm,k0.ls kq.2.1 (bM.up uQ),hF⟩
set_option maxRecDepth 100000 in
abbrev jW:bR:={gO:=0,cF:=0,state:=0,dJ:=ou,dQ:=ou,cG:=ou,seq:=ou,n:=(List.replicate 21 0),dG:=0,dN:=0,dM:=0}
set_option maxHeartbeats 4000000 in
theorem RS (uQ:Up w Q) {v0:Value} {b:Ly} (h0:Ls eF w Q v0 b) :
  Calls Zp 59 #[v0] w fun en w'=>∃r0:bR,∃r1:Nat,en = .returned (.tuple #[.agg (bR.cells r0).toArray,(.int .i64 r1)])∧Md [] w w'∧bR.ok r0∧r1<9223372036854775808∧kG b=(r0,r1):=by
 have L0:=h0.dP;have M:=Md.refl [] w;have Bl:=uQ;refine enter (n:=90) Tryz.func59 q q q fun B=>ns (bU r5 ?_);intro v w1 i Az E A;obtain⟨Q2,r,sT,A1,V⟩:=jj uQ i Az E;replace i:=ly M.size i;replace h0:=(h0.sub r).o E;replace M:=M.k E;replace uQ:=V;clear V r sT;have H:bM [] w v:=.inr i;replace A:bO _ _ (bR.cells (jW)) _:=A;have A9:bR.ok (jW):=(by exact⟨Jk,Jk,Jk,q,q,q,q,(lu _),Jk,Jk,Jk⟩);refine an q (au (b9 (nm q (sL q fI h0.cV (st _ (dX (a:=b.length) (b:=272) q q) (cE q (nt ?_)))))));refine bV q (fun h9=>?_) (fun h9=>?_)
 ·(have R:=dT h9);refine ns (st _ (bY (us:=[]) (cs:=(bR.cells (jW))) [] r5 ri q q trivial trivial q q) (aX (us:=(bR.cells (jW))) q q (by exact eZ) (by exact fun u S=>bn (bR.one) u S) A (lB q) ?_));have F:=A;clear A;intro w4 E A;replace M:=M.step E (hI H);clear F;replace A:bO _ _ (bR.cells (jW)) _:=A;refine ar q (bG (aV ?_));exact dD (vs:=[(.agg (bR.cells (jW)).toArray),(.int .i64 ((22:Nat):Int))]) trivial q ⟨⟨_,q,cJ (cs:=(bR.cells (jW))) (by exact eZ) A⟩,q,tV⟩ q ⟨(jW),22,q,M,Yj,Ok,(Kt R)⟩
 (have R:=dF h9);refine nm q (bg [[(b8 76)],[(b8 80)],[(b8 75)],[(b8 83)],[(b8 72)],[(b8 72)],[(b8 82)],[(b8 72)]] fI jd Jk Jk q q ⟨q,q,q,q,q,q,q,q,tV⟩ ⟨q,q,q,q,q,q,q,q,tV⟩ q Jk ?_);intro e w5 l As E Z;have Aj:v≠e:=(by have:=A.lt;omega);have k:bM [] w e:=bM.new M _ l;obtain⟨Q6,r,sT,c,V⟩:=jj uQ l As E;replace h0:=(h0.sub r).o E;obtain⟨A,M⟩:=k2 E A M;replace uQ:=V;clear V r sT;refine QJ fI u5 q (show bO _ _ (([76,80,75,83,72,72,82,72]:Ly).map b8) _ from Z) (By.cK (show bO _ _ (([76,80,75,83,72,72,82,72]:Ly).map b8) _ from Z) q Jk) ?_;intro w7 E hY;have Af:=Z;clear Z;have hS:∀b∈[e],¬Q6 b:=(hI c);replace h0:=h0.md E hS;replace A:=A.md E Vk;replace uQ:=uQ.md E;replace M:=M.step E (hI k);obtain⟨Q8,fQ,fT,Ag⟩:=zq (Q:=Q6) hY;replace h0:=h0.sub (fun b d _=>fQ b d);replace uQ:Up w7 Q8:=fun b d=>fQ b (uQ b d);clear Af hS fQ fT hY c;refine aj afq q (RQ uQ h0 Ag) ?_;rintro en w9 ⟨Ba,rfl,E,T⟩;refine rv ?_;obtain⟨h0,A,uQ,M⟩:=k4 E h0 A uQ M;refine st _ (gU q) (an q ?_);refine bV q (fun y=>?_) (fun y=>?_)
 ·(have o:=eO y);refine ns (st _ (bY (us:=[]) (cs:=(bR.cells (jW))) [] r5 ri q q trivial trivial q q) (aX (us:=(bR.cells (jW))) q q (by exact eZ) (by exact fun u S=>bn (bR.one) u S) A (lB q) ?_));have F:=A;clear A;intro Bm E A;replace M:=M.step E (hI H);clear F;replace A:bO _ _ (bR.cells (jW)) _:=A;refine ar q (bG (aV ?_));exact dD (vs:=[(.agg (bR.cells (jW)).toArray),(.int .i64 ((6:Nat):Int))]) trivial q ⟨⟨_,q,cJ (cs:=(bR.cells (jW))) (by exact eZ) A⟩,q,tV⟩ q ⟨(jW),6,q,M,Yj,Ok,(N5 R (by rw[T];exact o))⟩
 (have o:=eN y);refine aY (bL (ai (nm q (aj afr q (LQ uQ h0 Ok) ?_))));rintro en Bn ⟨C,rfl,E,D,K⟩;refine rv ?_;obtain⟨h0,A,uQ,M⟩:=k4 E h0 A uQ M;refine bU r5 ?_;intro x Bo j A0 E G;have Av:v≠x:=(by have:=A.lt;omega);obtain⟨Aw,r,sT,Ah,V⟩:=jj uQ j A0 E;replace j:=ly M.size j;replace h0:=(h0.sub r).o E;obtain⟨A,M⟩:=k2 E A M;replace uQ:=V;clear V r sT;have Ai:bM [] w x:=.inr j;replace G:bO _ _ (bR.cells (jW)) _:=G;have A2:bR.ok (jW):=(by exact⟨Jk,Jk,Jk,q,q,q,q,(lu _),Jk,Jk,Jk⟩);refine aX (us:=(bR.cells C)) q q (by exact eZ) (by exact fun u S=>bn (bR.one) u S) G (lB q) ?_
 have Ar:=G;clear G;intro Bp E G;have hS:∀b∈[x],¬Aw b:=(hI Ah);replace h0:=h0.md E hS;replace A:=A.md E Vk;replace uQ:=uQ.md E;replace M:=M.step E (hI Ai);clear Ar hS;replace G:bO _ _ (bR.cells C) _:=G;refine nt (ns (st _ (bX (bR.cells C) q (by exact eZ) G q) (aj agb q (HK uQ C D) ?_)));rintro en Bq ⟨W,A6,rfl,E,A3,L⟩;refine rv ?_;obtain⟨h0,A,G,uQ,M⟩:=k5 E h0 A G uQ M;refine mv q (se q q (se q q (cE q (an q (au (b9 (ns (sf q zF (sl (u:=(.int .u32 C.cF)) q gZ G q ?_)))))))));have Bd:C.cF<4294967296:=D.2.1;refine st _ (UF (a:=C.cF) (b:=4) 4294967296 q q q q Ok) (st _ (eP (a:=(andNot C.cF 4)) (b:=0) q q) (an q ?_));refine bV q (fun z=>?_) (fun z=>?_)
 ·(have I:=dT z);refine ns (st _ (bY (us:=[]) (cs:=(bR.cells (jW))) [] r5 ri q q trivial trivial q q) (aX (us:=(bR.cells (jW))) q q (by exact eZ) (by exact fun u S=>bn (bR.one) u S) A (lB q) ?_));have F:=A;clear A;intro Br E A;replace M:=M.step E (hI H);clear F;replace A:bO _ _ (bR.cells (jW)) _:=A;refine ar q (bG (aV ?_));exact dD (vs:=[(.agg (bR.cells (jW)).toArray),(.int .i64 ((7:Nat):Int))]) trivial q ⟨⟨_,q,cJ (cs:=(bR.cells (jW))) (by exact eZ) A⟩,q,tV⟩ q ⟨(jW),7,q,M,Yj,Ok,(lS R T (by simp_all) K (by rw[jY L];rw[if_pos I]) Jk)⟩
 (have I:=dF z);refine ns (sf q Z7 (sl (u:=(.int .i64 C.state)) q gD G q ?_));have Be:C.state<9223372036854775808:=D.2.2.1;refine st _ (ja (a:=C.state) (b:=2) q q) (an q ?_);refine bV q (fun Aa=>?_) (fun Aa=>?_)
 ·(have J:=dT Aa);refine ns (st _ (bY (us:=[]) (cs:=(bR.cells (jW))) [] r5 ri q q trivial trivial q q) (aX (us:=(bR.cells (jW))) q q (by exact eZ) (by exact fun u S=>bn (bR.one) u S) A (lB q) ?_));have F:=A;clear A;intro Bs E A;replace M:=M.step E (hI H);clear F;replace A:bO _ _ (bR.cells (jW)) _:=A;refine ar q (bG (aV ?_));exact dD (vs:=[(.agg (bR.cells (jW)).toArray),(.int .i64 ((8:Nat):Int))]) trivial q ⟨⟨_,q,cJ (cs:=(bR.cells (jW))) (by exact eZ) A⟩,q,tV⟩ q ⟨(jW),8,q,M,Yj,Ok,(lS R T (by simp_all) K (by rw[jY L];rw[if_neg I,if_pos J]) Jk)⟩
 (have J:=dF Aa);refine ns (sf q mM (sl (u:=(.int .u64 ((C.n.getD 0 0:Nat):Int))) q bH G q ?_));have Bf:C.n.getD 0 0<18446744073709551616:=(fM D.2.2.2.2.2.2.2.1 0);refine st _ (dX (a:=(C.n.getD 0 0)) (b:=272) q q) (mv q ?_);refine cB (t:=43) q (fun O=>?_) (fun O=>?_)
 ·(have Al:=dT O);refine sk O (sk O (sk O (sk O (st _ (bF q O q) (mv q (sk q (sk q (sk q (sk q (st _ (bF q q q) (an q (gq q q ?_))))))))))));refine ns (st _ (bY (us:=[]) (cs:=(bR.cells (jW))) [] r5 ri q q trivial trivial q q) (aX (us:=(bR.cells (jW))) q q (by exact eZ) (by exact fun u S=>bn (bR.one) u S) A (lB q) ?_));have F:=A;clear A;intro Bt E A;replace M:=M.step E (hI H);clear F;replace A:bO _ _ (bR.cells (jW)) _:=A;refine ar q (bG (aV ?_));exact dD (vs:=[(.agg (bR.cells (jW)).toArray),(.int .i64 ((5:Nat):Int))]) trivial q ⟨⟨_,q,cJ (cs:=(bR.cells (jW))) (by exact eZ) A⟩,q,tV⟩ q ⟨(jW),5,q,M,Yj,Ok,(lS R T (by simp_all) K (by rw[jY L];rw[if_neg I,if_neg J,if_pos Ok]) Jk)⟩
 (have Al:=dF O);refine sg O (aU q mM) (sg O ((aA q bH G q).to (b:=(.int .u64 ((C.n.getD 0 0:Nat):Int))) q) (sg O (oG (a:=(C.n.getD 0 0)) (b:=8) q q Ok) (sg O (eP (a:=((C.n.getD 0 0)%8)) (b:=0) q q) (st _ (bE q O q) (mv q ?_)))));refine cB (t:=49) q (fun P=>?_) (fun P=>?_)
 ·(have Am:=dT P);refine sk P (sk P (sk P (sk P (st _ (bF q P q) (an q (gq q q (ns (st _ (bY (us:=[]) (cs:=(bR.cells (jW))) [] r5 ri q q trivial trivial q q) (aX (us:=(bR.cells (jW))) q q (by exact eZ) (by exact fun u S=>bn (bR.one) u S) A (lB q) ?_)))))))));have F:=A;clear A;intro Bu E A;replace M:=M.step E (hI H);clear F;replace A:bO _ _ (bR.cells (jW)) _:=A;refine ar q (bG (aV ?_));exact dD (vs:=[(.agg (bR.cells (jW)).toArray),(.int .i64 ((5:Nat):Int))]) trivial q ⟨⟨_,q,cJ (cs:=(bR.cells (jW))) (by exact eZ) A⟩,q,tV⟩ q ⟨(jW),5,q,M,Yj,Ok,(lS R T (by simp_all) K (by rw[jY L];rw[if_neg I,if_neg J,if_pos Ok]) Jk)⟩
 (have Am:=dF P);refine sg P (aU q zG) (sg P ((aA q bH G q).to (b:=(.int .u64 ((C.n.getD 1 0:Nat):Int))) q) ?_);have Bg:C.n.getD 1 0<18446744073709551616:=(fM D.2.2.2.2.2.2.2.1 1);refine sg P (oG (a:=(C.n.getD 1 0)) (b:=8) q q Ok) (sg P (eP (a:=((C.n.getD 1 0)%8)) (b:=0) q q) (st _ (bE q P q) (an q ?_)));refine bV q (fun Ab=>?_) (fun Ab=>?_)
 ·(have Ak:=dT Ab);refine ns (st _ (bY (us:=[]) (cs:=(bR.cells (jW))) [] r5 ri q q trivial trivial q q) (aX (us:=(bR.cells (jW))) q q (by exact eZ) (by exact fun u S=>bn (bR.one) u S) A (lB q) ?_));have F:=A;clear A;intro Bv E A;replace M:=M.step E (hI H);clear F;replace A:bO _ _ (bR.cells (jW)) _:=A;refine ar q (bG (aV ?_));exact dD (vs:=[(.agg (bR.cells (jW)).toArray),(.int .i64 ((5:Nat):Int))]) trivial q ⟨⟨_,q,cJ (cs:=(bR.cells (jW))) (by exact eZ) A⟩,q,tV⟩ q ⟨(jW),5,q,M,Yj,Ok,(lS R T (by simp_all) K (by rw[jY L];rw[if_neg I,if_neg J,if_pos Ok]) Jk)⟩
 (have Ak:=dF Ab);refine nm q (st _ (gU q) (mv q ?_));refine cB (t:=59) q (fun N=>?_) (fun N=>?_)
 ·(have Ap:=eO N);refine sk N (sk N (sk N (sk N (sk N (st _ (bF q N q) (an q (gq q q (ns (st _ (bY (us:=[]) (cs:=(bR.cells (jW))) [] r5 ri q q trivial trivial q q) (aX (us:=(bR.cells (jW))) q q (by exact eZ) (by exact fun u S=>bn (bR.one) u S) A (lB q) ?_))))))))));have F:=A;clear A;intro Bw E A;replace M:=M.step E (hI H);clear F;replace A:bO _ _ (bR.cells (jW)) _:=A;refine ar q (bG (aV ?_));exact dD (vs:=[(.agg (bR.cells (jW)).toArray),(.int .i64 ((2:Nat):Int))]) trivial q ⟨⟨_,q,cJ (cs:=(bR.cells (jW))) (by exact eZ) A⟩,q,tV⟩ q ⟨(jW),2,q,M,Yj,Ok,(lS R T (by simp_all) K (by rw[jY L];rw[if_neg I,if_neg J,if_neg Ok,if_pos (by(left;simp_all))]) Jk)⟩
 (have Ap:=eN N);refine sg N (bf q) (sg N (bf q) (sg N (iw q fI h0.cV) (sg N (dH (a:=b.length) 18446744073709551616 q (by rw[u3];rfl) kW q Ok) (sg N (ja (a:=W) (b:=b.length) q q) (st _ (bE q N q) (an q ?_))))));refine bV q (fun Ac=>?_) (fun Ac=>?_)
 ·(have Ao:=dT Ac);refine ns (st _ (bY (us:=[]) (cs:=(bR.cells (jW))) [] r5 ri q q trivial trivial q q) (aX (us:=(bR.cells (jW))) q q (by exact eZ) (by exact fun u S=>bn (bR.one) u S) A (lB q) ?_));have F:=A;clear A;intro Bx E A;replace M:=M.step E (hI H);clear F;replace A:bO _ _ (bR.cells (jW)) _:=A;refine ar q (bG (aV ?_));exact dD (vs:=[(.agg (bR.cells (jW)).toArray),(.int .i64 ((2:Nat):Int))]) trivial q ⟨⟨_,q,cJ (cs:=(bR.cells (jW))) (by exact eZ) A⟩,q,tV⟩ q ⟨(jW),2,q,M,Yj,Ok,(lS R T (by simp_all) K (by rw[jY L];rw[if_neg I,if_neg J,if_neg Ok,if_pos (by(right;omega))]) Jk)⟩
 (have Ao:=dF Ac);refine aY (bL (ai (au (ns (st _ (bX (bR.cells C) q (by exact eZ) G q) (sf q zH (sl (u:=(.int .u64 ((C.n.getD 2 0:Nat):Int))) q bH G q ?_)))))));have Bh:C.n.getD 2 0<18446744073709551616:=(fM D.2.2.2.2.2.2.2.1 2);refine sf q wD (sl (u:=(.int .u64 ((C.n.getD 3 0:Nat):Int))) q bH G q ?_);have Bi:C.n.getD 3 0<18446744073709551616:=(fM D.2.2.2.2.2.2.2.1 3);refine mv q (aj acZ q (yW uQ C D (C.n.getD 2 0) Ok (C.n.getD 3 0) Ok W Ok) ?_);rintro en Bz ⟨X,rfl,E,A4,g⟩;refine rv ?_;obtain⟨A,G,uQ,M⟩:=k4 E A G uQ M;refine an q (nm q (st _ (eP (a:=X) (b:=0) q q) (nt ?_)));refine bV q (fun Ad=>?_) (fun Ad=>?_)
 ·(have U:=dT Ad);refine ns (st _ (bY (us:=[]) (cs:=(bR.cells (jW))) [] r5 ri q q trivial trivial q q) (mv q (aX (us:=(bR.cells (jW))) q q (by exact eZ) (by exact fun u S=>bn (bR.one) u S) A (lB q) ?_)));have F:=A;clear A;intro B0 E A;replace M:=M.step E (hI H);clear F;replace A:bO _ _ (bR.cells (jW)) _:=A;refine ar q (aV ?_);exact dD (vs:=[(.agg (bR.cells (jW)).toArray),(.int .i64 X)]) trivial q ⟨⟨_,q,cJ (cs:=(bR.cells (jW))) (by exact eZ) A⟩,q,tV⟩ q ⟨(jW),X,q,M,Yj,Yj,(lS R T (by simp_all) K (by rw[jY L];rw[if_neg I,if_neg J,if_neg Ok,if_neg (by rintro(h|h)<;>first|omega|simp_all),g,if_pos U]) U)⟩
 (have U:=dF Ad);refine aY (ai (au (ns (st _ (bX (bR.cells C) q (by exact eZ) G q) (sf q wE (sl (u:=(.int .u64 ((C.n.getD 4 0:Nat):Int))) q bH G q ?_))))));have Bj:C.n.getD 4 0<18446744073709551616:=(fM D.2.2.2.2.2.2.2.1 4);refine sf q wF (sl (u:=(.int .u64 ((C.n.getD 5 0:Nat):Int))) q bH G q ?_);have Bk:C.n.getD 5 0<18446744073709551616:=(fM D.2.2.2.2.2.2.2.1 5);refine mv q (aj acZ q (yW uQ C D (C.n.getD 4 0) Ok (C.n.getD 5 0) Ok W Ok) ?_);rintro en B1 ⟨Y,rfl,E,A5,p⟩;refine rv ?_;obtain⟨A,G,M⟩:=k3 E A G M;refine an q (nm q (st _ (eP (a:=Y) (b:=0) q q) (nt ?_)));refine bV q (fun Ae=>?_) (fun Ae=>?_)
 ·(have f:=dT Ae);refine ns (st _ (bY (us:=[]) (cs:=(bR.cells (jW))) [] r5 ri q q trivial trivial q q) (mv q (aX (us:=(bR.cells (jW))) q q (by exact eZ) (by exact fun u S=>bn (bR.one) u S) A (lB q) ?_)));have F:=A;clear A;intro B2 E A;replace M:=M.step E (hI H);clear F;replace A:bO _ _ (bR.cells (jW)) _:=A;refine ar q (aV ?_);exact dD (vs:=[(.agg (bR.cells (jW)).toArray),(.int .i64 Y)]) trivial q ⟨⟨_,q,cJ (cs:=(bR.cells (jW))) (by exact eZ) A⟩,q,tV⟩ q ⟨(jW),Y,q,M,Yj,Yj,(lS R T (by simp_all) K (by rw[jY L];rw[if_neg I,if_neg J,if_neg Ok,if_neg (by rintro(h|h)<;>first|omega|simp_all),g,if_neg U,p]) f)⟩
 (have f:=dF Ae);refine aY (ai (ns (st _ (bX (bR.cells C) q (by exact eZ) G q) (aX (us:=(bR.cells C)) q q (by exact eZ) (by exact fun u S=>bn (bR.one) u S) A (lB q) ?_))));have F:=A;clear A;intro B3 E A;replace M:=M.step E (hI H);clear F;replace A:bO _ _ (bR.cells C) _:=A;refine ar q ?_;exact dD (vs:=[(.agg (bR.cells C).toArray),(.int .i64 ((0:Nat):Int))]) trivial q ⟨⟨_,q,cJ (cs:=(bR.cells C)) (by exact eZ) A⟩,q,tV⟩ q ⟨C,0,q,M,D,Ok,(aa8 R T (by simp_all) K (by rw[jY L];rw[if_neg I,if_neg J,if_neg Ok,if_neg (by rintro(h|h)<;>first|omega|simp_all),g,if_neg U,p];simpa using f))⟩
theorem ahv:cM Zp 59=true:=Yz
theorem agc:cM Zp 61=true:=Yz
theorem ag5:fB Zp 135=some [(0,1),(1,91)]:=Yz
theorem ahU:ej Zp 135=some ([.slice none 0 0,.int .u32 0,.int .u32 0,.int .i64 0] ++ (List.replicate 64 (.int .u8 0) ++ (List.replicate 21 (.int .u64 0) ++ ([.int .u32 0,.int .u32 0,.int .u64 0])))):=Yz
set_option maxRecDepth 100000 in
theorem BI (uQ:Up w Q) {v0:Value} {b:Ly} (h0:Ls eF w Q v0 b) (p0:b.length≤140737488355328) :
  Calls Zp 23 #[v0] w fun en w'=>∃u0:Value,∃r0:Option (dI),∃r1:Nat,en = .returned (.tuple #[u0,(.int .i64 r1)])∧Md [] w w'∧Po dU 135 w' Q u0 r0∧r1<9223372036854775808∧jV b=(r0,r1):=by
 have L0:=h0.dP;have M:=Md.refl [] w;have t:=uQ;have l:∀b,Q b→Q b:=fun _ h=>h;refine enter (n:=28) Tryz.func23 q q q fun B=>ns (cE q (an q (nm q (aj ahv q (RS uQ h0) ?_))));rintro en w1 ⟨C,L,rfl,D,P,z,X⟩;refine rv ?_;obtain⟨h0,uQ,M⟩:=k3 D h0 uQ M;refine mv q (se q q (se q q (bU r5 ?_)));intro V w2 O r D A;obtain⟨Q3,j,k,Z,J⟩:=jj uQ O r D;replace l:=tT l k;replace O:=ly M.size O;replace h0:=(h0.sub j).o D;replace M:=M.k D;replace uQ:=J;clear J j k;have c:bM [] w V:=.inr O;replace A:bO _ _ (bR.cells (jW)) _:=A;have y:bR.ok (jW):=(by exact⟨Jk,Jk,Jk,q,q,q,q,(lu _),Jk,Jk,Jk⟩);refine aX (us:=(bR.cells C)) q q (by exact eZ) (by exact fun u hu=>bn (bR.one) u hu) A (lB q) ?_
 have g:=A;clear A;intro w5 D A;have v:∀b∈[V],¬Q3 b:=(hI Z);replace h0:=h0.md D v;replace uQ:=uQ.md D;replace M:=M.step D (hI c);clear g v;replace A:bO _ _ (bR.cells C) _:=A;refine an q (au (nm q (st _ (eP (a:=L) (b:=0) q q) (nt ?_))));refine bV q (fun W=>?_) (fun W=>?_)
 ·(have H:=dT W);refine nm q (cE q (ar q (aV ?_)));exact dD (vs:=[(.pointer none),(.int .i64 L)]) trivial q ⟨q,q,tV⟩ q ⟨_,none,L,q,M,q,Yj,(by rw[jV,X,if_pos H])⟩
 (have H:=dF W);refine aY (ai (ns (st _ (bX (bR.cells C) q (by exact eZ) A q) (aj agb q (HK uQ C P) ?_))));rintro en w6 ⟨U,Ab,rfl,D,Aa,e⟩;refine rv ?_;obtain⟨h0,A,uQ,M⟩:=k4 D h0 A uQ M;refine mv q (se q q (se q q (cE q (an q (au ?_)))));have I:=A;refine cT [(0,true),(1,true),(2,true),(4,true),(3,false)] [5,6,7,8] (fun w'=>Md [] w6 w') di Yz ?_;intro w7 G;refine⟨G.mono Oj,?_⟩;have o:=G.mono (T:=[]) Oj;have rf:kG b=(C,0):=(by rw[X];simp only[Prod.mk.injEq,true_and];omega);have en:=aa9 rf e;refine mo q (mo q (mz (fun w' x=>fp 1 0 U fI mZ q h0.cV Ok Ok q ⟨_,q⟩) ?_));have Y:=h0.head (hi:=U) Ok;refine mz (fun w' x=>bX (bR.cells C) q (by exact eZ) (I.o x) q) ?_;obtain⟨A,Y,uQ,M⟩:=k4 G A Y uQ M;refine lp ?_ rfl;refine aj agc q (tu uQ Y Yk) ?_;rintro en w9 ⟨K,N,rfl,D,E,Ae⟩;refine rv ?_;obtain⟨A,uQ,M,o⟩:=k4 D A uQ M o;refine ak ⟨q,o,?_⟩;refine dA ?_;clear I;clear o;refine st _ (bY (us:=[[K],(bR.cells C)]) (cs:=(dI.cells (({b:=N,h:=C}:dI)) K)) [(0,0,1),(1,1,91)] ahU ag5 q q ⟨(ea E.bN),q,tV⟩ ⟨q,q,tV⟩ q q) (eE (cs:=(dI.cells (({b:=N,h:=C}:dI)) K)) q q ?_);intro R Ah F i D f;have d:V≠R:=(by have:=A.lt;omega);obtain⟨Ac,j,k,p,J⟩:=jj uQ F i D
 replace l:=tT l k;replace F:=ly M.size F;replace E:=(E.sub j).o D;replace M:=M.k D;replace uQ:=J;clear J j k;refine cE q (ar q ?_);exact dD (vs:=[(.pointer (some ⟨R,0,none⟩)),(.int .i64 ((0:Nat):Int))]) trivial q ⟨q,q,tV⟩ q ⟨_,(some (({b:=N,h:=C}:dI))),0,q,M,⟨_,_,q,t _ F,f,d9 Yj (E.sub (fun b S _=>l b S))⟩,Ok,(by rw[jV,X,if_neg H,e];simp_all)⟩
theorem ni:fC Zp 185 2=true:=Yz
theorem iQ:fC Zp 267 3=true:=Yz
theorem e5:gy Zp 46 1=true:=Yz
theorem iC:uJ Zp 46 1 8=true:=Yz
theorem XU:cM Zp 164=true:=Yz
theorem XV:cM Zp 165=true:=Yz
theorem adm:cM Zp 174=true:=Yz
theorem vm:bh Zp 267 0=some 0:=Yz
theorem aaj:bh Zp 267 1=some 1:=Yz
theorem mO:bh Zp 267 2=some 2:=Yz
theorem adz:fB Zp 185=some [(0,1),(1,1)]:=Yz
theorem vv:fB Zp 267=some [(0,1),(1,1),(2,1)]:=Yz
theorem jo:Zp.underlying 65=some (.slice 46):=Yz
theorem OA:ej Zp 185=some [.int .u64 0,.slice none 0 0]:=Yz
theorem wT:ej Zp 267=some [.int .i64 0,.int .i64 0,.int .u64 0]:=Yz
abbrev lW:iL:={kind:=0,flags:=0,size:=0}
theorem CV (uQ:Up w Q) {v0:Value} {b:Ly} (h0:Ls eF w Q v0 b) (p:Nat) (a1:p<18446744073709551616) :
  Calls Zp 174 #[v0,(.int .u64 p)] w fun en w'=>∃r0:iL,∃r1:Nat,en = .returned (.tuple #[.agg (iL.cells r0).toArray,(.int .i64 r1)])∧Md [] w w'∧iL.ok r0∧r1<9223372036854775808∧dV b p=(r0,r1):=by
 have L0:=h0.dP;have M:=Md.refl [] w;have A3:=uQ;refine enter (n:=78) Tryz.func174 q q q fun B=>ns (bU wT ?_);intro Ac w1 e Ar E A;obtain⟨Q2,sQ,sT,Au,Z⟩:=jj uQ e Ar E;replace e:=ly M.size e;replace h0:=(h0.sub sQ).o E;replace M:=M.k E;replace uQ:=Z;clear Z sQ sT;have F:bM [] w Ac:=.inr e;replace A:bO _ _ (iL.cells (lW)) _:=A;have A0:iL.ok (lW):=(by exact⟨Jk,Jk,Jk⟩);refine an q (nm q (sL q fI h0.cV (st _ (dH (a:=b.length) 18446744073709551616 q (by rw[u3];rfl) kW q Ok) (cE q (nt (au (b9 (ns (mv q (st _ (oG (a:=p) (b:=8) q q Ok) (st _ (eP (a:=(p%8)) (b:=0) q q) ?_)))))))))));refine an q ?_;refine bV q (fun j=>?_) (fun j=>?_)
 ·(have H:=dT j);refine ns (st _ (bY (us:=[]) (cs:=(iL.cells (lW))) [] wT vv q q trivial trivial q q) (aX (us:=(iL.cells (lW))) q q (by exact iQ) (by exact fun u P=>bn (iL.one) u P) A (lB q) ?_));have C:=A;clear A;intro w4 E A;replace M:=M.step E (hI F);clear C;replace A:bO _ _ (iL.cells (lW)) _:=A;refine ar q (bG (aV ?_));exact dD (vs:=[(.agg (iL.cells (lW)).toArray),(.int .i64 ((3:Nat):Int))]) trivial q ⟨⟨_,q,cJ (cs:=(iL.cells (lW))) (by exact iQ) A⟩,q,tV⟩ q ⟨(lW),3,q,M,Yj,Ok,(Yl H)⟩
 (have H:=dF j);refine ns (m2 q q (st _ (ja (a:=p) (b:=b.length) q q) (mv q ?_)));refine cB (t:=20) q (fun I=>?_) (fun I=>?_)
 ·(have Ae:=dT I);refine sk I (sk I (sk I (sk I (st _ (bF q I q) (an q (gq q q (ns (st _ (bY (us:=[]) (cs:=(iL.cells (lW))) [] wT vv q q trivial trivial q q) (aX (us:=(iL.cells (lW))) q q (by exact iQ) (by exact fun u P=>bn (iL.one) u P) A (lB q) ?_)))))))));have C:=A;clear A;intro w5 E A;replace M:=M.step E (hI F);clear C;replace A:bO _ _ (iL.cells (lW)) _:=A;refine ar q (bG (aV ?_));exact dD (vs:=[(.agg (iL.cells (lW)).toArray),(.int .i64 ((2:Nat):Int))]) trivial q ⟨⟨_,q,cJ (cs:=(iL.cells (lW))) (by exact iQ) A⟩,q,tV⟩ q ⟨(lW),2,q,M,Yj,Ok,(HE H Ok)⟩
 (have Ae:=dF I);refine sg I (bf q) (sg I (bf q) (sg I (lR (a:=b.length) (b:=p) 18446744073709551616 q q q Ok) (sg I (dX (a:=(b.length-p)) (b:=16) q q) (st _ (bE q I q) (an q ?_)))));refine bV q (fun k=>?_) (fun k=>?_)
 ·(have Ad:=dT k);refine ns (st _ (bY (us:=[]) (cs:=(iL.cells (lW))) [] wT vv q q trivial trivial q q) (aX (us:=(iL.cells (lW))) q q (by exact iQ) (by exact fun u P=>bn (iL.one) u P) A (lB q) ?_));have C:=A;clear A;intro w6 E A;replace M:=M.step E (hI F);clear C;replace A:bO _ _ (iL.cells (lW)) _:=A;refine ar q (bG (aV ?_));exact dD (vs:=[(.agg (iL.cells (lW)).toArray),(.int .i64 ((2:Nat):Int))]) trivial q ⟨⟨_,q,cJ (cs:=(iL.cells (lW))) (by exact iQ) A⟩,q,tV⟩ q ⟨(lW),2,q,M,Yj,Ok,(HE H Ok)⟩
 (have Ad:=dF k);refine aY (bL (ai (ns (m2 q q (st _ (lR (a:=b.length) (b:=p) 18446744073709551616 q q q Ok) (an q (au ?_)))))));have W:=h0;refine cT [(0,true),(1,true),(2,true),(3,true),(4,true),(5,true),(6,true),(7,true),(8,true),(9,true),(10,true),(11,true),(12,false)] [13] (fun w'=>Md [] w1 w') di Yz ?_;intro w7 U;refine⟨U.mono Oj,?_⟩;have MC:=U.mono (T:=[]) Oj;refine mo q (mo q (mz (fun w' g=>bB (i:=p) 1 q q fI mZ h0.cV Ok) ?_));obtain⟨d,R⟩:=dS (l:=b) (i:=p) Ok;obtain⟨c9,Aq,f⟩:=W.get R;obtain⟨rfl,_⟩:=Aq;have Bf:=UInt8.toNat_lt d;replace f:At _ v0 (p*1) [(b8 d)]:=f;refine mz (fun w' g=>(cg (kk:=p*1) 0 q q uq (f.o g) q).to (b:=(b8 d)) q) (mz (fun w' g=>dH (a:=d.toNat) 9223372036854775808 q (by rw[u5];rfl) u3 q (lj (UInt8.toNat_lt _) Jk)) (mo q (mo q (mz (fun w' g=>gG (a:=p) (b:=1) 18446744073709551616 q q q Ok) (mz (fun w' g=>bB (i:=p+1) 1 q q fI mZ h0.cV Ok) ?_)))));obtain⟨N,L⟩:=dS (l:=b) (i:=p+1) Ok;obtain⟨A2,Ak,S⟩:=W.get L;obtain⟨rfl,_⟩:=Ak;have A1:=UInt8.toNat_lt N;replace S:At _ v0 ((p+1)*1) [(b8 N)]:=S;refine mz (fun w' g=>(cg (kk:=(p+1)*1) 0 q q uq (S.o g) q).to (b:=(b8 N)) q) (mz (fun w' g=>dH (a:=N.toNat) 9223372036854775808 q (by rw[u5];rfl) u3 q (lj (UInt8.toNat_lt _) Jk)) (mz (fun w' g=>bY (us:=[[(.int .i64 d.toNat)],[(.int .i64 N.toNat)]]) (cs:=(iL.cells (({kind:=d.toNat,flags:=N.toNat,size:=0}:iL)))) [(0,0,1),(1,1,1)] wT vv q q ⟨q,q,tV⟩ ⟨q,q,tV⟩ q q) ?_))
 obtain⟨h0,A,uQ,M⟩:=k4 U h0 A uQ M;refine lp ?_ rfl;refine bU wT ?_;intro h A5 V As E D;have Ap:=ly MC.size V;have Am:Ac≠h:=(by have:=A.lt;omega);obtain⟨Ao,sQ,sT,z,Z⟩:=jj uQ V As E;replace V:=ly M.size V;replace h0:=(h0.sub sQ).o E;obtain⟨A,M,MC⟩:=k3 E A M MC;replace uQ:=Z;clear Z sQ sT;have Y:bM [] w h:=.inr V;replace D:bO _ _ (iL.cells (lW)) _:=D;have Av:iL.ok (lW):=(by exact⟨Jk,Jk,Jk⟩);refine ak ⟨q,MC,?_⟩;refine dA ?_;clear W;clear MC;refine aX (us:=(iL.cells (({kind:=d.toNat,flags:=N.toNat,size:=0}:iL)))) q q (by exact iQ) (by exact fun u P=>bn (iL.one) u P) D (lB q) ?_;have X:=D;clear D;intro A6 E D;have hS:∀b∈[h],¬Ao b:=(hI z);replace h0:=h0.md E hS;replace A:=A.md E Vk;replace uQ:=uQ.md E;replace M:=M.step E (hI Y);clear X hS;replace D:bO _ _ (iL.cells (({kind:=d.toNat,flags:=N.toNat,size:=0}:iL))) _:=D;refine ak ?_;clear f;clear S;refine ai (ns (m2 q q (st _ (dH (a:=p) 9223372036854775808 q (by rw[kW];rfl) u3 q Ok) (st _ (rA (a:=p) (b:=8) q q Ok) (aj pK q (nU uQ h0 (((p+8:Nat):Int)) Ok (8) Ok) ?_)))));rintro en A7 ⟨c,Ay,rfl,E,Aw,O⟩;refine rv ?_;replace A:=A.o E
 obtain⟨D,M⟩:=k2 E D M;refine mv q (se q q (se q q (sf q mO (bI q q bH q D (lB q) ?_))));have X:=D;clear D;intro A8 E D;replace A:=A.md E Vk;replace M:=M.step E (hI Y);clear X;obtain⟨G,J⟩:∃y,y=({({kind:=d.toNat,flags:=N.toNat,size:=0}:iL)with size:=c}:iL):=⟨_,q⟩;replace D:bO _ _ (iL.cells ({({kind:=d.toNat,flags:=N.toNat,size:=0}:iL)with size:=c})) _:=D;rw[← J]at D;refine nt (au (b9 (ns (sf q vm (sl (u:=(.int .i64 G.kind)) q gD D q (st _ (dX (a:=G.kind) (b:=1) q q) (mv q ?_)))))));refine cB (t:=55) q (fun K=>?_) (fun K=>?_)
 ·(have Ag:=dT K);refine sk K (sk K (sk K (st _ (bF q K q) (an q (gq q q (ns (st _ (bY (us:=[]) (cs:=(iL.cells (lW))) [] wT vv q q trivial trivial q q) (aX (us:=(iL.cells (lW))) q q (by exact iQ) (by exact fun u P=>bn (iL.one) u P) A (lB q) ?_))))))));have C:=A;clear A;intro A9 E A;replace M:=M.step E (hI F);clear C;replace A:bO _ _ (iL.cells (lW)) _:=A;refine ar q (bG (aV ?_));exact dD (vs:=[(.agg (iL.cells (lW)).toArray),(.int .i64 ((4:Nat):Int))]) trivial q ⟨⟨_,q,cJ (cs:=(iL.cells (lW))) (by exact iQ) A⟩,q,tV⟩ q ⟨(lW),4,q,M,Yj,Ok,(by rw[pM J H Ok (iV R) (iV L) (rC O q Ok),if_pos Ok];rfl)⟩
 (have Ag:=dF K);refine sg K (aU q vm) (sg K ((aA q gD D q).to (b:=(.int .i64 G.kind)) q) (sg K (ja (a:=G.kind) (b:=7) q q) (st _ (bE q K q) (an q ?_))));refine bV q (fun o=>?_) (fun o=>?_)
 ·(have Af:=dT o);refine ns (st _ (bY (us:=[]) (cs:=(iL.cells (lW))) [] wT vv q q trivial trivial q q) (aX (us:=(iL.cells (lW))) q q (by exact iQ) (by exact fun u P=>bn (iL.one) u P) A (lB q) ?_));have C:=A;clear A;intro Ba E A;replace M:=M.step E (hI F);clear C;replace A:bO _ _ (iL.cells (lW)) _:=A;refine ar q (bG (aV ?_));exact dD (vs:=[(.agg (iL.cells (lW)).toArray),(.int .i64 ((4:Nat):Int))]) trivial q ⟨⟨_,q,cJ (cs:=(iL.cells (lW))) (by exact iQ) A⟩,q,tV⟩ q ⟨(lW),4,q,M,Yj,Ok,(by rw[pM J H Ok (iV R) (iV L) (rC O q Ok),if_pos Ok];rfl)⟩
 (have Af:=dF o);refine ns (sf q aaj (sl (u:=(.int .i64 G.flags)) q gD D q (st _ (eP (a:=G.flags) (b:=0) q q) (an q ?_))));refine bV q (fun r=>?_) (fun r=>?_)
 ·(have Ah:=dT r);refine ns (st _ (bY (us:=[]) (cs:=(iL.cells (lW))) [] wT vv q q trivial trivial q q) (aX (us:=(iL.cells (lW))) q q (by exact iQ) (by exact fun u P=>bn (iL.one) u P) A (lB q) ?_));have C:=A;clear A;intro Bb E A;replace M:=M.step E (hI F);clear C;replace A:bO _ _ (iL.cells (lW)) _:=A;refine ar q (bG (aV ?_));exact dD (vs:=[(.agg (iL.cells (lW)).toArray),(.int .i64 ((7:Nat):Int))]) trivial q ⟨⟨_,q,cJ (cs:=(iL.cells (lW))) (by exact iQ) A⟩,q,tV⟩ q ⟨(lW),7,q,M,Yj,Ok,(by rw[pM J H Ok (iV R) (iV L) (rC O q Ok),if_neg Ok,if_pos Ok];rfl)⟩
 (have Ah:=dF r);refine ns (sf q mO (sl (u:=(.int .u64 G.size)) q bH D q (st _ (dX (a:=G.size) (b:=16) q q) (an q ?_))));refine bV q (fun v=>?_) (fun v=>?_)
 ·(have Ai:=dT v);refine ns (st _ (bY (us:=[]) (cs:=(iL.cells (lW))) [] wT vv q q trivial trivial q q) (aX (us:=(iL.cells (lW))) q q (by exact iQ) (by exact fun u P=>bn (iL.one) u P) A (lB q) ?_));have C:=A;clear A;intro Bc E A;replace M:=M.step E (hI F);clear C;replace A:bO _ _ (iL.cells (lW)) _:=A;refine ar q (bG (aV ?_));exact dD (vs:=[(.agg (iL.cells (lW)).toArray),(.int .i64 ((5:Nat):Int))]) trivial q ⟨⟨_,q,cJ (cs:=(iL.cells (lW))) (by exact iQ) A⟩,q,tV⟩ q ⟨(lW),5,q,M,Yj,Ok,(by rw[pM J H Ok (iV R) (iV L) (rC O q Ok),if_neg Ok,if_neg Ok,if_pos Ok];rfl)⟩
 (have Ai:=dF v);refine ns (sf q mO (sl (u:=(.int .u64 G.size)) q bH D q (mv q (st _ (ja (a:=G.size) (b:=(b.length-p)) q q) (an q ?_)))));refine bV q (fun x=>?_) (fun x=>?_)
 ·(have Aj:=dT x);refine ns (st _ (bY (us:=[]) (cs:=(iL.cells (lW))) [] wT vv q q trivial trivial q q) (aX (us:=(iL.cells (lW))) q q (by exact iQ) (by exact fun u P=>bn (iL.one) u P) A (lB q) ?_));have C:=A;clear A;intro Bd E A;replace M:=M.step E (hI F);clear C;replace A:bO _ _ (iL.cells (lW)) _:=A;refine ar q (bG (aV ?_));exact dD (vs:=[(.agg (iL.cells (lW)).toArray),(.int .i64 ((2:Nat):Int))]) trivial q ⟨⟨_,q,cJ (cs:=(iL.cells (lW))) (by exact iQ) A⟩,q,tV⟩ q ⟨(lW),2,q,M,Yj,Ok,(by rw[pM J H Ok (iV R) (iV L) (rC O q Ok),if_neg Ok,if_neg Ok,if_neg Ok,if_pos Ok];rfl)⟩
 (have Aj:=dF x);refine aY (bL (ai (ns (st _ (bX (iL.cells G) q (by exact iQ) D q) (aX (us:=(iL.cells G)) q q (by exact iQ) (by exact fun u P=>bn (iL.one) u P) A (lB q) ?_)))));have C:=A;clear A;intro Be E A;replace M:=M.step E (hI F);clear C;replace A:bO _ _ (iL.cells G) _:=A;refine ar q ?_;exact dD (vs:=[(.agg (iL.cells G).toArray),(.int .i64 ((0:Nat):Int))]) trivial q ⟨⟨_,q,cJ (cs:=(iL.cells G)) (by exact iQ) A⟩,q,tV⟩ q ⟨G,0,q,M,(by exact⟨Ok,Ok,Ok⟩),Ok,(by rw[pM J H Ok (iV R) (iV L) (rC O q Ok),if_neg Ok,if_neg Ok,if_neg Ok,if_neg Ok])⟩
theorem vQ (uQ:Up w Q) {v0:Value} {b:Ly} (h0:Ls eF w Q v0 b) (p:Nat) (a1:p<18446744073709551616) (kind:Nat) (a2:kind<9223372036854775808) (ahead:Nat) (a3:ahead<9223372036854775808) (item:Nat) (a4:item<9223372036854775808) (p0:ahead≤1000) (p1:item≠0∧item≤1000) :
  Calls Zp 164 #[v0,(.int .u64 p),(.int .i64 kind),(.int .i64 ahead),(.int .i64 item)] w fun en w'=>∃u0:Value,∃r0:List UInt8,∃r1:Nat,en = .returned (.tuple #[u0,(.int .i64 r1)])∧Md [] w w'∧Ls eF w' Q u0 r0∧r1<9223372036854775808∧ki b p kind ahead item=(r0,r1):=by
 have o:=h0.dP;have M:=Md.refl [] w;have l:=uQ;have c:∀b,Q b→Q b:=fun _ h=>h;refine enter (n:=56) Tryz.func164 q q q fun B=>ns (cE q (an q (ns (m2 q q (aj adm q (CV uQ h0 p Ok) ?_)))));rintro en z ⟨A,N,rfl,L,I,f,J⟩;refine rv ?_;obtain⟨h0,uQ,M⟩:=k3 L h0 uQ M;refine mv q (se q q (se q q (bU wT ?_)));intro R w2 G X L D;obtain⟨j,g,i,O,Y⟩:=jj uQ G X L;replace c:=tT c i;replace G:=ly M.size G;replace h0:=(h0.sub g).o L;replace M:=M.k L;replace uQ:=Y;clear Y g i;have P:bM [] w R:=.inr G;replace D:bO _ _ (iL.cells (lW)) _:=D;have e:iL.ok (lW):=(by exact⟨Jk,Jk,Jk⟩);refine aX (us:=(iL.cells A)) q q (by exact iQ) (by exact fun u k=>bn (iL.one) u k) D (lB q) ?_;have V:=D;clear D;intro w5 L D;have d:∀b∈[R],¬j b:=(hI O);replace h0:=h0.md L d;replace M:=M.step L (hI P);clear V d;replace D:bO _ _ (iL.cells A) _:=D;refine an q (nm q (st _ (rA (a:=16) (b:=ahead) q q Ok) (st _ (dH (a:=16+ahead) 18446744073709551616 q (by rw[u3];rfl) kW q Ok) ?_)))
 refine an q (au (b9 (nm q (st _ (eP (a:=N) (b:=0) q q) (cE q (nt ?_))))));refine bV q (fun S=>?_) (fun S=>?_)
 ·(have E:=dT S);refine nm q (cE q (ar q (bG (aV ?_))));exact dD (vs:=[SN,(.int .i64 N)]) trivial q ⟨q,q,tV⟩ q ⟨_,[],N,q,M,(Ls.nil _ _ _),Yj,(by rw[ki]<;>simp(disch:=first|omega|assumption|simp) only [SS,reduceIte,J,E])⟩
 (have E:=dF S);refine ns (sf q vm (sl (u:=(.int .i64 A.kind)) q gD D q ?_));have v:A.kind<9223372036854775808:=I.1;refine mv q (st _ (eP (a:=A.kind) (b:=kind) q q) (an q ?_));refine bV q (fun T=>?_) (fun T=>?_)
 ·(have F:=dT T);refine ns (cE q (ar q (bG (aV ?_))));exact dD (vs:=[SN,(.int .i64 ((4:Nat):Int))]) trivial q ⟨q,q,tV⟩ q ⟨_,[],4,q,M,(Ls.nil _ _ _),Ok,(by rw[ki]<;>simp(disch:=first|omega|assumption|simp) only [SS,reduceIte,J,E,F])⟩
 (have F:=dF T);refine ns (sf q mO (sl (u:=(.int .u64 A.size)) q bH D q ?_));have x:A.size<18446744073709551616:=I.2.2;refine mv q (st _ (DI (a:=A.size) (b:=(16+ahead)) q q) (mv q ?_));refine cB (t:=38) q (fun C=>?_) (fun C=>?_)
 ·(have H:=dT C);refine sk C (sk C (sk C (sk C (sk C (sk C (sk C (sk C (st _ (bF q C q) (an q (gq q q (ns (cE q ?_))))))))))));refine ar q (bG (aV ?_));exact dD (vs:=[SN,(.int .i64 ((5:Nat):Int))]) trivial q ⟨q,q,tV⟩ q ⟨_,[],5,q,M,(Ls.nil _ _ _),Ok,(by rw[ki]<;>simp(disch:=first|omega|assumption|simp) only [SS,reduceIte,J,E,F,H])⟩
 (have H:=dF C);refine sg C (aU q mO) (sg C ((aA q bH D q).to (b:=(.int .u64 A.size)) q) (sg C (bf q) (sg C (lR (a:=A.size) (b:=(16+ahead)) 18446744073709551616 q q q Ok) (sg C (bf q) (sg C (dH (a:=item) 18446744073709551616 q (by rw[u3];rfl) kW q Ok) (sg C (oG (a:=(A.size-(16+ahead))) (b:=item) q q Ok) ?_))))));have y:(A.size-(16+ahead))%item<item:=Nat.mod_lt _ Ok;refine sg C (eP (a:=((A.size-(16+ahead))%item)) (b:=0) q q) (st _ (bE q C q) (an q ?_));refine bV q (fun U=>?_) (fun U=>?_)
 ·(have K:=dT U);refine ns (cE q (ar q (bG (aV ?_))));exact dD (vs:=[SN,(.int .i64 ((5:Nat):Int))]) trivial q ⟨q,q,tV⟩ q ⟨_,[],5,q,M,(Ls.nil _ _ _),Ok,(by rw[ki]<;>simp(disch:=first|omega|assumption|simp) only [SS,reduceIte,J,E,F,H,K])⟩
 (have K:=dF U);refine aY (bL (ai (ns ?_)));have r:=oS J E;refine m2 q q (st _ (gG (a:=p) (b:=16) 18446744073709551616 q q q Ok) (mv q (sf q mO (sl (u:=(.int .u64 A.size)) q bH D q (st _ (gG (a:=p) (b:=A.size) 18446744073709551616 q q q Ok) (st _ (fp 1 (p+16) (p+A.size) fI mZ q h0.cV Ok Ok ⟨_,q⟩ ⟨_,q⟩) ?_))))));have Z:=h0.part (p+16) (p+A.size) Ok Ok;refine cE q (ar q ?_);exact dD (vs:=[(jS 1 v0 (p+16) (p+A.size)),(.int .i64 ((0:Nat):Int))]) trivial q ⟨q,q,tV⟩ q ⟨_,((b.take (p+A.size)).drop (p+16)),0,q,M,(Z.sub (fun b W _=>c b W)),Ok,(by rw[ki]<;>simp(disch:=first|omega|assumption|simp) only [SS,reduceIte,J,E,F,H,K])⟩
theorem yJ (uQ:Up w Q) {v0:Value} {b:Ly} (h0:Ls eF w Q v0 b) (p0:b.length%8=0) (p1:b.length≤140737488355328) :
  Calls Zp 165 #[v0] w fun en w'=>∃u0:Value,∃r0:List Nat,en = .returned (u0)∧Md [] w w'∧Ls dx w' Q u0 r0∧gF b 0 (b.length/8)=r0:=by
 have u:=h0.dP;have M:=Md.refl [] w;have Z:=uQ;have J:∀b,Q b→Q b:=fun _ h=>h;have D:∀b,Q b→b<w.heap.size→Q b:=fun _ h _=>h;refine enter (n:=24) Tryz.func165 q q q fun B=>ns (an q (ns (cE q (nt (au (ns (cE q (nt (b9 ?_)))))))));refine jJ (fun(K:Value) (l:List Nat) (i:Nat)=>[(3,K),(4,(.int .i64 i)),(0,v0)]) (fun(K:Value) (l:List Nat) (i:Nat) w'=>∃Q':Nat→Prop,(∀b,Q' b→Q b)∧(∀b,Q b→b<w.heap.size→Q' b)∧Up w' Q'∧Md [] w w'∧Ow dx 46 (bM [] w) w' Q' K l∧Ls eF w' Q' v0 b∧i%8=0∧i≤b.length∧l=gF b 0 (i/8)) (fun(K:Value) (l:List Nat) (i:Nat)=>b.length-i) (x0:=SN) (x1:=([]:List Nat)) (x2:=0) ?_ ?_ ?_
 ·exact⟨q,q,q,tV⟩
 ·exact⟨Q,J,D,uQ,M,(Ow.nil _ _ _ _ _),h0,Ok,Ok,q⟩
 clear M uQ J D h0
 rintro K l i B y ⟨p,J,D,uQ,M,A,h0,P,f,F⟩;refine au (ns (m2 q q (sL q fI h0.cV (st _ (dX (a:=i) (b:=b.length) q q) (nt ?_)))));refine bV q (fun H=>?_) (fun H=>?_)
 ·(have O:=dT H);refine aY (ai (au (b9 (ns (m2 q q (aj pK q (nU uQ h0 (((i:Nat):Int)) Ok (8) Ok) ?_))))));rintro en z ⟨G,o,rfl,C,j,V⟩;refine rv ?_;obtain⟨A,h0,uQ,M⟩:=k4 C A h0 uQ M;refine mv q (se q q (se q q (cE q (an q (ax ?_)))));have x:l.length=i/8:=(by rw[F,kz]);refine m2 q q (bg [[(.int .u64 G)]] jo iC Jk Jk q q ⟨q,tV⟩ ⟨q,tV⟩ q Jk ?_);intro c w4 N g C E;have U:=uQ _ N;obtain⟨A,h0,uQ,M⟩:=k4 C A h0 uQ M;replace E:=Ls.cK (m:=1) (R:=p) (T:=dx) (xs:=[G]) E ⟨_,_,q,⟨q,Ok⟩,q⟩ q Jk U;refine ef (sz:=1) (by rfl) jo iC q q A E (fun _ h _=>h) uQ (bM.new M) Yk Yk ?_;intro t w7 r Y k S W C d _ X;have L:=A;clear A;replace J:=tT J k;replace D:=fun b I e=>Y b (D b I e) (lj e M.size);replace h0:=(h0.sub Y).md C d;replace uQ:=uQ.md C;replace M:=M.cP C (fun b I=>(L.2 b I).1);replace uQ:=S;clear S Y k d X;refine cE q (ak (bL (ai (ax (mv q (st _ (rA (a:=i) (b:=8) q q Ok) (an q ?_)))))));refine ij (x0:=t) (x1:=(l ++ ([G]))) (x2:=(i+8)) Ok ⟨q,(dB q Ok),q,tV⟩ ⟨r,J,D,uQ,M,W,h0,Ok,Ok,(JC F P Ok V)⟩
 (have O:=dF H);refine cw (bD (bD (cZ (ai (nm q (ar q ?_))))));exact cu (v:=K) trivial q ⟨q,tV⟩ ⟨_,l,q,M,(A.ls (fun b I=>J b I) (bM.up Z)),(by rw[F,show i=b.length by omega])⟩
theorem uH (uQ:Up w Q) {v0:Value} {b:Ly} (h0:Ls eF w Q v0 b) (p:Nat) (a1:p<18446744073709551616) (p0:b.length≤140737488355328) :
  Calls Zp 144 #[v0,(.int .u64 p)] w fun en w'=>∃u0_0:Value,∃r0:iu,∃r1:Nat,en = .returned (.tuple #[.agg (iu.cells r0 u0_0).toArray,(.int .i64 r1)])∧Md [] w w'∧iu.ok r0∧Ls dx w' Q u0_0 r0.bJ∧r1<9223372036854775808∧kD b p=(r0,r1):=by
 have L0:=h0.dP;have M:=Md.refl [] w;have Ae:=uQ;have k:∀b,Q b→Q b:=fun _ h=>h;refine enter (n:=27) Tryz.func144 q q q fun B=>ns (bU OA ?_);intro X w1 O j F A;obtain⟨Q2,x,y,V,c⟩:=jj uQ O j F;replace k:=tT k y;replace O:=ly M.size O;replace h0:=(h0.sub x).o F;replace M:=M.k F;replace uQ:=c;clear c x y;have L:bM [] w X:=.inr O;replace A:bO _ _ (iu.cells (({next:=0,bJ:=[]}:iu)) SN) _:=A;have t:iu.ok (({next:=0,bJ:=[]}:iu)):=(by exact(by exact(show(({next:=0,bJ:=[]}:iu)).next<18446744073709551616 from Yk)));refine an q (ns (m2 q q (aj XU q (vQ uQ h0 p Ok 6 Ok 8 Ok 8 Ok Ok Ok) ?_)));rintro en w4 ⟨z,Aa,N,rfl,F,Y,v,U⟩;refine rv ?_;obtain⟨A,uQ,M⟩:=k3 F A uQ M;refine mv q (se q q (se q q (cE q (an q (au (nm q (st _ (eP (a:=N) (b:=0) q q) (nt ?_))))))));refine bV q (fun S=>?_) (fun S=>?_)
 ·(have G:=dT S);refine ns (st _ (bY (us:=[]) (cs:=(iu.cells (({next:=0,bJ:=[]}:iu)) SN)) [] OA adz q q trivial trivial q q) (mv q (aX (us:=(iu.cells (({next:=0,bJ:=[]}:iu)) SN)) q q (by exact ni) (by exact fun u g=>bn (iu.one q) u g) A (lB q) ?_)));have J:=A;clear A;intro w5 F A;replace M:=M.step F (hI L);clear J;replace A:bO _ _ (iu.cells (({next:=0,bJ:=[]}:iu)) SN) _:=A;refine ar q (aV ?_);exact dD (vs:=[(.agg (iu.cells (({next:=0,bJ:=[]}:iu)) SN).toArray),(.int .i64 N)]) trivial q ⟨⟨_,q,cJ (cs:=(iu.cells (({next:=0,bJ:=[]}:iu)) SN)) (by exact ni) A⟩,q,tV⟩ q ⟨_,(({next:=0,bJ:=[]}:iu)),N,q,M,Yj,(Ls.nil _ _ _),Yj,(Ns U G)⟩
 (have G:=dF S);refine aY (ai (ns ?_));have bo:=rD U (Classical.not_not.1 G);refine mv q (aj XV q (yJ uQ Y Ok Ok) ?_);rintro en w6 ⟨E,C,rfl,F,H,d⟩;refine rv ?_;obtain⟨A,M⟩:=k2 F A M;refine an q (au ?_);have ra:=N3 U G d;have I:=H;refine cT (ml 5) [5,6,7] (fun w'=>Md [] w6 w') di Yz ?_;intro w7 K;refine⟨K.mono Oj,?_⟩;have MC:=K.mono (T:=[]) Oj;refine mo q (mz (fun w' e=>bB (i:=0) 1 q q jo e5 H.cV Ok) ?_);obtain⟨R,Z⟩:=dS (l:=C) (i:=0) Ok;obtain⟨c9,f,P⟩:=I.get Z;obtain⟨rfl,r⟩:=f;replace P:At _ E (0*1) [(.int .u64 R)]:=P;refine mz (fun w' e=>(cg (kk:=0*1) 0 q q bH (P.o e) q).to (b:=(.int .u64 R)) q) (mo q (mz (fun w' e=>fp 1 1 C.length jo e5 q H.cV Ok Ok ⟨_,q⟩ q) ?_));have D:=H.tail (lo:=1) Ok;refine dA ?_;obtain⟨A,D,M⟩:=k3 K A D M;clear I;clear MC;refine st _ (bY (us:=[[(.int .u64 R)],[(jS 1 E 1 C.length)]]) (cs:=(iu.cells (({next:=R,bJ:=C.drop 1}:iu)) (jS 1 E 1 C.length))) [(0,0,1),(1,1,1)] OA adz q q ⟨q,(ea D.bN),tV⟩ ⟨q,q,tV⟩ q q) (aX (us:=(iu.cells (({next:=R,bJ:=C.drop 1}:iu)) (jS 1 E 1 C.length))) q q (by exact ni) (by exact fun u g=>bn (iu.one D.bN) u g) A (lB q) ?_)
 have J:=A;clear A;intro Af F A;have o:∀b∈[X],¬Q2 b:=(hI V);replace D:=D.md F o;replace M:=M.step F (hI L);clear J o;replace A:bO _ _ (iu.cells (({next:=R,bJ:=C.drop 1}:iu)) (jS 1 E 1 C.length)) _:=A;refine cE q (ak ?_);clear P;refine ai (gY ?_);exact dD (vs:=[(.agg (iu.cells (({next:=R,bJ:=C.drop 1}:iu)) (jS 1 E 1 C.length)).toArray),(.int .i64 ((0:Nat):Int))]) trivial q ⟨⟨_,q,cJ (cs:=(iu.cells (({next:=R,bJ:=C.drop 1}:iu)) (jS 1 E 1 C.length))) (by exact ni) A⟩,q,tV⟩ q ⟨_,(({next:=R,bJ:=C.drop 1}:iu)),0,q,M,Yj,(D.sub (fun b W _=>k b W)),Ok,(by rw[ra.2.2,List.getD_eq_getElem?_getD,Z];rfl)⟩
theorem XR:cM Zp 105=true:=Yz
theorem rR:zy Zp 234=true:=Yz
theorem oA:bh Zp 135 0=some 0:=Yz
theorem mN:bh Zp 135 1=some 1:=Yz
theorem zP:fB Zp 234=some [(0,1)]:=Yz
theorem z234:ej Zp 234=some [.int .i64 0]:=Yz
theorem AO (uQ:Up w Q) {v0:Value} {v:dI} (h0:Pt dU 135 w Q v0 v) :
  Calls Zp 105 #[v0] w fun en w'=>∃r0:Nat,en = .returned (.int .u64 r0)∧Md [] w w'∧r0<18446744073709551616∧v.b.length=r0:=by
 obtain⟨D,E,rfl,C,h0,pu⟩:=h0;obtain⟨G,rfl,I,A⟩:=eB pu;have M:=Md.refl [] w;have F:=uQ;refine enter (n:=9) Tryz.func105 q q q fun B=>ns (an q (nm q (sn q (sf q oA (sl (u:=G) q fE h0 q ?_)))));have H:=A.dP;refine sL q fI A.cV (st _ (dH (a:=v.b.length) 18446744073709551616 q (by rw[u3];rfl) kW q Ok) (ar q ?_));exact cu (v:=(.int .u64 v.b.length)) trivial q ⟨q,tV⟩ ⟨v.b.length,q,M,Ok,q⟩
theorem pA (uQ:Up w Q) {v0:Value} {v:dI} (h0:Pt dU 135 w Q v0 v) (p:Nat) (a1:p<18446744073709551616) :
  Calls Zp 143 #[v0,(.int .u64 p)] w fun en w'=>(en = .returned (.tuple #[])∧Md [] w w'∧pE (v.h.n.getD 0 0) v.b p=0)∨∃cp:Nat,en = .panicked (FL (.iface 234 (.agg #[.int .i64 cp])))∧(cp≠0∧cp<9223372036854775808)∧Md [] w w'∧pE (v.h.n.getD 0 0) v.b p=cp:=by
 obtain⟨K,L,rfl,F,h0,pu⟩:=h0;obtain⟨S,rfl,I,H⟩:=eB pu;have M:=Md.refl [] w;have P:=uQ;refine enter (n:=19) Tryz.func143 q q q fun B=>ns (m2 q q (sn q (sf q mN (sf q mM (sl (u:=(.int .u64 ((v.h.n.getD 0 0:Nat):Int))) q bH h0 q ?_)))));have R:v.h.n.getD 0 0<18446744073709551616:=(fM I.2.2.2.2.2.2.2.1 0);refine st _ (dX (a:=p) (b:=(v.h.n.getD 0 0)) q q) (mv q ?_);refine cB (t:=11) q (fun A=>?_) (fun A=>?_)
 ·(have D:=dT A);refine sk A (sk A (sk A (sk A (st _ (bF q A q) (nt (gq q q (ax (st _ (bY (us:=[[(.int .i64 ((2:Nat):Int))]]) (cs:=(Stop.cells (({code:=2}:Stop)))) [(0,0,1)] z234 zP q q ⟨q,tV⟩ ⟨q,tV⟩ q q) (st _ (mh rR q) (oK q ?_))))))))));exact gw (Or.inr ⟨2,q,⟨by omega,by omega⟩,M,(by unfold pE;rw[if_pos Ok])⟩)
 (have D:=dF A);refine sg A (bf q) (sg A (bf q) (gJ q q q A XR q (AO uQ ⟨_,_,q,F,h0,d9 I H⟩) ?_));rintro en T ⟨G,rfl,O,J,N⟩;refine rv ?_;replace M:=M.k O;refine sg A (DG (a:=p) (b:=G) q q) (st _ (bE q A q) (nt ?_));refine bV q (fun C=>?_) (fun C=>?_)
 ·(have E:=dT C);refine ax (st _ (bY (us:=[[(.int .i64 ((2:Nat):Int))]]) (cs:=(Stop.cells (({code:=2}:Stop)))) [(0,0,1)] z234 zP q q ⟨q,tV⟩ ⟨q,tV⟩ q q) (st _ (mh rR q) (oK q ?_)));exact gw (Or.inr ⟨2,q,⟨by omega,by omega⟩,M,(by unfold pE;rw[if_pos Ok])⟩)
 (have E:=dF C);refine aY ?_;exact dD (vs:=[]) trivial q trivial q (Or.inl ⟨q,M,(by unfold pE;rw[if_neg Ok])⟩)
theorem qm (uQ:Up w Q) (c:Nat) (a0:c<9223372036854775808) :
  Calls Zp 145 #[(.int .i64 c)] w fun en w'=>(en = .returned (.tuple #[])∧Md [] w w'∧c=0)∨∃cp:Nat,en = .panicked (FL (.iface 234 (.agg #[.int .i64 cp])))∧(cp≠0∧cp<9223372036854775808)∧Md [] w w'∧c=cp:=by
 have M:=Md.refl [] w;have D:=uQ;refine enter (n:=7) Tryz.func145 q q q fun B=>nm q (st _ (eP (a:=c) (b:=0) q q) (nt ?_));refine bV q (fun A=>?_) (fun A=>?_)
 ·(have C:=dT A);refine ax (mv q (st _ (bY (us:=[[(.int .i64 c)]]) (cs:=(Stop.cells (({code:=c}:Stop)))) [(0,0,1)] z234 zP q q ⟨q,tV⟩ ⟨q,tV⟩ q q) (st _ (mh rR q) (oK q ?_))));exact gw (Or.inr ⟨c,q,⟨by omega,by omega⟩,M,q⟩)
 (have C:=dF A);refine aY ?_;exact dD (vs:=[]) trivial q trivial q (Or.inl ⟨q,M,Ok⟩)
theorem MZ (uQ:Up w Q) {v0:Value} {l:Ly} (h0:Ls eF w Q v0 l) (p0:l.length≤4611686018427387904) :
  Calls Zp 68 #[v0] w fun en w'=>∃r0:Pr,∃r1:Nat,en = .returned (.tuple #[.agg (Pr.cells r0).toArray,(.int .i64 r1)])∧Md [] w w'∧r1<9223372036854775808∧iT l=(r0,r1):=by
 refine(NJ _ l w h0.by p0).mono fun en w' ⟨he,hm⟩=>⟨(iT l).1,(iT l).2,?_,hm,DX l,q⟩;rw[he,AH l]
 rfl
theorem jq:fC Zp 32 1=true:=Yz
theorem OM:uJ Zp 81 1 24=true:=Yz
theorem ahy:cM Zp 68=true:=Yz
theorem ahz:cM Zp 69=true:=Yz
theorem nM:bh Zp 32 0=some 0:=Yz
theorem vu:ig Zp 30=true:=Yz
theorem JO:fB Zp 32=some [(0,1)]:=Yz
theorem VJ:Zp.underlying 30=some (.slice 81):=Yz
theorem z32:ej Zp 32=some [.slice none 0 0]:=Yz
set_option maxHeartbeats 16000000 in
abbrev oN:Pr:={name:=[],value:=[]}
theorem zS (uQ:Up w Q) {v0:Value} {l:List (List UInt8)} (h0:Ls ir w Q v0 l) (p0:∀s∈l,s.length≤1000000) :
  Calls Zp 29 #[v0] w fun en w'=>∃u0_0:Value,∃r0:eV,∃r1:Nat,en = .returned (.tuple #[.agg (eV.cells r0 u0_0).toArray,(.int .i64 r1)])∧Md [] w w'∧Ls (qn jM) w' Q u0_0 r0.rows∧r1<9223372036854775808∧tJ l=(r0,r1):=by
 have L0:=h0.dP;have M:=Md.refl [] w;have Bx:=uQ;have tQ:∀b,Q b→Q b:=fun _ h=>h;have Y:∀b,Q b→b<w.heap.size→Q b:=fun _ h _=>h;refine enter (n:=74) Tryz.func29 q q q fun B=>ns (bU z32 ?_);intro Ao w1 Bb B8 D C;obtain⟨Q2,sQ,z,I,X⟩:=jj uQ Bb B8 D;replace tQ:=tT tQ z;replace Y:=fun b K hl=>sQ b (Y b K hl) (lj hl M.size);replace Bb:=ly M.size Bb;replace h0:=(h0.sub sQ).o D;replace M:=M.k D;replace uQ:=X;clear X sQ z;have V:bM [] w Ao:=.inr Bb;replace C:bO _ _ (eV.cells (({rows:=[]}:eV)) SN) _:=C;refine an q (au (nm q (sL q iy h0.cV (st _ (ja (a:=l.length) (b:=32) q q) (nt ?_)))));refine bV q (fun Ad=>?_) (fun Ad=>?_)
 ·(first|(have c:=dT Ad)|(have c:=dF (eO Ad))|(have c:=eO Ad)|(have c:=Ad));refine ns (st _ (bY (us:=[]) (cs:=(eV.cells (({rows:=[]}:eV)) SN)) [] z32 JO q q trivial trivial q q) (aX (us:=(eV.cells (({rows:=[]}:eV)) SN)) q q (by exact jq) (by first|exact fun u U=>bn (eV.one q) u U|exact fun u U=>bn q u U) C (lB q) ?_));have N:=C;clear C;intro w3 D C;replace M:=M.step D (hI V);clear N;replace C:bO _ _ (eV.cells (({rows:=[]}:eV)) SN) _:=C;refine ar q (aV ?_);exact dD (vs:=[(.agg (eV.cells (({rows:=[]}:eV)) SN).toArray),(.int .i64 ((21:Nat):Int))]) trivial q ⟨⟨_,q,cJ (cs:=(eV.cells (({rows:=[]}:eV)) SN)) (by exact jq) C⟩,q,tV⟩ q ⟨_,(({rows:=[]}:eV)),21,q,M,(Ls.nil _ _ _),Ym,(by unfold tJ;rw[if_pos Ok])⟩
 (first|(have c:=dF Ad)|(have c:=dT (eN Ad))|(have c:=eN Ad)|(have c:=Ad));refine aY (ai (ns (bU z32 ?_)));intro Ap w4 Bc B9 D E;have B4:Ao≠Ap:=(by have:=C.lt;omega);obtain⟨Q5,sQ,z,J,X⟩:=jj uQ Bc B9 D;replace I:=nQ I z;replace tQ:=tT tQ z;replace Y:=fun b K hl=>sQ b (Y b K hl) (lj hl M.size);replace Bc:=ly M.size Bc;replace h0:=(h0.sub sQ).o D;obtain⟨C,M⟩:=k2 D C M;replace uQ:=X;clear X sQ z;have A9:bM [] w Ap:=.inr Bc;replace E:bO _ _ (eV.cells (({rows:=[]}:eV)) SN) _:=E;refine nt (ns (an q (au (ns (cE q (nt (b9 ?_)))))));obtain⟨r0,A7⟩:∃r,jR l l 0 [] []=r:=⟨_,q⟩;have k:=A7
 try simp only[List.nil_append]at A7
 refine PF (fun(x:eV) (F:Value) (o:Value) (S:List fV) (i:Nat)=>[(5,o),(6,(.int .i64 i)),(0,v0),(2,(.pointer (some ⟨Ao,0,none⟩))),(4,(.pointer (some ⟨Ap,0,none⟩)))]) (fun(x:eV) (F:Value) (o:Value) (S:List fV) (i:Nat) w'=>∃Q':Nat→Prop,(∀b,Q' b→Q b)∧(∀b,Q b→b<w.heap.size→Q' b)∧Up w' Q'∧Md [] w w'∧bO w' Ap (eV.cells x F) 32∧Ow (qn jM) 81 (bM [] w) w' Q' F x.rows∧Ls jM w' Q' o S∧Ls ir w' Q' v0 l∧bO w' Ao (eV.cells (({rows:=[]}:eV)) SN) 32∧¬Q' Ap∧¬Q' Ao∧(x.rows.length≤i∧S.length≤i∧i≤l.length)∧(∀a∈S,a.values.length≤i)∧jR l (l.drop i) i x.rows S=r0) (fun(x:eV) (F:Value) (o:Value) (S:List fV) (i:Nat)=>l.length-i) (x0:=(({rows:=[]}:eV))) (x1:=SN) (x2:=SN) (x3:=([]:List fV)) (x4:=0) ?_ ?_ ?_
 ·exact⟨q,q,q,q,q,tV⟩
 ·exact⟨Q5,tQ,Y,uQ,M,E,(by first|exact Ow.nil _ _ _ _ _|(simp only[];exact Ow.nil _ _ _ _ _)),(Ls.nil _ _ _),h0,C,J,I,⟨by simp,by simp,Nat.zero_le _⟩,Oj,(by have hh:=A7;first|exact hh|exact k|(simp only[List.nil_append]at hh;exact hh))⟩
 clear M uQ tQ Y I J h0 C E
 rintro x F o S i B w6 ⟨Q7,tQ,Y,uQ,M,E,A,G,h0,C,J,I,Ce,Bg,Aa⟩;refine au (ns (m2 q q (sL q iy h0.cV (st _ (dX (a:=i) (b:=l.length) q q) (nt ?_)))));refine bV q (fun Ae=>?_) (fun Ae=>?_)
 ·(first|(have W:=dT Ae)|(have W:=dF (eO Ae))|(have W:=eO Ae)|(have W:=Ae));refine aY (ai (au (b9 (au (ns (m2 q q (st _ (bB (i:=i) 1 q q iy EQ h0.cV Ok) ?_)))))));obtain⟨x8,Ak⟩:=dS (l:=l) (i:=i) Yh;obtain⟨c9,B7,Be⟩:=h0.get Ak;obtain⟨rfl,_⟩:=B7;replace Be:At _ v0 (i*1) [(str x8)]:=Be;refine st _ ((cg (kk:=i*1) 0 q q jQ Be q).to (b:=(str x8)) q) (st _ (qJ (a:=x8) (b:=(([43]:Ly))) q q) (ak ?_));clear Be;refine ai ?_;refine bV q (fun Af=>?_) (fun Af=>?_)
  ·(first|(have P:=dT Af)|(have P:=dF (eO Af))|(have P:=eO Af)|(have P:=Af));refine au (nm q (st _ (iv (a:=i) (b:=0) q q) (mv q ?_)));refine cB (t:=26) q (fun O=>?_) (fun O=>?_)
   ·(first|(have d:=dT O)|(have d:=dF (eO O))|(have d:=eO O)|(have d:=O));refine sk O (sk O (sk O (sk O (sk O (st _ (bF q O q) (mv q (sk q (sk q (sk q (sk q (sk q (sk q (st _ (bF q q q) ?_)))))))))))));refine nt (gq q q (ns (st _ (bY (us:=[]) (cs:=(eV.cells (({rows:=[]}:eV)) SN)) [] z32 JO q q trivial trivial q q) (aX (us:=(eV.cells (({rows:=[]}:eV)) SN)) q q (by exact jq) (by first|exact fun u U=>bn (eV.one q) u U|exact fun u U=>bn q u U) C (lB q) ?_))));have N:=C;clear C;intro Cm D C;replace M:=M.step D (hI V);clear N;replace C:bO _ _ (eV.cells (({rows:=[]}:eV)) SN) _:=C;refine ar q (aV (aV (bG (aV (aV (bG (aV ?_)))))));exact dD (vs:=[(.agg (eV.cells (({rows:=[]}:eV)) SN).toArray),(.int .i64 ((20:Nat):Int))]) trivial q ⟨⟨_,q,cJ (cs:=(eV.cells (({rows:=[]}:eV)) SN)) (by exact jq) C⟩,q,tV⟩ q ⟨_,(({rows:=[]}:eV)),20,q,M,(Ls.nil _ _ _),Ym,(by unfold tJ;rw[if_neg Ok];exact k.trans (Aa.symm.trans (zT Ak P (.inl Ok))))⟩
   (first|(have d:=dF O)|(have d:=dT (eN O))|(have d:=eN O)|(have d:=O));refine sg O (bf q) (sg O (bf q) (sg O (iw q iy h0.cV) (sg O (j4 (a:=((l.length:Nat):Int)) (b:=1) q q Ok) (sg O (kL (a:=((i:Nat):Int)) (b:=((l.length:Nat):Int)-1) q q) (st _ (bE q O q) (mv q ?_))))));refine cB (t:=33) q (fun L=>?_) (fun L=>?_)
   ·(first|(have e:=dT L)|(have e:=dF (eO L))|(have e:=eO L)|(have e:=L));refine sk L (sk L (sk L (sk L (sk L (sk L (st _ (bF q L q) (nt (gq q q (ns (st _ (bY (us:=[]) (cs:=(eV.cells (({rows:=[]}:eV)) SN)) [] z32 JO q q trivial trivial q q) (aX (us:=(eV.cells (({rows:=[]}:eV)) SN)) q q (by exact jq) (by first|exact fun u U=>bn (eV.one q) u U|exact fun u U=>bn q u U) C (lB q) ?_)))))))))));have N:=C;clear C;intro Cn D C;replace M:=M.step D (hI V);clear N;replace C:bO _ _ (eV.cells (({rows:=[]}:eV)) SN) _:=C;refine ar q (aV (aV (bG (aV (aV (bG (aV ?_)))))));exact dD (vs:=[(.agg (eV.cells (({rows:=[]}:eV)) SN).toArray),(.int .i64 ((20:Nat):Int))]) trivial q ⟨⟨_,q,cJ (cs:=(eV.cells (({rows:=[]}:eV)) SN)) (by exact jq) C⟩,q,tV⟩ q ⟨_,(({rows:=[]}:eV)),20,q,M,(Ls.nil _ _ _),Ym,(by unfold tJ;rw[if_neg Ok];exact k.trans (Aa.symm.trans (zT Ak P (.inr (.inl Ok)))))⟩
   (first|(have e:=dF L)|(have e:=dT (eN L))|(have e:=eN L)|(have e:=L));refine sg L (bf q) (sg L (bf q) (sg L (j4 (a:=((i:Nat):Int)) (b:=1) q q Ok) (sg L (sd (i:=((i:Nat):Int)-1) 1 q q iy EQ h0.cV Ok) ?_)));obtain⟨Bn,A8⟩:=dS (l:=l) (i:=(((i:Nat):Int)-1).toNat) Yh;obtain⟨Ci,Bv,Aw⟩:=h0.get A8;obtain⟨rfl,_⟩:=Bv;replace Aw:At _ v0 (((((i:Nat):Int)-1).toNat)*1) [(str Bn)]:=Aw;refine sg L ((cg (kk:=((((i:Nat):Int)-1).toNat)*1) 0 q q jQ Aw q).to (b:=(str Bn)) q) (sg L (qJ (a:=Bn) (b:=(([43]:Ly))) q q) (st _ (bE q L q) (ak ?_)));clear Aw;refine ai ?_;refine bV q (fun Ag=>?_) (fun Ag=>?_)
   ·(first|(have f:=dT Ag)|(have f:=dF (eO Ag))|(have f:=eO Ag)|(have f:=Ag));refine ns (st _ (bY (us:=[]) (cs:=(eV.cells (({rows:=[]}:eV)) SN)) [] z32 JO q q trivial trivial q q) (aX (us:=(eV.cells (({rows:=[]}:eV)) SN)) q q (by exact jq) (by first|exact fun u U=>bn (eV.one q) u U|exact fun u U=>bn q u U) C (lB q) ?_));have N:=C;clear C;intro Co D C;replace M:=M.step D (hI V);clear N;replace C:bO _ _ (eV.cells (({rows:=[]}:eV)) SN) _:=C;refine ar q (aV (aV (bG (aV (aV (bG (aV ?_)))))));exact dD (vs:=[(.agg (eV.cells (({rows:=[]}:eV)) SN).toArray),(.int .i64 ((20:Nat):Int))]) trivial q ⟨⟨_,q,cJ (cs:=(eV.cells (({rows:=[]}:eV)) SN)) (by exact jq) C⟩,q,tV⟩ q ⟨_,(({rows:=[]}:eV)),20,q,M,(Ls.nil _ _ _),Ym,(by unfold tJ;rw[if_neg Ok];exact k.trans (Aa.symm.trans (zT Ak P (.inr (.inr (by rw[KT (show l[i-1]? = some _ from by have h:=A8;rwa [show((i:Int)-1).toNat=i-1 by omega]at h)];simp_all))))))⟩
   (first|(have f:=dF Ag)|(have f:=dT (eN Ag))|(have f:=eN Ag)|(have f:=Ag));refine aY (ai (ns (sf q nM (sl (u:=F) q vu E q (mv q (bg [[o]] VJ OM Jk Jk q q ⟨(ea G.bN),tV⟩ ⟨q,tV⟩ q Jk ?_))))));intro Cc Cp Bt Cf D A4;have B1:=uQ _ Bt;obtain⟨A,E,G,h0,C,uQ,M⟩:=k7 D A E G h0 C uQ M;replace A4:=Ls.cK (m:=1) (R:=Q7) (T:=(qn jM)) (xs:=[S]) A4 ⟨_,_,q,⟨_,q,G⟩,q⟩ q Jk B1;refine ef (sz:=1) (by rfl) VJ OM q q A A4 (fun _ h _=>h) uQ (bM.new M) Zw Zw ?_;intro Bz Cq Bq sQ z X Ab D v _ Bi;have H:=A;clear A;replace J:=nQ J z;replace I:=nQ I z;replace tQ:=tT tQ z;replace Y:=fun b K hl=>sQ b (Y b K hl) (lj hl M.size);replace E:=E.md D (aW H E);replace h0:=(h0.sub sQ).md D v;replace C:=C.md D (aW H C);replace uQ:=uQ.md D;replace M:=M.cP D (fun b K=>(H.2 b K).1);replace uQ:=X;clear X sQ z v Bi;refine sf q nM (bI q q vu Ab.bN E (lB q) ?_);have Aq:=E;clear E;intro Cr D E;have v:∀b∈[Ap],¬Bq b:=(hI J);replace h0:=h0.md D v;replace C:=C.md D Vk;replace Ab:=Ab.md D (aB Aq Ab) v;replace uQ:=uQ.md D;replace M:=M.step D (hI A9);clear Aq v;obtain⟨Bl,Av⟩:∃y,y=({x with rows:=x.rows ++ ([S])}:eV):=⟨_,q⟩
   replace E:bO _ _ (eV.cells ({x with rows:=x.rows ++ ([S])}) Bz) _:=E;rw[← Av]at E;rw[show x.rows ++ ([S])=Bl.rows by rw[Av]]at Ab;refine nt (ns (an q (cw (bD (cZ (ai (ax (mv q (st _ (rA (a:=i) (b:=1) q q Ok) (cE q (nt ?_)))))))))));refine J8 (x0:=Bl) (x1:=Bz) (x2:=SN) (x3:=([])) (x4:=(i+1)) Ok ⟨q,(dB q Ok),q,q,q,tV⟩ ⟨Bq,tQ,Y,uQ,M,E,Ab,(Ls.nil _ _ _),h0,C,J,I,⟨by rw[Av];simp;omega,by simp,by omega⟩,Oj,(by rw[UA Ak P (by rintro(h|h|h)<;>first|omega|(rw[KT (show l[i-1]? = some _ from by have h:=A8;rwa [show((i:Int)-1).toNat=i-1 by omega]at h)]at h;simp_all))]at Aa;rw[show Bl.rows=x.rows ++ [S]by rw[Av]];exact Aa)⟩
  (first|(have P:=dF Af)|(have P:=dT (eN Af))|(have P:=eN Af)|(have P:=Af));refine aY (ai (ns (m2 q q (st _ (bB (i:=i) 1 q q iy EQ h0.cV Ok) ?_))));obtain⟨Cj,Bw,Ax⟩:=h0.get Ak;obtain⟨rfl,_⟩:=Bw;replace Ax:At _ v0 (i*1) [(str x8)]:=Ax;refine st _ ((cg (kk:=i*1) 0 q q jQ Ax q).to (b:=(str x8)) q) ?_;have Cl:=p0 _ (List.mem_of_getElem? Ak);refine kF (s:=x8) u9 fI u5 q (by simp[maxLen];omega) ?_;intro B0 Cs D A5 A2;replace A5:=Ls.of_by (Q:=Q7) A5 (fun b K _=>uQ b (A2 b K).1);replace A2:∀b,ah B0=some b→w.heap.size≤b:=fun b K=>ly M.size (A2 b K).1;obtain⟨A,E,G,h0,C,uQ,M⟩:=k7 D A E G h0 C uQ M;refine aj ahy q (MZ uQ A5 Ok) ?_;rintro en Ct ⟨p,Am,rfl,D,Cb,Bf⟩;refine rv ?_;obtain⟨A,E,G,h0,C,uQ,M⟩:=k7 D A E G h0 C uQ M;refine mv q (se q q (se q q (bU z61 ?_)));intro Ba Cu Bd Ca D Aj;have B6:Ap≠Ba:=(by have:=E.lt;omega);have B5:Ao≠Ba:=(by have:=C.lt;omega);obtain⟨Br,sQ,z,Bj,X⟩:=jj uQ Bd Ca D;replace J:=nQ J z;replace I:=nQ I z;replace tQ:=tT tQ z;replace Y:=fun b K hl=>sQ b (Y b K hl) (lj hl M.size);replace Bd:=ly M.size Bd;replace A:=(A.sub sQ z).o D;replace E:=E.o D;replace G:=(G.sub sQ).o D;replace h0:=(h0.sub sQ).o D;obtain⟨C,M⟩:=k2 D C M;replace uQ:=X;clear X sQ z;have Bk:bM [] w Ba:=.inr Bd
  replace Aj:bO _ _ (Pr.cells (oN)) _:=Aj;refine aX (us:=(Pr.cells p)) q q (by exact fu) (by first|exact fun u U=>bn (Pr.one) u U|exact fun u U=>bn q u U) Aj (lB q) ?_;have Ac:=Aj;clear Aj;intro Cv D Aj;have v:∀b∈[Ba],¬Br b:=(hI Bj);replace A:=A.md D (aB Ac A) v;replace E:=E.md D Vk;replace G:=G.md D v;replace h0:=h0.md D v;replace C:=C.md D Vk;clear Ax;replace uQ:=uQ.md D;replace M:=M.step D (hI Bk);clear Ac v;replace Aj:bO _ _ (Pr.cells p) _:=Aj;refine an q (au (nm q (st _ (eP (a:=Am) (b:=0) q q) (nt ?_))));refine bV q (fun Ah=>?_) (fun Ah=>?_)
  ·(first|(have Z:=dT Ah)|(have Z:=dF (eO Ah))|(have Z:=eO Ah)|(have Z:=Ah));refine ns (st _ (bY (us:=[]) (cs:=(eV.cells (({rows:=[]}:eV)) SN)) [] z32 JO q q trivial trivial q q) (mv q (aX (us:=(eV.cells (({rows:=[]}:eV)) SN)) q q (by exact jq) (by first|exact fun u U=>bn (eV.one q) u U|exact fun u U=>bn q u U) C (lB q) ?_)));have N:=C;clear C;intro Cw D C;replace M:=M.step D (hI V);clear N;replace C:bO _ _ (eV.cells (({rows:=[]}:eV)) SN) _:=C;refine ar q (aV (bG (aV (aV (bG (aV ?_))))));exact dD (vs:=[(.agg (eV.cells (({rows:=[]}:eV)) SN).toArray),(.int .i64 Am)]) trivial q ⟨⟨_,q,cJ (cs:=(eV.cells (({rows:=[]}:eV)) SN)) (by exact jq) C⟩,q,tV⟩ q ⟨_,(({rows:=[]}:eV)),Am,q,M,(Ls.nil _ _ _),Ym,(by unfold tJ;rw[if_neg Ok];exact k.trans (Aa.symm.trans (aay Ak P Bf Z)))⟩
  (first|(have Z:=dF Ah)|(have Z:=dT (eN Ah))|(have Z:=eN Ah)|(have Z:=Ah));refine aY (ai (ax (mv q (st _ (bX (Pr.cells p) q (by exact fu) Aj q) (aj ahz q (JX uQ G p Ok (by intro a ha;have:=Bg a ha;omega)) ?_)))));rintro en Cx ⟨Bm,Bo,rfl,D,Bh,A3⟩;refine rv ?_;obtain⟨A,E,h0,C,uQ,M⟩:=k6 D A E h0 C uQ M;refine cE q (ak (bL (ai (ax (mv q (st _ (rA (a:=i) (b:=1) q q Ok) (an q ?_)))))));refine J8 (x0:=x) (x1:=F) (x2:=Bm) (x3:=Bo) (x4:=(i+1)) Ok ⟨q,(dB q Ok),q,q,q,tV⟩ ⟨Br,tQ,Y,uQ,M,E,A,Bh,h0,C,J,I,⟨by omega,by rw[← A3];have:=tO p false S;simp only[Bool.false_eq_true,if_false]at this;omega,by omega⟩,(by rw[← A3];exact r8 _ _ _ Bg),(by rw[UB Ak P (by rw[Bf,show Am=0 by omega])]at Aa;rw[← Aa,A3])⟩
 (first|(have W:=dF Ae)|(have W:=dT (eN Ae))|(have W:=eN Ae)|(have W:=Ae));refine cw (bD (bD (cZ (ai (au (nm q (sL q iy h0.cV (st _ (ja (a:=l.length) (b:=0) q q) (nt ?_)))))))));refine bV q (fun Ai=>?_) (fun Ai=>?_)
 ·(first|(have g:=dT Ai)|(have g:=dF (eO Ai))|(have g:=eO Ai)|(have g:=Ai));refine ax (sf q nM (sl (u:=F) q vu E q (mv q (bg [[o]] VJ OM Jk Jk q q ⟨(ea G.bN),tV⟩ ⟨q,tV⟩ q Jk ?_))));intro Cd r6 Bu Cg D Ac;have B2:=uQ _ Bu;obtain⟨A,E,G,C,uQ,M⟩:=k6 D A E G C uQ M;replace Ac:=Ls.cK (m:=1) (R:=Q7) (T:=(qn jM)) (xs:=[S]) Ac ⟨_,_,q,⟨_,q,G⟩,q⟩ q Jk B2;refine ef (sz:=1) (by rfl) VJ OM q q A Ac (fun _ h _=>h) uQ (bM.new M) Zw Zw ?_;intro A0 Cy Bs sQ z X j D v _ Bi;have H:=A;clear A;replace J:=nQ J z;replace I:=nQ I z;replace tQ:=tT tQ z;replace E:=E.md D (aW H E);replace C:=C.md D (aW H C);replace uQ:=uQ.md D;replace M:=M.cP D (fun b K=>(H.2 b K).1);replace uQ:=X;clear X sQ z v Bi;refine sf q nM (bI q q vu j.bN E (lB q) ?_);have Aq:=E;clear E;intro Cz D E;have v:∀b∈[Ap],¬Bs b:=(hI J);replace C:=C.md D Vk;replace j:=j.md D (aB Aq j) v;replace M:=M.step D (hI A9);clear Aq v;obtain⟨Au,A1⟩:∃y,y=({x with rows:=x.rows ++ ([S])}:eV):=⟨_,q⟩;replace E:bO _ _ (eV.cells ({x with rows:=x.rows ++ ([S])}) A0) _:=E
  rw[← A1]at E;rw[show x.rows ++ ([S])=Au.rows by rw[A1]]at j;refine nt (ns (st _ (bX (eV.cells Au A0) q (by exact jq) E q) (aX (us:=(eV.cells Au A0)) q q (by exact jq) (by first|exact fun u U=>bn (eV.one j.bN) u U|exact fun u U=>bn q u U) C (lB q) ?_)));have Ay:=j;have N:=C;clear C;intro C0 D C;have v:∀b∈[Ao],¬Bs b:=(hI I);replace Ay:=Ay.md D (aB N Ay) v;replace M:=M.step D (hI V);clear N v;replace C:bO _ _ (eV.cells Au A0) _:=C;refine ar q ?_;exact dD (vs:=[(.agg (eV.cells Au A0).toArray),(.int .i64 ((0:Nat):Int))]) trivial q ⟨⟨_,q,cJ (cs:=(eV.cells Au A0)) (by exact jq) C⟩,q,tV⟩ q ⟨_,Au,0,q,M,(Ay.ls (fun b K=>tQ b K) (bM.up Bx)),Ym,(by unfold tJ;rw[if_neg Ok];exact k.trans (Aa.symm.trans ((JY W).trans (by rw[if_pos Ok];rw[A1]))))⟩
 (first|(have g:=dF Ai)|(have g:=dT (eN Ai))|(have g:=eN Ai)|(have g:=Ai));refine aY (ai (ns (st _ (bX (eV.cells x F) q (by exact jq) E q) (aX (us:=(eV.cells x F)) q q (by exact jq) (by first|exact fun u U=>bn (eV.one A.bN) u U|exact fun u U=>bn q u U) C (lB q) ?_))));have Az:=A;have N:=C;clear C;intro C1 D C;have v:∀b∈[Ao],¬Q7 b:=(hI I);replace Az:=Az.md D (aB N Az) v;replace M:=M.step D (hI V);clear N v;replace C:bO _ _ (eV.cells x F) _:=C;refine ar q ?_;exact dD (vs:=[(.agg (eV.cells x F).toArray),(.int .i64 ((0:Nat):Int))]) trivial q ⟨⟨_,q,cJ (cs:=(eV.cells x F)) (by exact jq) C⟩,q,tV⟩ q ⟨_,x,0,q,M,(Az.ls (fun b K=>tQ b K) (bM.up Bx)),Ym,(by unfold tJ;rw[if_neg Ok];exact k.trans (Aa.symm.trans ((JY W).trans (by rw[if_neg Ok]))))⟩
end Go.Proofs.YtlleafgaeeneoaaGreat
namespace Go.Wk
open Go Go.RowKit
def rn (b:Ly) (j:Nat):List Nat:=(List.range 20).map fun q=>if q<j then lY b (88+8*q)else 0
def pu:eM:={gO:=0,cF:=0,state:=0,dJ:=ou,dQ:=ou,cG:=ou,seq:=ou,n:=List.replicate 20 0,dG:=0,dN:=0,dM:=0}
end Go.Wk
namespace Go.Wk
open Go Go.RowKit
end Go.Wk
