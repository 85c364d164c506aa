/- Part 6 of what the walk of a law stands on: WCmp, VSo3, VSo4, LaidI, SortI, VXa, VXb, VXf, VXk, VXl, BlP, VXm, VYa, VSeq5, VSeq6, VYb, VYc, UngP, VMaker, VMaker2, VMaker3, VMaker5S, ImgP. No statement is proved here. -/
import Derived.Test.YtfadcpfgenjbeaaGreatWMD5
import Derived.Test.YtfadcpfgenjbeaaGreatRows
set_option linter.unusedVariables false
set_option linter.unusedSimpArgs false
namespace Go.Proofs.YtfadcpfgenjbeaaGreat
open Go Go.Wk Go.RowKit
attribute [local irreducible] wpList wpQuiet wpStill wpMix Code.wp Calls bodyPost
theorem fn204:isFn Tryz.prog 204=true:=by kernel_rfl

theorem nan_any (a:Ly) (w:World):Calls Tryz.prog 204 #[str a] w fun e w'=>e = .returned (.bool false)∧w=w':=by
  have M:=Md.refl [] w;refine enter (n:=6) Tryz.func204 rfl rfl rfl ?_;intro B;refine ns (asg rfl (nt (ns (mv rfl (mv rfl (st _ (r_neqS rfl rfl) (asg rfl (nt (c_ret ?_)))))))));exact ret1 trivial rfl rfl ⟨retB (by simp),rfl⟩
theorem cmp_any (a b:Ly) (w:World):Calls Tryz.prog 149 #[str a,str b] w fun e w'=>e = .returned (.int .i64 (cmpS a b))∧w=w':=by
  have M:=Md.refl [] w;refine enter (n:=20) Tryz.func149 rfl rfl rfl ?_;intro B;refine ns (asg rfl (nt (ns (mv rfl (st_call fn204 rfl (nan_any a _) ?_)))));rintro e _ ⟨rfl,rfl⟩;refine⟨_,rfl,?_⟩;refine asg rfl (nt (ns (mv rfl (st_call fn204 rfl (nan_any b _) ?_))));rintro e _ ⟨rfl,rfl⟩;refine⟨_,rfl,?_⟩;refine asg rfl (nt (c_seq (ns (mv rfl (nt (c_if_f rfl rfl (c_skip (c_then (c_seq (ns (mv rfl (nt (c_if_f rfl rfl ?_)))))))))))));refine c_skip (c_then (c_seq (ns (mv rfl (mv rfl (st _ (r_lssS rfl rfl) (nt ?_)))))));refine c_if rfl (fun E=>?_) (fun E=>?_)
  · (first|(have A:=dT E)|(have A:=dF (bnt E))|(have A:=bnt E)|(have A:=E));refine ns (asg rfl (nt (c_ret (r_then ?_))));exact ret1 trivial rfl rfl ⟨retI (by unfold cmpS;rw[if_pos A]),rfl⟩
  · (first|(have A:=dF E)|(have A:=dT (bnf E))|(have A:=bnf E)|(have A:=E));refine c_skip (c_then (c_seq (ns (mv rfl (mv rfl (st _ (r_gtrS rfl rfl) (nt ?_)))))));refine c_if rfl (fun C=>?_) (fun C=>?_)
    · (first|(have D:=dT C)|(have D:=dF (bnt C))|(have D:=bnt C)|(have D:=C));refine ns (asg rfl (nt (c_ret (r_then ?_))));exact ret1 trivial rfl rfl ⟨retI (by unfold cmpS;rw[if_neg (by simp[A]),if_pos C]),rfl⟩
    · (first|(have D:=dF C)|(have D:=dT (bnf C))|(have D:=bnf C)|(have D:=C));refine c_skip (c_then (ns (asg rfl (nt (c_ret ?_)))));exact ret1 trivial rfl rfl ⟨retI (by unfold cmpS;rw[if_neg (by simp[A]),if_neg (by rw[C];decide)]),rfl⟩
theorem fn149:isFn Tryz.prog 149=true:=by kernel_rfl

theorem whole_gr (p:PairB) (w:World) (hl:p.1.length+p.2.length≤4611686018427387904):Calls Tryz.prog 147 #[pairv p] w fun e w'=>e = .returned (str (whole p))∧Gr w w':=by
  have M:=Gr.refl w;refine enter (n:=9) Tryz.func147 rfl rfl rfl ?_;intro B;refine ns (st_boxG rfl rfl ?_);intro D G E F C A;replace M:=M.step0 C;refine asg rfl (nt (ns (sf rfl off91_0 (st _ (r_loadBlk rfl one9 A rfl) (st (str (p.1 ++ [61])) (r_addS rfl rfl (by(simp;omega))) (sf rfl off91_1 (st _ (r_loadBlk rfl one9 A rfl) (st (str (p.1 ++ [61] ++ p.2)) (r_addS rfl rfl (by simp;omega)) (asg rfl (nt (c_ret ?_)))))))))));exact ret1 trivial rfl rfl ⟨rfl,M⟩
theorem order_gr (p q:PairB) (w:World) (hp:p.1.length+p.2.length≤4611686018427387904) (hq:q.1.length+q.2.length≤4611686018427387904):Calls Tryz.prog 103 #[pairv p,pairv q] w fun e w'=>e = .returned (.int .i64 (cmpS (whole p) (whole q)))∧Gr w w':=by
  have M:=Gr.refl w;refine enter (n:=10) Tryz.func103 rfl rfl rfl ?_;intro B;refine ns (st_boxG rfl rfl ?_);intro J Q L O A G;replace M:=M.step0 A;refine st_boxG rfl rfl ?_;intro K I N P A H;replace G:=G.md0 A.md;replace M:=M.step0 A;refine asg rfl (nt (c_seq ?_));have D:=G;have E:=H;refine c_mixG [(0,true),(2,true),(1,false),(3,false),(4,false),(5,true)] (fun w'=>Md [] I w') mixed (by kernel_rfl) ?_;intro R A;have C:=A.md;replace M:=M.step0 A;refine⟨C,?_⟩;refine mz (fun w' F=>r_loadAll rfl (by exact agg91) (D.md0 F)) (mz (fun w' F=>r_loadAll rfl (by exact agg91) (E.md0 F)) ?_);refine m_e ?_ rfl;refine st_call fn147 rfl (whole_gr p _ hp) ?_;rintro e S ⟨rfl,A⟩;refine⟨_,rfl,?_⟩;replace C:=C.step0 A.md;replace M:=M.step0 A;refine st_nil ⟨rfl,C,?_⟩;refine m_e ?_ rfl;refine st_call fn147 rfl (whole_gr q _ hq) ?_;rintro e T ⟨rfl,A⟩;refine⟨_,rfl,?_⟩;replace C:=C.step0 A.md;replace M:=M.step0 A;refine st_nil ⟨rfl,C,?_⟩;refine m_e ?_ rfl;refine st_call fn149 rfl (cmp_any _ _ _) ?_;rintro e U ⟨rfl,rfl⟩;refine⟨_,rfl,?_⟩;refine st_nil ⟨rfl,C,?_⟩;refine mz (fun w' F=>r_assign rfl) (m_nil (c_then (c_ret ?_)));exact ret1 trivial rfl rfl ⟨rfl,M⟩
theorem sort_any {w:World} {Q lo:Nat→Prop} {v:Value} {xs:List Pr} (h0:Ow tPr 91 lo w Q v xs) (h1:1≤xs.length) (hr:∀p∈xs,right p.pb=true) (hl:xs.length≤1000000) :
    Calls Tryz.prog 102 #[v,.func (.func 103) #[] #[]] w fun en w'=>en = .returned (.tuple #[])∧Md (vblock v).toList w w'∧Ow tPr 91 lo w' Q v (sortF xs):=by
  obtain⟨b,E,rfl,K,F,G,J⟩:=h0.rw_ h1;obtain⟨d,rfl⟩:=lift_right xs hr;have H:∀args w,(callFunc 103 args).run Tryz.prog w = .ok (.enter 103 args) w:=Go.Proofs.enters_of Tryz.func103 (by kernel_rfl) rfl
  have C:CmpLays Tryz.prog 103 #[] encP 2 cfP b 0 d.toArray.size w:=fun m os M _ x y =>
    (order_gr x.1.pb y.1.pb _ (by have:=right_len x.2;omega) (by have:=right_len y.2;omega)).mono fun e w' ⟨he,hg⟩=>⟨he,hg.grown⟩
  have A:=AnyQ.slices_SortFunc_total sortPr 2 Tryz.isAgg91 Tryz.sizeOf91 encP (fun _=>rfl) encP_one cfP swoP 103 #[] b 0 E d.toArray w H C F.holds (by obtain⟨_,I,_⟩:=F;exact I.lt) (by simp at hl ⊢;omega) totP;simp only[List.size_toArray,List.length_map]at A hl ⊢;refine A.mono ?_;rintro e w' ⟨rfl,n,os,rfl⟩;obtain⟨L,B⟩:=F.sorted (n:=n) (os:=os) (d':=d.mergeSort fun x y=>!(ltOf cfP) y x) (by simp);refine⟨rfl,by simpa [vblock]using L,?_⟩;rw[sortF_sub]at B;have D:(sortF (d.map Subtype.val)).length=d.length:=(by simp[sortF]);have:=B.ow (lo:=lo) (Q:=Q) K G J;rw[D]at this;exact this
theorem kClone_any {w:World} {Q:Nat→Prop} (uQ:Up w Q) {v0:Value} {l:List Pr} (h0:Ls tPr w Q v0 l) (p0:1≤l.length) (p1:l.length≤1000000) :
    Calls Tryz.prog 101 #[v0] w fun en w'=>∃u0:Value,∃r0:List Pr,∃Q':Nat→Prop,en = .returned (u0)∧Md [] w w'∧NewQ w w' Q Q'∧Ow tPr 91 (Fsh [] w) w' Q' u0 r0∧l=r0:=by
  obtain⟨a,A,S,R⟩:∃a A,v0 = .slice (some a) l.length A∧l.length≤A:=by
    obtain⟨a,A,g,e,M,h,N,_⟩:=h0
    cases a with
    | none=>have:=N rfl;omega
    | some a=>exact⟨a,A,e,M⟩
  refine enter (n:=8) Tryz.func101 rfl rfl rfl ?_;intro B;refine ns (asg rfl (nt (c_seq (ns (mv rfl (st (.bool false) (by exact r_eqlSN (a:=some a) (m:=l.length) (c:=A) (by rw[← S];rfl) u47) (nt ?_)))))));refine c_if rfl (fun H=>(by cases H)) (fun H=>?_);refine c_skip (c_then (ns (st_build0 u47 elT91 ?_)));intro b f D U C O;obtain⟨K,J,X,V,Z⟩:=exQ uQ D U C;have P:Ow tPr 91 (Fsh [] w) f K (.slice (some ⟨b,0,none⟩) 0 0) []:=Ow.of_blk (m:=0) O rfl rfl (by simp[maxLen]) (.inr D) V;replace h0:=(h0.sub J).md0 C;refine mv rfl (st_apZ (sz:=2) rfl u47 elT91 rfl rfl P h0.lz Z (Fsh.new C) (by simp;omega) (by simp;omega) ?_);intro j k L W Y d E F i _ T;refine asg rfl (nt (c_ret ?_));exact ret1 trivial rfl rfl ⟨_,_,L,rfl,C.step1 F D,⟨fun x G I=>W x (J x G I) (lv I C.size),fun x G=>X x (Y x G),d⟩,E,by simp⟩
theorem fn101:isFn Tryz.prog 101=true:=by kernel_rfl
theorem fn102:isFn Tryz.prog 102=true:=by kernel_rfl
theorem fn104:isFn Tryz.prog 104=true:=by kernel_rfl

theorem kList_any {w:World} {Q:Nat→Prop} (uQ:Up w Q) {v0:Value} {l:List Pr} (h0:Ls tPr w Q v0 l) (p0:l.length≤1000) :
    Calls Tryz.prog 55 #[v0] w fun en w'=>∃u0:Value,∃r0:List Pr,∃r1:Nat,en = .returned (.tuple #[u0,(.int .i64 r1)])∧Md [] w w'∧Ls tPr w' Q u0 r0∧r1<9223372036854775808∧plistF l=(r0,r1):=by
  have L0:=h0.len63;have M:=Md.refl [] w;have Ac:=uQ;have U:∀b,Q b→Q b:=fun _ h=>h;have L:∀b,Q b→b<w.heap.size→Q b:=fun _ h _=>h;refine enter (n:=37) Tryz.func55 rfl rfl rfl ?_;intro B;refine ns (asg rfl (asg rfl (nt (c_seq (ns (mv rfl (sL rfl u47 h0.shp (st _ (r_eqN (a:=l.length) (b:=0) rfl rfl) (nt ?_)))))))));refine c_if rfl (fun Y=>?_) (fun Y=>?_)
  · (have G:=dT Y);refine ns (asg rfl (asg rfl (nt (c_ret (r_then ?_)))));exact retL (vs:=[(.slice none 0 0),(.int .i64 ((16:Nat):Int))]) trivial rfl ⟨rfl,rfl,tV⟩ rfl ⟨_,[],16,rfl,M,(Ls.nil _ _ _),(by omega),(by rw[plistF]<;>simp(disch:=first|omega|assumption|(simp;done)|fail) only [SS,reduceIte,G])⟩
  · (have G:=dF Y);refine c_skip (c_then (c_seq (ns (mv rfl (sL rfl u47 h0.shp (mv rfl (nt (c_block ?_))))))));obtain⟨r0,H⟩:∃r,chkL l (packE l)=r:=⟨_,rfl⟩;have Ai:=H
    try simp only[List.nil_append]at H
    refine loop1 (fun(i:Nat)=>[(14,(.int .i64 i)),(0,v0),(12,v0),(13,(.int .i64 l.length))]) (fun(i:Nat) w'=>∃Q':Nat→Prop,(∀b,Q' b→Q b)∧(∀b,Q b→b<w.heap.size→Q' b)∧Up w' Q'∧Md [] w w'∧Ls tPr w' Q' v0 l∧i≤l.length∧(∀q∈l.take i,right q.pb=true)∧chkL (l.drop i) (packE l)=r0) (fun(i:Nat)=>l.length-i) (x0:=0) ?_ ?_ ?_
    · exact⟨rfl,rfl,rfl,rfl,tV⟩
    · exact⟨Q,U,L,uQ,M,h0,(by omega),(by simp),(by have N:=H;exact N)⟩
    · clear M uQ U L h0
      rintro i B w1 ⟨Q2,U,L,uQ,M,h0,Aj,W,f⟩;refine ns (st _ (r_ltN (a:=i) (b:=l.length) rfl rfl) (nt (c_seq ?_)));refine c_if rfl (fun Z=>?_) (fun Z=>?_)
      · (have V:=dT Z);refine c_skip (c_then (c_seq (c_block (ns (st _ (r_indexN (i:=i) 2 rfl rfl u47 el91 h0.shp (by omega)) ?_)))));obtain⟨k,P⟩:=getE (l:=l) (i:=i) (by omega);obtain⟨c4,Aa,T⟩:=h0.get P;obtain⟨_,rfl⟩:=tPr_un Aa;replace T:At _ v0 (i*2) (Pr.cells k):=T;refine st _ (r_loadEA (kk:=i*2) (Pr.cells k) 0 rfl rfl (by exact agg91) T rfl) (st_alloc z91 ?_);intro o w5 S Ab F E;obtain⟨Q6,v,x,g,R⟩:=exQ uQ S Ab F;replace h0:=h0.sub v;replace U:=fun b J=>U b (x b J);replace L:=fun b J hl=>v b (L b J hl) (lv hl M.size);replace S:=lQ M.size S;replace h0:=h0.md0 F;replace uQ:=uQ.md F;replace M:=M.step0 F;replace uQ:=R;clear R v x;have j:Fsh [] w o:=.inr S;replace E:Blk _ _ (Pr.cells (({name:=[],value:=[]}:Pr))) _:=E;refine st_storeAgg (us:=(Pr.cells k)) rfl rfl (by exact agg91) (by exact fun u hu=>one_cells (Pr.one) u hu) E (ly rfl) ?_;have t:=E;clear E;intro w7 F E;have hS:∀b∈[o],¬Q6 b:=(by intro b J;simp at J;subst J;exact g);replace h0:=h0.md F hS;clear T;replace uQ:=uQ.md F;replace M:=M.step F (all_cons j all_nil);clear t hS;replace E:Blk _ _ (Pr.cells k) _:=E;refine nt (ns (st _ (r_loadPart (Pr.cells k) rfl (by exact agg91) E rfl) (st_call fn100 rfl (kJoin_any uQ k) ?_)));rintro en w8 ⟨Al,Ao,K,rfl,F,Af,Ak,e⟩;refine⟨_,rfl,?_⟩;replace h0:=h0.md0 F;replace uQ:=uQ.md F;replace M:=M.step0 F;refine mv rfl (se rfl rfl (se rfl rfl (asg rfl (asg rfl (nt (ns (mv rfl (st _ (r_neN (a:=K) (b:=0) rfl rfl) (nt ?_)))))))));refine c_if rfl (fun c=>?_) (fun c=>?_)
        · (have I:=dT c);refine ns ?_;have y:plistF l=([],K):=(by have N:=f;rw[chk_step P,e]at N;simp only at N;rw[if_pos I]at N;unfold plistF;rw[if_neg G,H,← N]);refine mv rfl (asg rfl (asg rfl (nt (c_ret (r_block (r_then (r_then (r_block (r_then ?_)))))))));exact retL (vs:=[(.slice none 0 0),(.int .i64 K)]) trivial rfl ⟨rfl,rfl,tV⟩ rfl ⟨_,[],K,rfl,M,(Ls.nil _ _ _),(by assumption),y⟩
        · (have I:=dF c);refine c_skip (n_block (c_then (c_region (st _ (r_addN (a:=i) (b:=1) 9223372036854775808 rfl rfl rfl (by omega)) (mv rfl (nt ?_))))));refine next1 (x0:=(i+1)) (by omega) ⟨(fitI rfl (by omega)),rfl,rfl,rfl,tV⟩ ⟨Q6,U,L,uQ,M,h0,(by omega),(by intro q z;rw[List.take_add_one,P]at z;rcases List.mem_append.1 z with h|h;exact W q h;simp at h;subst h;exact joinF_right.1 (by rw[e];simpa using I)),(by have N:=f;simp(disch:=first|omega|assumption|(simp;done)|fail) only [chk_end,chk_step P,SS,reduceIte,G,V,P,e,I]at N;exact N)⟩
      · (have V:=dF Z);refine c_exit (x_then (x_then (x_hit (c_then (ns ?_)))));have rt:∀q∈l,right q.pb=true:=fun q z=>W q (by rw[List.take_of_length_le (by omega)];exact z);have y:plistF l=packE l:=(by have N:=f;rw[chk_end (by omega)]at N;unfold plistF;rw[if_neg G,H,← N]);refine mv rfl (st_call fn101 rfl (kClone_any uQ h0 (by omega) (by omega)) ?_);rintro en w9 ⟨Am,X,Ap,rfl,F,⟨v,x,R⟩,A,p⟩;refine⟨_,rfl,?_⟩;replace U:=fun b J=>U b (x b J);replace A:=A.lower (Fsh.lift (S':=[]) M);replace uQ:=uQ.md F;replace M:=M.step0 F;replace uQ:=R;clear R v x;refine asg rfl (nt (ns (mv rfl (st_call fn102 rfl (sort_any A (by subst_vars;omega) (by subst_vars;exact rt) (by subst_vars;omega)) ?_))));rintro en Au ⟨rfl,F,D⟩;refine⟨_,rfl,?_⟩;have C:=A;replace A:=D;clear D;replace M:=M.stepO F (fun b J=>(C.2 b J).1);clear C;refine nt (ns (mv rfl (st_call fn104 rfl (compact_any A) ?_)));rintro en Av ⟨Ad,rfl,F,Ar,D⟩;refine⟨_,rfl,?_⟩;have C:=A;replace A:=D;clear D;replace M:=M.stepO F (fun b J=>(C.2 b J).1);clear C;refine asg rfl (nt (c_seq (ns ?_)));have cl:=compact_len (sortF l);have cs:(sortF l).length=l.length:=(by simp[sortF]);refine mv rfl (sL rfl u47 A.shp ?_)
        refine st _ (r_gtN (a:=((compactF (sortF X)).length)) (b:=16) rfl rfl) (nt ?_);refine c_if rfl (fun d=>?_) (fun d=>?_)
        · (have O:=dT d);refine ns (asg rfl (asg rfl (nt (c_ret (r_then ?_)))));exact retL (vs:=[(.slice none 0 0),(.int .i64 ((21:Nat):Int))]) trivial rfl ⟨rfl,rfl,tV⟩ rfl ⟨_,[],21,rfl,M,(Ls.nil _ _ _),(by omega),(by rw[y,packE,packF,p,if_pos O])⟩
        · (have O:=dF d);refine c_skip (c_then (ns (mv rfl (asg rfl (asg rfl (nt (c_ret ?_)))))));exact retL (vs:=[Ad,(.int .i64 ((0:Nat):Int))]) trivial rfl ⟨rfl,rfl,tV⟩ rfl ⟨_,(compactF (sortF X)),0,rfl,M,(A.ls (fun b J=>U b J) (Fsh.up Ac)),(by omega),(by rw[y,packE,packF,p,if_neg O])⟩
end Go.Proofs.YtfadcpfgenjbeaaGreat
namespace Go.Proofs.YtfadcpfgenjbeaaGreat
open Go Go.Shelf
def sortIt_ren:Go.Shelf.Ren:=⟨fun|6=>107|15=>142|14=>157|28=>193|29=>194|20=>209|21=>210|22=>211|23=>212|24=>213|25=>214|26=>215|27=>216|46=>241|47=>233|48=>234|49=>242|50=>243|57=>253|n=>n,fun|22=>121|24=>181|25=>185|3=>3|39=>72|0=>0|53=>103|55=>23|4=>4|46=>268|45=>267|50=>273|5=>5|9=>9|66=>306|70=>309|76=>323|77=>65|n=>n,fun|n=>n⟩
theorem sortIt:Go.Proofs.SlLaysF0.n6 Tryz.prog sortIt_ren:={
  mixed:=by kernel_rfl
  f6:=⟨Tryz.f107.name,by decide,Tryz.func107.trans (congrArg some (by kernel_rfl))⟩
  f14:=⟨Tryz.f157.name,by decide,Tryz.func157.trans (congrArg some (by kernel_rfl))⟩
  f15:=Tryz.func142.trans (congrArg some (by kernel_rfl))
  f20:=⟨Tryz.f209.name,by decide,Tryz.func209.trans (congrArg some (by kernel_rfl))⟩
  f21:=⟨Tryz.f210.name,by decide,Tryz.func210.trans (congrArg some (by kernel_rfl))⟩
  f22:=⟨Tryz.f211.name,by decide,Tryz.func211.trans (congrArg some (by kernel_rfl))⟩
  f23:=⟨Tryz.f212.name,by decide,Tryz.func212.trans (congrArg some (by kernel_rfl))⟩
  f24:=⟨Tryz.f213.name,by decide,Tryz.func213.trans (congrArg some (by kernel_rfl))⟩
  f25:=⟨Tryz.f214.name,by decide,Tryz.func214.trans (congrArg some (by kernel_rfl))⟩
  f26:=⟨Tryz.f215.name,by decide,Tryz.func215.trans (congrArg some (by kernel_rfl))⟩
  f27:=⟨Tryz.f216.name,by decide,Tryz.func216.trans (congrArg some (by kernel_rfl))⟩
  f28:=Tryz.func193.trans (congrArg some (by kernel_rfl))
  f29:=Tryz.func194.trans (congrArg some (by kernel_rfl))
  f46:=⟨Tryz.f241.name,by decide,Tryz.func241.trans (congrArg some (by kernel_rfl))⟩
  f47:=Tryz.func233.trans (congrArg some (by kernel_rfl))
  f48:=Tryz.func234.trans (congrArg some (by kernel_rfl))
  f49:=⟨Tryz.f242.name,by decide,Tryz.func242.trans (congrArg some (by kernel_rfl))⟩
  f50:=⟨Tryz.f243.name,by decide,Tryz.func243.trans (congrArg some (by kernel_rfl))⟩
  f57:=⟨Tryz.f253.name,by decide,Tryz.func253.trans (congrArg some (by kernel_rfl))⟩
  t0:=Tryz.underlying0
  a0:=Tryz.isAgg0
  z0:=Tryz.sizeOf0
  v0:=Tryz.zeroValue0
  t3:=Tryz.underlying3
  a3:=Tryz.isAgg3
  z3:=Tryz.sizeOf3
  v3:=Tryz.zeroValue3
  t4:=Tryz.underlying4
  a4:=Tryz.isAgg4
  z4:=Tryz.sizeOf4
  v4:=Tryz.zeroValue4
  t5:=Tryz.underlying5
  a5:=Tryz.isAgg5
  z5:=Tryz.sizeOf5
  v5:=Tryz.zeroValue5
  t9:=Tryz.underlying9
  a9:=Tryz.isAgg9
  z9:=Tryz.sizeOf9
  v9:=Tryz.zeroValue9
  t22:=Tryz.underlying121
  a22:=Tryz.isAgg121
  z22:=Tryz.sizeOf121
  v22:=Tryz.zeroValue121
  t25:=Tryz.underlying185
  a25:=Tryz.isAgg185
  z25:=Tryz.sizeOf185
  v25:=Tryz.zeroValue185
  t39:=Tryz.underlying72
  a39:=Tryz.isAgg72
  z39:=Tryz.sizeOf72
  v39:=Tryz.zeroValue72
  t45:=Tryz.underlying267
  a45:=Tryz.isAgg267
  z45:=Tryz.sizeOf267
  v45:=Tryz.zeroValue267
  t46:=Tryz.underlying268
  a46:=Tryz.isAgg268
  z46:=Tryz.sizeOf268
  v46:=Tryz.zeroValue268
  t50:=Tryz.underlying273
  a50:=Tryz.isAgg273
  z50:=Tryz.sizeOf273
  v50:=Tryz.zeroValue273
  t53:=Tryz.underlying103
  a53:=Tryz.isAgg103
  z53:=Tryz.sizeOf103
  v53:=Tryz.zeroValue103
  t55:=Tryz.underlying23
  a55:=Tryz.isAgg23
  z55:=Tryz.sizeOf23
  v55:=Tryz.zeroValue23
  t66:=Tryz.underlying306
  a66:=Tryz.isAgg306
  z66:=Tryz.sizeOf306
  v66:=Tryz.zeroValue306
  t70:=Tryz.underlying309
  a70:=Tryz.isAgg309
  z70:=Tryz.sizeOf309
  v70:=Tryz.zeroValue309
  t76:=Tryz.underlying323
  a76:=Tryz.isAgg323
  z76:=Tryz.sizeOf323
  v76:=Tryz.zeroValue323
  t77:=Tryz.underlying65
  a77:=Tryz.isAgg65
  z77:=Tryz.sizeOf65
  v77:=Tryz.zeroValue65}
end Go.Proofs.YtfadcpfgenjbeaaGreat
namespace Go.Wk
open Go Go.RowKit Go.Sort Go.Proofs
def RwI (e:TypeId) (w:World) (b cap:Nat) (xs:List Itm):Prop :=
  ∃cur,Blk w b cur e∧cur.length=cap*2∧xs.length≤cap∧cur.take (xs.length*2)=xs.flatMap Itm.cells
theorem flat_lenI (xs:List Itm):(xs.flatMap Itm.cells).length=xs.length*2:=by
  induction xs with
  | nil=>rfl
  | cons x r ih=>simp[List.flatMap_cons,ih,Itm.cells];omega
theorem flat_getI {xs:List Itm} {i j:Nat} {x:Itm} {u:Value} (h:xs[i]? = some x) (k:(Itm.cells x)[j]? = some u):(xs.flatMap Itm.cells)[i*2+j]? = some u:=by
  induction xs generalizing i with
  | nil=>simp at h
  | cons y r ih =>
    cases i with
    | zero =>
      simp at h;subst h
      rw[List.flatMap_cons,Nat.zero_mul,Nat.zero_add,List.getElem?_append_left (List.getElem?_eq_some_iff.1 k).1]
      exact k
    | succ i =>
      rw[List.flatMap_cons,show(i+1)*2+j=2+(i*2+j)by omega,List.getElem?_append_right (by simp[Itm.cells])]
      have:=ih (i:=i) (by simpa using h)
      simpa [Itm.cells]using this
section
variable {w w':World} {b cap:Nat} {xs:List Itm} {e:TypeId}
theorem Ow.rwI {lo:Nat→Prop} {Q:Nat→Prop} {v:Value} (h:Ow tItm e lo w Q v xs) (h0:0<xs.length):∃b cap,v = .slice (some ⟨b,0,none⟩) xs.length cap∧cap≤maxLen∧RwI e w b cap xs∧lo b∧¬Q b∧∀x∈xs,Itm.ok x:=by
  obtain⟨⟨E,F,G⟩,C⟩:=h
  obtain⟨b,cap,B,rfl,L,H,I,J,K⟩:=F.blk h0
  have A:E=xs.flatMap Itm.cells∧∀x∈xs,Itm.ok x:=by
    clear F C L H I J K h0
    induction xs generalizing E with
    | nil=>exact⟨G,fun _ h=>by simp at h⟩
    | cons x r ih =>
      obtain⟨c,s,rfl,O,P⟩:=G
      obtain⟨_,rfl,ok⟩:=tItm_un O
      obtain⟨M,N⟩:=ih _ P
      exact⟨by rw[List.flatMap_cons,M],fun y D=>by rcases List.mem_cons.1 D with rfl|D;exact ok;exact N y D⟩
  refine⟨b,cap,rfl,I,⟨B,L,J,H,?_⟩,(C b rfl).1,(C b rfl).2,A.2⟩
  rw[show xs.length*2=xs.length*tItm.n from rfl,K];exact A.1
theorem els_itm {Q:Nat→Prop} (xs:List Itm) (h:∀x∈xs,Itm.ok x):Els tItm w Q (xs.flatMap Itm.cells) xs:=by
  induction xs with
  | nil=>rfl
  | cons x r ih=>exact⟨_,_,by rw[List.flatMap_cons],tItm_mk (h x (by simp)),ih fun y A=>h y (by simp[A])⟩
theorem RwI.ow {lo:Nat→Prop} {Q:Nat→Prop} (h:RwI e w b cap xs) (hc:cap≤maxLen) (hl:lo b) (hq:¬Q b) (ok:∀x∈xs,Itm.ok x):Ow tItm e lo w Q (.slice (some ⟨b,0,none⟩) xs.length cap) xs:=by
  obtain⟨B,C,D,E,F⟩:=h
  refine⟨⟨xs.flatMap Itm.cells,?_,els_itm xs ok⟩,fun G A=>by simp[vblock]at A;subst A;exact⟨hl,hq⟩⟩
  have:=Own.of_blk (sz:=2) (m:=xs.length) C E hc D
  rw[F]at this
  exact this
end
/-- Items whose hash hangs on their place alone. -/
abbrev RIt (hf:Nat→Nat):={x:Itm // x.pos<18446744073709551616∧x.hash=hf x.pos%18446744073709551616}
instance (hf:Nat→Nat):Inhabited (RIt hf):=⟨⟨{pos:=0,hash:=hf 0%18446744073709551616},by show 0<_;omega,rfl⟩⟩
section
variable {hf:Nat→Nat}
def encJ (x:RIt hf):List Value:=Itm.cells x.1
theorem encJ_one (x:RIt hf):∀v∈encJ x,v.oneCell'=true:=by
  intro v A;simp[encJ,Itm.cells]at A;rcases A with rfl|rfl <;> rfl
def cmpN (a b:Nat):Int:=if a<b then -1 else if b<a then 1 else 0
def cfI (x y:RIt hf):Int:=cmpN x.1.pos y.1.pos
theorem ltI (x y:RIt hf):ltOf cfI x y=decide (x.1.pos<y.1.pos):=by
  unfold ltOf cfI cmpN
  by_cases h:x.1.pos<y.1.pos
  · rw[if_pos h];simp[h]
  · rw[if_neg h];simp only[h,decide_false];split <;> rfl
theorem swoI:SWO (ltOf (cfI (hf:=hf))) where
  irrefl x:=by rw[ltI];simp
  trans x y z h1 h2:=by rw[ltI]at *;simp only[decide_eq_true_eq]at *;omega
  ntrans x y z h1 h2:=by rw[ltI]at *;simp only[decide_eq_false_iff_not]at *;omega
theorem totI (x y:RIt hf) (h1:ltOf cfI x y=false) (h2:ltOf cfI y x=false):x=y:=by
  rw[ltI]at h1 h2
  simp only[decide_eq_false_iff_not]at h1 h2
  have A:x.1.pos=y.1.pos:=by omega
  refine Subtype.ext ?_
  have B:=x.2.2;have C:=y.2.2
  cases hx:x.1;cases hy:y.1
  rw[hx]at B A;rw[hy]at C A
  simp only at B C A
  rw[B,C,A]
end
theorem sortI_sub {hf:Nat→Nat} (l:List (RIt hf)):(l.mergeSort fun x y=>!(ltOf cfI) y x).map Subtype.val=sortI (l.map Subtype.val):=by
  unfold sortI
  exact List.map_mergeSort fun a _ b _=>by rw[ltI];rfl
theorem lift_itm {hf:Nat→Nat}:∀(l:List Itm),(∀x∈l,x.pos<18446744073709551616∧x.hash=hf x.pos%18446744073709551616)→∃l':List (RIt hf),l'.map Subtype.val=l
  | [],_=>⟨[],rfl⟩
  | p :: r,h=>by
    obtain⟨r',hr⟩:=lift_itm r fun q hq=>h q (by simp[hq])
    exact⟨⟨p,h p (by simp)⟩ :: r',by simp[hr]⟩
section
variable {hf:Nat→Nat}
theorem flatK_toListI (d:List (RIt hf)):(flatK encJ 2 d.toArray).toList=(d.map Subtype.val).flatMap Itm.cells:=by
  apply List.ext_getElem?
  intro t
  have F:(flatK encJ 2 d.toArray).size=d.length*2:=by simp
  have G:((d.map Subtype.val).flatMap Itm.cells).length=d.length*2:=by rw[flat_lenI];simp
  by_cases ht:t<d.length*2
  · have A:=get_flatK encJ 2 d.toArray t (by simpa using ht)
    have C:t/2<d.length:=by omega
    have D:d.toArray[t/2]! = d[t/2]:=by rw[getElem!_pos d.toArray (t/2) (by simpa using C)];simp
    rw[D]at A
    have E:(encJ d[t/2])[t%2]! = ((encJ d[t/2])[t%2]'(by have:(encJ d[t/2]).length=2:=rfl;omega)):=getElem!_pos (encJ d[t/2]) (t%2) _
    rw[E]at A
    have B:=flat_getI (xs:=d.map Subtype.val) (i:=t/2) (j:=t%2) (x:=d[t/2].1) (u:=(encJ d[t/2])[t%2]'(by have:(encJ d[t/2]).length=2:=rfl;omega)) (by simp[C]) (by rw[List.getElem?_eq_getElem (by have:(Itm.cells d[t/2].1).length=2:=rfl;omega)];rfl)
    rw[show t/2*2+t%2=t by omega]at B
    rw[B,Array.getElem?_toList,← A,getElem!_pos _ t (by simpa using ht)]
    exact Array.getElem?_eq_getElem _
  · rw[List.getElem?_eq_none (by simpa using Nat.le_of_not_lt ht),List.getElem?_eq_none (by omega)]
theorem RwI.holds {e:TypeId} {w:World} {b cap:Nat} {d:List (RIt hf)} (h:RwI e w b cap (d.map Subtype.val)):HoldsK encJ 2 w b 0 d.toArray:=by
  obtain⟨A,B,F,G,C⟩:=h
  intro j E
  have hj':j<d.length*2:=by simpa using E
  rw[Nat.zero_add,B.cell,B.frozen]
  refine⟨?_,rfl⟩
  have D:(A.take ((d.map Subtype.val).length*2))[j]? = A[j]?:=by rw[List.getElem?_take,if_pos (by simpa using hj')]
  rw[← D,C,← flatK_toListI,Array.getElem?_toList,getElem!_pos _ j (by simpa using hj')]
  exact Array.getElem?_eq_getElem _
theorem RwI.sorted {e:TypeId} {w:World} {b cap n:Nat} {d d':List (RIt hf)} {os:Array Obj} (h:RwI e w b cap (d.map Subtype.val)) (hl:d'.length=d.length) :
    Md [b] w (sortWorldK encJ 2 w b 0 n d'.toArray os)∧RwI e (sortWorldK encJ 2 w b 0 n d'.toArray os) b cap (d'.map Subtype.val):=by
  obtain⟨A,D,F,E,J⟩:=h
  have G:=D.lt
  have C:(sortWorldK encJ 2 w b 0 n d'.toArray os).heap[b]? = some (.cells (putCells id 0 (flatK encJ 2 d'.toArray) A.toArray) e (0,0)):=by
    unfold sortWorldK grow putRowK putRow mapBlock
    simp only[Sort.ahead]
    rw[Array.getElem?_append_left (by simpa using G),Array.getElem?_modify,if_pos rfl]
    have:w.heap[b]? = some (.cells A.toArray e (0,0)):=D
    rw[this]
    rfl
  refine⟨⟨rfl,rfl,rfl,?_,?_⟩,(putCells id 0 (flatK encJ 2 d'.toArray) A.toArray).toList,by unfold Blk;rw[C],?_,?_,?_⟩
  · simp[sortWorldK,grow,putRowK,putRow,mapBlock,Sort.ahead]
  · intro k I B
    simp only[List.mem_singleton]at B
    unfold sortWorldK grow putRowK putRow mapBlock
    simp only[Sort.ahead]
    rw[Array.getElem?_append_left (by simpa using I),Array.getElem?_modify,if_neg (fun h=>B h.symm)]
  · simp[putCells,F]
  · simp at E ⊢;omega
  · rw[← flatK_toListI]
    have B:(flatK encJ 2 d'.toArray).size=d'.length*2:=by simp
    apply List.ext_getElem?
    intro t
    simp only[List.length_map]at E ⊢
    by_cases ht:t<d'.length*2
    · rw[List.getElem?_take,if_pos ht,Array.getElem?_toList,Array.getElem?_toList]
      unfold putCells
      rw[Array.getElem?_mapIdx]
      have H:t<A.length:=by omega
      simp only[List.getElem?_toArray,List.getElem?_eq_getElem H,Option.map_some,Nat.zero_le,true_and,Nat.zero_add,B,ht,if_true,Nat.sub_zero,id]
      rw[getElem!_pos _ t (by simpa using ht)]
      exact(Array.getElem?_eq_getElem _).symm
    · rw[List.getElem?_eq_none (by simp;omega),List.getElem?_eq_none (by simp;omega)]
end
end Go.Wk
namespace Go.Proofs.YtfadcpfgenjbeaaGreat
open Go Go.Wk Go.RowKit
set_option linter.unusedVariables false
set_option linter.unusedSimpArgs false
attribute [local irreducible] wpList wpQuiet wpStill wpMix Code.wp Calls bodyPost
theorem fn109:isFn Tryz.prog 109=true:=by kernel_rfl
theorem fn158:isFn Tryz.prog 158=true:=by kernel_rfl

theorem nanU_any (a:Nat) (w:World):Calls Tryz.prog 158 #[.int .u64 a] w fun e w'=>e = .returned (.bool false)∧w=w':=by
  refine enter (n:=6) Tryz.func158 rfl rfl rfl ?_;intro B;refine ns (asg rfl (nt (ns (mv rfl (mv rfl (st _ (r_neN (a:=a) (b:=a) rfl rfl) (asg rfl (nt (c_ret ?_)))))))));exact ret1 trivial rfl rfl ⟨retB (by simp),rfl⟩
theorem cmpU_any (a b:Nat) (w:World):Calls Tryz.prog 109 #[.int .u64 a,.int .u64 b] w fun e w'=>e = .returned (.int .i64 (cmpN a b))∧w=w':=by
  refine enter (n:=20) Tryz.func109 rfl rfl rfl ?_;intro B;refine ns (asg rfl (nt (ns (mv rfl (st_call fn158 rfl (nanU_any a _) ?_)))));rintro e _ ⟨rfl,rfl⟩;refine⟨_,rfl,?_⟩;refine asg rfl (nt (ns (mv rfl (st_call fn158 rfl (nanU_any b _) ?_))));rintro e _ ⟨rfl,rfl⟩;refine⟨_,rfl,?_⟩;refine asg rfl (nt (c_seq (ns (mv rfl (nt (c_if_f rfl rfl (c_skip (c_then (c_seq (ns (mv rfl (nt (c_if_f rfl rfl ?_)))))))))))));refine c_skip (c_then (c_seq (ns (mv rfl (mv rfl (st _ (r_ltN (a:=a) (b:=b) rfl rfl) (nt ?_)))))));refine c_if rfl (fun D=>?_) (fun D=>?_)
  · have A:=dT D
    refine ns (asg rfl (nt (c_ret (r_then ?_))));exact ret1 trivial rfl rfl ⟨retI (by unfold cmpN;rw[if_pos A]),rfl⟩
  · have A:=dF D
    refine c_skip (c_then (c_seq (ns (mv rfl (mv rfl (st _ (r_gtN (a:=a) (b:=b) rfl rfl) (nt ?_)))))));refine c_if rfl (fun E=>?_) (fun E=>?_)
    · have C:=dT E
      refine ns (asg rfl (nt (c_ret (r_then ?_))));exact ret1 trivial rfl rfl ⟨retI (by unfold cmpN;rw[if_neg A,if_pos C]),rfl⟩
    · have C:=dF E
      refine c_skip (c_then (ns (asg rfl (nt (c_ret ?_)))));exact ret1 trivial rfl rfl ⟨retI (by unfold cmpN;rw[if_neg A,if_neg C]),rfl⟩
theorem clo_gr (x y:Itm) (w:World):Calls Tryz.prog 108 #[.agg x.cells.toArray,.agg y.cells.toArray] w fun e w'=>e = .returned (.int .i64 (cmpN x.pos y.pos))∧Gr w w':=by
  have M:=Gr.refl w;refine enter (n:=10) Tryz.func108 rfl rfl rfl ?_;intro B;refine ns (st_boxG (cs:=x.cells) rfl rfl ?_);intro E K G I A C;replace M:=M.step0 A;refine st_boxG (cs:=y.cells) rfl rfl ?_;intro F L H J A D;replace C:=C.md0 A.md;replace M:=M.step0 A;refine asg rfl (nt (ns (sf rfl off181_0 (st _ (r_loadBlk rfl one23 C rfl) (sf rfl off181_0 (st _ (r_loadBlk rfl one23 D rfl) (st_call fn109 rfl (cmpU_any _ _ _) ?_)))))));rintro e _ ⟨rfl,rfl⟩;refine⟨_,rfl,?_⟩;refine asg rfl (nt (c_ret ?_));exact ret1 trivial rfl rfl ⟨rfl,M⟩
theorem sortI_any {w:World} {Q lo:Nat→Prop} {v:Value} {xs:List Itm} (h0:Ow tItm 181 lo w Q v xs) (h1:1≤xs.length) (hr:(xs.map Itm.pos).Nodup) (hl:xs.length≤1000000) :
    Calls Tryz.prog 107 #[v,.func (.func 108) #[] #[]] w fun en w'=>en = .returned (.tuple #[])∧Md (vblock v).toList w w'∧Ow tItm 181 lo w' Q v (sortI xs):=by
  obtain⟨b,F,rfl,M,G,H,L,I⟩:=h0.rwI h1;obtain⟨hf,R⟩:∃hf:Nat→Nat,∀x∈xs,x.pos<18446744073709551616∧x.hash=hf x.pos%18446744073709551616:=⟨hashAt xs,fun x E=>⟨(I x E).1,by rw[hashAt_of xs hr x E];exact(Nat.mod_eq_of_lt (I x E).2).symm⟩⟩;clear hr;obtain⟨d,rfl⟩:=lift_itm xs R;have J:∀args w,(callFunc 108 args).run Tryz.prog w = .ok (.enter 108 args) w:=Go.Proofs.enters_of Tryz.func108 (by kernel_rfl) rfl
  have C:CmpLays Tryz.prog 108 #[] (encJ (hf:=hf)) 2 (cfI (hf:=hf)) b 0 d.toArray.size w:=by
    intro m os T N x y;refine(clo_gr x.1 y.1 _).mono ?_;rintro e w' ⟨O,P⟩;exact⟨O,P.grown⟩
  have A:=AnyQ.slices_SortFunc_total sortIt 2 Tryz.isAgg181 Tryz.sizeOf181 (encJ (hf:=hf)) (fun _=>rfl) encJ_one (cfI (hf:=hf)) swoI 108 #[] b 0 F d.toArray w J C G.holds (by obtain⟨_,K,_⟩:=G;exact K.lt) (by simp at hl ⊢;omega) totI;simp only[List.size_toArray,List.length_map]at A hl ⊢;refine A.mono ?_;rintro e w' ⟨rfl,n,os,rfl⟩;obtain⟨S,B⟩:=G.sorted (n:=n) (os:=os) (d':=d.mergeSort fun x y=>!(ltOf cfI) y x) (by simp);refine⟨rfl,by simpa [vblock]using S,?_⟩;rw[sortI_sub]at B;have D:(sortI (d.map Subtype.val)).length=d.length:=(by simp[sortI]);have:=B.ow (lo:=lo) (Q:=Q) M H L fun x E=>I x ((sortI_perm _).subset E);rw[D]at this;exact this

theorem agg123:isAggN Tryz.prog 123 21=true:=by kernel_rfl
theorem elT181:elT Tryz.prog 181 2 16=true:=by kernel_rfl
theorem fn105:isFn Tryz.prog 105=true:=by kernel_rfl
theorem fn106:isFn Tryz.prog 106=true:=by kernel_rfl
theorem fn107:isFn Tryz.prog 107=true:=by kernel_rfl
theorem fn110:isFn Tryz.prog 110=true:=by kernel_rfl
theorem fn111:isFn Tryz.prog 111=true:=by kernel_rfl
theorem fn112:isFn Tryz.prog 112=true:=by kernel_rfl

set_option maxHeartbeats 16000000 in
set_option maxRecDepth 100000 in
theorem dEntry_any {w:World} {Q:Nat→Prop} (uQ:Up w Q) {b0:Nat} {v0_0:Value} (m:Drf) (h0:Blk w b0 (Drf.cells m v0_0) 107) (n0:¬Q b0) (a0_0:Drf.ok m) (a0_1:Ow tB8 5 (fun _=>True) w Q v0_0 m.b) {v1:Value} {l:List Pr} (h1:Ls tPr w Q v1 l) {v2_0:Value} (e:Ent) (a2_0:Ent.ok e) (a2_1:Ls tItm w Q v2_0 e.items) (p0:v2_0 = .slice none 0 0) (p1:e.items=[]) (p2:m.okEnt l e) (p3:1≤l.length∧l.length≤1000) (p4:∀q∈l,(joinF q).1.length≤1000) :
    Calls Tryz.prog 57 #[.pointer (some ⟨b0,0,none⟩),v1,.agg (Ent.cells e v2_0).toArray] w fun en w'=>∃m0:Drf,∃u50_0:Value,∃Q':Nat→Prop,en = .returned (.tuple #[])∧Md (b0 :: (vblock v0_0).toList) w w'∧NewQ w w' Q Q'∧Blk w' b0 (Drf.cells m0 u50_0) 107∧¬Q' b0∧Drf.ok m0∧Ow tB8 5 (Fsh (b0 :: (vblock v0_0).toList) w) w' Q' u50_0 m0.b∧m.entry l e=m0:=by
  have L1:=h1.len63;subst p0;obtain⟨es,er,em,eb,ex,ei⟩:=e;have E3:ei=[]:=p1;subst E3;clear p1;obtain⟨o1,o2,o3,o4,o5⟩:=p2;clear a2_1;have G:=n0;have Al:Fsh (b0 :: (vblock v0_0).toList) w b0:=.inl (by simp);replace a0_1:=a0_1.reP (lo':=Fsh (b0 :: (vblock v0_0).toList) w) (fun b N=>.inl (by simp[N]));have M:=Md.refl (b0 :: (vblock v0_0).toList) w;have Ff:=uQ;have tQ:∀b,Q b→Q b:=fun _ h=>h;have Aw:∀b,Q b→b<w.heap.size→Q b:=fun _ h _=>h;refine enter (n:=96) Tryz.func57 rfl rfl rfl ?_;intro B;refine ns (st_box (cs:=(Ent.cells (({seq:=es,real:=er,mono:=em,boot:=eb,xor:=ex,items:=[]}:Ent)) (.slice none 0 0))) rfl rfl ?_);intro Bk w1 C1 E8 E H;have E1:b0≠Bk:=(by have:=h0.lt;omega);obtain⟨Q2,sQ,sT,v,A8⟩:=exQ uQ C1 E8 E;replace a0_1:=a0_1.sub sQ sT;replace G:=fun hh=>G (sT _ hh);replace h1:=h1.sub sQ;replace tQ:=fun b N=>tQ b (sT b N);replace Aw:=fun b N hl=>sQ b (Aw b N hl) (lv hl M.size);replace C1:=lQ M.size C1;replace a0_1:=a0_1.md0 E;replace h0:=h0.md0 E;replace h1:=h1.md0 E;replace uQ:=uQ.md E;replace M:=M.step0 E;replace uQ:=A8;clear A8 sQ sT;have Cx:Fsh [] w Bk:=.inr C1;refine nt (ns (mv rfl (st_call fn105 rfl (wPays_any uQ h1 (by omega)) ?_)));rintro en w3 ⟨Cz,Dc,rfl,E,S,Ch⟩;refine⟨_,rfl,?_⟩;replace a0_1:=a0_1.md0 E;replace h0:=h0.md0 E;replace h1:=h1.md0 E;replace H:=H.md0 E;replace uQ:=uQ.md E;replace M:=M.step0 E;have la:=congrArg List.length Ch;rw[List.length_map]at la;refine asg rfl (nt (c_seq (ns (mv rfl (sL rfl u47 h1.shp (mv rfl (nt (c_block ?_))))))));obtain⟨r0,Cw⟩:∃r,Drf.dataL l m []=r:=⟨_,rfl⟩;have D9:=Cw
  try simp only[List.nil_append,Ch]at Cw
  refine loop5 (fun(z:Drf) (Af:Value) (ee:Ent) (K:Value) (i:Nat)=>[(14,(.int .i64 i)),(0,(.pointer (some ⟨b0,0,none⟩))),(5,(.pointer (some ⟨Bk,0,none⟩))),(6,Cz),(12,v1),(13,(.int .i64 l.length))]) (fun(z:Drf) (Af:Value) (ee:Ent) (K:Value) (i:Nat) w'=>∃Q':Nat→Prop,(∀b,Q' b→Q b)∧(∀b,Q b→b<w.heap.size→Q' b)∧Up w' Q'∧Md (b0 :: (vblock v0_0).toList) w w'∧Blk w' b0 (Drf.cells z Af) 107∧Ow tB8 5 (Fsh (b0 :: (vblock v0_0).toList) w) w' Q' Af z.b∧Drf.ok z∧Blk w' Bk (Ent.cells ee K) 123∧Ow tItm 181 (Fsh [] w) w' Q' K ee.items∧Ent.ok ee∧Ls (tSl tB8) w' Q' Cz Dc∧Ls tPr w' Q' v1 l∧¬Q' b0∧¬Q' Bk∧Drf.okDatL (l.drop i) z∧(ee.seq=es∧ee.real=er∧ee.mono=em∧ee.boot=eb)∧ee.items.length=i∧i≤l.length∧Drf.dataL (l.drop i) z ee.items=r0) (fun(z:Drf) (Af:Value) (ee:Ent) (K:Value) (i:Nat)=>l.length-i) (x0:=m) (x1:=v0_0) (x2:=(({seq:=es,real:=er,mono:=em,boot:=eb,xor:=ex,items:=[]}:Ent))) (x3:=(.slice none 0 0)) (x4:=0) ?_ ?_ ?_
  · exact⟨rfl,rfl,rfl,rfl,rfl,rfl,tV⟩
  · exact⟨Q2,tQ,Aw,uQ,M,h0,a0_1,a0_0,H,(by exact Ow.nil _ _ _ _ _),a2_0,S,h1,G,v,o1,⟨rfl,rfl,rfl,rfl⟩,rfl,(by omega),(by have hh:=Cw;exact hh)⟩
  · clear M uQ tQ Aw G v a0_1 h0 h1 H S
    rintro z Af ee K i B w4 ⟨Q5,tQ,Aw,uQ,M,h0,F,Db,H,C,Bi,S,h1,G,v,C9,Da,Gt,Gu,D8⟩;refine ns (st _ (r_ltN (a:=i) (b:=l.length) rfl rfl) (nt (c_seq ?_)));refine c_if rfl (fun Dj=>?_) (fun Dj=>?_)
    · (have D4:=dT Dj);refine c_skip (c_then (c_seq (c_block (ns (mv rfl (st _ (r_indexN (i:=i) 2 rfl rfl u47 el91 h1.shp (by omega)) ?_))))));obtain⟨x6,Ci⟩:=getE (l:=l) (i:=i) (by omega);obtain⟨c7,E5,C4⟩:=h1.get Ci;obtain⟨_,rfl⟩:=tPr_un E5;replace C4:At _ v1 (i*2) (Pr.cells x6):=C4;refine st _ (r_loadEA (kk:=i*2) (Pr.cells x6) 0 rfl rfl (by exact agg91) C4 rfl) (st_alloc z91 ?_);intro Cp w8 C2 E9 E Bl;have E2:b0≠Cp:=(by have:=h0.lt;omega);have El:Bk≠Cp:=(by have:=H.lt;omega);obtain⟨Q9,sQ,sT,Ds,A8⟩:=exQ uQ C2 E9 E;replace F:=F.sub sQ sT;replace G:=fun hh=>G (sT _ hh);replace C:=C.sub sQ sT;replace v:=fun hh=>v (sT _ hh);replace S:=S.sub sQ;replace h1:=h1.sub sQ;replace tQ:=fun b N=>tQ b (sT b N);replace Aw:=fun b N hl=>sQ b (Aw b N hl) (lv hl M.size);replace C2:=lQ M.size C2;replace F:=F.md0 E;replace h0:=h0.md0 E;replace C:=C.md0 E;replace H:=H.md0 E;replace S:=S.md0 E;replace h1:=h1.md0 E;replace uQ:=uQ.md E;replace M:=M.step0 E;replace uQ:=A8;clear A8 sQ sT;have Dw:Fsh [] w Cp:=.inr C2;replace Bl:Blk _ _ (Pr.cells (({name:=[],value:=[]}:Pr))) _:=Bl;refine asg rfl (st_storeAgg (us:=(Pr.cells x6)) rfl rfl (by exact agg91) (by exact fun u hu=>one_cells (Pr.one) u hu) Bl (ly rfl) ?_);have Cu:=Bl;clear Bl;intro Fh E Bl;have W:∀b∈[Cp],¬Q9 b:=(by intro b N;simp at N;subst N;exact Ds);replace F:=F.md E (apart_bo Cu F (by decide)) W;replace h0:=h0.md E (by intro N;simp at N;omega);replace C:=C.md E (apart_bo Cu C (by decide)) W;replace H:=H.md E (by intro N;simp at N;omega);replace S:=S.md E W;replace h1:=h1.md E W;clear C4;replace uQ:=uQ.md E;replace M:=M.step E (all_cons (Fsh.wid Dw) all_nil);clear Cu W;replace Bl:Blk _ _ (Pr.cells x6) _:=Bl;refine st_nil ?_
      refine c_then ?_;have Bn:=F;have V:=H;have Bv:=S;have B1:=Bl;have C3:∀b∈(b0 :: (vblock Af).toList),¬Q9 b:=all_cons G (all_row (fun x hx=>(F.2 x hx).2));refine c_mixT [(0,true),(1,true),(2,true),(3,true),(4,true),(5,true),(6,true),(7,true),(8,false),(9,false)] [10,11,12] (fun w'=>Md (b0 :: (vblock Af).toList) Fh w') mixed (by kernel_rfl) ?_;intro Ix Z;refine⟨Z.mono (by simp),?_⟩;have MC:=Z.mono (T:=(b0 :: (vblock Af).toList)) (by simp);refine mz (fun w' Y=>r_field rfl off123_5) (mz (fun w' Y=>(r_loadBlk rfl one121 (V.md Y (by exact nin_cons (by omega) (apart_ow Bn V (by decide)))) rfl).to (b:=K) rfl) (mo rfl (mz (fun w' Y=>r_loadPart (Pr.cells x6) rfl (by exact agg91) (B1.md Y (by exact nin_cons (by omega) (apart_ow Bn B1 (by decide)))) rfl) (mo rfl (mo rfl (mz (fun w' Y=>r_indexN (i:=i) 1 rfl rfl u127 el45 S.shp (by omega)) ?_))))));obtain⟨Ei,B8⟩:=getE (l:=Dc) (i:=i) (by omega);obtain⟨Ih,Ea,B6⟩:=Bv.get B8;obtain⟨Eb,rfl,Cv⟩:=Ea;replace B6:At _ Cz (i*1) [Eb]:=B6;refine mz (fun w' Y=>(r_loadE (kk:=i*1) 0 rfl rfl one45 (B6.md Y (Bv.offS B8 C3)) rfl).to (b:=Eb) rfl) ?_;have jt:(joinF x6).1=Ei:=(by have h9:=B8;rw[← Ch,List.getElem?_map,Ci]at h9;exact Option.some.inj h9);obtain⟨⟨k1,k2,k3,k4,k5,k6⟩,k7⟩:=okDatL_step Ci C9;rw[jt]at k1 k4 k6 k7;replace F:=F.md0 Z;replace h0:=h0.md0 Z;replace C:=C.md0 Z;replace H:=H.md0 Z;replace S:=S.md0 Z;replace h1:=h1.md0 Z;replace Bl:=Bl.md0 Z;replace Cv:=Cv.md0 Z;replace uQ:=uQ.md Z;replace M:=M.step0 Z;refine m_e ?_ rfl;have jt:(joinF x6).1=Ei:=(by have h9:=B8;rw[← Ch,List.getElem?_map,Ci]at h9;exact Option.some.inj h9);obtain⟨⟨k1,k2,k3,k4,k5,k6⟩,k7⟩:=okDatL_step Ci C9;rw[jt]at k1 k4 k6 k7;refine st_call fn106 rfl (dData_any uQ z h0 G Db (F.reP (fun _ _=>trivial)) x6 Cv (by exact k1) (by exact k2) (by exact k3) (by exact k4) (by exact k5) (by exact k6)) ?_
      rintro en Iy ⟨Bp,Dp,Cm,Ex,rfl,E,⟨sQ,sT,A8⟩,Cy,B9,Cd,Cj,J,C8⟩;refine⟨_,rfl,?_⟩;have hP:∀i∈(b0 :: (vblock Af).toList),Fsh (b0 :: (vblock v0_0).toList) w i:=(all_cons Al (all_row (fun x hx=>(F.2 x hx).1)));have W:∀i∈(b0 :: (vblock Af).toList),¬Q9 i:=(all_cons G (all_row (fun x hx=>(F.2 x hx).2)));have A7:∀b,vblock K=some b→b∉(b0 :: (vblock Af).toList):=fun b N=>(nin_cons (C.blk_ne h0 (by decide) b N) ((apart_oo F C (by decide)) b N));have Ao:Bk∉(b0 :: (vblock Af).toList):=(nin_cons (by omega) (apart_ow F H (by decide)));have C6:Cp∉(b0 :: (vblock Af).toList):=(nin_cons (by omega) (apart_ow F Bl (by decide)));replace J:=J.reP (fun x hx=>(J.2 x hx).1);replace J:=J.reP (fun x hx=>(J.2 x hx).1.elim (hP x) (Fsh.new M x));replace C:=C.sub sQ sT;replace v:=fun hh=>v (sT _ hh);replace S:=S.sub sQ;replace h1:=h1.sub sQ;replace tQ:=fun b N=>tQ b (sT b N);replace Aw:=fun b N hl=>sQ b (Aw b N hl) (lv hl M.size);replace W:=fun i hi hq=>W i hi (sT i hq);replace C:=C.md E A7 W;clear A7;replace H:=H.md E Ao;clear Ao;replace S:=S.md E W;replace h1:=h1.md E W;clear C6;replace M:=M.step E hP;replace MC:=MC.step E (fun i hi=>Or.inl (by simpa using hi));replace uQ:=A8;clear A8 sQ sT;clear hP W h0 G;have h0:=B9;have G:=Cd;clear B9 Cd;clear F;rw[C8]at k7;simp only at k7;refine st_nil ⟨rfl,MC,?_⟩;refine m_e ?_ rfl;refine st_buildSliceG [(Itm.cells Bp)] u121 elT181 (by decide) (by decide) rfl rfl ⟨rfl,tV⟩ ⟨rfl,tV⟩ rfl (by decide) ?_;intro Gq Iz D3 Gy E Ct;have Ej:=uQ _ D3;replace h0:=h0.md0 E;replace C:=C.md0 E;replace H:=H.md0 E;replace S:=S.md0 E;replace h1:=h1.md0 E;replace J:=J.md0 E;replace uQ:=uQ.md E;replace M:=M.step0 E;replace MC:=MC.step0 E;replace Ct:=Ls.of_blk (m:=1) (R:=Ex) (T:=tItm) (xs:=[Bp]) Ct ⟨_,_,rfl,(tItm_mk Cy),rfl⟩ rfl (by decide) Ej
      refine st_nil ⟨rfl,MC,?_⟩;refine m_nil ?_;clear Bv Bn B1 V;clear MC;refine st_ap (sz:=2) (by rfl) u121 elT181 rfl rfl C Ct (fun _ h _=>h) uQ (Fsh.new M) (by(simp<;>omega)) (by(simp<;>omega)) ?_;intro Ec I0 D1 sQ sT A8 Bt E W _ E6;have L:=C;clear C;replace G:=fun hh=>G (sT _ hh);replace v:=fun hh=>v (sT _ hh);replace S:=S.sub sQ;replace h1:=h1.sub sQ;replace J:=J.sub sQ sT;replace tQ:=fun b N=>tQ b (sT b N);replace Aw:=fun b N hl=>sQ b (Aw b N hl) (lv hl M.size);replace h0:=h0.md E (apart_ow L h0 (by decide));replace H:=H.md E (apart_ow L H (by decide));replace S:=S.md E W;replace h1:=h1.md E W;replace J:=J.md E (apart_oo L J (by decide)) W;replace uQ:=uQ.md E;replace M:=M.stepO E (fun b N=>Fsh.wid (L.2 b N).1);replace uQ:=A8;clear A8 sQ sT W E6;refine sf rfl off123_5 (st_store rfl rfl one121 Bt.oneCell H (ly rfl) ?_);have Bo:=H;clear H;intro I1 E H;have W:∀b∈[Bk],¬D1 b:=(by intro b N;simp at N;subst N;exact v);replace h0:=h0.md E (by intro N;simp at N;omega);replace S:=S.md E W;replace h1:=h1.md E W;replace J:=J.md E (apart_bo Bo J (by decide)) W;replace Bt:=Bt.md E (apart_bo Bo Bt (by decide)) W;replace uQ:=uQ.md E;replace M:=M.step E (all_cons (Fsh.wid Cx) all_nil);clear Bo W;obtain⟨Dx,Bs⟩:∃y,y=({ee with items:=ee.items ++ ([Bp])}:Ent):=⟨_,rfl⟩;replace H:Blk _ _ (Ent.cells ({ee with items:=ee.items ++ ([Bp])}) Ec) _:=H;rw[← Bs]at H;have Du:Ent.ok Dx:=(by rw[Bs];exact⟨Bi.1,Bi.2.1,Bi.2.2.1,Bi.2.2.2.1,Bi.2.2.2.2⟩);rw[show ee.items ++ ([Bp])=Dx.items by rw[Bs]]at Bt;refine st_nil ?_
      clear B6;refine n_block (c_then (c_region (st _ (r_addN (a:=i) (b:=1) 9223372036854775808 rfl rfl rfl (by omega)) (mv rfl (nt ?_)))));refine next5 (x0:=Dp) (x1:=Cm) (x2:=Dx) (x3:=Ec) (x4:=(i+1)) (by omega) ⟨(fitI rfl (by omega)),rfl,rfl,rfl,rfl,rfl,tV⟩ ⟨D1,tQ,Aw,uQ,M,h0,J,Cj,H,Bt,Du,S,h1,G,v,k7,(by rw[Bs];exact Da),(by rw[Bs];simp only[List.length_append,List.length_cons,List.length_nil];omega),(by omega),(by have hh:=D8;rw[dataL_step Ci jt C8]at hh;rw[Bs];exact hh)⟩
    · (have D4:=dF Dj);refine c_exit (x_then (x_then (x_hit (c_then (c_seq ?_)))));have de:Drf.dataL l m []=(ee.items,z):=(by have e9:=D8;rw[dataL_end (by omega)]at e9;exact D9.trans e9.symm);rw[de]at o2 o3 o4 o5;simp only at o2 o3 o4 o5;obtain⟨De,Df,Dg,Dh⟩:=Da;refine c_region (sf rfl off123_5 (sl (u:=K) rfl one121 H rfl ?_));have W:∀b∈(vblock K).toList,¬Q5 b:=fun b N=>(C.2 b (by simpa using N)).2;refine st_call fn107 rfl (sortI_any C (by omega) o2 (by omega)) ?_;rintro en Fi ⟨rfl,E,Bg⟩;refine⟨_,rfl,?_⟩;have L:=C;replace C:=Bg;clear Bg;replace F:=F.md E (apart_oo L F (by decide)) W;replace h0:=h0.md E (apart_ow L h0 (by decide));replace H:=H.md E (apart_ow L H (by decide));replace S:=S.md E W;replace uQ:=uQ.md E;replace M:=M.stepO E (fun b N=>Fsh.wid (L.2 b N).1);clear L W;obtain⟨Cn,Be⟩:∃y,y=({ee with items:=sortI ee.items}:Ent):=⟨_,rfl⟩;replace H:Blk Fi Bk (Ent.cells Cn K) 123:=(by rw[Be];exact H);rw[show sortI ee.items=Cn.items by rw[Be]]at C;have Bx:Ent.ok Cn:=(by rw[Be];exact Bi);refine nt (ns (mv rfl (st_call fn110 rfl (eXor_any uQ S (by intro x hx;rw[← Ch]at hx;obtain⟨q,hq,rfl⟩:=List.mem_map.1 hx;have:=p4 q hq;omega)) ?_)));rintro en I2 ⟨C0,rfl,E,Fc,D6⟩;refine⟨_,rfl,?_⟩;replace F:=F.md0 E;replace h0:=h0.md0 E;replace H:=H.md0 E;replace C:=C.md0 E;replace uQ:=uQ.md E;replace M:=M.step0 E;refine sf rfl off123_4 (st_store rfl rfl one23 rfl H (ly rfl) ?_);have Bo:=H;clear H;intro Fj E H;have W:∀b∈[Bk],¬Q5 b:=(by intro b N;simp at N;subst N;exact v);replace F:=F.md E (apart_bo Bo F (by decide)) W;replace h0:=h0.md E (by intro N;simp at N;omega)
      replace C:=C.md E (apart_bo Bo C (by decide)) W;replace uQ:=uQ.md E;replace M:=M.step E (all_cons (Fsh.wid Cx) all_nil);clear Bo W;obtain⟨O,Bf⟩:∃y,y=({Cn with xor:=C0}:Ent):=⟨_,rfl⟩;replace H:Blk _ _ (Ent.cells ({Cn with xor:=C0}) K) _:=H;rw[← Bf]at H;have Aa:Ent.ok O:=(by rw[Bf];exact⟨Bx.1,Bx.2.1,Bx.2.2.1,Bx.2.2.2.1,(by omega)⟩);rw[show Cn.items=O.items by rw[Bf]]at C;refine nt (ns (mv rfl (st _ (r_loadPart (Ent.cells O K) rfl (by exact agg123) H rfl) ?_)));have Di:O=Drf.entOf ({seq:=es,real:=er,mono:=em,boot:=eb,xor:=ex,items:=[]}:Ent) l ee.items:=(by rw[Bf,Be];unfold Drf.entOf;simp only;rw[Ch,D6,← De,← Df,← Dg,← Dh]);have si:O.items=sortI ee.items:=(by rw[Bf,Be]);have il:=congrArg List.length si;rw[sortI_len]at il;obtain⟨D2,fQ,fT,Bh⟩:=C.freeze;replace F:=F.subF fQ fT (apart_oo C F (by decide));replace G:=fun hh=>(fT _ hh).elim G (nfz (apart_ow C h0 (by decide)));replace tQ:=fun b N=>(fT b N).elim (tQ b) (fun hv=>Fsh.up Ff b (C.2 b hv).1);replace Aw:=fun b N hl=>fQ b (Aw b N hl);replace uQ:Up Fj D2:=fun b N=>fQ b (uQ b N);clear C fQ fT;have C:=Bh;clear Bh;refine st_call fn111 rfl (ePut_any uQ O Aa C (by omega)) ?_;rintro en I3 ⟨Fg,Dy,rfl,E,Dk,B3⟩;refine⟨_,rfl,?_⟩;replace F:=F.md0 E;replace h0:=h0.md0 E;replace C:=C.md0 E;replace H:=H.md0 E;replace uQ:=uQ.md E;replace M:=M.step0 E;have Fb:=congrArg List.length B3;rw[putEntryF_len _ Aa.2.2.2.1]at Fb;refine st_call fn94 rfl (dAdd_any uQ z h0 G Db (F.reP (fun _ _=>trivial)) Dk (by omega) (by omega) (by omega)) ?_
      rintro en w32 ⟨Bq,Dq,Bj,Ey,rfl,E,⟨sQ,sT,A8⟩,Fd,Ca,Ce,Ck,U,B4⟩;refine⟨_,rfl,?_⟩;have hP:∀i∈(b0 :: (vblock Af).toList),Fsh (b0 :: (vblock v0_0).toList) w i:=(all_cons Al (all_row (fun x hx=>(F.2 x hx).1)));have W:∀i∈(b0 :: (vblock Af).toList),¬D2 i:=(all_cons G (all_row (fun x hx=>(F.2 x hx).2)));have Ao:Bk∉(b0 :: (vblock Af).toList):=(nin_cons (by omega) (apart_ow F H (by decide)));replace U:=U.reP (fun x hx=>(U.2 x hx).1);replace U:=U.reP (fun x hx=>(U.2 x hx).1.elim (hP x) (Fsh.new M x));replace C:=C.sub sQ;replace tQ:=fun b N=>tQ b (sT b N);replace Aw:=fun b N hl=>sQ b (Aw b N hl) (lv hl M.size);replace W:=fun i hi hq=>W i hi (sT i hq);replace C:=C.md E W;replace H:=H.md E Ao;clear Ao;replace M:=M.step E hP;replace uQ:=A8;clear A8 sQ sT;clear hP W h0 G;have h0:=Ca;have G:=Ce;clear Ca Ce;clear F;have Co:=add_at z Dy;rw[B4]at Co;try simp only[LL,Nat.reduceAdd,Nat.reduceMul]at Co
      rw[← Di,B3,B4]at o5;simp only at o5;rw[← si]at o5;obtain⟨l1,l2,l3,l4,l5,l6,l7⟩:=o5;refine asg rfl (nt (ns (mv rfl (mv rfl (sf rfl off123_5 (sl (u:=K) rfl one121 H rfl (st_call fn112 rfl (dLink_any uQ Dq h0 G Ck (U.reP (fun _ _=>trivial)) Bq (by omega) C (by omega) (by omega) (by omega) (by omega)) ?_)))))));rintro en Eg ⟨I,P,Az,rfl,E,⟨sQ,sT,A8⟩,Cb,Cf,D,A,Cr⟩;refine⟨_,rfl,?_⟩;have hP:∀i∈(b0 :: (vblock Bj).toList),Fsh (b0 :: (vblock v0_0).toList) w i:=(all_cons Al (all_row (fun x hx=>(U.2 x hx).1)));have W:∀i∈(b0 :: (vblock Bj).toList),¬Ey i:=(all_cons G (all_row (fun x hx=>(U.2 x hx).2)));have Ao:Bk∉(b0 :: (vblock Bj).toList):=(nin_cons (by omega) (apart_ow U H (by decide)));replace A:=A.reP (fun x hx=>(A.2 x hx).1);replace A:=A.reP (fun x hx=>(A.2 x hx).1.elim (hP x) (Fsh.new M x));replace tQ:=fun b N=>tQ b (sT b N);replace Aw:=fun b N hl=>sQ b (Aw b N hl) (lv hl M.size);replace W:=fun i hi hq=>W i hi (sT i hq);replace H:=H.md E Ao;clear Ao;replace M:=M.step E hP;replace uQ:=A8;clear A8 sQ sT;clear hP W h0 G;have h0:=Cb;have G:=Cf;clear Cb Cf;clear U;rw[Cr]at l5 l6 l7;refine nt (c_seq (ns (mv rfl (sn rfl (sf rfl off107_1 (sf rfl off105_15 (sl (u:=(.int .u64 ((I.h.n.getD 8 0:Nat):Int))) rfl one23 h0 rfl ?_)))))))
      have Iq:I.h.n.getD 8 0<18446744073709551616:=(nums_bd D.2.2.2.2.2.2.2.1 8);refine st _ (r_eqN (a:=(I.h.n.getD 8 0)) (b:=1) rfl rfl) (nt ?_);refine c_if rfl (fun Dl=>?_) (fun Dl=>?_)
      · (have Cq:=dT Dl);have V:=H;have C3:∀b∈[b0],¬Az b:=(all_cons G all_nil);refine c_mixT [(0,true),(1,true),(2,true),(3,true),(4,true),(5,true),(6,true),(7,true),(8,true),(9,false)] [10,11,12,13] (fun w'=>Md [b0] Eg w') mixed (by kernel_rfl) ?_;intro I4 Z;refine⟨Z.mono (by simp),?_⟩;have MC:=Z.mono (T:=[b0]) (by simp);refine mo rfl (mo rfl (mz (fun w' Y=>r_field rfl off123_0) (mz (fun w' Y=>(r_loadBlk rfl one23 (V.md Y (by(simp;omega))) rfl).to (b:=(.int .u64 O.seq)) rfl) ?_)));have Ir:O.seq<18446744073709551616:=Aa.1;refine mz (fun w' Y=>r_field rfl off123_1) (mz (fun w' Y=>(r_loadBlk rfl one23 (V.md Y (by(simp;omega))) rfl).to (b:=(.int .u64 O.real)) rfl) ?_);have Is:O.real<18446744073709551616:=Aa.2.1;refine mz (fun w' Y=>r_nil rfl) (mz (fun w' Y=>r_field rfl off107_1) (mz (fun w' Y=>r_field rfl off105_17) ?_));replace h0:=h0.md0 Z;replace H:=H.md0 Z;replace A:=A.md0 Z;replace uQ:=uQ.md Z;replace M:=M.step0 Z;refine m_e ?_ rfl;refine st_store rfl rfl one23 rfl h0 (ly rfl) ?_;have X:=h0;clear h0;intro Fk E h0;have W:∀b∈[b0],¬Az b:=(by intro b N;simp at N;subst N;exact G);replace H:=H.md E (by intro N;simp at N;omega);replace A:=A.md E (apart_bo X A (by decide)) W;replace uQ:=uQ.md E;replace M:=M.step E (all_cons Al all_nil);replace MC:=MC.step1' E (by simp);clear X W;obtain⟨Ar,A0⟩:∃y,y=({I with h:={I.h with n:=I.h.n.set 10 O.seq}}:Drf):=⟨_,rfl⟩
        replace h0:Blk Fk b0 (Drf.cells ({I with h:={I.h with n:=I.h.n.set 10 O.seq}}) P) 107:=by
          have hh:=h0;simp only[Drf.cells,PHead.cells];rw[nums21_set (by exact D.2.2.2.2.2.2.2.1.1) (by decide)];exact hh
        rw[← A0]at h0;have Ab:Drf.ok Ar:=(by rw[A0];exact(by unfold Drf.ok;exact⟨D.1,D.2.1,D.2.2.1,D.2.2.2.1,D.2.2.2.2.1,D.2.2.2.2.2.1,D.2.2.2.2.2.2.1,(nums_set D.2.2.2.2.2.2.2.1 (by omega)),D.2.2.2.2.2.2.2.2.1,D.2.2.2.2.2.2.2.2.2.1,D.2.2.2.2.2.2.2.2.2.2⟩));have Ha:Ar.b.length=I.b.length:=(by rw[A0]);have Hb:Ar.h.n.getD 0 0=I.h.n.getD 0 0:=(by rw[A0];exact getD_set_ne' (by decide));have Hc:Ar.h.n.getD 2 0=I.h.n.getD 2 0:=(by rw[A0];exact getD_set_ne' (by decide));have Hd:Ar.h.n.getD 3 0=I.h.n.getD 3 0:=(by rw[A0];exact getD_set_ne' (by decide));have He:Ar.h.n.getD 4 0=I.h.n.getD 4 0:=(by rw[A0];exact getD_set_ne' (by decide));have Hf:Ar.h.n.getD 5 0=I.h.n.getD 5 0:=(by rw[A0];exact getD_set_ne' (by decide));rw[show I.b=Ar.b by rw[A0]]at A;refine st_nil ⟨rfl,MC,?_⟩;refine m_nil ?_;clear V;clear MC;refine sn rfl (sf rfl off107_1 (sf rfl off105_19 (st_store rfl rfl one23 rfl h0 (ly rfl) ?_)));have X:=h0;clear h0;intro Eh E h0;have W:∀b∈[b0],¬Az b:=(by intro b N;simp at N;subst N;exact G);replace H:=H.md E (by intro N;simp at N;omega);replace A:=A.md E (apart_bo X A (by decide)) W;replace uQ:=uQ.md E;replace M:=M.step E (all_cons Al all_nil);clear X W;obtain⟨As,A1⟩:∃y,y=({Ar with h:={Ar.h with n:=Ar.h.n.set 12 O.real}}:Drf):=⟨_,rfl⟩
        replace h0:Blk Eh b0 (Drf.cells ({Ar with h:={Ar.h with n:=Ar.h.n.set 12 O.real}}) P) 107:=by
          have hh:=h0;simp only[Drf.cells,PHead.cells];rw[nums21_set (by exact Ab.2.2.2.2.2.2.2.1.1) (by decide)];exact hh
        rw[← A1]at h0;have Ac:Drf.ok As:=(by rw[A1];exact(by unfold Drf.ok;exact⟨Ab.1,Ab.2.1,Ab.2.2.1,Ab.2.2.2.1,Ab.2.2.2.2.1,Ab.2.2.2.2.2.1,Ab.2.2.2.2.2.2.1,(nums_set Ab.2.2.2.2.2.2.2.1 (by omega)),Ab.2.2.2.2.2.2.2.2.1,Ab.2.2.2.2.2.2.2.2.2.1,Ab.2.2.2.2.2.2.2.2.2.2⟩));have Hg:As.b.length=Ar.b.length:=(by rw[A1]);have Hh:As.h.n.getD 0 0=Ar.h.n.getD 0 0:=(by rw[A1];exact getD_set_ne' (by decide));have Hi:As.h.n.getD 2 0=Ar.h.n.getD 2 0:=(by rw[A1];exact getD_set_ne' (by decide));have Hj:As.h.n.getD 3 0=Ar.h.n.getD 3 0:=(by rw[A1];exact getD_set_ne' (by decide));have Hk:As.h.n.getD 4 0=Ar.h.n.getD 4 0:=(by rw[A1];exact getD_set_ne' (by decide));have Hl:As.h.n.getD 5 0=Ar.h.n.getD 5 0:=(by rw[A1];exact getD_set_ne' (by decide));rw[show Ar.b=As.b by rw[A1]]at A;refine nt (c_seq ?_);have V:=H;have C3:∀b∈[b0],¬Az b:=(all_cons G all_nil);refine c_mixT [(0,true),(1,true),(2,true),(3,true),(4,true),(5,true),(6,true),(7,true),(8,true),(9,true),(10,true),(11,true),(12,true),(13,true),(14,true),(15,true),(16,true),(17,false),(18,true),(19,true),(20,true),(21,false),(22,true),(23,true),(24,true),(25,false),(26,true),(27,true),(28,true),(29,false),(30,true),(31,true),(32,true),(33,false)] [] (fun w'=>Md [b0] Eh w') mixed (by kernel_rfl) ?_;intro I5 Z;refine⟨Z.mono (by simp),?_⟩;have MC:=Z.mono (T:=[b0]) (by simp);refine mo rfl (mo rfl (mo rfl (mo rfl (mo rfl (mz (fun w' Y=>r_field rfl off123_0) (mz (fun w' Y=>(r_loadBlk rfl one23 (V.md Y (by(simp;omega))) rfl).to (b:=(.int .u64 O.seq)) rfl) (mz (fun w' Y=>r_field rfl off123_1) (mz (fun w' Y=>(r_loadBlk rfl one23 (V.md Y (by(simp;omega))) rfl).to (b:=(.int .u64 O.real)) rfl) ?_))))))))
        refine mz (fun w' Y=>r_field rfl off123_2) (mz (fun w' Y=>(r_loadBlk rfl one23 (V.md Y (by(simp;omega))) rfl).to (b:=(.int .u64 O.mono)) rfl) ?_);have Iu:O.mono<18446744073709551616:=Aa.2.2.1;refine mz (fun w' Y=>r_field rfl off123_3) (mz (fun w' Y=>r_loadPart (idc O.boot) rfl (by exact agg27) (V.md Y (by(simp;omega))) rfl) ?_);have Iv:O.boot.length=16:=Aa.2.2.2.1;refine mo rfl (mz (fun w' Y=>r_nil rfl) (mz (fun w' Y=>r_field rfl off107_1) (mz (fun w' Y=>r_field rfl off105_16) ?_)));replace A:=A.md0 Z;replace h0:=h0.md0 Z;replace uQ:=uQ.md Z;replace M:=M.step0 Z;refine m_e ?_ rfl;refine st_store rfl rfl one23 rfl h0 (ly rfl) ?_;have X:=h0;clear h0;intro Fl E h0;have W:∀b∈[b0],¬Az b:=(by intro b N;simp at N;subst N;exact G);replace A:=A.md E (apart_bo X A (by decide)) W;replace uQ:=uQ.md E;replace M:=M.step E (all_cons Al all_nil);replace MC:=MC.step1' E (by simp);clear X W;obtain⟨Au,A2⟩:∃y,y=({As with h:={As.h with n:=As.h.n.set 9 O.seq}}:Drf):=⟨_,rfl⟩
        replace h0:Blk Fl b0 (Drf.cells ({As with h:={As.h with n:=As.h.n.set 9 O.seq}}) P) 107:=by
          have hh:=h0;simp only[Drf.cells,PHead.cells];rw[nums21_set (by exact Ac.2.2.2.2.2.2.2.1.1) (by decide)];exact hh
        rw[← A2]at h0;have Ad:Drf.ok Au:=(by rw[A2];exact(by unfold Drf.ok;exact⟨Ac.1,Ac.2.1,Ac.2.2.1,Ac.2.2.2.1,Ac.2.2.2.2.1,Ac.2.2.2.2.2.1,Ac.2.2.2.2.2.2.1,(nums_set Ac.2.2.2.2.2.2.2.1 (by omega)),Ac.2.2.2.2.2.2.2.2.1,Ac.2.2.2.2.2.2.2.2.2.1,Ac.2.2.2.2.2.2.2.2.2.2⟩));have Hm:Au.b.length=As.b.length:=(by rw[A2]);have Hn:Au.h.n.getD 0 0=As.h.n.getD 0 0:=(by rw[A2];exact getD_set_ne' (by decide));have Ho:Au.h.n.getD 2 0=As.h.n.getD 2 0:=(by rw[A2];exact getD_set_ne' (by decide));have Hp:Au.h.n.getD 3 0=As.h.n.getD 3 0:=(by rw[A2];exact getD_set_ne' (by decide));have Hq:Au.h.n.getD 4 0=As.h.n.getD 4 0:=(by rw[A2];exact getD_set_ne' (by decide));have Hr:Au.h.n.getD 5 0=As.h.n.getD 5 0:=(by rw[A2];exact getD_set_ne' (by decide));rw[show As.b=Au.b by rw[A2]]at A;refine st_nil ⟨rfl,MC,?_⟩;refine mz (fun w' Y=>r_nil rfl) (mz (fun w' Y=>r_field rfl off107_1) (mz (fun w' Y=>r_field rfl off105_20) ?_));refine m_e ?_ rfl;refine st_store rfl rfl one23 rfl h0 (ly rfl) ?_;have X:=h0;clear h0;intro Fm E h0;have W:∀b∈[b0],¬Az b:=(by intro b N;simp at N;subst N;exact G);replace A:=A.md E (apart_bo X A (by decide)) W;replace uQ:=uQ.md E;replace M:=M.step E (all_cons Al all_nil);replace MC:=MC.step1' E (by simp);clear X W;obtain⟨Av,A3⟩:∃y,y=({Au with h:={Au.h with n:=Au.h.n.set 13 O.real}}:Drf):=⟨_,rfl⟩
        replace h0:Blk Fm b0 (Drf.cells ({Au with h:={Au.h with n:=Au.h.n.set 13 O.real}}) P) 107:=by
          have hh:=h0;simp only[Drf.cells,PHead.cells];rw[nums21_set (by exact Ad.2.2.2.2.2.2.2.1.1) (by decide)];exact hh
        rw[← A3]at h0;have Ae:Drf.ok Av:=(by rw[A3];exact(by unfold Drf.ok;exact⟨Ad.1,Ad.2.1,Ad.2.2.1,Ad.2.2.2.1,Ad.2.2.2.2.1,Ad.2.2.2.2.2.1,Ad.2.2.2.2.2.2.1,(nums_set Ad.2.2.2.2.2.2.2.1 (by omega)),Ad.2.2.2.2.2.2.2.2.1,Ad.2.2.2.2.2.2.2.2.2.1,Ad.2.2.2.2.2.2.2.2.2.2⟩));have Hs:Av.b.length=Au.b.length:=(by rw[A3]);have Ht:Av.h.n.getD 0 0=Au.h.n.getD 0 0:=(by rw[A3];exact getD_set_ne' (by decide));have Hu:Av.h.n.getD 2 0=Au.h.n.getD 2 0:=(by rw[A3];exact getD_set_ne' (by decide));have Hv:Av.h.n.getD 3 0=Au.h.n.getD 3 0:=(by rw[A3];exact getD_set_ne' (by decide));have Hw:Av.h.n.getD 4 0=Au.h.n.getD 4 0:=(by rw[A3];exact getD_set_ne' (by decide));have Hx:Av.h.n.getD 5 0=Au.h.n.getD 5 0:=(by rw[A3];exact getD_set_ne' (by decide));rw[show Au.b=Av.b by rw[A3]]at A;refine st_nil ⟨rfl,MC,?_⟩;refine mz (fun w' Y=>r_nil rfl) (mz (fun w' Y=>r_field rfl off107_1) (mz (fun w' Y=>r_field rfl off105_21) ?_));refine m_e ?_ rfl;refine st_store rfl rfl one23 rfl h0 (ly rfl) ?_;have X:=h0;clear h0;intro Fn E h0;have W:∀b∈[b0],¬Az b:=(by intro b N;simp at N;subst N;exact G);replace A:=A.md E (apart_bo X A (by decide)) W;replace uQ:=uQ.md E;replace M:=M.step E (all_cons Al all_nil);replace MC:=MC.step1' E (by simp);clear X W;obtain⟨Ax,A4⟩:∃y,y=({Av with h:={Av.h with n:=Av.h.n.set 14 O.mono}}:Drf):=⟨_,rfl⟩
        replace h0:Blk Fn b0 (Drf.cells ({Av with h:={Av.h with n:=Av.h.n.set 14 O.mono}}) P) 107:=by
          have hh:=h0;simp only[Drf.cells,PHead.cells];rw[nums21_set (by exact Ae.2.2.2.2.2.2.2.1.1) (by decide)];exact hh
        rw[← A4]at h0;have Ap:Drf.ok Ax:=(by rw[A4];exact(by unfold Drf.ok;exact⟨Ae.1,Ae.2.1,Ae.2.2.1,Ae.2.2.2.1,Ae.2.2.2.2.1,Ae.2.2.2.2.2.1,Ae.2.2.2.2.2.2.1,(nums_set Ae.2.2.2.2.2.2.2.1 (by omega)),Ae.2.2.2.2.2.2.2.2.1,Ae.2.2.2.2.2.2.2.2.2.1,Ae.2.2.2.2.2.2.2.2.2.2⟩));have Hy:Ax.b.length=Av.b.length:=(by rw[A4]);have Hz:Ax.h.n.getD 0 0=Av.h.n.getD 0 0:=(by rw[A4];exact getD_set_ne' (by decide));have H0:Ax.h.n.getD 2 0=Av.h.n.getD 2 0:=(by rw[A4];exact getD_set_ne' (by decide));have H1:Ax.h.n.getD 3 0=Av.h.n.getD 3 0:=(by rw[A4];exact getD_set_ne' (by decide));have H2:Ax.h.n.getD 4 0=Av.h.n.getD 4 0:=(by rw[A4];exact getD_set_ne' (by decide));have H3:Ax.h.n.getD 5 0=Av.h.n.getD 5 0:=(by rw[A4];exact getD_set_ne' (by decide));rw[show Av.b=Ax.b by rw[A4]]at A;refine st_nil ⟨rfl,MC,?_⟩;refine mz (fun w' Y=>r_nil rfl) (mz (fun w' Y=>r_field rfl off107_1) (mz (fun w' Y=>r_field rfl off105_5) ?_));refine m_e ?_ rfl;refine st_storeAgg (us:=(idc O.boot)) rfl rfl (by exact agg27) (by exact one_idc _) h0 (ly rfl) ?_;have X:=h0;clear h0;intro I6 E h0;have W:∀b∈[b0],¬Az b:=(by intro b N;simp at N;subst N;exact G);replace A:=A.md E (apart_bo X A (by decide)) W;replace uQ:=uQ.md E;replace M:=M.step E (all_cons Al all_nil);replace MC:=MC.step1' E (by simp);clear X W;obtain⟨Ay,A5⟩:∃y,y=({Ax with h:={Ax.h with boot:=O.boot}}:Drf):=⟨_,rfl⟩;replace h0:Blk _ _ (Drf.cells ({Ax with h:={Ax.h with boot:=O.boot}}) P) _:=h0;rw[← A5]at h0;have Aq:Drf.ok Ay:=(by rw[A5];exact(by unfold Drf.ok;exact⟨Ap.1,Ap.2.1,Ap.2.2.1,Ap.2.2.2.1,Ap.2.2.2.2.1,(by exact Aa.2.2.2.1),Ap.2.2.2.2.2.2.1,Ap.2.2.2.2.2.2.2.1,Ap.2.2.2.2.2.2.2.2.1,Ap.2.2.2.2.2.2.2.2.2.1,Ap.2.2.2.2.2.2.2.2.2.2⟩));have H4:Ay.b.length=Ax.b.length:=(by rw[A5]);have H5:Ay.h.n.getD 0 0=Ax.h.n.getD 0 0:=(by rw[A5])
        have H6:Ay.h.n.getD 2 0=Ax.h.n.getD 2 0:=(by rw[A5]);have H7:Ay.h.n.getD 3 0=Ax.h.n.getD 3 0:=(by rw[A5]);have H8:Ay.h.n.getD 4 0=Ax.h.n.getD 4 0:=(by rw[A5]);have H9:Ay.h.n.getD 5 0=Ax.h.n.getD 5 0:=(by rw[A5]);rw[show Ax.b=Ay.b by rw[A5]]at A;refine st_nil ⟨rfl,MC,?_⟩;refine mz (fun w' Y=>r_nil rfl) (mz (fun w' Y=>r_field rfl off107_1) (mz (fun w' Y=>r_field rfl off105_30) ?_));refine m_e ?_ rfl;refine st_store rfl rfl one23 rfl h0 (ly rfl) ?_;have X:=h0;clear h0;intro I7 E h0;have W:∀b∈[b0],¬Az b:=(by intro b N;simp at N;subst N;exact G);replace A:=A.md E (apart_bo X A (by decide)) W;replace uQ:=uQ.md E;replace M:=M.step E (all_cons Al all_nil);replace MC:=MC.step1' E (by simp);clear X W;obtain⟨Br,A6⟩:∃y,y=({Ay with h:={Ay.h with tailEntry:=Bq}}:Drf):=⟨_,rfl⟩;replace h0:Blk _ _ (Drf.cells ({Ay with h:={Ay.h with tailEntry:=Bq}}) P) _:=h0;rw[← A6]at h0;have Dv:Drf.ok Br:=(by rw[A6];exact(by unfold Drf.ok;exact⟨Aq.1,Aq.2.1,Aq.2.2.1,Aq.2.2.2.1,Aq.2.2.2.2.1,Aq.2.2.2.2.2.1,Aq.2.2.2.2.2.2.1,Aq.2.2.2.2.2.2.2.1,Aq.2.2.2.2.2.2.2.2.1,Aq.2.2.2.2.2.2.2.2.2.1,(by omega)⟩));have Ia:Br.b.length=Ay.b.length:=(by rw[A6]);have Ib:Br.h.n.getD 0 0=Ay.h.n.getD 0 0:=(by rw[A6]);have Ic:Br.h.n.getD 2 0=Ay.h.n.getD 2 0:=(by rw[A6]);have Id:Br.h.n.getD 3 0=Ay.h.n.getD 3 0:=(by rw[A6]);have Ie:Br.h.n.getD 4 0=Ay.h.n.getD 4 0:=(by rw[A6]);have If:Br.h.n.getD 5 0=Ay.h.n.getD 5 0:=(by rw[A6]);rw[show Ay.b=Br.b by rw[A6]]at A;refine st_nil ⟨rfl,MC,?_⟩;refine m_nil ?_;clear V;clear MC;refine nt (c_region (mv rfl ?_));have Fe:Br.h.state<256:=(by rw[A6,A5,A4,A3,A2,A1,A0,Bf,Be];exact l7);refine st_call fn69 rfl (dSeal_any uQ Br h0 G A Dv (by omega) (by omega) (by omega)) ?_
        rintro en I8 ⟨Dr,rfl,E,Cc,Cg,Cl,D7⟩;refine⟨_,rfl,?_⟩;have j:=A;replace A:=Cg.reP (fun x hx=>(j.2 x hx).1);clear Cg;replace h0:=Cc;clear Cc;replace uQ:=uQ.md E;replace M:=M.stepO E (fun b N=>(j.2 b N).1);clear j;refine st_nil ?_;exact retL (vs:=[]) trivial rfl trivial rfl ⟨Dr,_,Az,rfl,M,⟨Aw,tQ,uQ⟩,h0,G,Cl,A,(by unfold Drf.entry;rw[de];simp only;rw[← Di,B3,B4];simp only;rw[← si,Cr];unfold Drf.mark;simp only;rw[if_pos (show I.num 8=1 from Cq),← D7,A6,A5,A4,A3,A2,A1,A0,Bf,Be];simp only[De,Df,Dg,Dh];rfl)⟩
      · (have Cq:=dF Dl);refine c_skip (c_then (c_seq ?_));have V:=H;have C3:∀b∈[b0],¬Az b:=(all_cons G all_nil);refine c_mixT [(0,true),(1,true),(2,true),(3,true),(4,true),(5,true),(6,true),(7,true),(8,true),(9,true),(10,true),(11,true),(12,true),(13,true),(14,true),(15,true),(16,true),(17,false),(18,true),(19,true),(20,true),(21,false),(22,true),(23,true),(24,true),(25,false),(26,true),(27,true),(28,true),(29,false),(30,true),(31,true),(32,true),(33,false)] [] (fun w'=>Md [b0] Eg w') mixed (by kernel_rfl) ?_;intro G6 Z;refine⟨Z.mono (by simp),?_⟩;have MC:=Z.mono (T:=[b0]) (by simp);refine mo rfl (mo rfl (mo rfl (mo rfl (mo rfl (mz (fun w' Y=>r_field rfl off123_0) (mz (fun w' Y=>(r_loadBlk rfl one23 (V.md Y (by(simp;omega))) rfl).to (b:=(.int .u64 O.seq)) rfl) ?_))))));have G1:O.seq<18446744073709551616:=Aa.1;refine mz (fun w' Y=>r_field rfl off123_1) (mz (fun w' Y=>(r_loadBlk rfl one23 (V.md Y (by(simp;omega))) rfl).to (b:=(.int .u64 O.real)) rfl) ?_);have G2:O.real<18446744073709551616:=Aa.2.1;refine mz (fun w' Y=>r_field rfl off123_2) (mz (fun w' Y=>(r_loadBlk rfl one23 (V.md Y (by(simp;omega))) rfl).to (b:=(.int .u64 O.mono)) rfl) ?_);have G3:O.mono<18446744073709551616:=Aa.2.2.1;refine mz (fun w' Y=>r_field rfl off123_3) (mz (fun w' Y=>r_loadPart (idc O.boot) rfl (by exact agg27) (V.md Y (by(simp;omega))) rfl) ?_);have G4:O.boot.length=16:=Aa.2.2.2.1
        refine mo rfl (mz (fun w' Y=>r_nil rfl) (mz (fun w' Y=>r_field rfl off107_1) (mz (fun w' Y=>r_field rfl off105_16) ?_)));replace h0:=h0.md0 Z;replace A:=A.md0 Z;replace uQ:=uQ.md Z;replace M:=M.step0 Z;refine m_e ?_ rfl;refine st_store rfl rfl one23 rfl h0 (ly rfl) ?_;have X:=h0;clear h0;intro Ed E h0;have W:∀b∈[b0],¬Az b:=(by intro b N;simp at N;subst N;exact G);replace A:=A.md E (apart_bo X A (by decide)) W;replace uQ:=uQ.md E;replace M:=M.step E (all_cons Al all_nil);replace MC:=MC.step1' E (by simp);clear X W;obtain⟨c,Ag⟩:∃y,y=({I with h:={I.h with n:=I.h.n.set 9 O.seq}}:Drf):=⟨_,rfl⟩
        replace h0:Blk Ed b0 (Drf.cells ({I with h:={I.h with n:=I.h.n.set 9 O.seq}}) P) 107:=by
          have hh:=h0;simp only[Drf.cells,PHead.cells];rw[nums21_set (by exact D.2.2.2.2.2.2.2.1.1) (by decide)];exact hh
        rw[← Ag]at h0;have f:Drf.ok c:=(by rw[Ag];exact(by unfold Drf.ok;exact⟨D.1,D.2.1,D.2.2.1,D.2.2.2.1,D.2.2.2.2.1,D.2.2.2.2.2.1,D.2.2.2.2.2.2.1,(nums_set D.2.2.2.2.2.2.2.1 (by omega)),D.2.2.2.2.2.2.2.2.1,D.2.2.2.2.2.2.2.2.2.1,D.2.2.2.2.2.2.2.2.2.2⟩));have Fo:c.b.length=I.b.length:=(by rw[Ag]);have Fp:c.h.n.getD 0 0=I.h.n.getD 0 0:=(by rw[Ag];exact getD_set_ne' (by decide));have Fq:c.h.n.getD 2 0=I.h.n.getD 2 0:=(by rw[Ag];exact getD_set_ne' (by decide));have Fs:c.h.n.getD 3 0=I.h.n.getD 3 0:=(by rw[Ag];exact getD_set_ne' (by decide));have Ft:c.h.n.getD 4 0=I.h.n.getD 4 0:=(by rw[Ag];exact getD_set_ne' (by decide));have Fu:c.h.n.getD 5 0=I.h.n.getD 5 0:=(by rw[Ag];exact getD_set_ne' (by decide));rw[show I.b=c.b by rw[Ag]]at A;refine st_nil ⟨rfl,MC,?_⟩;refine mz (fun w' Y=>r_nil rfl) (mz (fun w' Y=>r_field rfl off107_1) (mz (fun w' Y=>r_field rfl off105_20) ?_));refine m_e ?_ rfl;refine st_store rfl rfl one23 rfl h0 (ly rfl) ?_;have X:=h0;clear h0;intro Ee E h0;have W:∀b∈[b0],¬Az b:=(by intro b N;simp at N;subst N;exact G);replace A:=A.md E (apart_bo X A (by decide)) W;replace uQ:=uQ.md E;replace M:=M.step E (all_cons Al all_nil);replace MC:=MC.step1' E (by simp);clear X W;obtain⟨d,Ah⟩:∃y,y=({c with h:={c.h with n:=c.h.n.set 13 O.real}}:Drf):=⟨_,rfl⟩
        replace h0:Blk Ee b0 (Drf.cells ({c with h:={c.h with n:=c.h.n.set 13 O.real}}) P) 107:=by
          have hh:=h0;simp only[Drf.cells,PHead.cells];rw[nums21_set (by exact f.2.2.2.2.2.2.2.1.1) (by decide)];exact hh
        rw[← Ah]at h0;have g:Drf.ok d:=(by rw[Ah];exact(by unfold Drf.ok;exact⟨f.1,f.2.1,f.2.2.1,f.2.2.2.1,f.2.2.2.2.1,f.2.2.2.2.2.1,f.2.2.2.2.2.2.1,(nums_set f.2.2.2.2.2.2.2.1 (by omega)),f.2.2.2.2.2.2.2.2.1,f.2.2.2.2.2.2.2.2.2.1,f.2.2.2.2.2.2.2.2.2.2⟩));have Fv:d.b.length=c.b.length:=(by rw[Ah]);have Fw:d.h.n.getD 0 0=c.h.n.getD 0 0:=(by rw[Ah];exact getD_set_ne' (by decide));have Fx:d.h.n.getD 2 0=c.h.n.getD 2 0:=(by rw[Ah];exact getD_set_ne' (by decide));have Fy:d.h.n.getD 3 0=c.h.n.getD 3 0:=(by rw[Ah];exact getD_set_ne' (by decide));have Fz:d.h.n.getD 4 0=c.h.n.getD 4 0:=(by rw[Ah];exact getD_set_ne' (by decide));have F0:d.h.n.getD 5 0=c.h.n.getD 5 0:=(by rw[Ah];exact getD_set_ne' (by decide));rw[show c.b=d.b by rw[Ah]]at A;refine st_nil ⟨rfl,MC,?_⟩;refine mz (fun w' Y=>r_nil rfl) (mz (fun w' Y=>r_field rfl off107_1) (mz (fun w' Y=>r_field rfl off105_21) ?_));refine m_e ?_ rfl;refine st_store rfl rfl one23 rfl h0 (ly rfl) ?_;have X:=h0;clear h0;intro Ef E h0;have W:∀b∈[b0],¬Az b:=(by intro b N;simp at N;subst N;exact G);replace A:=A.md E (apart_bo X A (by decide)) W;replace uQ:=uQ.md E;replace M:=M.step E (all_cons Al all_nil);replace MC:=MC.step1' E (by simp);clear X W;obtain⟨k,Ai⟩:∃y,y=({d with h:={d.h with n:=d.h.n.set 14 O.mono}}:Drf):=⟨_,rfl⟩
        replace h0:Blk Ef b0 (Drf.cells ({d with h:={d.h with n:=d.h.n.set 14 O.mono}}) P) 107:=by
          have hh:=h0;simp only[Drf.cells,PHead.cells];rw[nums21_set (by exact g.2.2.2.2.2.2.2.1.1) (by decide)];exact hh
        rw[← Ai]at h0;have p:Drf.ok k:=(by rw[Ai];exact(by unfold Drf.ok;exact⟨g.1,g.2.1,g.2.2.1,g.2.2.2.1,g.2.2.2.2.1,g.2.2.2.2.2.1,g.2.2.2.2.2.2.1,(nums_set g.2.2.2.2.2.2.2.1 (by omega)),g.2.2.2.2.2.2.2.2.1,g.2.2.2.2.2.2.2.2.2.1,g.2.2.2.2.2.2.2.2.2.2⟩));have F1:k.b.length=d.b.length:=(by rw[Ai]);have F2:k.h.n.getD 0 0=d.h.n.getD 0 0:=(by rw[Ai];exact getD_set_ne' (by decide));have F3:k.h.n.getD 2 0=d.h.n.getD 2 0:=(by rw[Ai];exact getD_set_ne' (by decide));have F4:k.h.n.getD 3 0=d.h.n.getD 3 0:=(by rw[Ai];exact getD_set_ne' (by decide));have Ga:k.h.n.getD 4 0=d.h.n.getD 4 0:=(by rw[Ai];exact getD_set_ne' (by decide));have Gb:k.h.n.getD 5 0=d.h.n.getD 5 0:=(by rw[Ai];exact getD_set_ne' (by decide));rw[show d.b=k.b by rw[Ai]]at A;refine st_nil ⟨rfl,MC,?_⟩;refine mz (fun w' Y=>r_nil rfl) (mz (fun w' Y=>r_field rfl off107_1) (mz (fun w' Y=>r_field rfl off105_5) ?_));refine m_e ?_ rfl;refine st_storeAgg (us:=(idc O.boot)) rfl rfl (by exact agg27) (by exact one_idc _) h0 (ly rfl) ?_;have X:=h0;clear h0;intro G7 E h0;have W:∀b∈[b0],¬Az b:=(by intro b N;simp at N;subst N;exact G);replace A:=A.md E (apart_bo X A (by decide)) W;replace uQ:=uQ.md E;replace M:=M.step E (all_cons Al all_nil);replace MC:=MC.step1' E (by simp);clear X W;obtain⟨o,Aj⟩:∃y,y=({k with h:={k.h with boot:=O.boot}}:Drf):=⟨_,rfl⟩;replace h0:Blk _ _ (Drf.cells ({k with h:={k.h with boot:=O.boot}}) P) _:=h0;rw[← Aj]at h0;have t:Drf.ok o:=(by rw[Aj];exact(by unfold Drf.ok;exact⟨p.1,p.2.1,p.2.2.1,p.2.2.2.1,p.2.2.2.2.1,(by exact Aa.2.2.2.1),p.2.2.2.2.2.2.1,p.2.2.2.2.2.2.2.1,p.2.2.2.2.2.2.2.2.1,p.2.2.2.2.2.2.2.2.2.1,p.2.2.2.2.2.2.2.2.2.2⟩));have Gc:o.b.length=k.b.length:=(by rw[Aj])
        have Gd:o.h.n.getD 0 0=k.h.n.getD 0 0:=(by rw[Aj]);have Ge:o.h.n.getD 2 0=k.h.n.getD 2 0:=(by rw[Aj]);have Gf:o.h.n.getD 3 0=k.h.n.getD 3 0:=(by rw[Aj]);have Gg:o.h.n.getD 4 0=k.h.n.getD 4 0:=(by rw[Aj]);have Gh:o.h.n.getD 5 0=k.h.n.getD 5 0:=(by rw[Aj]);rw[show k.b=o.b by rw[Aj]]at A;refine st_nil ⟨rfl,MC,?_⟩;refine mz (fun w' Y=>r_nil rfl) (mz (fun w' Y=>r_field rfl off107_1) (mz (fun w' Y=>r_field rfl off105_30) ?_));refine m_e ?_ rfl;refine st_store rfl rfl one23 rfl h0 (ly rfl) ?_;have X:=h0;clear h0;intro G8 E h0;have W:∀b∈[b0],¬Az b:=(by intro b N;simp at N;subst N;exact G);replace A:=A.md E (apart_bo X A (by decide)) W;replace uQ:=uQ.md E;replace M:=M.step E (all_cons Al all_nil);replace MC:=MC.step1' E (by simp);clear X W;obtain⟨Bb,Ak⟩:∃y,y=({o with h:={o.h with tailEntry:=Bq}}:Drf):=⟨_,rfl⟩;replace h0:Blk _ _ (Drf.cells ({o with h:={o.h with tailEntry:=Bq}}) P) _:=h0;rw[← Ak]at h0;have C7:Drf.ok Bb:=(by rw[Ak];exact(by unfold Drf.ok;exact⟨t.1,t.2.1,t.2.2.1,t.2.2.2.1,t.2.2.2.2.1,t.2.2.2.2.2.1,t.2.2.2.2.2.2.1,t.2.2.2.2.2.2.2.1,t.2.2.2.2.2.2.2.2.1,t.2.2.2.2.2.2.2.2.2.1,(by omega)⟩));have Gi:Bb.b.length=o.b.length:=(by rw[Ak]);have Gj:Bb.h.n.getD 0 0=o.h.n.getD 0 0:=(by rw[Ak]);have Gk:Bb.h.n.getD 2 0=o.h.n.getD 2 0:=(by rw[Ak]);have Gl:Bb.h.n.getD 3 0=o.h.n.getD 3 0:=(by rw[Ak]);have Gm:Bb.h.n.getD 4 0=o.h.n.getD 4 0:=(by rw[Ak]);have Gn:Bb.h.n.getD 5 0=o.h.n.getD 5 0:=(by rw[Ak]);rw[show o.b=Bb.b by rw[Ak]]at A;refine st_nil ⟨rfl,MC,?_⟩;refine m_nil ?_;clear V;clear MC;refine nt (c_region (mv rfl ?_));have Fe:Bb.h.state<256:=(by rw[Ak,Aj,Ai,Ah,Ag,Bf,Be];exact l7)
        refine st_call fn69 rfl (dSeal_any uQ Bb h0 G A C7 (by omega) (by omega) (by omega)) ?_;rintro en G9 ⟨C5,rfl,E,Bz,B0,B2,Dm⟩;refine⟨_,rfl,?_⟩;have j:=A;replace A:=B0.reP (fun x hx=>(j.2 x hx).1);clear B0;replace h0:=Bz;clear Bz;replace uQ:=uQ.md E;replace M:=M.stepO E (fun b N=>(j.2 b N).1);clear j;refine st_nil ?_;exact retL (vs:=[]) trivial rfl trivial rfl ⟨C5,_,Az,rfl,M,⟨Aw,tQ,uQ⟩,h0,G,B2,A,(by unfold Drf.entry;rw[de];simp only;rw[← Di,B3,B4];simp only;rw[← si,Cr];unfold Drf.mark;simp only;rw[if_neg (show ¬I.num 8=1 from Cq),← Dm,Ak,Aj,Ai,Ah,Ag,Bf,Be];simp only[De,Df,Dg,Dh];rfl)⟩
theorem fn25:isFn Tryz.prog 25=true:=by kernel_rfl
theorem fn55:isFn Tryz.prog 55=true:=by kernel_rfl
theorem fn56:isFn Tryz.prog 56=true:=by kernel_rfl
theorem fn57:isFn Tryz.prog 57=true:=by kernel_rfl
theorem off102_2:fieldOff Tryz.prog 102 2=some 2:=by kernel_rfl
theorem pl123:bplace Tryz.prog 123=some [(0,1),(1,1),(2,1),(3,16),(19,1),(20,1)]:=by kernel_rfl
theorem z123:zcells Tryz.prog 123=some ([.int .u64 0,.int .u64 0,.int .u64 0] ++ (List.replicate 16 (.int .u8 0) ++ ([.int .u64 0,.slice none 0 0]))):=by kernel_rfl

set_option maxHeartbeats 16000000 in
set_option maxRecDepth 100000 in
theorem wAppend_any {w:World} {Q:Nat→Prop} (uQ:Up w Q) {b0:Nat} {v0_0:Value} (m:Wri) (h0:Blk w b0 (Wri.cells m v0_0) 102) (n0:¬Q b0) (a0_0:Wri.ok m) (a0_1:Pt tDrf 107 w Q v0_0 m.d) {v1:Value} {l:List Pr} (h1:Ls tPr w Q v1 l) (real:Nat) (a2:real<18446744073709551616) (mono:Nat) (a3:mono<18446744073709551616) (boot:Ly) (a4:boot.length=16) (p0:l.length≤1000) (p1:m.waiting≤1000000) (p2:m.okApp l real mono boot) (p3:m.d.b.length≤1000000) :
    Calls Tryz.prog 17 #[.pointer (some ⟨b0,0,none⟩),v1,(.int .u64 real),(.int .u64 mono),.agg (idc boot).toArray] w fun en w'=>∃r0:Nat,∃r1:Nat,∃m0:Wri,∃u50_0:Value,en = .returned (.tuple #[(.int .u64 r0),(.int .i64 r1)])∧Md [b0] w w'∧r0<18446744073709551616∧r1<9223372036854775808∧Blk w' b0 (Wri.cells m0 u50_0) 102∧¬Q b0∧Wri.ok m0∧Pt tDrf 107 w' Q u50_0 m0.d∧m.append l real mono boot=(r0,r1,m0):=by
  have L1:=h1.len63;have H:=n0;have Ar:Fsh [b0] w b0:=.inl (by simp);have M:=Md.refl [b0] w;have Bn:=uQ;have v:∀b,Q b→Q b:=fun _ h=>h;refine enter (n:=69) Tryz.func17 rfl rfl rfl ?_;intro B;refine ns (st_box (cs:=(idc boot)) rfl rfl ?_);intro Av w1 Az Cg E L;have Bq:b0≠Av:=(by have:=h0.lt;omega);have j:=uQ _ Az;replace Az:=lQ M.size Az;replace a0_1:=a0_1.md0 E;replace h0:=h0.md0 E;replace h1:=h1.md0 E;replace uQ:=uQ.md E;replace M:=M.step0 E;refine asg rfl (asg rfl (nt (c_seq (ns (mv rfl (sn rfl (sf rfl off102_5 (sl (u:=(.bool m.archived)) rfl one4 h0 rfl (nt ?_)))))))));refine c_if rfl (fun A1=>?_) (fun A1=>?_)
  · (have W:=A1);refine ns (asg rfl (asg rfl (nt (c_ret (r_then ?_)))));exact retL (vs:=[(.int .u64 ((0:Nat):Int)),(.int .i64 ((8:Nat):Int))]) trivial rfl ⟨rfl,rfl,tV⟩ rfl ⟨0,8,m,_,rfl,M,(by omega),(by omega),h0,n0,a0_0,(a0_1.sub (fun b N _=>v b N)),(by unfold Wri.append;rw[if_pos W])⟩
  · (have W:=A1);refine c_skip (c_then (ns (mv rfl (st_call fn55 rfl (kList_any uQ h1 (by omega)) ?_))));rintro en w2 ⟨B8,B9,Ai,rfl,E,J,B4,f⟩;refine⟨_,rfl,?_⟩;replace a0_1:=a0_1.md0 E;replace h0:=h0.md0 E;replace L:=L.md0 E;replace uQ:=uQ.md E;replace M:=M.step0 E;refine mv rfl (se rfl rfl (se rfl rfl (asg rfl (asg rfl (nt (c_seq (c_block (ns (mv rfl (st _ (r_neN (a:=Ai) (b:=0) rfl rfl) (asg rfl (nt ?_))))))))))));refine c_if rfl (fun A2=>?_) (fun A2=>?_)
    · (have Aq:=dT A2);refine ns (mv rfl (asg rfl (asg rfl (nt (c_ret (r_block (r_then ?_)))))));exact retL (vs:=[(.int .u64 ((0:Nat):Int)),(.int .i64 Ai)]) trivial rfl ⟨rfl,rfl,tV⟩ rfl ⟨0,Ai,m,_,rfl,M,(by omega),(by assumption),h0,n0,a0_0,(a0_1.sub (fun b N _=>v b N)),(by unfold Wri.append;rw[if_neg (by simp[W]),f];simp only;rw[if_pos Aq])⟩
    · (have Aq:=dF A2);refine ns (mv rfl (st_call fn25 rfl (wTail_any uQ m h0 H a0_0 a0_1) ?_));rintro en w3 ⟨Bo,rfl,E,B6,Ce⟩;refine⟨_,rfl,?_⟩;replace a0_1:=a0_1.md0 E;replace h0:=h0.md0 E;replace L:=L.md0 E;replace J:=J.md0 E;replace uQ:=uQ.md E;replace M:=M.step0 E;refine st _ (r_eqN (a:=Bo) (b:=18446744073709551615) rfl rfl) (asg rfl (nt ?_));refine c_if rfl (fun A3=>?_) (fun A3=>?_)
      · (have Bf:=dT A3);refine ns (asg rfl (asg rfl (nt (c_ret (r_block (r_then ?_))))));exact retL (vs:=[(.int .u64 ((0:Nat):Int)),(.int .i64 ((1:Nat):Int))]) trivial rfl ⟨rfl,rfl,tV⟩ rfl ⟨0,1,m,_,rfl,M,(by omega),(by omega),h0,n0,a0_0,(a0_1.sub (fun b N _=>v b N)),(by unfold Wri.append;rw[if_neg (by simp[W]),f];simp only;rw[if_neg (by omega),if_pos (by omega)])⟩
      · (have Bf:=dF A3);refine c_skip (n_block (c_then (ns (mv rfl (sn rfl (sf rfl off102_3 (sl (u:=v0_0) rfl one99 h0 rfl ?_)))))));have U:=a0_1;obtain⟨Ap,B0,rfl,e,U,Bm⟩:=U;obtain⟨v5,rfl,q6,Bs⟩:=tDrf_un Bm;refine st_call fn56 rfl (dTwinP_any uQ ⟨_,_,rfl,e,U,tDrf_mk q6 Bs⟩ (by omega)) ?_;rintro en w8 ⟨D,K,Bp,Q9,rfl,E,⟨sQ,sT,Ag⟩,F,I,c,Ae,C,Bk⟩;refine⟨_,rfl,?_⟩;have Bc:b0≠D:=(by have:=h0.lt;omega);have Aw:Av≠D:=(by have:=L.lt;omega);have Ax:Ap≠D:=(by have:=U.lt;omega);have g:Fsh [] w D:=Fsh.new M _ c;replace c:=lQ M.size c;replace a0_1:=a0_1.sub sQ;replace H:=fun hh=>H (sT _ hh);replace j:=sQ _ j L.lt;replace J:=J.sub sQ;replace e:=sQ _ e U.lt;replace v:=fun b N=>v b (sT b N);replace C:=C.lower (Fsh.lift (S':=[]) M);replace a0_1:=a0_1.md0 E;replace h0:=h0.md0 E;replace L:=L.md0 E;replace J:=J.md0 E;replace U:=U.md0 E;replace uQ:=uQ.md E;replace M:=M.step0 E;replace uQ:=Ag;clear Ag sQ sT;refine asg rfl (nt (c_seq ?_));have k:=h0;have Aa:=L;have O:=F;refine c_mixT [(0,true),(1,true),(2,true),(5,true),(6,true),(7,true),(3,false),(4,true),(8,true)] [9] (fun w'=>Md [] w8 w') mixed (by kernel_rfl) ?_;intro Ck G;refine⟨G.mono (by simp),?_⟩;have MC:=G.mono (T:=[]) (by simp);refine mo rfl (mo rfl (mo rfl (mo rfl (mo rfl ?_))))
        refine mz (fun w' z=>r_loadPart (idc boot) rfl (by exact agg27) (Aa.md0 z) rfl) ?_;replace a0_1:=a0_1.md0 G;replace h0:=h0.md0 G;replace L:=L.md0 G;replace J:=J.md0 G;replace U:=U.md0 G;replace C:=C.md0 G;replace F:=F.md0 G;replace uQ:=uQ.md G;replace M:=M.step0 G;refine m_e ?_ rfl;refine st_call fn25 rfl (wTail_any uQ m h0 H a0_0 a0_1) ?_;rintro en Cl ⟨S,rfl,E,Bw,B3⟩;refine⟨_,rfl,?_⟩;replace a0_1:=a0_1.md0 E;replace h0:=h0.md0 E;replace L:=L.md0 E;replace J:=J.md0 E;replace U:=U.md0 E;replace C:=C.md0 E;replace F:=F.md0 E;replace uQ:=uQ.md E;replace M:=M.step0 E;replace MC:=MC.step0 E;refine st_nil ⟨rfl,MC,?_⟩;refine mz (fun w' z=>r_addN (a:=S) (b:=1) 18446744073709551616 rfl rfl rfl (by omega)) (mz (fun w' z=>r_buildG (us:=[[(.int .u64 ((S+1:Nat):Int))],[(.int .u64 real)],[(.int .u64 mono)],(idc boot)]) (cs:=(Ent.cells (({seq:=S+1,real:=real,mono:=mono,boot:=boot,xor:=0,items:=[]}:Ent)) (.slice none 0 0))) [(0,0,1),(1,1,1),(2,2,1),(3,3,16)] z123 pl123 rfl rfl ⟨rfl,rfl,rfl,rfl,tV⟩ ⟨rfl,rfl,rfl,rfl,tV⟩ rfl rfl) (m_nil ?_));clear O k Aa;clear MC;have Bu:m.d.num 9=S:=(by omega);have Bh:m.entE real mono boot=({seq:=S+1,real:=real,mono:=mono,boot:=boot,xor:=0,items:=[]}:Ent):=(by unfold Wri.entE;rw[Bu]);obtain⟨A7,A8,A9⟩:=p2 (by simp[W]) (by rw[f];simp only;omega) (by omega);rw[Bh,f,Bk]at A7;rw[f]at A8 A9;simp only at A7 A8 A9;refine st_call fn57 rfl (dEntry_any uQ Bp F I Ae (C.reP (fun _ _=>trivial)) J (({seq:=S+1,real:=real,mono:=mono,boot:=boot,xor:=0,items:=[]}:Ent)) (by exact⟨(by(simp<;>omega)),(by omega),(by omega),(by assumption),(by(simp<;>omega))⟩) (Ls.nil _ _ _) (by rfl) (by rfl) (by exact A7) (by exact A8) (by exact A9)) ?_
        rintro en Bz ⟨P,t,Cd,rfl,E,⟨sQ,sT,Ag⟩,o,p,r,A,Bi⟩;refine⟨_,rfl,?_⟩;have hP:∀i∈(D :: (vblock K).toList),Fsh [] w i:=(all_cons g (all_row (fun x hx=>(C.2 x hx).1)));have hS:∀i∈(D :: (vblock K).toList),¬Q9 i:=(all_cons I (all_row (fun x hx=>(C.2 x hx).2)));have Ab:b0∉(D :: (vblock K).toList):=(nin_cons (by omega) (apart_ow C h0 (by decide)));have Am:Av∉(D :: (vblock K).toList):=(nin_cons (fun h=>I (h ▸ j)) (apart_ow C L (by decide)));have Ao:Ap∉(D :: (vblock K).toList):=(nin_cons (fun h=>I (h ▸ e)) (apart_ow C U (by decide)));replace A:=A.reP (fun x hx=>(A.2 x hx).1);replace A:=A.reP (fun x hx=>(A.2 x hx).1.elim (hP x) (Fsh.new M x));replace a0_1:=a0_1.sub sQ;replace H:=fun hh=>H (sT _ hh);replace v:=fun b N=>v b (sT b N);replace hS:=fun i hi hq=>hS i hi (sT i hq);replace a0_1:=a0_1.md E hS;replace h0:=h0.md E Ab;clear Ab;clear Am;clear Ao;replace M:=M.step E (fun i hi=>Fsh.wid (hP i hi));replace uQ:=Ag;clear Ag sQ sT;clear hP hS F I;have F:=o;have I:=p;clear o p;clear C;have Bl:m.d.entry (plistF l).1 (m.entE real mono boot)=P:=(by rw[Bh,f,Bk];exact Bi);refine nt (c_seq (c_seq ?_));have k:=h0;have O:=F;refine c_mixT (ml 9) [9] (fun w'=>Md [] Bz w') mixed (by kernel_rfl) ?_;intro Ba G;refine⟨G.mono (by simp),?_⟩;have MC:=G.mono (T:=[]) (by simp);refine mo rfl (mz (fun w' z=>r_nil rfl) ?_)
        refine mz (fun w' z=>r_field rfl off107_0) (mz (fun w' z=>(r_loadBlk rfl one45 (O.md0 z) rfl).to (b:=t) rfl) (mz (fun w' z=>r_len rfl u45 A.shp) (mo rfl (mz (fun w' z=>r_nil rfl) (mz (fun w' z=>r_field rfl off102_2) (mz (fun w' z=>(r_loadBlk rfl one3 (k.md0 z) rfl).to (b:=(.int .i64 m.most)) rfl) ?_))))));have Ch:m.most<9223372036854775808:=a0_0.1;refine m_nil ?_;replace a0_1:=a0_1.md0 G;replace h0:=h0.md0 G;replace F:=F.md0 G;replace A:=A.md0 G;replace uQ:=uQ.md G;replace M:=M.step0 G;clear O k;clear MC;refine st _ (r_gtN (a:=P.b.length) (b:=m.most) rfl rfl) (nt ?_);refine c_if rfl (fun A4=>?_) (fun A4=>?_)
        · (have Bg:=dT A4);refine ns (asg rfl (asg rfl (nt (c_ret (r_then ?_)))));exact retL (vs:=[(.int .u64 ((0:Nat):Int)),(.int .i64 ((15:Nat):Int))]) trivial rfl ⟨rfl,rfl,tV⟩ rfl ⟨0,15,m,_,rfl,M,(by omega),(by omega),h0,n0,a0_0,(a0_1.sub (fun b N _=>v b N)),(by unfold Wri.append;rw[if_neg (by simp[W]),Bl,f];simp only;rw[if_neg (by omega),if_neg (by omega),if_pos (by omega)])⟩
        · (have Bg:=dF A4);refine c_skip (c_then (ns (mv rfl (mv rfl (sn rfl (sf rfl off102_3 ?_))))));obtain⟨Ak,fQ,fT,X⟩:=A.freeze;replace H:=fun hh=>(fT _ hh).elim H (nfz (apart_ow A h0 (by decide)));replace v:=fun b N=>(fT b N).elim (v b) (fun hv=>Fsh.up Bn b (A.2 b hv).1);replace uQ:Up Ba Ak:=fun b N=>fQ b (uQ b N);clear A fQ fT;have A:=X;clear X;obtain⟨Al,fQ,fT,fB⟩:∃Q9:Nat→Prop,(∀x,Ak x→Q9 x)∧(∀x,Q9 x→Ak x∨x=D)∧Q9 D:=⟨fun x=>Ak x∨x=D,fun _ h=>.inl h,fun _ h=>h,.inr rfl⟩;replace H:=fun hh=>(fT _ hh).elim H (by omega);replace A:=A.sub (fun b N _=>fQ b N);replace v:=fun b N=>(fT b N).elim (v b) (fun hv=>Fsh.up Bn b (hv ▸ g));replace uQ:Up Ba Al:=fun b N=>fQ b (uQ b N);have Y:Pt tDrf 107 Ba Al (.pointer (some ⟨D,0,none⟩)) P:=⟨_,_,rfl,fB,F,tDrf_mk r A⟩;clear fQ fT fB;refine st_store rfl rfl one99 rfl h0 (ly rfl) ?_;have A0:=h0;clear h0;intro Cm E h0;have hS:∀b∈[b0],¬Al b:=(by intro b N;simp at N;subst N;exact H);replace Y:=Y.md E hS
          replace uQ:=uQ.md E;replace M:=M.step E (all_cons Ar all_nil);clear A0 hS;obtain⟨R,V⟩:∃y,y=({m with d:=P}:Wri):=⟨_,rfl⟩;replace h0:Blk _ _ (Wri.cells ({m with d:=P}) (.pointer (some ⟨D,0,none⟩))) _:=h0;rw[← V]at h0;have Ac:Wri.ok R:=(by rw[V];exact⟨a0_0.1,a0_0.2⟩);have Ca:R.waiting=m.waiting:=(by rw[V]);have Cb:R.most=m.most:=(by rw[V]);rw[show P=R.d by rw[V]]at Y;refine nt (ns (mv rfl (sn rfl (sf rfl off102_4 (sl (u:=(.int .i64 R.waiting)) rfl one3 h0 rfl ?_)))));have Ci:R.waiting<9223372036854775808:=Ac.2;refine st _ (r_addN (a:=R.waiting) (b:=1) 9223372036854775808 rfl rfl rfl (by omega)) (sn rfl (sf rfl off102_4 (st_store rfl rfl one3 rfl h0 (ly rfl) ?_)));have A0:=h0;clear h0;intro Cn E h0;have hS:∀b∈[b0],¬Al b:=(by intro b N;simp at N;subst N;exact H);replace Y:=Y.md E hS;replace uQ:=uQ.md E;replace M:=M.step E (all_cons Ar all_nil);clear A0 hS;obtain⟨Af,Z⟩:∃y,y=({R with waiting:=R.waiting+1}:Wri):=⟨_,rfl⟩;replace h0:Blk _ _ (Wri.cells ({R with waiting:=R.waiting+1}) (.pointer (some ⟨D,0,none⟩))) _:=h0;rw[← Z]at h0;have Ad:Wri.ok Af:=(by rw[Z];exact⟨Ac.1,(by(simp<;>omega))⟩);have Cc:Af.most=R.most:=(by rw[Z]);rw[show R.d=Af.d by rw[Z]]at Y;refine nt (ns (mv rfl (st_call fn25 rfl (wTail_any uQ Af h0 H Ad Y) ?_)));rintro en Co ⟨Ah,rfl,E,Bx,Bj⟩;refine⟨_,rfl,?_⟩;replace Y:=Y.md0 E
          replace h0:=h0.md0 E;replace M:=M.step0 E;refine asg rfl (asg rfl (nt (c_ret ?_)));exact retL (vs:=[(.int .u64 Ah),(.int .i64 ((0:Nat):Int))]) trivial rfl ⟨rfl,rfl,tV⟩ rfl ⟨Ah,0,Af,_,rfl,M,(by assumption),(by omega),h0,n0,Ad,(Y.sub (fun b N _=>v b N)),(by have e8:=Bj;rw[Z,V]at e8;unfold Wri.append;rw[if_neg (by simp[W]),Bl,f];simp only;rw[if_neg (by omega),if_neg (by omega),if_neg (by omega),Z,V,e8])⟩

theorem app_fs (m:Wri) (l:List Pr) (real mono:Nat) (boot:Ly):(m.append l real mono boot).2.2.fs=m.fs:=by
  unfold Wri.append
  repeat' split
  all_goals rfl
section
variable {wb k:Nat} {fp:List Nat} {w:World} {Q:Nat→Prop} {b:Nat} {x:WrS}
theorem xAppend (uQ:Up w Q) (hW:WrO wb k fp w Q b x) {v1:Value} {l:List Pr} (h1:Ls tPr w Q v1 l) (real:Nat) (a2:real<18446744073709551616) (mono:Nat) (a3:mono<18446744073709551616) (boot:Ly) (a4:boot.length=16) (p0:l.length≤1000) (p1:x.wr.waiting≤1000000) (p2:x.wr.okApp l real mono boot) (p3:x.wr.d.b.length≤1000000) :
    Calls Tryz.prog 17 #[.pointer (some ⟨wb,0,none⟩),v1,(.int .u64 real),(.int .u64 mono),.agg (idc boot).toArray] w fun en w'=>∃r0:Nat,∃r1:Nat,en = .returned (.tuple #[(.int .u64 r0),(.int .i64 r1)])∧r0<18446744073709551616∧r1<9223372036854775808∧WrPost wb k fp w Q b w' fun m=>m.fs=x.fs∧x.wr.append l real mono boot=(r0,r1,m.wr):=by
  obtain⟨E,v,rfl,I,F,J,G,rfl,K,L⟩:=hW;refine(wAppend_any uQ x.wr J G K L h1 real a2 mono a3 boot a4 p0 p1 p2 p3).mono ?_;rintro en w' ⟨r0,r1,m,u,rfl,D,P,R,B,M,N,O,H⟩;have C:m.fs=x.wr.fs:=(by have:=app_fs x.wr l real mono boot;rw[H]at this;exact this);refine⟨r0,r1,rfl,P,R,⟨x.fs,m⟩,wb :: E,Q,D.mono fun y A _=>by rw[List.mem_singleton.1 A];simp,⟨fun b h _=>h,fun b h=>h,uQ.md D⟩,fun y A=>.inl A,⟨E,u,rfl,?_,F,B,M,C,N,O⟩,rfl,H⟩;exact I.md D (fun y A B=>F (by rw[List.mem_singleton.1 B]at A;exact A)) (fun y A=>by rw[List.mem_singleton.1 A];exact G)
theorem xCommit (uQ:Up w Q) (hW:WrO wb k fp w Q b x) (p0:k≤90000) (p1:x.wr.name.length≤1000000) (p2:1≤x.wr.d.b.length∧x.wr.d.b.length≤1000000) :
    Calls Tryz.prog 20 #[.pointer (some ⟨wb,0,none⟩)] w fun en w'=>∃r:Nat,en = .returned (.int .i64 r)∧r<9223372036854775808∧WrPost wb (k+4) fp w Q b w' fun m=>m.wr={x.wr with waiting:=if r=0 then 0 else x.wr.waiting}∧∃i j,saveR x.wr.archived x.fs x.wr.name x.wr.d.b i j=(r,m.fs):=by
  obtain⟨X,v,rfl,F,G,H,I,rfl,J,K⟩:=hW;refine(wCommit_any uQ x.wr F H I G J K p0 p1 p2).mono ?_;rintro en w' ⟨r,E,A,D,m,rfl,R,O,P,B,M,N,T,U,V,W,C,L⟩;exact⟨r,rfl,R,⟨E,m⟩,wb :: A,D,O,P,fun y S=>(List.mem_cons.1 S).elim (fun e=>.inl (by simp[e])) (B y),⟨A,_,rfl,M,U,N,T,by show m.fs=_;rw[C],V,W⟩,C,L⟩
theorem xWait (uQ:Up w Q) (hW:WrO wb k fp w Q b x):Calls Tryz.prog 27 #[.pointer (some ⟨wb,0,none⟩)] w fun en w'=>∃r0:Nat,en = .returned (.int .i64 r0)∧Md [] w w'∧r0<9223372036854775808∧x.wr.waiting=r0:=by
  obtain⟨E,v,rfl,F,G,A,B,rfl,C,D⟩:=hW;exact wWait_any uQ x.wr A B C D
theorem xTail (uQ:Up w Q) (hW:WrO wb k fp w Q b x):Calls Tryz.prog 25 #[.pointer (some ⟨wb,0,none⟩)] w fun en w'=>∃r0:Nat,en = .returned (.int .u64 r0)∧Md [] w w'∧r0<18446744073709551616∧x.wr.d.num 9=r0:=by
  obtain⟨E,v,rfl,F,G,A,B,rfl,C,D⟩:=hW;exact wTail_any uQ x.wr A B C D
end


theorem burn_free {f:SFs} (h:f.fuse = -1):burnF f=(0,f):=burn_2 (by omega) (by omega)
theorem may_ok {s:Ly} (h:fnameF s=true):mayF false [s]=0:=by unfold mayF;simp[h]
theorem gtF_none {f:SFs} {s:Ly} (ho:f.off=false) (h:fnameF s=true) (hq:findN f.nodes s=none):gtF f.off f.nodes s=(none,16):=by unfold gtF;rw[ho,may_ok h,hq];rfl
theorem gtF_hit {f:SFs} {s:Ly} {x:SNd} (ho:f.off=false) (h:fnameF s=true) (hq:findN f.nodes s=some x):mayF f.off [s]=0∧findN f.nodes s=some x:=⟨by rw[ho,may_ok h],hq⟩
theorem make_free {f:SFs} {s:Ly} {i j:Nat} (ho:f.off=false) (hf:f.fuse = -1) (hn:fnameF s=true) (hq:findN f.nodes s=none) (ht:(totF f.nodes).1<24):makeR f s i j=(0,{f with nodes:=f.nodes ++ [⟨i,⟨s,true,j⟩,⟨[],[]⟩⟩],pend:=f.pend ++ [⟨0,i,[],none⟩]}) :=
  make_0 (gtF_none ho hn hq) rfl (a:=(totF f.nodes).1) (z:=(totF f.nodes).2) rfl (by omega) (burn_free hf) rfl
theorem dir_free {f:SFs} (ho:f.off=false) (hf:f.fuse = -1):syncDirR f=(0,settleF f):=syncDir_0 (c:=0) (by rw[ho];rfl) rfl (burn_free hf) rfl
theorem outF_none (b s:Ly):∀n,outF b s [] n=b.take (n*512)
  | 0=>by simp[outF]
  | n+1=>by
    rw[outF,outF_none b s n];simp only[List.not_mem_nil,if_false];have hl:(b.take (n*512)).length=min (n*512) b.length:=List.length_take;by_cases h:n*512<b.length
    · have e:secF b n=(b.take ((n+1)*512)).drop (n*512):=by
        unfold secF;rw[Nat.min_eq_left (by omega:n*512≤b.length)];by_cases h2:n*512+512≤b.length
        · rw[Nat.min_eq_left h2,Nat.succ_mul]
        · rw[Nat.min_eq_right (by omega),List.take_of_length_le (Nat.le_refl _),List.take_of_length_le (by omega)]
      have A:(secF b n).length≠0:=(by rw[e,List.length_drop,List.length_take];omega);rw[if_neg A,hl,Nat.min_eq_left (by omega),Nat.sub_self,List.replicate_zero,List.append_nil,e];have:b.take (n*512)=(b.take ((n+1)*512)).take (n*512):=(by rw[List.take_take,Nat.min_eq_left (by omega)]);rw[this,List.take_append_drop]
    · have e:secF b n=[]:=by
        unfold secF;rw[Nat.min_eq_right (by omega:b.length≤n*512),List.drop_of_length_le (by rw[List.length_take];omega)]
      rw[e,if_pos (show([]:Ly).length=0 from rfl),List.take_of_length_le (by omega),List.take_of_length_le (by omega)]
theorem crash_keep {b s:Ly} {keep:List Bool} (h:∀i,i<(dirF b s (secN b s)).length→keep.getD i false=true):crashB b s keep=b:=by
  unfold crashB
  have:lostF (dirF b s (secN b s)) keep (dirF b s (secN b s)).length=[]:=by
    unfold lostF;rw[List.filter_eq_nil_iff.2,List.map_nil];intro i A;rw[h i (List.mem_range.1 A)];simp
  rw[this,outF_none,List.take_of_length_le];unfold secN;omega
theorem crash_same (b:Ly) (keep:List Bool):crashB b b keep=b:=by
  refine crash_keep fun i A=>?_;have:dirF b b (secN b b)=[]:=(by unfold dirF;simp);rw[this]at A;exact absurd A (Nat.not_lt_zero _)
theorem write_free {f:SFs} {s:Ly} {p:Nat} {b:Ly} {j:Nat} {x:SNd} (ho:f.off=false) (hn:fnameF s=true) (hq:findN f.nodes s=some x) (hb:b.length≠0) (hp:p+b.length≤32768) (ht:((totF f.nodes).2:Int)+((max x.fl.b.length (p+b.length):Nat):Int)-(x.fl.b.length:Int)≤f.room) :
    writeR f s (p:Int) b j=if(burnF f).1≠0 then burnF f else(0,{(burnF f).2 with nodes:=updN f.nodes x.id fun z=>{z with no:={z.no with fid:=j},fl:={x.fl with b:=writeF x.fl.b p b}}}):=by
  have B:wrF x.fl (p:Int) b=(0,{x.fl with b:=writeF x.fl.b p b}):=(by rw[wr_ok (by omega) (by omega) hb,Int.toNat_natCast]);have A:¬(0<(((writeF x.fl.b p b).length:Nat):Int)-(x.fl.b.length:Int)∧f.room<((totF f.nodes).2:Int)+((((writeF x.fl.b p b).length:Nat):Int)-(x.fl.b.length:Int))):=(by rw[writeF_len];omega);by_cases hc:(burnF f).1=0
  · rw[if_neg (by simpa using hc)]
    exact write_0 (gtF_hit ho hn hq) B rfl (a:=(totF f.nodes).1) (z:=(totF f.nodes).2) rfl A (c:=(burnF f).1) (m:=(burnF f).2) rfl hc
  · rw[if_pos (by simpa using hc)]
    exact write_b (gtF_hit ho hn hq) B rfl (a:=(totF f.nodes).1) (z:=(totF f.nodes).2) rfl A (c:=(burnF f).1) (m:=(burnF f).2) rfl hc
theorem sync_free {f:SFs} {s:Ly} {x:SNd} (ho:f.off=false) (hf:f.fuse = -1) (hn:fnameF s=true) (hq:findN f.nodes s=some x):syncR f s=(0,{f with nodes:=updN f.nodes x.id fun z=>{z with fl:={b:=x.fl.b,safe:=x.fl.b}}}):=sync_0 (gtF_hit ho hn hq) (burn_free hf) rfl
theorem findN_app (l:List SNd) (x:SNd) (s:Ly) (h:findN l s=none) (h1:x.no.there=true) (h2:x.no.nm=s):findN (l ++ [x]) s=some x:=by
  induction l with
  | nil=>rw[List.nil_append,findN,if_pos ⟨h1,h2⟩]
  | cons y l ih =>
    rw[findN]at h
    split at h
    · cases h
    · rename_i hy;rw[List.cons_append,findN,if_neg hy];exact ih h
theorem totF_one (x:SNd) (h1:x.no.there=true):∀l:List SNd,totF (l ++ [x])=((totF l).1+1,(totF l).2+x.fl.b.length)
  | []=>by simp[totF,h1]
  | y :: l=>by
    rw[List.cons_append,totF,totF_one x h1 l,totF]
    split
    · exact Prod.ext rfl (by simp only;omega)
    · rfl
theorem updN_last {l:List SNd} {x:SNd} {g:SNd→SNd} (h:((l ++ [x]).map (·.id)).Nodup):updN (l ++ [x]) x.id g=l ++ [g x]:=by
  unfold updN;rw[List.map_append,List.map_singleton,if_pos rfl]
  congr 1
  refine(List.map_congr_left fun z A=>?_).trans (List.map_id l);rw[List.map_append,List.nodup_append]at h;exact if_neg (h.2.2 _ (List.mem_map.2 ⟨z,A,rfl⟩) _ (by simp))
theorem findN_memW:∀{l:List SNd} {s:Ly} {x:SNd},findN l s=some x→x∈l∧x.no.there=true∧x.no.nm=s
  | [],_,_,h=>by simp[findN]at h
  | y :: l,s,x,h=>by
    rw[findN]at h
    split at h
    · rename_i hy;cases h;exact⟨by simp,hy⟩
    · obtain⟨h1,h2⟩:=findN_memW h;exact⟨by simp[h1],h2⟩
theorem updN_none {l:List SNd} {i:Nat} {g:SNd→SNd} (h:i∉l.map (·.id)):updN l i g=l:=by
  unfold updN;refine(List.map_congr_left fun z B=>if_neg fun(e:z.id=i)=>h (e ▸ List.mem_map.2 ⟨z,B,rfl⟩)).trans (List.map_id l)
/-- A file that is put anew is found, and counts anew. -/
theorem findN_upd {g:SNd→SNd} (hg:∀z,(g z).no.nm=z.no.nm∧(g z).no.there=z.no.there):∀{l:List SNd} {s:Ly} {x:SNd},(l.map (·.id)).Nodup→findN l s=some x→findN (updN l x.id g) s=some (g x)∧(totF (updN l x.id g)).2+x.fl.b.length=(totF l).2+(g x).fl.b.length∧(totF (updN l x.id g)).1=(totF l).1∧x.fl.b.length≤(totF l).2
  | [],_,_,_,h=>by simp[findN]at h
  | y :: l,s,x,hn,h=>by
    rw[List.map_cons,List.nodup_cons]at hn;rw[findN]at h
    split at h
    · rename_i hy
      cases h
      have e:updN (y :: l) y.id g=g y :: l:=by
        have:=updN_none (g:=g) hn.1;unfold updN at this ⊢;rw[List.map_cons,if_pos rfl,this]
      rw[e,findN,if_pos ⟨by rw[(hg y).2];exact hy.1,by rw[(hg y).1];exact hy.2⟩,totF,totF,if_pos hy.1,if_pos (by rw[(hg y).2];exact hy.1)];exact⟨rfl,by simp only;omega,rfl,by simp only;omega⟩
    · rename_i hy
      obtain⟨B,C,D,E⟩:=findN_upd hg hn.2 h;have A:y.id≠x.id:=fun e=>hn.1 (e ▸ List.mem_map.2 ⟨x,(findN_memW h).1,rfl⟩);have e:updN (y :: l) x.id g=y :: updN l x.id g:=(by unfold updN;rw[List.map_cons,if_neg A]);rw[e,findN,if_neg hy,totF,totF];refine⟨B,?_⟩
      split
      · simp only;omega
      · exact⟨C,D,E⟩
theorem write_ids (f:SFs) (s:Ly) (p:Int) (b:Ly) (j:Nat):(writeR f s p b j).2.nodes.map (·.id)=f.nodes.map (·.id):=by
  have A:=(burn_same f).1;unfold writeR
  split
  · rfl
  · split
    · rfl
    · split
      · rfl
      · split
        · rfl
        · split
          · rw[A]
          · exact updN_ids fun _=>rfl
theorem sync_ids (f:SFs) (s:Ly):(syncR f s).2.nodes.map (·.id)=f.nodes.map (·.id):=by
  have A:=(burn_same f).1;unfold syncR
  split
  · rfl
  · split
    · rfl
    · split
      · rw[A]
      · exact updN_ids fun _=>rfl
theorem stepW_ids (p:Nat × SFs) (g:SFs→Nat × SFs) (h:∀m,(g m).2.nodes.map (·.id)=m.nodes.map (·.id)):(stepW p g).2.nodes.map (·.id)=p.2.nodes.map (·.id):=by
  unfold stepW;split;rfl;exact h _
theorem free_pos {f:SFs} (ho:f.off=false) {n:Int} (hn:0<n):n≤freeF f↔n≤f.room-((totF f.nodes).2:Int):=by
  unfold freeF;rw[ho];simp only[Bool.false_eq_true,if_false];split <;> omega
/-- A file is made, with these bytes, or is not. -/
theorem create_fs {f f':SFs} {s B:Ly} {i j q r:Nat} (e:createR f s B i j q=(r,f')) (ho:f.off=false) (hf:f.fuse = -1) (hs:fnameF s=true) (hn:(f'.nodes.map (·.id)).Nodup) (hB:1≤B.length∧B.length≤32768) :
    (freeF f<(B.length:Int)→r=15∧f'=f)∧((B.length:Int)≤freeF f→((∃x,findN f.nodes s=some x)→r=17∧f'=f)∧(findN f.nodes s=none→(totF f.nodes).1<24→r=0∧∃z:SNd,z.no.nm=s∧z.no.there=true∧z.fl=⟨B,B⟩∧f'={f with nodes:=f.nodes ++ [z],pend:=f.pend ++ [⟨0,z.id,[],none⟩]})):=by
  unfold createR at e;rw[if_neg (by rw[ho];simp)]at e;refine⟨fun h=>?_,fun h=>⟨fun⟨x,F⟩=>?_,fun F L=>?_⟩⟩
  · rw[if_pos h]at e;cases e;exact⟨rfl,rfl⟩
  · rw[if_neg (by omega),make_17 (gtF_0 (gtF_hit ho hs F)) rfl,stepW_c (stepW_c rfl (by decide)) (by decide)]at e
    cases e;exact⟨rfl,rfl⟩
  · rw[if_neg (by omega),make_free ho hf hs F L]at e
    have P:=(free_pos ho (by omega)).1 h
    generalize hz:(⟨i,⟨s,true,j⟩,⟨[],[]⟩⟩:SNd)=z at e;have C:z.id=i∧z.no.nm=s∧z.no.there=true∧z.fl=⟨[],[]⟩:=(by rw[← hz];exact⟨rfl,rfl,rfl,rfl⟩);have K:=C.1;rw[← K]at e
    generalize hm:({f with nodes:=f.nodes ++ [z],pend:=f.pend ++ [⟨0,z.id,[],none⟩]}:SFs)=m at e;have A:m.nodes=f.nodes ++ [z]∧m.off=false∧m.fuse = -1∧m.room=f.room:=(by rw[← hm];exact⟨rfl,ho,hf,rfl⟩)
    have M:(m.nodes.map (·.id)).Nodup:=by
      have I:=stepW_ids (stepW ((0:Nat),m) fun m=>writeR m s 0 B q) (fun m=>syncR m s) fun m=>sync_ids m s;rw[e,stepW_ids _ _ fun m=>write_ids m s 0 B q]at I;rw[← I];exact hn
    have J:findN m.nodes s=some z:=(by rw[A.1];exact findN_app _ _ _ F C.2.2.1 C.2.1);have N:(totF m.nodes).2=(totF f.nodes).2:=(by rw[A.1,totF_one z C.2.2.1,C.2.2.2];rfl);have G:=write_free (j:=q) (p:=0) (b:=B) A.2.1 hs J (by omega) (by omega) (by rw[N,A.2.2.2,C.2.2.2];simp only[List.length_nil];omega);rw[burn_free A.2.2.1]at G;simp only[ne_eq,not_true_eq_false,if_false]at G;have H:writeF z.fl.b 0 B=B:=(by rw[C.2.2.2];unfold writeF;simp);rw[H]at G;rw[stepW_0 ((stepW_0 rfl).trans G)]at e;have E:=M;rw[A.1]at E;have O:updN m.nodes z.id (fun y=>{y with no:={y.no with fid:=q},fl:={z.fl with b:=B}})=f.nodes ++ [{z with no:={z.no with fid:=q},fl:={z.fl with b:=B}}]:=(by rw[A.1];exact updN_last E);rw[O]at e
    generalize hy:({z with no:={z.no with fid:=q},fl:={z.fl with b:=B}}:SNd)=y at e;have D:y.id=z.id∧y.no.nm=s∧y.no.there=true∧y.fl.b=B:=(by rw[← hy];exact⟨rfl,C.2.1,C.2.2.1,rfl⟩);rw[sync_free (f:={m with nodes:=f.nodes ++ [y]}) (x:=y) A.2.1 A.2.2.1 hs (findN_app _ _ _ F D.2.2.1 D.2.1)]at e;simp only at e;rw[updN_last (by rw[List.map_append,List.map_singleton,D.1];rw[List.map_append,List.map_singleton]at E;exact E)]at e
    cases e
    refine⟨rfl,{y with fl:={b:=y.fl.b,safe:=y.fl.b}},D.2.1,D.2.2.1,by rw[D.2.2.2],?_⟩;rw[← hm];simp only[D.1]
theorem updN_comp {l:List SNd} {i:Nat} {g h:SNd→SNd} (hg:∀z,(g z).id=z.id):updN (updN l i g) i h=updN l i fun z=>h (g z):=by
  unfold updN;rw[List.map_map];refine List.map_congr_left fun z _=>?_;simp only[Function.comp_apply];by_cases e:z.id=i
  · rw[if_pos e,if_pos (by rw[hg];exact e),if_pos e]
  · rw[if_neg e,if_neg e,if_neg e]
theorem write_ok {f:SFs} {s:Ly} {p:Nat} {b:Ly} {j:Nat} {x:SNd} (ho:f.off=false) (hf:f.fuse = -1) (hn:fnameF s=true) (hq:findN f.nodes s=some x) (hp:p+b.length≤32768) (ht:x.fl.b.length<p+b.length→((totF f.nodes).2:Int)+((p+b.length:Nat):Int)-(x.fl.b.length:Int)≤f.room) :
    writeR f s (p:Int) b j=(0,{f with nodes:=updN f.nodes x.id fun z=>{z with no:={z.no with fid:=j},fl:={x.fl with b:=if b.length=0 then x.fl.b else writeF x.fl.b p b}}}):=by
  by_cases hb:b.length=0
  · rw[if_pos hb]
    exact write_0 (gtF_hit ho hn hq) (wr_0 (by omega) (by omega) hb) rfl (a:=(totF f.nodes).1) (z:=(totF f.nodes).2) rfl (by show ¬(0<((x.fl.b.length:Nat):Int)-_∧_);omega) (burn_free hf) rfl
  · rw[if_neg hb]
    refine write_0 (gtF_hit ho hn hq) (y:={x.fl with b:=writeF x.fl.b p b}) (by rw[wr_ok (by omega) (by omega) hb,Int.toNat_natCast]) rfl (a:=(totF f.nodes).1) (z:=(totF f.nodes).2) rfl ?_ (burn_free hf) rfl;simp only[writeF_len];omega
/-- What stands in the file is put anew, in two parts. -/
theorem save_fs {f f':SFs} {s x:Ly} {i j r:Nat} {z:SNd} (e:saveR false f s x i j=(r,f')) (ho:f.off=false) (hf:f.fuse = -1) (hs:fnameF s=true) (nd:(f.nodes.map (·.id)).Nodup) (hz:findN f.nodes s=some z) (hx:1≤x.length∧x.length≤32768) (hl:z.fl.b.length≤x.length) :
    (freeF f<(x.length:Int)-(z.fl.b.length:Int)→r=15∧f'=f)∧((x.length:Int)-(z.fl.b.length:Int)≤freeF f→r=0∧f'={f with nodes:=updN f.nodes z.id fun y=>{y with no:={y.no with fid:=j},fl:=⟨x,x⟩}}):=by
  have B:lenF f.off f.nodes s=(z.fl.b.length,0):=lenF_in (gtF_hit ho hs hz) rfl;unfold saveR at e;rw[if_neg (by simp),B]at e;simp only[ne_eq,not_true_eq_false,if_false]at e;refine⟨fun h=>?_,fun h=>?_⟩
  · rw[if_pos h]at e;cases e;exact⟨rfl,rfl⟩
  · rw[if_neg (by omega)]at e
    have N:z.fl.b.length<x.length→((totF f.nodes).2:Int)+(x.length:Int)-(z.fl.b.length:Int)≤f.room:=fun F=>by have:=(free_pos ho (by omega)).1 h;omega
    unfold saveW at e
    generalize hp:min 512 x.length=p at e;have g:(x.drop p).length=x.length-p:=List.length_drop;have I:(x.take p).length=p:=(by rw[List.length_take];omega)
    -- the first part
    have L:=write_ok (j:=i) (p:=p) (b:=x.drop p) ho hf hs hz (by omega) (fun F=>by have:=N (by omega);omega)
    generalize hb1:(if(x.drop p).length=0 then z.fl.b else writeF z.fl.b p (x.drop p))=b1 at L
    have A:b1.length≤x.length∧z.fl.b.length≤b1.length∧b1.drop p=x.drop p:=by
      subst hb1
      split
      · exact⟨hl,Nat.le_refl _,by rw[List.drop_of_length_le (by omega),List.drop_of_length_le (by omega)]⟩
      · rename_i hne
        refine⟨by rw[writeF_len];omega,by rw[writeF_len];omega,?_⟩;unfold writeF;have U:((z.fl.b ++ List.replicate (p+(x.drop p).length-z.fl.b.length) 0).take p).length=p:=(by rw[List.length_take,List.length_append,List.length_replicate];omega);have H:(z.fl.b ++ List.replicate (p+(x.drop p).length-z.fl.b.length) 0).drop (p+(x.drop p).length)=[]:=List.drop_of_length_le (by rw[List.length_append,List.length_replicate];omega);rw[List.append_assoc,List.drop_left' U,H,List.append_nil]
    generalize hg1:(fun y:SNd=>({y with no:={y.no with fid:=i},fl:={z.fl with b:=b1}}:SNd))=g1 at L;have D:∀y,(g1 y).id=y.id:=fun y=>by rw[← hg1]
    have P:∀y,(g1 y).no.nm=y.no.nm∧(g1 y).no.there=y.no.there:=fun y=>by rw[← hg1];exact⟨rfl,rfl⟩
    have S:(g1 z).fl.b=b1:=(by rw[← hg1]);obtain⟨Y,k,_,l⟩:=findN_upd P nd hz;have d:((updN f.nodes z.id g1).map (·.id)).Nodup:=(by rw[updN_ids D];exact nd);have E:=sync_free (f:={f with nodes:=updN f.nodes z.id g1}) (s:=s) (x:=g1 z) ho hf hs Y;simp only at E;rw[D z,updN_comp D]at E
    generalize hg2:(fun y:SNd=>({g1 y with fl:={b:=(g1 z).fl.b,safe:=(g1 z).fl.b}}:SNd))=g2 at E;have W:partW f s p (x.drop p) i=(0,{f with nodes:=updN f.nodes z.id g2}):=(by unfold partW;rw[stepW_0 L];exact E);rw[stepW_0 W]at e;have J:∀y,(g2 y).id=y.id:=fun y=>by rw[← hg2];exact D y
    have Q:∀y,(g2 y).no.nm=y.no.nm∧(g2 y).no.there=y.no.there:=fun y=>by rw[← hg2];exact P y
    have M:(g2 z).fl.b=b1:=(by rw[← hg2];exact S);obtain⟨Z,a,_,n⟩:=findN_upd Q nd hz
    -- the second part
    have C:=write_ok (f:={f with nodes:=updN f.nodes z.id g2}) (j:=j) (p:=0) (b:=x.take p) (x:=g2 z) ho hf hs Z (by omega) (fun F=>by rw[M]at F a ⊢;simp only;have:=N (by omega);omega);simp only at C;rw[J z,updN_comp J,if_neg (by omega),M]at C
    have G:writeF b1 0 (x.take p)=x:=by
      unfold writeF;rw[List.take_zero,List.nil_append,Nat.zero_add,I];by_cases h9:p≤b1.length
      · rw[show p-b1.length=0 by omega,List.replicate_zero,List.append_nil,A.2.2,List.take_append_drop]
      · have R:x.drop p=[]:=by rw[← A.2.2];exact List.drop_of_length_le (by omega)
        rw[List.drop_of_length_le (by rw[List.length_append,List.length_replicate];omega),← R,List.take_append_drop]
    rw[G]at C
    generalize hg3:(fun y:SNd=>({g2 y with no:={(g2 y).no with fid:=j},fl:={(g2 z).fl with b:=x}}:SNd))=g3 at C;have O:∀y,(g3 y).id=y.id:=fun y=>by rw[← hg3];exact J y
    have V:∀y,(g3 y).no.nm=y.no.nm∧(g3 y).no.there=y.no.there:=fun y=>by rw[← hg3];exact Q y
    have T:(g3 z).fl.b=x:=(by rw[← hg3]);obtain⟨c,_⟩:=findN_upd V nd hz;have K:=sync_free (f:={f with nodes:=updN f.nodes z.id g3}) (s:=s) (x:=g3 z) ho hf hs c;simp only at K;rw[O z,updN_comp O,T]at K;have X:partW {f with nodes:=updN f.nodes z.id g2} s 0 (x.take p) j=(0,{f with nodes:=updN f.nodes z.id fun y=>{g3 y with fl:={b:=x,safe:=x}}}):=(by unfold partW;rw[stepW_0 C];exact K);rw[X]at e
    cases e
    refine⟨rfl,?_⟩
    congr 1
    congr 1
    funext y;rw[← hg3,← hg2,← hg1]

end Go.Proofs.YtfadcpfgenjbeaaGreat
namespace Go.Wk
open Go Go.RowKit
/-- The head's bytes are the document's. -/
theorem putH_headF {p:PHead} {h:RHead} {depth:Nat} (hd:(p.compat,p.incompat,p.state,p.file,p.machine,p.boot,p.seq,p.tailArray,p.tailItems,p.tailEntry)=(h.compat,h.incompat,h.state,h.file,h.machine,h.boot,h.seq,h.tailArray,h.tailItems,h.tailEntry)) (hn:p.n=h.n ++ [depth]):putH p=headF h depth:=by
  simp only[Prod.mk.injEq]at hd
  obtain⟨B,C,D,E,F,G,H,I,J,A⟩:=hd
  unfold putH headF signF
  rw[B,C,D,E,F,G,H,I,J,A,hn,nums_appW]
  simp only[nums,List.append_assoc,List.append_nil]
set_option maxRecDepth 100000 in
theorem blank_image {c:Cfg} {t:Nat} (ok:Cfg.ok c) (h:1≤c.dataSlots∧c.dataSlots≤64∧1≤c.fieldSlots∧c.fieldSlots≤64) :
    (blankF c t).b=imageM (newMk c t) 1∧(blankF c t).b.length=304+16*c.dataSlots+16*c.fieldSlots:=by
  have B:=(putTableF_lenA 4 (List.replicate c.dataSlots ({first:=0,tail:=0}:Slt))).2 (.inl rfl)
  have C:=(putTableF_lenA 5 (List.replicate c.fieldSlots ({first:=0,tail:=0}:Slt))).2 (.inr rfl)
  rw[List.length_replicate]at B C
  have A:(blankF c t).b=imageM (newMk c t) 1:=by
    unfold blankF newMk imageM
    generalize putTableF 4 (List.replicate c.dataSlots ({first:=0,tail:=0}:Slt))=T4
    generalize putTableF 5 (List.replicate c.fieldSlots ({first:=0,tail:=0}:Slt))=T5
    have A:∀(x y:Ly),x=y→∀z:List UInt8,x ++ z=y ++ z:=fun x y h z=>by rw[h]
    exact A _ _ (putH_headF rfl rfl) _
  refine⟨A,?_⟩
  rw[A]
  unfold imageM newMk headF
  simp only[List.length_append,List.length_drop,List.length_replicate,low_len,nums_len,List.length_cons,List.length_nil,List.length_set,ok.1,ok.2.1,ok.2.2.1]
  omega
theorem newMk_b {c:Cfg} {t:Nat}:272≤(newMk c t).b.length∧(newMk c t).b.length≤320+16*c.dataSlots+16*c.fieldSlots:=by
  have A:=(putTableF_lenA 4 (List.replicate c.dataSlots ({first:=0,tail:=0}:Slt))).1
  have B:=(putTableF_lenA 5 (List.replicate c.fieldSlots ({first:=0,tail:=0}:Slt))).1
  rw[List.length_replicate]at A B
  unfold newMk
  simp only[List.length_append,List.length_replicate]
  omega
end Go.Wk
namespace Go.Proofs.YtfadcpfgenjbeaaGreat
open Go Go.Wk Go.RowKit
set_option linter.unusedVariables false
set_option linter.unusedSimpArgs false
attribute [local irreducible] wpList wpQuiet wpStill wpMix Code.wp Calls bodyPost

/-- The configuration of no choices, a journal of it, one pair. -/
def cfg0:Cfg:={file:=idF 0,machine:=idF 0,seq:=idF 0,dataSlots:=1,fieldSlots:=1,most:=32768,keyed:=false}
theorem cfg0_of:((Sq.mk [] 0).config).1=cfg0:=rfl
theorem cfg0_ok:Cfg.ok cfg0:=by unfold Cfg.ok;decide
def prA:Pr:={name:=[65],value:=[49]}
instance (d:Drf) (a b:Nat) (t:Ly) (k:Nat):Decidable (Drf.okL d a b t k):=by unfold Drf.okL;infer_instance
instance (d:Drf) (x:Pr):Decidable (Drf.okDat d x):=by unfold Drf.okDat;infer_instance
instance (d:Drf) (a n:Nat):Decidable (Drf.okList d a n):=by unfold Drf.okList;infer_instance
def fD0:Drf:=blankF cfg0 4
def fIt:Itm:=(fD0.data prA.name (joinF prA).1).1
def fD1:Drf:=(fD0.data prA.name (joinF prA).1).2
def fE0:Ent:={seq:=5,real:=1,mono:=1,boot:=idZ,xor:=0,items:=[]}
def fE1:Ent:={seq:=5,real:=1,mono:=1,boot:=idZ,xor:=xorF 0 [(joinF prA).1],items:=[fIt]}
def fAd:Nat × Drf:=fD1.add (putEntryF fE1)
def fD3:Drf:=fAd.2.link fAd.1 [fIt]
def fD4:Drf:=fD3.mark fAd.1 5 1 1 idZ
theorem sortI_one (x:Itm):sortI [x]=[x]:=by simp[sortI]
theorem dataL_one (x:Pr) (d:Drf):Drf.dataL [x] d []=([(d.data x.name (joinF x).1).1],(d.data x.name (joinF x).1).2):=by
  generalize h:d.data x.name (joinF x).1=y;obtain⟨i,A⟩:=y;unfold Drf.dataL;rw[h];rfl
theorem fir_dataL:Drf.dataL [prA] fD0 []=([fIt],fD1):=dataL_one prA fD0
theorem fir_ent:Drf.entOf fE0 [prA] [fIt]=fE1:=by unfold Drf.entOf;rw[sortI_one];rfl
theorem okLinkL_one {p:Nat} {x:Itm} {d:Drf} (h:x.pos+64≤d.b.length∧(at8 d.b (x.pos+56)≠0→d.okList (x.pos+48) (at8 d.b (x.pos+56)-1))∧at8 d.b (x.pos+56)≤1000000∧d.b.length≤800000∧d.h.n.getD 0 0≤d.b.length):Drf.okLinkL p [x] d:=⟨h,tV⟩
theorem fir_a:fD0.okDat prA:=by decide +kernel
theorem fir_b:fD1.b.length≤700000∧fD1.h.n.getD 0 0≤fD1.b.length:=by decide +kernel
theorem fir_c:(fAd.2.okList 176 (fAd.2.num 8)∧184≤fAd.2.b.length)∧(let z:=(fAd.2.list 176 (fAd.2.num 8) fAd.1).2.2.linkH (fAd.2.list 176 (fAd.2.num 8) fAd.1).1 (fAd.2.list 176 (fAd.2.num 8) fAd.1).2.1;fIt.pos+64≤z.b.length∧(at8 z.b (fIt.pos+56)≠0→z.okList (fIt.pos+48) (at8 z.b (fIt.pos+56)-1))∧at8 z.b (fIt.pos+56)≤1000000∧z.b.length≤800000∧z.h.n.getD 0 0≤z.b.length):=by decide +kernel
theorem fir_d:fAd.2.b.length≤800000∧fAd.2.h.n.getD 0 0≤fAd.2.b.length∧fAd.2.h.n.getD 8 0≤1000000∧272≤(fAd.2.link fAd.1 [fIt]).b.length∧(fAd.2.link fAd.1 [fIt]).b.length≤1000000∧(fAd.2.link fAd.1 [fIt]).h.state<256:=by decide +kernel
theorem fir_e:fD4.num 9=5∧fD4.b.length≤32768∧fD0.b.length≤fD4.b.length∧fD0.num 9=4∧fD0.b.length=336:=by decide +kernel
theorem fir_f:336<fD4.b.length:=by decide +kernel
theorem fD0_def:blankF cfg0 4=fD0:=rfl
attribute [local irreducible] fD0 fIt fD1 fAd fD3 fD4 Drf.link Drf.add Drf.linkH Drf.list
theorem fAd_def:fD1.add (putEntryF fE1)=fAd:=by unfold fAd;rfl
theorem fir_mk (r:Nat × Drf):(match r with|(p,d2)=>(d2.link p [fIt]).mark p fE0.seq fE0.real fE0.mono fE0.boot)=(r.2.link r.1 [fIt]).mark r.1 5 1 1 idZ:=by obtain⟨p,d2⟩:=r;rfl
theorem fir_entry:fD0.entry [prA] fE0=fD4:=by unfold Drf.entry;rw[fir_dataL];simp only;rw[fir_ent,fAd_def,sortI_one];refine(fir_mk fAd).trans ?_;unfold fD4 fD3;rfl
theorem fir_k:fAd.2.okLink fAd.1 [fIt]:=by unfold Drf.okLink;exact⟨fir_c.1.1,fir_c.1.2,okLinkL_one fir_c.2⟩
theorem fir_key (r:Nat × Drf) (h:r.2.okLink r.1 [fIt]) (k:r.2.b.length≤800000∧r.2.h.n.getD 0 0≤r.2.b.length∧r.2.h.n.getD 8 0≤1000000∧272≤(r.2.link r.1 [fIt]).b.length∧(r.2.link r.1 [fIt]).b.length≤1000000∧(r.2.link r.1 [fIt]).h.state<256) :
    (match r with|(p,d2)=>d2.okLink p [fIt]∧d2.b.length≤800000∧d2.h.n.getD 0 0≤d2.b.length∧d2.h.n.getD 8 0≤1000000∧272≤(d2.link p [fIt]).b.length∧(d2.link p [fIt]).b.length≤1000000∧(d2.link p [fIt]).h.state<256):=by
  obtain⟨p,d2⟩:=r;exact⟨h,k⟩
theorem fir_okEnt:fD0.okEnt [prA] fE0:=by
  refine⟨⟨fir_a,tV⟩,?_,?_⟩
  · rw[fir_dataL];simp
  · rw[fir_dataL]
    simp only;rw[fir_ent,sortI_one];rw[fAd_def];exact⟨fir_b.1,fir_b.2,fir_key fAd fir_k fir_d⟩
theorem fir_list:plistF [prA]=([prA],0):=by
  have e:packF [prA]=[prA]:=(by unfold packF sortF;rw[List.mergeSort_singleton];rfl);unfold plistF packE;rw[if_neg (by decide),e];rfl
def fWr (b:Nat) (s:Ly) (d:Drf) (n:Nat):Wri:={fs:=b,name:=s,most:=32768,d:=d,waiting:=n,archived:=false}
theorem fir_app0 (b:Nat) (s:Ly):(fWr b s fD0 0).append [] 1 1 idZ=(0,16,fWr b s fD0 0):=by
  unfold Wri.append;rw[if_neg (by simp[fWr]),show plistF []=([],16)from rfl];simp only;rw[if_pos (by decide)]
theorem fir_ok0 (b:Nat) (s:Ly):(fWr b s fD0 0).okApp [] 1 1 idZ:=fun _ h=>by rw[show plistF []=([],16)from rfl]at h;simp at h
theorem fir_app1 (b:Nat) (s:Ly):(fWr b s fD0 0).append [prA] 1 1 idZ=(5,0,fWr b s fD4 1):=by
  have e:=fir_e;unfold Wri.append;rw[if_neg (by simp[fWr]),fir_list];simp only;have A:(fWr b s fD0 0).entE 1 1 idZ=fE0:=(by unfold Wri.entE fE0;show({seq:=fD0.num 9+1,..}:Ent)=_;rw[e.2.2.2.1]);rw[if_neg (by simp),A,show(fWr b s fD0 0).d=fD0 from rfl,fir_entry,if_neg (by omega),if_neg (by show ¬32768<_;omega),e.1]
  rfl
theorem fir_ok1 (b:Nat) (s:Ly):(fWr b s fD0 0).okApp [prA] 1 1 idZ:=fun _ _ _=>by
  have e:=fir_e;rw[fir_list];have en:(fWr b s fD0 0).entE 1 1 idZ=fE0:=(by unfold Wri.entE fE0;show({seq:=fD0.num 9+1,..}:Ent)=_;rw[e.2.2.2.1]);rw[en];exact⟨fir_okEnt,by decide,by decide⟩
theorem fWr_def (b:Nat) (s:Ly) (d:Drf) (n:Nat):({fs:=b,name:=s,most:=cfg0.most,d:=d,waiting:=n,archived:=false}:Wri)=fWr b s d n:=rfl
theorem fWr_c (b:Nat) (s:Ly) (d:Drf) (n:Nat):(fWr b s d n).fs=b∧(fWr b s d n).name=s∧(fWr b s d n).d=d∧(fWr b s d n).waiting=n∧(fWr b s d n).archived=false∧(fWr b s d n).most=32768:=⟨rfl,rfl,rfl,rfl,rfl,rfl⟩

theorem off29_0:fieldOff Tryz.prog 29 0=some 0:=by kernel_rfl
theorem off29_1:fieldOff Tryz.prog 29 1=some 16:=by kernel_rfl
theorem off29_2:fieldOff Tryz.prog 29 2=some 32:=by kernel_rfl
theorem off29_3:fieldOff Tryz.prog 29 3=some 48:=by kernel_rfl
theorem off29_4:fieldOff Tryz.prog 29 4=some 49:=by kernel_rfl
theorem off29_5:fieldOff Tryz.prog 29 5=some 50:=by kernel_rfl
theorem off29_6:fieldOff Tryz.prog 29 6=some 51:=by kernel_rfl
theorem pl41:bplace Tryz.prog 41=some [(0,16),(16,16),(32,16),(48,1),(49,1),(50,1),(51,1)]:=by kernel_rfl
theorem z41:zcells Tryz.prog 41=some (List.replicate 48 (.int .u8 0) ++ ([.int .i64 0,.int .i64 0,.int .i64 0,.bool false])):=by kernel_rfl

theorem lConf_any {w:World} {Q:Nat→Prop} (uQ:Up w Q) (c:Cfg) (a0_0:Cfg.ok c) :
    Calls Tryz.prog 13 #[.agg (Cfg.cells c).toArray] w fun en w'=>∃r0:Cfg,en = .returned (.agg (Cfg.cells r0).toArray)∧Md [] w w'∧Cfg.ok r0∧c=r0:=by
  have M:=Md.refl [] w;have X:=uQ;refine enter (n:=18) Tryz.func13 rfl rfl rfl ?_;intro B;refine ns (st_box (cs:=(Cfg.cells c)) rfl rfl ?_);intro L g F T E A;have O:=uQ _ F;replace F:=lQ M.size F;replace uQ:=uQ.md E;replace M:=M.step0 E;refine st_alloc z41 ?_;intro H h D N E C;have K:L≠H:=(by have:=A.lt;omega);obtain⟨Z,V,W,P,J⟩:=exQ uQ D N E;replace D:=lQ M.size D;replace A:=A.md0 E;replace uQ:=uQ.md E;replace M:=M.step0 E;replace uQ:=J;clear J V W;have G:Fsh [] w H:=.inr D;replace C:Blk _ _ (Cfg.cells (({file:=idZ,machine:=idZ,seq:=idZ,dataSlots:=0,fieldSlots:=0,most:=0,keyed:=false}:Cfg))) _:=C;have R:Cfg.ok (({file:=idZ,machine:=idZ,seq:=idZ,dataSlots:=0,fieldSlots:=0,most:=0,keyed:=false}:Cfg)):=(by exact⟨rfl,rfl,rfl,(by decide),(by decide),(by decide)⟩);refine nt (ns (sf rfl off29_0 (st _ (r_loadPart (idc c.file) rfl (by exact agg27) A rfl) ?_)));have a:c.file.length=16:=a0_0.1;refine sf rfl off29_1 (st _ (r_loadPart (idc c.machine) rfl (by exact agg27) A rfl) ?_);have b:c.machine.length=16:=a0_0.2.1;refine sf rfl off29_2 (st _ (r_loadPart (idc c.seq) rfl (by exact agg27) A rfl) ?_);have d:c.seq.length=16:=a0_0.2.2.1;refine sf rfl off29_3 (sl (u:=(.int .i64 c.dataSlots)) rfl one3 A rfl ?_);have e:c.dataSlots<9223372036854775808:=a0_0.2.2.2.1;refine sf rfl off29_4 (sl (u:=(.int .i64 c.fieldSlots)) rfl one3 A rfl ?_)
  have f:c.fieldSlots<9223372036854775808:=a0_0.2.2.2.2.1;refine sf rfl off29_5 (sl (u:=(.int .i64 c.most)) rfl one3 A rfl ?_);have U:c.most<9223372036854775808:=a0_0.2.2.2.2.2;refine sf rfl off29_6 (sl (u:=(.bool c.keyed)) rfl one4 A rfl (st _ (r_buildG (us:=[(idc c.file),(idc c.machine),(idc c.seq),[(.int .i64 c.dataSlots)],[(.int .i64 c.fieldSlots)],[(.int .i64 c.most)],[(.bool c.keyed)]]) (cs:=(Cfg.cells (({file:=c.file,machine:=c.machine,seq:=c.seq,dataSlots:=c.dataSlots,fieldSlots:=c.fieldSlots,most:=c.most,keyed:=c.keyed}:Cfg)))) [(0,0,16),(1,16,16),(2,32,16),(3,48,1),(4,49,1),(5,50,1),(6,51,1)] z41 pl41 rfl rfl ⟨rfl,rfl,rfl,rfl,rfl,rfl,rfl,tV⟩ ⟨rfl,rfl,rfl,rfl,rfl,rfl,rfl,tV⟩ rfl (by simp[splices,splice,idc,Cfg.cells])) (st_storeAgg (us:=(Cfg.cells (({file:=c.file,machine:=c.machine,seq:=c.seq,dataSlots:=c.dataSlots,fieldSlots:=c.fieldSlots,most:=c.most,keyed:=c.keyed}:Cfg)))) rfl rfl (by exact agg41) (by exact fun u S=>one_cells (Cfg.one) u S) C (ly rfl) ?_)));have I:=C;clear C;intro Y E C;replace M:=M.step E (all_cons G all_nil);clear I;replace C:Blk _ _ (Cfg.cells (({file:=c.file,machine:=c.machine,seq:=c.seq,dataSlots:=c.dataSlots,fieldSlots:=c.fieldSlots,most:=c.most,keyed:=c.keyed}:Cfg))) _:=C;refine nt (c_ret ?_);exact ret1L (v:=(.agg (Cfg.cells (({file:=c.file,machine:=c.machine,seq:=c.seq,dataSlots:=c.dataSlots,fieldSlots:=c.fieldSlots,most:=c.most,keyed:=c.keyed}:Cfg))).toArray)) trivial rfl ⟨⟨_,rfl,load_agg (cs:=(Cfg.cells (({file:=c.file,machine:=c.machine,seq:=c.seq,dataSlots:=c.dataSlots,fieldSlots:=c.fieldSlots,most:=c.most,keyed:=c.keyed}:Cfg)))) (by exact agg41) C⟩,tV⟩ ⟨(({file:=c.file,machine:=c.machine,seq:=c.seq,dataSlots:=c.dataSlots,fieldSlots:=c.fieldSlots,most:=c.most,keyed:=c.keyed}:Cfg)),rfl,M,(by assumption),rfl⟩
theorem fn47:isFn Tryz.prog 47=true:=by kernel_rfl
theorem agg29:isAggN Tryz.prog 29 52=true:=by kernel_rfl
theorem pl29:bplace Tryz.prog 29=some [(0,16),(16,16),(32,16),(48,1),(49,1),(50,1),(51,1)]:=by kernel_rfl
theorem z29:zcells Tryz.prog 29=some (List.replicate 48 (.int .u8 0) ++ ([.int .i64 0,.int .i64 0,.int .i64 0,.bool false])):=by kernel_rfl

theorem kConfig_any {w:World} {Q:Nat→Prop} (uQ:Up w Q) {b0:Nat} {v0_0:Value} (s:Sq) (h0:Blk w b0 (Sq.cells s v0_0) 33) (n0:¬Q b0) (a0_0:Sq.ok s) (a0_1:Ls tInt w Q v0_0 s.l) :
    Calls Tryz.prog 9 #[.pointer (some ⟨b0,0,none⟩)] w fun en w'=>∃r0:Cfg,∃m0:Sq,∃u50_0:Value,en = .returned (.agg (Cfg.cells r0).toArray)∧Md [b0] w w'∧Cfg.ok r0∧Blk w' b0 (Sq.cells m0 u50_0) 33∧¬Q b0∧Sq.ok m0∧Ls tInt w' Q u50_0 m0.l∧s.config=(r0,m0):=by
  have C:=n0;have R:Fsh [b0] w b0:=.inl (by simp);have M:=Md.refl [b0] w;have Bv:=uQ;have tQ:∀b,Q b→Q b:=fun _ h=>h;refine enter (n:=22) Tryz.func9 rfl rfl rfl ?_;intro B;refine ns (st_alloc z29 ?_);intro S w1 Ag Bf E D;have Bb:b0≠S:=(by have:=h0.lt;omega);obtain⟨Q2,sQ,sT,Av,A7⟩:=exQ uQ Ag Bf E;replace a0_1:=a0_1.sub sQ;replace C:=fun hh=>C (sT _ hh);replace tQ:=fun b hb=>tQ b (sT b hb);replace Ag:=lQ M.size Ag;replace a0_1:=a0_1.md0 E;replace h0:=h0.md0 E;replace uQ:=uQ.md E;replace M:=M.step0 E;replace uQ:=A7;clear A7 sQ sT;have Aw:Fsh [] w S:=.inr Ag;replace D:Blk _ _ (Cfg.cells (({file:=idZ,machine:=idZ,seq:=idZ,dataSlots:=0,fieldSlots:=0,most:=0,keyed:=false}:Cfg))) _:=D;have Bl:Cfg.ok (({file:=idZ,machine:=idZ,seq:=idZ,dataSlots:=0,fieldSlots:=0,most:=0,keyed:=false}:Cfg)):=(by exact⟨rfl,rfl,rfl,(by decide),(by decide),(by decide)⟩);refine nt (ns (mv rfl (st_call fn48 rfl (kN_any uQ s h0 C a0_0 a0_1 5 (by omega) (by omega)) ?_)));rintro en w4 ⟨A8,Ap,A4,rfl,E,Bm,x,Aa,Ad,J,A0⟩;refine⟨_,rfl,?_⟩;have T:∀i∈[b0],Fsh [b0] w i:=(all_cons R all_nil);have U:∀i∈[b0],¬Q2 i:=(all_cons C all_nil);have A:S∉[b0]:=(nin_cons (by omega) (by simp));replace D:=D.md E A;clear A;replace M:=M.step E T;replace uQ:=uQ.md E;clear T U h0 C;have h0:=x;have C:=Aa;clear x Aa;have Ah:=Sq.num_le s 5;rw[A0]at Ah;try simp only[LL,Nat.reduceAdd,Nat.reduceMul]at Ah
  refine st_call fn47 rfl (kID_any uQ (((A8:Nat):Int)) (by omega)) ?_;rintro en w5 ⟨N,rfl,E,Bn,Bc⟩;refine⟨_,rfl,?_⟩;replace h0:=h0.md0 E;replace D:=D.md0 E;replace J:=J.md0 E;replace uQ:=uQ.md E;replace M:=M.step0 E;refine mv rfl (st_call fn48 rfl (kN_any uQ Ap h0 C Ad J 5 (by omega) (by omega)) ?_);rintro en w6 ⟨A9,Aq,A5,rfl,E,Bo,y,Ab,Ae,K,A1⟩;refine⟨_,rfl,?_⟩;have T:∀i∈[b0],Fsh [b0] w i:=(all_cons R all_nil);have U:∀i∈[b0],¬Q2 i:=(all_cons C all_nil);have A:S∉[b0]:=(nin_cons (by omega) (by simp));replace D:=D.md E A;clear A;replace M:=M.step E T;replace uQ:=uQ.md E;clear T U h0 C;have h0:=y;have C:=Ab;clear y Ab;have Ai:=Sq.num_le Ap 5;rw[A1]at Ai;try simp only[LL,Nat.reduceAdd,Nat.reduceMul]at Ai
  refine st_call fn47 rfl (kID_any uQ (((A9:Nat):Int)) (by omega)) ?_;rintro en w7 ⟨O,rfl,E,Bp,Bd⟩;refine⟨_,rfl,?_⟩;replace h0:=h0.md0 E;replace D:=D.md0 E;replace K:=K.md0 E;replace uQ:=uQ.md E;replace M:=M.step0 E;refine mv rfl (st_call fn48 rfl (kN_any uQ Aq h0 C Ae K 5 (by omega) (by omega)) ?_);rintro en w8 ⟨Ba,Ar,A6,rfl,E,Bq,z,Ac,Af,L,A2⟩;refine⟨_,rfl,?_⟩;have T:∀i∈[b0],Fsh [b0] w i:=(all_cons R all_nil);have U:∀i∈[b0],¬Q2 i:=(all_cons C all_nil);have A:S∉[b0]:=(nin_cons (by omega) (by simp));replace D:=D.md E A;clear A;replace M:=M.step E T;replace uQ:=uQ.md E;clear T U h0 C;have h0:=z;have C:=Ac;clear z Ac;have Aj:=Sq.num_le Aq 5;rw[A2]at Aj;try simp only[LL,Nat.reduceAdd,Nat.reduceMul]at Aj
  refine st_call fn47 rfl (kID_any uQ (((Ba:Nat):Int)) (by omega)) ?_;rintro en w9 ⟨P,rfl,E,Br,Be⟩;refine⟨_,rfl,?_⟩;replace h0:=h0.md0 E;replace D:=D.md0 E;replace L:=L.md0 E;replace uQ:=uQ.md E;replace M:=M.step0 E;refine mv rfl (st_call fn48 rfl (kN_any uQ Ar h0 C Af L 7 (by omega) (by omega)) ?_);rintro en Bw ⟨F,r,Ax,rfl,E,Bg,V,Y,f,d,Ak⟩;refine⟨_,rfl,?_⟩;have T:∀i∈[b0],Fsh [b0] w i:=(all_cons R all_nil);have U:∀i∈[b0],¬Q2 i:=(all_cons C all_nil);have A:S∉[b0]:=(nin_cons (by omega) (by simp));replace D:=D.md E A;clear A;replace M:=M.step E T;replace uQ:=uQ.md E;clear T U h0 C;have h0:=V;have C:=Y;clear V Y;have k:=Sq.num_le Ar 7;rw[Ak]at k;try simp only[LL,Nat.reduceAdd,Nat.reduceMul]at k
  refine st _ (r_addN (a:=F) (b:=1) 9223372036854775808 rfl rfl rfl (by omega)) (mv rfl (st_call fn48 rfl (kN_any uQ r h0 C f d 4 (by omega) (by omega)) ?_));rintro en Bx ⟨G,t,Ay,rfl,E,Bh,W,Z,g,e,Al⟩;refine⟨_,rfl,?_⟩;have T:∀i∈[b0],Fsh [b0] w i:=(all_cons R all_nil);have U:∀i∈[b0],¬Q2 i:=(all_cons C all_nil);have A:S∉[b0]:=(nin_cons (by omega) (by simp));replace D:=D.md E A;clear A;replace M:=M.step E T;replace uQ:=uQ.md E;clear T U h0 C;have h0:=W;have C:=Z;clear W Z;have o:=Sq.num_le r 4;rw[Al]at o;try simp only[LL,Nat.reduceAdd,Nat.reduceMul]at o
  refine st _ (r_addN (a:=G) (b:=1) 9223372036854775808 rfl rfl rfl (by omega)) (mv rfl (st_call fn48 rfl (kN_any uQ t h0 C g e 2 (by omega) (by omega)) ?_));rintro en Bz ⟨H,Au,Az,rfl,E,Bi,X,c,j,I,Am⟩;refine⟨_,rfl,?_⟩;have T:∀i∈[b0],Fsh [b0] w i:=(all_cons R all_nil);have U:∀i∈[b0],¬Q2 i:=(all_cons C all_nil);have A:S∉[b0]:=(nin_cons (by omega) (by simp));replace D:=D.md E A;clear A;replace M:=M.step E T;clear T U h0 C;have h0:=X;have C:=c;clear X c;have p:=Sq.num_le t 2;rw[Am]at p;try simp only[LL,Nat.reduceAdd,Nat.reduceMul]at p
  refine st _ (r_eqN (a:=H) (b:=1) rfl rfl) (st _ (r_buildG (us:=[(idc N),(idc O),(idc P),[(.int .i64 ((F+1:Nat):Int))],[(.int .i64 ((G+1:Nat):Int))],[(.int .i64 ((32768:Nat):Int))],[(.bool ((decide (H=1))))]]) (cs:=(Cfg.cells (({file:=N,machine:=O,seq:=P,dataSlots:=F+1,fieldSlots:=G+1,most:=32768,keyed:=(decide (H=1))}:Cfg)))) [(0,0,16),(1,16,16),(2,32,16),(3,48,1),(4,49,1),(5,50,1),(6,51,1)] z29 pl29 rfl rfl ⟨rfl,rfl,rfl,rfl,rfl,rfl,rfl,tV⟩ ⟨rfl,rfl,rfl,rfl,rfl,rfl,rfl,tV⟩ rfl (by simp[splices,splice,idc,Cfg.cells])) (st_storeAgg (us:=(Cfg.cells (({file:=N,machine:=O,seq:=P,dataSlots:=F+1,fieldSlots:=G+1,most:=32768,keyed:=(decide (H=1))}:Cfg)))) rfl rfl (by exact agg29) (by exact fun u hu=>one_cells (Cfg.one) u hu) D (ly rfl) ?_));have A3:=D;clear D;intro B0 E D;have U:∀b∈[S],¬Q2 b:=(by intro b hb;simp at hb;subst hb;exact Av);replace h0:=h0.md E (by intro hb;simp at hb;omega);replace I:=I.md E U;replace M:=M.step E (all_cons (Fsh.wid Aw) all_nil);clear A3 U;replace D:Blk _ _ (Cfg.cells (({file:=N,machine:=O,seq:=P,dataSlots:=F+1,fieldSlots:=G+1,most:=32768,keyed:=(decide (H=1))}:Cfg))) _:=D;refine nt (c_ret ?_);exact ret1L (v:=(.agg (Cfg.cells (({file:=N,machine:=O,seq:=P,dataSlots:=F+1,fieldSlots:=G+1,most:=32768,keyed:=(decide (H=1))}:Cfg))).toArray)) trivial rfl ⟨⟨_,rfl,load_agg (cs:=(Cfg.cells (({file:=N,machine:=O,seq:=P,dataSlots:=F+1,fieldSlots:=G+1,most:=32768,keyed:=(decide (H=1))}:Cfg)))) (by exact agg29) D⟩,tV⟩ ⟨(({file:=N,machine:=O,seq:=P,dataSlots:=F+1,fieldSlots:=G+1,most:=32768,keyed:=(decide (H=1))}:Cfg)),Au,_,rfl,M,(by exact⟨(by assumption),(by assumption),(by assumption),(by(simp<;>omega)),(by(simp<;>omega)),(by(simp<;>omega))⟩),h0,n0,j,(I.sub (fun b hb _=>tQ b hb)),(by rw[Sq.config]<;>simp(disch:=first|omega|assumption|(simp;done)|fail) only [SS,reduceIte,A0,Bc,A1,Bd,A2,Be,Ak,Al,Am])⟩
theorem fn11:isFn Tryz.prog 11=true:=by kernel_rfl
theorem fn12:isFn Tryz.prog 12=true:=by kernel_rfl
theorem fn13:isFn Tryz.prog 13=true:=by kernel_rfl
theorem fn17:isFn Tryz.prog 17=true:=by kernel_rfl
theorem fn20:isFn Tryz.prog 20=true:=by kernel_rfl
theorem fn27:isFn Tryz.prog 27=true:=by kernel_rfl
theorem fn9:isFn Tryz.prog 9=true:=by kernel_rfl
theorem pl27:bplace Tryz.prog 27=some [(0,1),(1,1),(2,1),(3,1),(4,1),(5,1),(6,1),(7,1),(8,1),(9,1),(10,1),(11,1),(12,1),(13,1),(14,1),(15,1)]:=by kernel_rfl
theorem pl33:bplace Tryz.prog 33=some [(0,1),(1,1)]:=by kernel_rfl
theorem u35:Tryz.prog.underlying 35=some (.pointer 97):=by kernel_rfl
theorem u38:Tryz.prog.underlying 38=some (.pointer 102):=by kernel_rfl
theorem z33:zcells Tryz.prog 33=some [.slice none 0 0,.int .i64 0]:=by kernel_rfl

attribute [local irreducible] blankF Drf.entry Wri.okApp Wri.append plistF saveR fWr
set_option maxHeartbeats 16000000 in
set_option maxRecDepth 100000 in
theorem fFirst_any {w:World} {Q:Nat→Prop} (uQ:Up w Q)  :
    Calls Tryz.prog 8 #[] w fun en w'=>∃r0:Bool,en = .returned (.bool r0)∧Md [] w w'∧true=r0:=by
  have C1:idZ.length=16:=rfl;have M:=Md.refl [] w;have C6:=uQ;refine enter (n:=73) Tryz.func8 rfl rfl rfl ?_;intro B;refine ns (asg rfl (nt (ns (st_call fn11 rfl (oNew uQ (1048576) (by omega) (by omega) (by omega)) ?_))));rintro en w1 ⟨Ab,S,Q2,rfl,H,⟨V,W,I⟩,Bh,D⟩;refine⟨_,rfl,?_⟩;have F:∀x∈S,Fsh [] w x:=fun x g=>Fsh.new M x (Bh x g);replace uQ:=uQ.md H;replace M:=M.step0 H;replace uQ:=I;clear I V W;refine mv rfl (se rfl rfl (se rfl rfl (asg rfl (asg rfl (nt (c_seq (ns (mv rfl (st _ (r_neN (a:=0) (b:=0) rfl rfl) (mv rfl ?_))))))))));refine part_n (t:=15) rfl (fun p=>?_) (fun p=>?_)
  · (have A5:=dT p);exfalso;omega
  · (have A5:=dF p);refine sg p (r_move rfl) (sg p (r_eqlPN rfl u35) (st _ (r_pick_f rfl p rfl) (nt (c_if_f rfl rfl (c_skip (c_then (ns (mv rfl (st _ (r_buildG (us:=[]) (cs:=(Sq.cells (({l:=[],pos:=0}:Sq)) (.slice none 0 0))) [] z33 pl33 rfl rfl trivial trivial rfl rfl) (st_box (cs:=(Sq.cells (({l:=[],pos:=0}:Sq)) (.slice none 0 0))) rfl rfl ?_))))))))));intro J w3 o Bi H G;have C:J∉S:=fun g=>by have:=(D.lt _ g).1;omega
    obtain⟨Q4,V,W,O,I⟩:=exQ uQ o Bi H;replace D:=D.sub V W;replace o:=lQ M.size o;replace D:=D.md0 H;replace uQ:=uQ.md H;replace M:=M.step0 H;replace uQ:=I;clear I V W;have Am:Fsh [] w J:=.inr o;refine st_call fn9 rfl (kConfig_any uQ (({l:=[],pos:=0}:Sq)) G O (by exact(show(({l:=[],pos:=0}:Sq)).pos<9223372036854775808 from(by(simp<;>omega)))) (Ls.nil _ _ _)) ?_;rintro en w5 ⟨Bm,Ci,Bk,rfl,H,Br,Af,Ag,Bj,E,B0⟩;refine⟨_,rfl,?_⟩;have hP:∀i∈[J],Fsh [] w i:=(all_cons Am all_nil);have X:∀i∈[J],¬Q4 i:=(all_cons O all_nil);have Al:∀x∈S,x∉[J]:=fun x g=>nin_cons (fun e=>C (e ▸ g)) (by simp);replace D:=D.md H Al X;replace M:=M.step H hP;replace uQ:=uQ.md H;clear hP X G O;have G:=Af;have O:=Ag;clear Af Ag;have B4:Bm=cfg0:=(congrArg Prod.fst B0).symm.trans cfg0_of;subst B4;refine st_call fn13 rfl (lConf_any uQ cfg0 cfg0_ok) ?_;rintro en w6 ⟨Cl,rfl,H,Bs,B1⟩;refine⟨_,rfl,?_⟩;replace D:=D.md0 H;replace G:=G.md0 H;replace E:=E.md0 H;replace uQ:=uQ.md H;replace M:=M.step0 H;have B3:=B1.symm;subst B3;refine st_call fn12 rfl (wCreate_any uQ D (([106]:Ly)) cfg0 cfg0_ok 4 (by omega) (by decide) (by decide) (by omega) (by have fe:(blankF cfg0 4).b.length=336:=(by rw[fD0_def];exact fir_e.2.2.2.2);omega)) ?_;rintro en w7 ⟨r7,f7,Ae,Q8,H,⟨V,W,I⟩,K,Cz,⟨Cq,Cr,Cs,Bc⟩,hD⟩;have A4:=G.lt;have Cx:=H.size;have Cy:=M.size;have X:∀b∈S,¬Q8 b:=fun b hb hq=>(D.lt b hb).2 (W b hq);have P:J∉Ae:=fun h=>(K _ h).elim C (fun h=>by have:=G.lt;omega);replace G:=G.md H C;replace C:=P;clear P;replace E:=(E.sub V).md H X;have r9:∀x∈Ae,Fsh [] w x:=fun x g=>(K x g).elim (F x) (Fsh.new M x)
    have C7:=uQ;have C4:=W;have Aa:=H.size;replace M:=M.step H F;clear uQ F;have uQ:=I;have F:=r9;clear I r9 V W X K H;clear D;rcases hD with⟨Aw,rfl,D⟩|⟨Aw,j,C0,rfl,D⟩
    · refine⟨_,rfl,?_⟩
      replace D:FsO (3) _ _ _ _ _:=D;have fe:(blankF cfg0 4).b.length=336:=(by rw[fD0_def];exact fir_e.2.2.2.2);have cf:=create_fs Bc rfl rfl (by decide) D.wf.nd ⟨by omega,by omega⟩;have cz:=(cf.2 (by rw[fe];decide)).2 rfl (by decide);exfalso;exact Aw cz.1
    · refine⟨_,rfl,?_⟩
      replace D:WrO j (3) _ _ _ _ _:=D;subst Aw;obtain⟨x7,Y⟩:∃x,x=({fs:=f7,wr:={fs:=Ab,name:=(([106]:Ly)),most:=cfg0.most,d:=blankF cfg0 4,waiting:=0,archived:=false}}:WrS):=⟨_,rfl⟩;rw[← Y]at D;have C:J∉j :: Ae:=nin_cons (by omega) C;replace F:∀x∈j :: Ae,Fsh [] w x:=fun x g=>(List.mem_cons.1 g).elim (fun e=>.inr (by rw[e];omega)) (F x);have Ak:=D.wf.nd;rw[Y]at Ak;have fe:(blankF cfg0 4).b.length=336:=(by rw[fD0_def];exact fir_e.2.2.2.2);have cf:=create_fs Bc rfl rfl (by decide) Ak ⟨by omega,by omega⟩;have cz:=(cf.2 (by rw[fe];decide)).2 rfl (by decide);obtain⟨_,fz,z1,z2,z3,z4⟩:=cz;rw[fD0_def,fWr_def]at Y;rw[fD0_def]at z3;simp only at Ak;have Ao:=fWr_c Ab [106] fD0 0;have k:=fWr_c Ab [106] fD4 1;refine mv rfl (se rfl rfl (se rfl rfl (asg rfl (asg rfl (nt (c_seq (ns (mv rfl (st _ (r_neN (a:=0) (b:=0) rfl rfl) (mv rfl ?_))))))))));refine part_n (t:=30) rfl (fun r=>?_) (fun r=>?_)
      · (have A6:=dT r);exfalso;omega
      · (have A6:=dF r);refine sg r (r_move rfl) (sg r (r_eqlPN rfl u38) (st _ (r_pick_f rfl r rfl) (nt (c_if_f rfl rfl (c_skip (c_then (ns (mv rfl (st _ (r_buildG (us:=[]) (cs:=idc idZ) [] z27 pl27 rfl rfl trivial trivial rfl rfl) (st_call fn17 rfl (xAppend uQ D (Ls.nil tPr _ _) 1 (by omega) 1 (by omega) idZ (by assumption) (by decide) (by rw[Y];show(fWr _ _ fD0 0).waiting≤_;rw[Ao.2.2.2.1];decide) (by rw[Y];exact fir_ok0 _ _) (by have e:=fir_e;rw[Y];simp only;rw[Ao.2.2.1];omega)) ?_))))))))));rintro en w9 ⟨Cm,Bn,rfl,Cj,Ck,m9,As,A0,H,⟨V,W,I⟩,K,N,B2⟩;refine⟨_,rfl,?_⟩;have X:∀b∈(j :: Ae),¬A0 b:=fun b hb hq=>(D.lt b hb).2 (W b hq);have P:J∉As:=fun h=>(K _ h).elim C (fun h=>by have:=G.lt;omega);replace G:=G.md H C;replace C:=P;clear P;replace E:=(E.sub V).md H X;have r9:∀x∈As,Fsh [] w x:=fun x g=>(K x g).elim (F x) (Fsh.new M x);replace M:=M.step H F;clear uQ F D;have uQ:=I;have F:=r9;have D:=N;have Aa:=H;clear I r9 N V W X K H;clear Aa;replace D:WrO j (3) _ _ _ _ _:=D;obtain⟨Aq,Ac⟩:=B2;rw[Y]at Ac Aq;simp only at Ac Aq;rw[fir_app0]at Ac;simp only[Prod.mk.injEq]at Ac;obtain⟨u1,u2,u3⟩:=Ac;refine mv rfl (se rfl rfl (se rfl rfl (asg rfl (asg rfl (nt (ns (mv rfl (st _ (r_buildG (us:=[[(str (([65]:Ly)))],[(str (([49]:Ly)))]]) (cs:=(Pr.cells (({name:=([65]:Ly),value:=([49]:Ly)}:Pr)))) [(0,0,1),(1,1,1)] z91 pl91 rfl rfl ⟨rfl,rfl,tV⟩ ⟨rfl,rfl,tV⟩ rfl rfl) ?_))))))))
        refine st_buildSliceG [(Pr.cells (({name:=([65]:Ly),value:=([49]:Ly)}:Pr)))] u47 elT91 (by decide) (by decide) rfl rfl ⟨rfl,tV⟩ ⟨rfl,tV⟩ rfl (by decide) ?_;intro Ce C8 A3 Ch H L;have Bo:=uQ _ A3;replace D:=D.md0 H;replace G:=G.md0 H;replace E:=E.md0 H;replace uQ:=uQ.md H;replace M:=M.step0 H;replace L:=Ls.of_blk (m:=1) (R:=A0) (T:=tPr) (xs:=[({name:=([65]:Ly),value:=([49]:Ly)}:Pr)]) L ⟨_,_,rfl,(tPr_mk),rfl⟩ rfl (by decide) Bo;refine st _ (r_buildG (us:=[]) (cs:=idc idZ) [] z27 pl27 rfl rfl trivial trivial rfl rfl) (st_call fn17 rfl (xAppend uQ D L 1 (by omega) 1 (by omega) idZ (by assumption) (by decide) (by rw[← u3,Ao.2.2.2.1];decide) (by rw[← u3,show([{name:=[65],value:=[49]}]:List Pr)=[prA]from rfl];exact fir_ok1 _ _) (by have e:=fir_e;rw[← u3,Ao.2.2.1];omega)) ?_);rintro en C9 ⟨Ax,Ay,rfl,B6,B8,C2,Ad,Bt,H,⟨V,W,I⟩,K,N,Bd⟩;refine⟨_,rfl,?_⟩;have X:∀b∈As,¬Bt b:=fun b hb hq=>(D.lt b hb).2 (W b hq);have P:J∉Ad:=fun h=>(K _ h).elim C (fun h=>by have:=G.lt;omega);replace G:=G.md H C;replace C:=P;clear P;replace E:=(E.sub V).md H X;replace L:=(L.sub V).md H X;have r9:∀x∈Ad,Fsh [] w x:=fun x g=>(K x g).elim (F x) (Fsh.new M x);replace M:=M.step H F;clear uQ F D;have uQ:=I;have F:=r9;have D:=N;have Aa:=H;clear I r9 N V W X K H;clear Aa;replace D:WrO j (3) _ _ _ _ _:=D;obtain⟨Bx,Aj⟩:=Bd;rw[← u3]at Aj;rw[show([{name:=[65],value:=[49]}]:List Pr)=[prA]from rfl,fir_app1]at Aj;simp only[Prod.mk.injEq]at Aj;obtain⟨v1,v2,v3⟩:=Aj;refine mv rfl (se rfl rfl (se rfl rfl (asg rfl (asg rfl (nt (ns (mv rfl (st _ (r_eqN (a:=Bn) (b:=16) rfl rfl) ?_))))))))
        refine mv rfl ?_;refine part_n (t:=50) rfl (fun u=>?_) (fun u=>?_)
        · (have A7:=dT u);refine sg u (r_move rfl) (sg u (r_eqN (a:=Ay) (b:=0) rfl rfl) (st _ (r_pick_t rfl u rfl) (mv rfl ?_)));refine part_n (t:=54) rfl (fun y=>?_) (fun y=>?_)
          · (have A8:=dT y);refine sg y (r_move rfl) (sg y (r_eqN (a:=Ax) (b:=5) rfl rfl) (st _ (r_pick_t rfl y rfl) (mv rfl ?_)));refine part_n (t:=58) rfl (fun Z=>?_) (fun Z=>?_)
            · (have A9:=dT Z);refine sg Z (r_move rfl) (st_call_g rfl rfl rfl Z fn27 rfl (xWait uQ D) ?_);rintro en Da ⟨Ai,rfl,H,B9,Be⟩;refine⟨_,rfl,?_⟩;replace D:=D.md0 H;replace G:=G.md0 H;replace E:=E.md0 H;replace L:=L.md0 H;replace uQ:=uQ.md H;replace M:=M.step0 H;have wt:1=Ai:=(by rw[← Be,← v3];exact k.2.2.2.1.symm);refine sg Z (r_eqN (a:=Ai) (b:=1) rfl rfl) (st _ (r_pick_t rfl Z rfl) (mv rfl ?_));refine part_n (t:=63) rfl (fun c=>?_) (fun c=>?_)
              · (have Ba:=dT c);refine sg c (r_move rfl) (st_call_g rfl rfl rfl c fn20 rfl (xCommit uQ D (by omega) (by rw[← v3,k.2.1];decide) (by have e:=fir_e;rw[← v3,k.2.2.1];omega)) ?_);rintro en Db ⟨Az,rfl,Ca,C3,Ap,Bu,H,⟨V,W,I⟩,K,N,Bf⟩;refine⟨_,rfl,?_⟩;have X:∀b∈Ad,¬Bu b:=fun b hb hq=>(D.lt b hb).2 (W b hq);have P:J∉Ap:=fun h=>(K _ h).elim C (fun h=>by have:=G.lt;omega);replace C:=P;clear P;replace E:=(E.sub V).md H X;replace L:=(L.sub V).md H X;have r9:∀x∈Ap,Fsh [] w x:=fun x g=>(K x g).elim (F x) (Fsh.new M x);replace M:=M.step H F;clear uQ F D;have uQ:=I;have F:=r9;have D:=N;have Aa:=H;clear I r9 N V W X K H;clear Aa;replace D:WrO j (7) _ _ _ _ _:=D;obtain⟨A1,si,sj,A2⟩:=Bf;rw[← v3,Bx,Aq,k.2.1,k.2.2.1,k.2.2.2.2.1]at A2;rw[← v3]at A1;have Cc:=save_fs (z:=fz) A2 (by rw[z4]) (by rw[z4]) (by decide) Ak (by rw[z4];simp only[List.nil_append];rw[findN,if_pos ⟨z2,z1⟩]) ⟨by have e:=fir_e;omega,by have e:=fir_e;omega⟩ (by have e:=fir_e;rw[z3];exact e.2.2.1);have Cu:=fir_f;have Bz:fD0.b.length=336:=fir_e.2.2.2.2;have Ar:fz.fl.b.length=336:=(by rw[z3];exact Bz);have Cv:=fir_e.2.1;have C5:=(Cc.2 ((free_pos (by rw[z4]) (by rw[Ar];omega)).2 (by rw[Ar,z4];simp only[List.nil_append,totF,z2,if_true];rw[Ar];omega))).1;refine sg c (r_eqN (a:=Az) (b:=0) rfl rfl) (st _ (r_pick_t rfl c rfl) (mv rfl ?_));refine part_n (t:=68) rfl (fun f=>?_) (fun f=>?_)
                · (have Bb:=dT f);refine sg f (r_move rfl) (st_call_g rfl rfl rfl f fn25 rfl (xTail uQ D) ?_);rintro en Dc ⟨U,rfl,H,Cb,Bg⟩;refine⟨_,rfl,?_⟩;replace M:=M.step0 H;have tl:5=U:=(by rw[← Bg,A1,k.2.2.1];exact fir_e.1.symm);refine sg f (r_eqN (a:=U) (b:=5) rfl rfl) (st _ (r_pick_t rfl f rfl) (asg rfl (nt (c_ret ?_))));exact ret1L (v:=(.bool ((decide (U=5))))) trivial rfl ⟨rfl,tV⟩ ⟨(decide (U=5)),rfl,M,(decide_eq_true (by omega)).symm⟩
                · (have Bb:=dF f);exfalso;omega
              · (have Ba:=dF c);exfalso;omega
            · (have A9:=dF Z);exfalso;omega
          · (have A8:=dF y);exfalso;omega
        · (have A7:=dF u);exfalso;omega

/-- A directory with, or without, a file of the journal's name, and so much room. -/
structure WmJ (f:SFs) (th:Bool):Prop where
  off:f.off=false
  fuse:f.fuse = -1
  room:f.room=4096
  tot:totF f.nodes=(if th=true then 1 else 0,0)
  x:findN f.nodes [120]=none
  hit:th=true→∃y,findN f.nodes [106]=some y∧y.fl.b=[]
  no:th=false→findN f.nodes [106]=none
  all:∀y∈f.nodes,y.no.there=true
theorem WmJ.new:WmJ {room:=4096,fuse:=-1,off:=false,nodes:=[],pend:=[]} false:=⟨rfl,rfl,rfl,rfl,rfl,(by simp),fun _=>rfl,by simp⟩
theorem WmJ.made {m:SFs} {i j r:Nat} (e:makeR {room:=4096,fuse:=-1,off:=false,nodes:=[],pend:=[]} [106] i j=(r,m)):r=0∧WmJ m true:=by
  rw[make_free rfl rfl (by decide) rfl (by decide)]at e
  cases e
  refine⟨rfl,rfl,rfl,rfl,?_,?_,fun _=>⟨_,rfl,rfl⟩,(by simp),?_⟩
  · simp[totF]
  · simp[findN]
  · intro y A;simp at A;subst A;rfl
theorem WmJ.mkz {f f1:SFs} {th:Bool} {i j r1:Nat} (h:WmJ f th) (e1:makeR f [120] i j=(r1,f1)):r1=0:=by
  rw[make_free h.off h.fuse (by decide) h.x (by rw[h.tot];split<;>decide)]at e1
  cases e1;rfl
structure WmI (f:SFs) (th:Bool) (fr:Nat):Prop where
  off:f.off=false
  fuse:f.fuse = -1
  free:freeF f=fr
  cnt:(totF f.nodes).1<24
  hit:th=true→∃y,findN f.nodes [106]=some y
  no:th=false→findN f.nodes [106]=none
  all:∀y∈f.nodes,y.no.there=true
theorem findN_skip (l:List SNd) (x:SNd) (s:Ly) (h:x.no.nm≠s):findN (l ++ [x]) s=findN l s:=by
  induction l with
  | nil=>simp[findN,h]
  | cons y l ih=>rw[List.cons_append,findN,findN,ih]
theorem WmJ.start {f f1 f2:SFs} {th:Bool} {i j q r1 r2 fr:Nat} {z:Ly} (h:WmJ f th) (e1:makeR f [120] i j=(r1,f1)) (e2:writeR f1 [120] 0 z q=(r2,f2)) (hz:z.length=4096-fr) (hf:fr<4096) (nd:(f1.nodes.map (·.id)).Nodup):r1=0∧r2=0∧WmI f2 th fr:=by
  rw[make_free h.off h.fuse (by decide) h.x (by rw[h.tot];split<;>decide)]at e1
  generalize hn:(⟨i,⟨[120],true,j⟩,⟨[],[]⟩⟩:SNd)=n at e1;have A:n.id=i∧n.no.nm=[120]∧n.no.there=true∧n.fl=⟨[],[]⟩:=(by rw[← hn];exact⟨rfl,rfl,rfl,rfl⟩)
  cases e1
  simp only at nd;have F:=totF_one n A.2.2.1 f.nodes;rw[h.tot,A.2.2.2]at F;have w:=write_ok (f:={f with nodes:=f.nodes ++ [n],pend:=f.pend ++ [⟨0,i,[],none⟩]}) (j:=q) (p:=0) (b:=z) (x:=n) h.off h.fuse (by decide) (findN_app _ _ _ h.x A.2.2.1 A.2.1) (by omega) (fun _=>by simp only;rw[F,A.2.2.2,h.room];simp only[List.length_nil];omega);simp only at w;rw[if_neg (by omega),updN_last nd]at w;rw[show((0:Nat):Int)=0 from rfl]at w;rw[w]at e2
  cases e2
  generalize hy:({n with no:={n.no with fid:=q},fl:={n.fl with b:=writeF n.fl.b 0 z}}:SNd)=y;have C:y.no.nm=[120]∧y.no.there=true∧y.fl.b.length=z.length:=(by rw[← hy];refine⟨A.2.1,A.2.2.1,?_⟩;simp only[writeF_len,A.2.2.2];simp);have E:=totF_one y C.2.1 f.nodes;rw[h.tot,C.2.2,hz]at E;refine⟨rfl,rfl,h.off,h.fuse,?_,?_,fun D=>?_,fun D=>?_,?_⟩
  · unfold freeF
    simp only[h.off,h.room,E,Bool.false_eq_true,if_false]
    split <;> omega
  · simp only[E];split <;> decide
  · obtain⟨v,B,_⟩:=h.hit D;exact⟨v,by simp only;rw[findN_skip _ _ _ (by rw[C.1];decide)];exact B⟩
  · simp only;rw[findN_skip _ _ _ (by rw[C.1];decide)];exact h.no D
  · intro v B
    simp only[List.mem_append,List.mem_singleton]at B;rcases B with B|rfl
    · exact h.all v B
    · exact C.2.1
/-- What Create tells there. -/
theorem WmI.create {f f':SFs} {th:Bool} {fr i j q r:Nat} {B:Ly} (h:WmI f th fr) (e:createR f [106] B i j q=(r,f')) (hn:(f'.nodes.map (·.id)).Nodup) (hB:1≤B.length∧B.length≤32768) :
    r=(if fr<B.length then 15 else if th=true then 17 else 0)∧(r≠0→f'=f)∧(r=0→∃z:SNd,z.no.nm=[106]∧z.no.there=true∧z.fl=⟨B,B⟩∧f'={f with nodes:=f.nodes ++ [z],pend:=f.pend ++ [⟨0,z.id,[],none⟩]}):=by
  obtain⟨G,H⟩:=create_fs e h.off h.fuse (by decide) hn hB;rw[h.free]at G H;by_cases h1:fr<B.length
  · obtain⟨C,D⟩:=G (by omega)
    rw[if_pos h1];exact⟨C,fun _=>D,fun E=>by omega⟩
  · rw[if_neg h1]
    obtain⟨C,D⟩:=H (by omega)
    cases th with
    | true=>obtain⟨A,F⟩:=C (h.hit rfl);exact⟨by rw[if_pos rfl];exact A,fun _=>F,fun E=>by omega⟩
    | false=>obtain⟨A,z,F,I,J,K⟩:=D (h.no rfl) h.cnt;exact⟨by rw[if_neg (by simp)];exact A,fun E=>absurd A E,fun _=>⟨z,F,I,J,K⟩⟩
/-- It is there or not. -/
theorem WmI.len {f:SFs} {th:Bool} {fr a c:Nat} (h:WmI f th fr) (e:lenF f.off f.nodes [106]=(a,c)):decide (c=0)=th:=by
  cases th with
  | true=>obtain⟨y,A⟩:=h.hit rfl;rw[lenF_in (gtF_hit h.off (by decide) A) rfl]at e;cases e;rfl
  | false=>rw[lenF_no (gtF_none h.off (by decide) (h.no rfl)) (by decide)]at e;cases e;rfl
theorem crashG_none:∀(l:List SNd),crashG l []=l.map fun z=>{z with fl:={b:=crashB z.fl.b z.fl.safe [],safe:=crashB z.fl.b z.fl.safe []}}
  | []=>rfl
  | z :: r=>by rw[crashG,List.map_cons];simp only[List.take_nil,List.drop_nil];rw[crashG_none r]
/-- What was made safe is there behind a crash. -/
theorem WmI.safe {f f' f1 f2:SFs} {fr:Nat} {B a:Ly} {z:SNd} {r c:Nat} (h:WmI f false fr) (z1:z.no.nm=[106]) (z2:z.no.there=true) (z3:z.fl=⟨B,B⟩) (e0:f'={f with nodes:=f.nodes ++ [z],pend:=f.pend ++ [⟨0,z.id,[],none⟩]})
    (e1:syncDirR f'=(r,f1)) (e2:crashR f1 [] 0=f2) (e3:allF f2.off f2.nodes [106]=(a,c)):a=B∧c=0:=by
  subst e0;rw[dir_free (f:={f with nodes:=f.nodes ++ [z],pend:=f.pend ++ [⟨0,z.id,[],none⟩]}) h.off h.fuse]at e1
  cases e1
  subst e2;unfold crashR settleF at e3;simp only[List.drop_nil,List.reverse_nil,undoL]at e3;rw[List.filter_filter]at e3;simp only[Bool.and_self]at e3;rw[List.filter_eq_self.2 (by intro y A;rcases List.mem_append.1 A with A|A;exact h.all y A;rw[List.mem_singleton.1 A];exact z2),crashG_none,List.map_append,List.map_singleton]at e3
  have F:∀l:List SNd,findN l [106]=none→findN (l.map fun z=>({z with fl:={b:=crashB z.fl.b z.fl.safe [],safe:=crashB z.fl.b z.fl.safe []}}:SNd)) [106]=none:=by
    intro l
    induction l with
    | nil=>exact fun _=>rfl
    | cons y l ih =>
      intro C;rw[findN]at C
      split at C
      · cases C
      · rename_i A;rw[List.map_cons,findN,if_neg A];exact ih C
  rw[z3]at e3;simp only[crash_same]at e3;have E:=findN_app (f.nodes.map fun z=>({z with fl:={b:=crashB z.fl.b z.fl.safe [],safe:=crashB z.fl.b z.fl.safe []}}:SNd)) {z with fl:={b:=B,safe:=B}} [106] (F _ (h.no rfl)) z2 z1;have D:=(allF_in (off:=false) (b:=B) ⟨may_ok (by decide),E⟩ rfl).symm.trans e3
  cases D;exact⟨rfl,rfl⟩

end Go.Proofs.YtfadcpfgenjbeaaGreat
namespace Go.Wk
open Go Go.RowKit
section
variable {P:Program} {n:Nat} {A:Fr n} {D:List Deferred} {l:List (Nat × Value)} {w:World} {ops:Array Oper} {rest:List Oper} {Q:Exit→Act→World→Prop} {d:Option Tmp} {op:Op} {ty:TypeId} {ps:String} {af:Array Edge}
theorem st_unguard {j t:Nat} {o:Oper} {b want:Bool} (ho:ops[j]? = some o) (ht:o.dst=some t) (hy:ev n l (.tmp t)=some (.bool b)) (hb:b=want)
    (k:wpList P ops Q (⟨d,op,ty,ps,af,none⟩ :: rest) (over A D l) w):wpList P ops Q (⟨d,op,ty,ps,af,some (j,want)⟩ :: rest) (over A D l) w:=by
  unfold wpList at k ⊢
  rw[if_pos (by rfl)]at k
  rw[if_pos (by simp[Region.wanted,yielded_of ho ht hy,hb])]
  exact k
end
end Go.Wk
namespace Go.Proofs.YtfadcpfgenjbeaaGreat
open Go Go.Wk Go.RowKit
set_option linter.unusedVariables false
set_option linter.unusedSimpArgs false
attribute [local irreducible] wpList wpQuiet wpStill wpMix Code.wp Calls bodyPost
theorem off113_1:fieldOff Tryz.prog 113 1=some 52:=by kernel_rfl
theorem off113_2:fieldOff Tryz.prog 113 2=some 142:=by kernel_rfl
theorem off113_3:fieldOff Tryz.prog 113 3=some 143:=by kernel_rfl
theorem agg110:isAggN Tryz.prog 110 90=true:=by kernel_rfl
theorem elT173:elT Tryz.prog 173 2 16=true:=by kernel_rfl
theorem fn53:isFn Tryz.prog 53=true:=by kernel_rfl
theorem pl110:bplace Tryz.prog 110=some [(0,1),(1,1),(2,1),(3,16),(19,16),(35,16),(51,16),(67,20),(87,1),(88,1),(89,1)]:=by kernel_rfl
theorem pl113:bplace Tryz.prog 113=some [(0,52),(52,90),(142,1),(143,1),(144,1),(145,1),(146,1)]:=by kernel_rfl
theorem z110:zcells Tryz.prog 110=some ([.int .u32 0,.int .u32 0,.int .i64 0] ++ (List.replicate 64 (.int .u8 0) ++ (List.replicate 20 (.int .u64 0) ++ ([.int .u32 0,.int .u32 0,.int .u64 0])))):=by kernel_rfl
theorem z113:zcells Tryz.prog 113=some (List.replicate 48 (.int .u8 0) ++ ([.int .i64 0,.int .i64 0,.int .i64 0,.bool false,.int .u32 0,.int .u32 0,.int .i64 0] ++ (List.replicate 64 (.int .u8 0) ++ (List.replicate 20 (.int .u64 0) ++ ([.int .u32 0,.int .u32 0,.int .u64 0,.int .u64 0,.slice none 0 0,.slice none 0 0,.slice none 0 0,.slice none 0 0]))))):=by kernel_rfl
theorem z173:zcells Tryz.prog 173=some [.int .u64 0,.int .u64 0]:=by kernel_rfl

set_option maxRecDepth 100000 in
set_option maxHeartbeats 4000000 in
theorem rnewMaker_any {w:World} {Q:Nat→Prop} (uQ:Up w Q) (c:Cfg) (a0_0:Cfg.ok c) (tail:Nat) (a1:tail<18446744073709551616) (p0:c.dataSlots≤50000) (p1:c.fieldSlots≤50000) :
    Calls Tryz.prog 14 #[.agg (Cfg.cells c).toArray,(.int .u64 tail)] w fun en w'=>∃o0:Nat,∃u0_0:Value,∃u0_1:Value,∃u0_2:Value,∃u0_3:Value,∃r0:Mk,∃Q':Nat→Prop,en = .returned (.pointer (some ⟨o0,0,none⟩))∧Md [] w w'∧NewQ w w' Q Q'∧Blk w' o0 (Mk.cells r0 u0_0 u0_1 u0_2 u0_3) 113∧¬Q' o0∧w.heap.size≤o0∧Mk.ok r0∧Ow tB8 5 (Fsh [] w) w' Q' u0_0 r0.b∧Ow tKnown 130 (Fsh [] w) w' Q' u0_1 r0.datas∧Ow tKnown 130 (Fsh [] w) w' Q' u0_2 r0.fields∧Ls tU64 w' Q' u0_3 r0.main∧(∀x,vblock u0_1=some x→vblock u0_2≠some x)∧newMk c tail=r0:=by
  have M:=Md.refl [] w;have Cb:=uQ;have tQ:∀b,Q b→Q b:=fun _ h=>h;have U:∀b,Q b→b<w.heap.size→Q b:=fun _ h _=>h;refine enter (n:=110) Tryz.func14 rfl rfl rfl ?_;intro B;refine ns (st_box (cs:=(Cfg.cells c)) rfl rfl ?_);intro Bg w1 Bt Fi G F;have I:=uQ _ Bt;replace Bt:=lQ M.size Bt;replace uQ:=uQ.md G;replace M:=M.step0 G;refine asg rfl (nt (c_seq ?_));have L:=F;refine c_mixT [(0,true),(1,false)] [2,3,4] (fun w'=>Md [] w1 w') mixed (by kernel_rfl) ?_;intro w2 J;refine⟨J.mono (by simp),?_⟩;have Y:=J.mono (T:=[]) (by simp);refine mz (fun w' g=>r_loadPart (Cfg.cells c) rfl (by exact agg29) (L.md0 g) rfl) ?_;replace F:=F.md0 J;replace uQ:=uQ.md J;replace M:=M.step0 J;refine m_e ?_ rfl;refine st_mkG (lo:=Fsh [] w) (T:=tB8) (z:=0) (zs:=[(b8 0)]) (m:=272) rfl u45 elT5 z5 rfl (fun _ _=>⟨rfl,tV⟩) uQ (Fsh.new M) (by omega) ?_;intro v5 w3 Q6 sQ sT Z S G j;have Av:∀b,vblock v5=some b→b∈[]∨_:=fun b H=>Or.inr (lQ Y.size (j b H));replace I:=sQ _ I F.lt;replace tQ:=fun b H=>tQ b (sT b H);replace U:=fun b H hl=>sQ b (U b H hl) (lv hl M.size);replace F:=F.md0 G;replace uQ:=uQ.md G;replace M:=M.step0 G;replace Y:=Y.step0 G;replace uQ:=Z;clear Z sQ sT j;refine st_nil ⟨rfl,Y,?_⟩;refine m_nil ?_;clear L;clear Y;refine st _ (r_buildG (us:=[(Cfg.cells c),[v5]]) (cs:=(Mk.cells (({c:=c,h:=({compat:=0,incompat:=0,state:=0,file:=idZ,machine:=idZ,boot:=idZ,seq:=idZ,n:=(List.replicate 20 0),tailArray:=0,tailItems:=0,tailEntry:=0}:RHead),depth:=0,b:=(List.replicate 272 0),datas:=[],fields:=[],main:=[]}:Mk)) v5 (.slice none 0 0) (.slice none 0 0) (.slice none 0 0))) [(0,0,52),(3,143,1)] z113 pl113 rfl rfl ⟨rfl,(cells_one S.oneCell),tV⟩ ⟨rfl,rfl,tV⟩ rfl rfl) (st_box (cs:=(Mk.cells (({c:=c,h:=({compat:=0,incompat:=0,state:=0,file:=idZ,machine:=idZ,boot:=idZ,seq:=idZ,n:=(List.replicate 20 0),tailArray:=0,tailItems:=0,tailEntry:=0}:RHead),depth:=0,b:=(List.replicate 272 0),datas:=[],fields:=[],main:=[]}:Mk)) v5 (.slice none 0 0) (.slice none 0 0) (.slice none 0 0))) rfl rfl ?_)
  intro O w7 As B4 G A;have B2:Bg≠O:=(by have:=F.lt;omega);obtain⟨Q8,sQ,sT,D,Z⟩:=exQ uQ As B4 G;replace I:=sQ _ I F.lt;replace S:=S.sub sQ sT;replace tQ:=fun b H=>tQ b (sT b H);replace U:=fun b H hl=>sQ b (U b H hl) (lv hl M.size);replace As:=lQ M.size As;replace F:=F.md0 G;replace S:=S.md0 G;replace uQ:=uQ.md G;replace M:=M.step0 G;replace uQ:=Z;clear Z sQ sT;have N:Fsh [] w O:=.inr As;have Ae:Mk.ok (({c:=c,h:=({compat:=0,incompat:=0,state:=0,file:=idZ,machine:=idZ,boot:=idZ,seq:=idZ,n:=(List.replicate 20 0),tailArray:=0,tailItems:=0,tailEntry:=0}:RHead),depth:=0,b:=(List.replicate 272 0),datas:=[],fields:=[],main:=[]}:Mk)):=(by exact⟨(by assumption),(by exact⟨(by(simp<;>omega)),(by(simp<;>omega)),(by(simp<;>omega)),(by rfl),(by rfl),(by rfl),(by rfl),(by exact nums_zero _),(by(simp<;>omega)),(by(simp<;>omega)),(by(simp<;>omega))⟩),(by(simp<;>omega))⟩);refine asg rfl (nt (c_seq ?_));have L:=F;have Ax:=S;have W:=A;have Ck:∀b∈(vblock v5).toList,¬Q8 b:=(all_row (fun x hx=>(S.2 x hx).2));refine c_mixT [(0,true),(1,true),(2,true),(3,true),(4,true),(5,true),(6,true),(7,false),(8,false),(9,false)] [10,11,12] (fun w'=>Md (vblock v5).toList w7 w') mixed (by kernel_rfl) ?_;intro w9 J;refine⟨J.mono (by simp),?_⟩;have Y:=J.mono (T:=(vblock v5).toList) (by simp);have Av:∀b,vblock v5=some b→b∈(vblock v5).toList∨w7.heap.size≤b:=fun b H=>Or.inl (by simp[H])
  refine mo rfl (mo rfl (mz (fun w' g=>r_nil rfl) (mz (fun w' g=>r_field rfl off113_3) (mz (fun w' g=>(r_loadBlk rfl one45 (W.md g (apart_ow Ax W (by decide))) rfl).to (b:=v5) rfl) (mz (fun w' g=>r_field rfl off29_3) (mz (fun w' g=>(r_loadBlk rfl one3 (L.md g (apart_ow Ax L (by decide))) rfl).to (b:=(.int .i64 c.dataSlots)) rfl) ?_))))));have Fj:c.dataSlots<9223372036854775808:=a0_0.2.2.2.1;replace F:=F.md0 J;replace S:=S.md0 J;replace A:=A.md0 J;replace uQ:=uQ.md J;replace M:=M.step0 J;refine m_e ?_ rfl;refine st_mkG (lo:=Fsh [] w) (T:=tSlt) (z:=({first:=0,tail:=0}:Slt)) (zs:=(Slt.cells (({first:=0,tail:=0}:Slt)))) (m:=c.dataSlots) rfl u115 elT173 z173 rfl (fun _ _=>(tSlt_mk (by exact⟨(by(simp<;>omega)),(by(simp<;>omega))⟩))) uQ (Fsh.new M) (by omega) ?_;intro Cm Cq Fe sQ sT Z Aa G j;have Cf:∀b,vblock Cm=some b→b∈(vblock v5).toList∨_:=fun b H=>Or.inr (lQ Y.size (j b H));replace I:=sQ _ I F.lt;replace S:=S.sub sQ sT;replace D:=fun hh=>D (sT _ hh);replace tQ:=fun b H=>tQ b (sT b H);replace U:=fun b H hl=>sQ b (U b H hl) (lv hl M.size);replace F:=F.md0 G;replace S:=S.md0 G;replace A:=A.md0 G;replace uQ:=uQ.md G;replace M:=M.step0 G;replace Y:=Y.step0 G;replace uQ:=Z;clear Z sQ sT j;refine st_nil ⟨rfl,Y,?_⟩;refine m_e ?_ rfl;obtain⟨Ci,fQ,fT,Bb⟩:=Aa.freeze;replace I:=fQ _ I;replace S:=S.subF fQ fT (apart_oo Aa S (by decide));replace D:=fun hh=>(fT _ hh).elim D (nfz (apart_ow Aa A (by decide)));replace tQ:=fun b H=>(fT b H).elim (tQ b) (fun hv=>Fsh.up Cb b (Aa.2 b hv).1);replace U:=fun b H hl=>fQ b (U b H hl);replace uQ:Up Cq Ci:=fun b H=>fQ b (uQ b H);clear Aa fQ fT;have Aa:=Bb;clear Bb;refine st_call fn53 rfl (putTable_any uQ 4 (by omega) Aa (by(simp<;>omega))) ?_;rintro en Fq ⟨Cn,Aq,rfl,G,A6,A9⟩;refine⟨_,rfl,?_⟩;replace F:=F.md0 G
  replace S:=S.md0 G;replace A:=A.md0 G;replace uQ:=uQ.md G;replace M:=M.step0 G;replace Y:=Y.step0 G;have A3:=putTableF_lenA 4 ((List.replicate c.dataSlots ({first:=0,tail:=0}:Slt)));rw[A9]at A3;try simp only[LL,Nat.reduceAdd,Nat.reduceMul]at A3
  refine st_nil ⟨rfl,Y,?_⟩;refine m_e ?_ rfl;refine st_ap (sz:=1) (by rfl) u45 elT5 rfl rfl S A6 (fun _ h _=>h) uQ (Fsh.new M) (by(simp<;>omega)) (by(simp<;>omega)) ?_;intro Af Fs B1 sQ sT Z K G V _ j;have Ao:∀b,vblock Af=some b→b∈(vblock v5).toList∨_:=fun b H=>(j b H).elim (Av b) (fun h=>Or.inr (lQ Y.size h));have Bd:=S;clear S;replace I:=sQ _ I F.lt;replace D:=fun hh=>D (sT _ hh);replace tQ:=fun b H=>tQ b (sT b H);replace U:=fun b H hl=>sQ b (U b H hl) (lv hl M.size);replace F:=F.md G (apart_ow Bd F (by decide));replace A:=A.md G (apart_ow Bd A (by decide));replace uQ:=uQ.md G;replace M:=M.stepO G (fun b H=>(Bd.2 b H).1);replace Y:=Y.stepO G Av;replace uQ:=Z;clear Z sQ sT V j;refine st_nil ⟨rfl,Y,?_⟩;refine m_nil ?_;clear Ax L W;clear Y;refine sn rfl (sf rfl off113_3 (st_store rfl rfl one45 K.oneCell A (ly rfl) ?_));have E:=A;clear A;intro Cc G A;have V:∀b∈[O],¬B1 b:=(by intro b H;simp at H;subst H;exact D);replace F:=F.md G (by intro H;simp at H;omega);replace K:=K.md G (apart_bo E K (by decide)) V;replace uQ:=uQ.md G;replace M:=M.step G (all_cons N all_nil);clear E V;obtain⟨X,R⟩:∃y,y=({({c:=c,h:=({compat:=0,incompat:=0,state:=0,file:=idZ,machine:=idZ,boot:=idZ,seq:=idZ,n:=(List.replicate 20 0),tailArray:=0,tailItems:=0,tailEntry:=0}:RHead),depth:=0,b:=(List.replicate 272 0),datas:=[],fields:=[],main:=[]}:Mk)with b:=((({c:=c,h:=({compat:=0,incompat:=0,state:=0,file:=idZ,machine:=idZ,boot:=idZ,seq:=idZ,n:=(List.replicate 20 0),tailArray:=0,tailItems:=0,tailEntry:=0}:RHead),depth:=0,b:=(List.replicate 272 0),datas:=[],fields:=[],main:=[]}:Mk)).b) ++ Aq}:Mk):=⟨_,rfl⟩;replace A:Blk _ _ (Mk.cells ({({c:=c,h:=({compat:=0,incompat:=0,state:=0,file:=idZ,machine:=idZ,boot:=idZ,seq:=idZ,n:=(List.replicate 20 0),tailArray:=0,tailItems:=0,tailEntry:=0}:RHead),depth:=0,b:=(List.replicate 272 0),datas:=[],fields:=[],main:=[]}:Mk)with b:=((({c:=c,h:=({compat:=0,incompat:=0,state:=0,file:=idZ,machine:=idZ,boot:=idZ,seq:=idZ,n:=(List.replicate 20 0),tailArray:=0,tailItems:=0,tailEntry:=0}:RHead),depth:=0,b:=(List.replicate 272 0),datas:=[],fields:=[],main:=[]}:Mk)).b) ++ Aq}) Af (.slice none 0 0) (.slice none 0 0) (.slice none 0 0)) _:=A
  rw[← R]at A;have Ay:Mk.ok X:=(by rw[R];exact⟨Ae.1,Ae.2.1,Ae.2.2⟩);have Cd:X.b.length=(((({c:=c,h:=({compat:=0,incompat:=0,state:=0,file:=idZ,machine:=idZ,boot:=idZ,seq:=idZ,n:=(List.replicate 20 0),tailArray:=0,tailItems:=0,tailEntry:=0}:RHead),depth:=0,b:=(List.replicate 272 0),datas:=[],fields:=[],main:=[]}:Mk)).b) ++ Aq).length:=(by rw[R]);simp only[List.length_append,List.length_set,List.length_cons,List.length_nil,List.length_replicate,Nat.zero_add]at Cd;have D7:X.datas.length=(({c:=c,h:=({compat:=0,incompat:=0,state:=0,file:=idZ,machine:=idZ,boot:=idZ,seq:=idZ,n:=(List.replicate 20 0),tailArray:=0,tailItems:=0,tailEntry:=0}:RHead),depth:=0,b:=(List.replicate 272 0),datas:=[],fields:=[],main:=[]}:Mk)).datas.length:=(by rw[R]);have D8:X.fields.length=(({c:=c,h:=({compat:=0,incompat:=0,state:=0,file:=idZ,machine:=idZ,boot:=idZ,seq:=idZ,n:=(List.replicate 20 0),tailArray:=0,tailItems:=0,tailEntry:=0}:RHead),depth:=0,b:=(List.replicate 272 0),datas:=[],fields:=[],main:=[]}:Mk)).fields.length:=(by rw[R]);have D9:X.c.dataSlots=(({c:=c,h:=({compat:=0,incompat:=0,state:=0,file:=idZ,machine:=idZ,boot:=idZ,seq:=idZ,n:=(List.replicate 20 0),tailArray:=0,tailItems:=0,tailEntry:=0}:RHead),depth:=0,b:=(List.replicate 272 0),datas:=[],fields:=[],main:=[]}:Mk)).c.dataSlots:=(by rw[R]);have Ea:X.c.fieldSlots=(({c:=c,h:=({compat:=0,incompat:=0,state:=0,file:=idZ,machine:=idZ,boot:=idZ,seq:=idZ,n:=(List.replicate 20 0),tailArray:=0,tailItems:=0,tailEntry:=0}:RHead),depth:=0,b:=(List.replicate 272 0),datas:=[],fields:=[],main:=[]}:Mk)).c.fieldSlots:=(by rw[R]);have Eb:X.h.n.getD 2 0=(({c:=c,h:=({compat:=0,incompat:=0,state:=0,file:=idZ,machine:=idZ,boot:=idZ,seq:=idZ,n:=(List.replicate 20 0),tailArray:=0,tailItems:=0,tailEntry:=0}:RHead),depth:=0,b:=(List.replicate 272 0),datas:=[],fields:=[],main:=[]}:Mk)).h.n.getD 2 0:=(by rw[R]);have Ec:X.h.n.getD 4 0=(({c:=c,h:=({compat:=0,incompat:=0,state:=0,file:=idZ,machine:=idZ,boot:=idZ,seq:=idZ,n:=(List.replicate 20 0),tailArray:=0,tailItems:=0,tailEntry:=0}:RHead),depth:=0,b:=(List.replicate 272 0),datas:=[],fields:=[],main:=[]}:Mk)).h.n.getD 4 0:=(by rw[R])
  rw[show((({c:=c,h:=({compat:=0,incompat:=0,state:=0,file:=idZ,machine:=idZ,boot:=idZ,seq:=idZ,n:=(List.replicate 20 0),tailArray:=0,tailItems:=0,tailEntry:=0}:RHead),depth:=0,b:=(List.replicate 272 0),datas:=[],fields:=[],main:=[]}:Mk)).b) ++ Aq=X.b by rw[R]]at K;refine nt (ns (mv rfl (sn rfl (sf rfl off113_3 (sl (u:=Af) rfl one45 A rfl (sL rfl u45 K.shp (st _ (r_convN (a:=X.b.length) 18446744073709551616 rfl (by rw[u3];rfl) u23 rfl (by omega)) (asg rfl (nt (c_seq ?_))))))))));have L:=F;have Ap:=K;have W:=A;have Ck:∀b∈(vblock Af).toList,¬B1 b:=(all_row (fun x hx=>(K.2 x hx).2));refine c_mixT [(0,true),(1,true),(2,true),(3,true),(4,true),(5,true),(6,true),(7,false),(8,false),(9,false)] [10,11,12] (fun w'=>Md (vblock Af).toList Cc w') mixed (by kernel_rfl) ?_;intro Ft J;refine⟨J.mono (by simp),?_⟩;have Y:=J.mono (T:=(vblock Af).toList) (by simp);have Ao:∀b,vblock Af=some b→b∈(vblock Af).toList∨Cc.heap.size≤b:=fun b H=>Or.inl (by simp[H]);refine mo rfl (mo rfl (mz (fun w' g=>r_nil rfl) (mz (fun w' g=>r_field rfl off113_3) (mz (fun w' g=>(r_loadBlk rfl one45 (W.md g (apart_ow Ap W (by decide))) rfl).to (b:=Af) rfl) (mz (fun w' g=>r_field rfl off29_4) (mz (fun w' g=>(r_loadBlk rfl one3 (L.md g (apart_ow Ap L (by decide))) rfl).to (b:=(.int .i64 c.fieldSlots)) rfl) ?_))))));have Fk:c.fieldSlots<9223372036854775808:=a0_0.2.2.2.2.1;replace F:=F.md0 J;replace K:=K.md0 J;replace A:=A.md0 J;replace uQ:=uQ.md J;replace M:=M.step0 J;refine m_e ?_ rfl;refine st_mkG (lo:=Fsh [] w) (T:=tSlt) (z:=({first:=0,tail:=0}:Slt)) (zs:=(Slt.cells (({first:=0,tail:=0}:Slt)))) (m:=c.fieldSlots) rfl u115 elT173 z173 rfl (fun _ _=>(tSlt_mk (by exact⟨(by(simp<;>omega)),(by(simp<;>omega))⟩))) uQ (Fsh.new M) (by omega) ?_
  intro Co w32 Ff sQ sT Z Ab G j;have Cg:∀b,vblock Co=some b→b∈(vblock Af).toList∨_:=fun b H=>Or.inr (lQ Y.size (j b H));replace I:=sQ _ I F.lt;replace K:=K.sub sQ sT;replace D:=fun hh=>D (sT _ hh);replace tQ:=fun b H=>tQ b (sT b H);replace U:=fun b H hl=>sQ b (U b H hl) (lv hl M.size);replace F:=F.md0 G;replace K:=K.md0 G;replace A:=A.md0 G;replace uQ:=uQ.md G;replace M:=M.step0 G;replace Y:=Y.step0 G;replace uQ:=Z;clear Z sQ sT j;refine st_nil ⟨rfl,Y,?_⟩;refine m_e ?_ rfl;obtain⟨Cj,fQ,fT,Bc⟩:=Ab.freeze;replace I:=fQ _ I;replace K:=K.subF fQ fT (apart_oo Ab K (by decide));replace D:=fun hh=>(fT _ hh).elim D (nfz (apart_ow Ab A (by decide)));replace tQ:=fun b H=>(fT b H).elim (tQ b) (fun hv=>Fsh.up Cb b (Ab.2 b hv).1);replace U:=fun b H hl=>fQ b (U b H hl);replace uQ:Up w32 Cj:=fun b H=>fQ b (uQ b H);clear Ab fQ fT;have Ab:=Bc;clear Bc;refine st_call fn53 rfl (putTable_any uQ 5 (by omega) Ab (by(simp<;>omega))) ?_;rintro en Fu ⟨Cp,Ar,rfl,G,A7,Ba⟩;refine⟨_,rfl,?_⟩;replace F:=F.md0 G;replace K:=K.md0 G;replace A:=A.md0 G;replace uQ:=uQ.md G;replace M:=M.step0 G;replace Y:=Y.step0 G;have A4:=putTableF_lenA 5 ((List.replicate c.fieldSlots ({first:=0,tail:=0}:Slt)));rw[Ba]at A4;try simp only[LL,Nat.reduceAdd,Nat.reduceMul]at A4
  refine st_nil ⟨rfl,Y,?_⟩;refine m_e ?_ rfl;refine st_ap (sz:=1) (by rfl) u45 elT5 rfl rfl K A7 (fun _ h _=>h) uQ (Fsh.new M) (by omega) (by omega) ?_;intro A0 Fv A2 sQ sT Z C G V _ j;have Ch:∀b,vblock A0=some b→b∈(vblock Af).toList∨_:=fun b H=>(j b H).elim (Ao b) (fun h=>Or.inr (lQ Y.size h));have Aw:=K;clear K;replace I:=sQ _ I F.lt;replace D:=fun hh=>D (sT _ hh);replace tQ:=fun b H=>tQ b (sT b H);replace U:=fun b H hl=>sQ b (U b H hl) (lv hl M.size);replace F:=F.md G (apart_ow Aw F (by decide));replace A:=A.md G (apart_ow Aw A (by decide));replace uQ:=uQ.md G;replace M:=M.stepO G (fun b H=>(Aw.2 b H).1);replace Y:=Y.stepO G Ao;replace uQ:=Z;clear Z sQ sT V j;refine st_nil ⟨rfl,Y,?_⟩;refine m_nil ?_;clear Ap W L;clear Y;refine sn rfl (sf rfl off113_3 (st_store rfl rfl one45 C.oneCell A (ly rfl) ?_));have E:=A;clear A;intro Fw G A;have V:∀b∈[O],¬A2 b:=(by intro b H;simp at H;subst H;exact D);replace F:=F.md G (by intro H;simp at H;omega);replace C:=C.md G (apart_bo E C (by decide)) V;replace uQ:=uQ.md G;replace M:=M.step G (all_cons N all_nil);clear E V;obtain⟨Az,d⟩:∃y,y=({X with b:=X.b ++ Ar}:Mk):=⟨_,rfl⟩;replace A:Blk _ _ (Mk.cells ({X with b:=X.b ++ Ar}) A0 (.slice none 0 0) (.slice none 0 0) (.slice none 0 0)) _:=A;rw[← d]at A;have Bf:Mk.ok Az:=(by rw[d];exact⟨Ay.1,Ay.2.1,Ay.2.2⟩);obtain⟨Ed,Ee,Ef,Eg,Eh,Ei⟩:=mk_b d;have Ce:Az.b.length=(X.b ++ Ar).length:=(by rw[d]);simp only[List.length_append,List.length_set,List.length_cons,List.length_nil,List.length_replicate,Nat.zero_add]at Ce
  rw[show X.b ++ Ar=Az.b by rw[d]]at C;refine nt (ns (mv rfl (sf rfl off29_0 (st _ (r_loadPart (idc c.file) rfl (by exact agg27) F rfl) ?_))));have Fl:c.file.length=16:=a0_0.1;refine sf rfl off29_1 (st _ (r_loadPart (idc c.machine) rfl (by exact agg27) F rfl) ?_);have Fm:c.machine.length=16:=a0_0.2.1;refine sf rfl off29_2 (st _ (r_loadPart (idc c.seq) rfl (by exact agg27) F rfl) ?_);have Fn:c.seq.length=16:=a0_0.2.2.1;refine st _ (r_buildG (us:=[[(.int .u32 ((2:Nat):Int))],[(.int .i64 ((1:Nat):Int))],(idc c.file),(idc c.machine),(idc c.seq)]) (cs:=(RHead.cells (({compat:=2,incompat:=0,state:=1,file:=c.file,machine:=c.machine,boot:=idZ,seq:=c.seq,n:=(List.replicate 20 0),tailArray:=0,tailItems:=0,tailEntry:=0}:RHead)))) [(0,0,1),(2,2,1),(3,3,16),(4,19,16),(6,51,16)] z110 pl110 rfl rfl ⟨rfl,rfl,rfl,rfl,rfl,tV⟩ ⟨rfl,rfl,rfl,rfl,rfl,tV⟩ rfl rfl) (sn rfl (sf rfl off113_1 (st_storeAgg (us:=(RHead.cells (({compat:=2,incompat:=0,state:=1,file:=c.file,machine:=c.machine,boot:=idZ,seq:=c.seq,n:=(List.replicate 20 0),tailArray:=0,tailItems:=0,tailEntry:=0}:RHead)))) rfl rfl (by exact agg110) (by exact fun u hu=>one_cells (RHead.one) u hu) A (ly rfl) ?_)));have E:=A;clear A;intro Fx G A;have V:∀b∈[O],¬A2 b:=(by intro b H;simp at H;subst H;exact D);replace F:=F.md G (by intro H;simp at H;omega);replace C:=C.md G (apart_bo E C (by decide)) V;replace uQ:=uQ.md G;replace M:=M.step G (all_cons N all_nil);clear E V;obtain⟨k,e⟩:∃y,y=({Az with h:=({compat:=2,incompat:=0,state:=1,file:=c.file,machine:=c.machine,boot:=idZ,seq:=c.seq,n:=(List.replicate 20 0),tailArray:=0,tailItems:=0,tailEntry:=0}:RHead)}:Mk):=⟨_,rfl⟩;replace A:Blk _ _ (Mk.cells ({Az with h:=({compat:=2,incompat:=0,state:=1,file:=c.file,machine:=c.machine,boot:=idZ,seq:=c.seq,n:=(List.replicate 20 0),tailArray:=0,tailItems:=0,tailEntry:=0}:RHead)}) A0 (.slice none 0 0) (.slice none 0 0) (.slice none 0 0)) _:=A
  rw[← e]at A;have P:Mk.ok k:=(by rw[e];exact⟨Bf.1,(by exact⟨(by(simp<;>omega)),(by(simp<;>omega)),(by(simp<;>omega)),(by assumption),(by assumption),(by rfl),(by assumption),(by exact nums_zero _),(by(simp<;>omega)),(by(simp<;>omega)),(by(simp<;>omega))⟩),Bf.2.2⟩);obtain⟨Ej,Ek,El,Em,En⟩:=mk_h e;rw[show Az.b=k.b by rw[e]]at C;refine nt (c_seq (ns (sf rfl off29_6 (sl (u:=(.bool c.keyed)) rfl one4 F rfl (nt ?_)))));refine c_cut (fun(mj:Mk)=>[(1,(.int .u64 tail)),(2,(.pointer (some ⟨Bg,0,none⟩))),(5,(.pointer (some ⟨O,0,none⟩))),(6,(.int .u64 X.b.length))]) (fun(mj:Mk) w'=>∃Q':Nat→Prop,(∀b,Q' b→Q b)∧(∀b,Q b→b<w.heap.size→Q' b)∧Up w' Q'∧Md [] w w'∧Blk w' O (Mk.cells mj A0 (.slice none 0 0) (.slice none 0 0) (.slice none 0 0)) 113∧Ow tB8 5 (Fsh [] w) w' Q' A0 mj.b∧Mk.ok mj∧Blk w' Bg (Cfg.cells c) 29∧¬Q' O∧Q' Bg∧mj=({k with h:={k.h with incompat:=if c.keyed=true then 4 else 0}}:Mk)) ?_ ?_
  · clear M uQ tQ U I D F Aa A6 Ab A7 C A
    rintro mj B Fy ⟨Am,tQ,U,uQ,M,A,C,Bv,F,D,I,Bi⟩;have t:=Bi;obtain⟨Eo,Ep,Er,Es,Et⟩:=mk_h t;have F2:mj.h.n.getD 2 0=k.h.n.getD 2 0:=(by rw[t]);have F3:mj.h.n.getD 4 0=k.h.n.getD 4 0:=(by rw[t]);refine c_then (ns (mv rfl (sn rfl (sf rfl off113_1 (sf rfl off110_7 (st _ ((r_indexArrN (i:=0) 1 rfl rfl u108 el23 (by decide))) (st_store rfl rfl one23 rfl A (ly rfl) ?_)))))));have E:=A;clear A;intro Fz G A;have V:∀b∈[O],¬Am b:=(by intro b H;simp at H;subst H;exact D);replace C:=C.md G (apart_bo E C (by decide)) V;replace F:=F.md G (by intro H;simp at H;omega);replace uQ:=uQ.md G;replace M:=M.step G (all_cons N all_nil);clear E V;obtain⟨B6,Ai,A,Bw,Eu,Ev,Ew,Ex,Ey,Ez,E0⟩:=mk_num (i:=0) A Bv (by(simp<;>omega));rw[show mj.b=B6.b by rw[Ai]]at C;refine nt (ns (mv rfl (sn rfl (sf rfl off113_1 (sf rfl off110_7 (st _ ((r_indexArrN (i:=2) 1 rfl rfl u108 el23 (by decide))) (st_store rfl rfl one23 rfl A (ly rfl) ?_)))))));have E:=A;clear A;intro Cr G A;have V:∀b∈[O],¬Am b:=(by intro b H;simp at H;subst H;exact D);replace C:=C.md G (apart_bo E C (by decide)) V;replace F:=F.md G (by intro H;simp at H;omega);replace uQ:=uQ.md G;replace M:=M.step G (all_cons N all_nil);clear E V;obtain⟨B8,Aj,A,Bx,E1,E2,E3,E4,E5,E6⟩:=mk_num2 (i:=2) A Bw (by(simp<;>omega));rw[show B6.b=B8.b by rw[Aj]]at C;refine nt (c_seq ?_);have L:=F;refine c_mixT (ml 8) [8,9] (fun w'=>Md [] Cr w') mixed (by kernel_rfl) ?_;intro F0 J;refine⟨J.mono (by simp),?_⟩;have Y:=J.mono (T:=[]) (by simp);refine mo rfl (mz (fun w' g=>r_field rfl off29_3) ?_)
    refine mz (fun w' g=>(r_loadBlk rfl one3 (L.md0 g) rfl).to (b:=(.int .i64 c.dataSlots)) rfl) ?_;have Fo:c.dataSlots<9223372036854775808:=a0_0.2.2.2.1;refine mz (fun w' g=>r_mulN (a:=16) (b:=c.dataSlots) 9223372036854775808 rfl rfl rfl (by omega)) (mz (fun w' g=>r_convN (a:=16*c.dataSlots) 18446744073709551616 rfl (by rw[u3];rfl) u23 rfl (by omega)) (mz (fun w' g=>r_nil rfl) (mz (fun w' g=>r_field rfl off113_1) (mz (fun w' g=>r_field rfl off110_7) (m_nil ?_)))));replace C:=C.md0 J;replace F:=F.md0 J;replace A:=A.md0 J;replace uQ:=uQ.md J;replace M:=M.step0 J;clear L;clear Y;refine st _ ((r_indexArrN (i:=3) 1 rfl rfl u108 el23 (by decide))) (st_store rfl rfl one23 rfl A (ly rfl) ?_);have E:=A;clear A;intro F1 G A;have V:∀b∈[O],¬Am b:=(by intro b H;simp at H;subst H;exact D);replace C:=C.md G (apart_bo E C (by decide)) V;replace F:=F.md G (by intro H;simp at H;omega);replace uQ:=uQ.md G;replace M:=M.step G (all_cons N all_nil);clear E V;obtain⟨B9,Ak,A,Bz,E7,E8,E9,Fa,Fb,Fc,Fd⟩:=mk_num (i:=3) A Bx (by omega);rw[show B8.b=B9.b by rw[Ak]]at C;refine nt (ns (mv rfl (mv rfl (st _ (r_addN (a:=X.b.length) (b:=16) 18446744073709551616 rfl rfl rfl (by omega)) (sn rfl (sf rfl off113_1 (sf rfl off110_7 (st _ ((r_indexArrN (i:=4) 1 rfl rfl u108 el23 (by decide))) (st_store rfl rfl one23 rfl A (ly rfl) ?_)))))))));have E:=A;clear A;intro Cs G A;have V:∀b∈[O],¬Am b:=(by intro b H;simp at H;subst H;exact D);replace C:=C.md G (apart_bo E C (by decide)) V;replace F:=F.md G (by intro H;simp at H;omega);replace uQ:=uQ.md G;replace M:=M.step G (all_cons N all_nil);clear E V;obtain⟨Ca,Al,A,B0,Ct,Cu,Cv,Cw,Cx,Cy⟩:=mk_num4 (i:=4) A Bz (by omega)
    rw[show B9.b=Ca.b by rw[Al]]at C;refine nt (c_seq ?_);have L:=F;refine c_mixT (ml 8) [8,9] (fun w'=>Md [] Cs w') mixed (by kernel_rfl) ?_;intro D0 J;refine⟨J.mono (by simp),?_⟩;have Y:=J.mono (T:=[]) (by simp);refine mo rfl (mz (fun w' g=>r_field rfl off29_4) (mz (fun w' g=>(r_loadBlk rfl one3 (L.md0 g) rfl).to (b:=(.int .i64 c.fieldSlots)) rfl) ?_));have Dz:c.fieldSlots<9223372036854775808:=a0_0.2.2.2.2.1;refine mz (fun w' g=>r_mulN (a:=16) (b:=c.fieldSlots) 9223372036854775808 rfl rfl rfl (by omega)) (mz (fun w' g=>r_convN (a:=16*c.fieldSlots) 18446744073709551616 rfl (by rw[u3];rfl) u23 rfl (by omega)) (mz (fun w' g=>r_nil rfl) (mz (fun w' g=>r_field rfl off113_1) (mz (fun w' g=>r_field rfl off110_7) (m_nil ?_)))));replace C:=C.md0 J;replace A:=A.md0 J;replace uQ:=uQ.md J;replace M:=M.step0 J;clear L;clear Y;refine st _ ((r_indexArrN (i:=5) 1 rfl rfl u108 el23 (by decide))) (st_store rfl rfl one23 rfl A (ly rfl) ?_);have E:=A;clear A;intro D1 G A;have V:∀b∈[O],¬Am b:=(by intro b H;simp at H;subst H;exact D);replace C:=C.md G (apart_bo E C (by decide)) V;replace uQ:=uQ.md G;replace M:=M.step G (all_cons N all_nil);clear E V;obtain⟨Bp,l,A,Bk,Cz,C0,C1,C2,C3,C4,C5⟩:=mk_num (i:=5) A B0 (by omega);rw[show Ca.b=Bp.b by rw[l]]at C;refine nt (ns (mv rfl (mv rfl (sn rfl (sf rfl off113_1 (sf rfl off110_7 (st _ ((r_indexArrN (i:=6) 1 rfl rfl u108 el23 (by decide))) (st_store rfl rfl one23 rfl A (ly rfl) ?_))))))));have E:=A;clear A;intro D2 G A;have V:∀b∈[O],¬Am b:=(by intro b H;simp at H;subst H;exact D)
    replace C:=C.md G (apart_bo E C (by decide)) V;replace uQ:=uQ.md G;replace M:=M.step G (all_cons N all_nil);clear E V;obtain⟨Bq,o,A,Bl,C6,C7,C8,C9,Da,Db,Dc⟩:=mk_num (i:=6) A Bk (by omega);rw[show Bp.b=Bq.b by rw[o]]at C;refine nt (ns (mv rfl (sn rfl (sf rfl off113_1 (sf rfl off110_7 (st _ ((r_indexArrN (i:=7) 1 rfl rfl u108 el23 (by decide))) (st_store rfl rfl one23 rfl A (ly rfl) ?_)))))));have E:=A;clear A;intro D3 G A;have V:∀b∈[O],¬Am b:=(by intro b H;simp at H;subst H;exact D);replace C:=C.md G (apart_bo E C (by decide)) V;replace uQ:=uQ.md G;replace M:=M.step G (all_cons N all_nil);clear E V;obtain⟨Br,p,A,Bm,Dd,De,Df,Dg,Dh,Di,Dj⟩:=mk_num (i:=7) A Bl (by(simp<;>omega));rw[show Bq.b=Br.b by rw[p]]at C;refine nt (ns (mv rfl (mv rfl (sn rfl (sf rfl off113_1 (sf rfl off110_7 (st _ ((r_indexArrN (i:=9) 1 rfl rfl u108 el23 (by decide))) (st_store rfl rfl one23 rfl A (ly rfl) ?_))))))));have E:=A;clear A;intro D4 G A;have V:∀b∈[O],¬Am b:=(by intro b H;simp at H;subst H;exact D);replace C:=C.md G (apart_bo E C (by decide)) V;replace uQ:=uQ.md G;replace M:=M.step G (all_cons N all_nil);clear E V;obtain⟨Bs,r,A,Bn,Dk,Dl,Dm,Dn,Do,Dp,Dq⟩:=mk_num (i:=9) A Bm (by omega);rw[show Br.b=Bs.b by rw[r]]at C;refine nt (ns (mv rfl (asg rfl (nt (c_ret ?_)))));exact ret1L (v:=(.pointer (some ⟨O,0,none⟩))) trivial rfl ⟨rfl,tV⟩ ⟨O,_,_,_,_,Bs,Am,rfl,M,⟨U,tQ,uQ⟩,A,D,As,Bn,C,(by(simp only[R,d,e,t,Ai,Aj,Ak,Al,l,o,p,r];exact Ow.nil _ _ _ _ _)),(by(simp only[R,d,e,t,Ai,Aj,Ak,Al,l,o,p,r];exact Ow.nil _ _ _ _ _)),(by(simp only[R,d,e,t,Ai,Aj,Ak,Al,l,o,p,r];exact Ls.nil _ _ _)),(fun x hx=>by simp[vblock]at hx),(by(try simp only[R,d,e,t,Ai,Aj,Ak,Al,l,o,p,r]at A9 Ba);rw[newMk]<;>simp(disch:=first|omega|assumption|(simp;done)|fail) only [Mk.setN,idZ,SS,reduceIte,A9,R,Ba,d,e,t,Ai,Aj,Ak,Al,l,o,p,r])⟩
  · refine c_if rfl (fun Bu=>?_) (fun Bu=>?_)
    · (have A8:=Bu);refine c_region (mv rfl (sn rfl (sf rfl off113_1 (sf rfl off110_1 (st_store rfl rfl one103 rfl A (ly rfl) ?_)))));have E:=A;clear A;intro D5 G A;have V:∀b∈[O],¬A2 b:=(by intro b H;simp at H;subst H;exact D);replace F:=F.md G (by intro H;simp at H;omega);replace C:=C.md G (apart_bo E C (by decide)) V;replace uQ:=uQ.md G;replace M:=M.step G (all_cons N all_nil);clear E V;obtain⟨Au,f⟩:∃y,y=({k with h:={k.h with incompat:=4}}:Mk):=⟨_,rfl⟩;replace A:Blk _ _ (Mk.cells ({k with h:={k.h with incompat:=4}}) A0 (.slice none 0 0) (.slice none 0 0) (.slice none 0 0)) _:=A;rw[← f]at A;have Bo:Mk.ok Au:=(by rw[f];exact⟨P.1,⟨P.2.1.1,(by(simp<;>omega)),P.2.1.2.2.1,P.2.1.2.2.2.1,P.2.1.2.2.2.2.1,P.2.1.2.2.2.2.2.1,P.2.1.2.2.2.2.2.2.1,P.2.1.2.2.2.2.2.2.2.1,P.2.1.2.2.2.2.2.2.2.2.1,P.2.1.2.2.2.2.2.2.2.2.2.1,P.2.1.2.2.2.2.2.2.2.2.2.2⟩,P.2.2⟩);obtain⟨Dr,Ds,Du,Dv,Dw⟩:=mk_h f;have Dx:Au.h.n.getD 2 0=k.h.n.getD 2 0:=(by rw[f]);have Dy:Au.h.n.getD 4 0=k.h.n.getD 4 0:=(by rw[f]);rw[show k.b=Au.b by rw[f]]at C;refine st_nil ?_;exact⟨rfl,cut_in Au ⟨rfl,rfl,rfl,rfl,tV⟩ ⟨A2,tQ,U,uQ,M,A,C,Bo,F,D,I,(by rw[if_pos (show c.keyed=true from A8)];exact f)⟩⟩
    · (have A8:=Bu);refine c_skip ?_;exact⟨rfl,cut_in k ⟨rfl,rfl,rfl,rfl,tV⟩ ⟨A2,tQ,U,uQ,M,A,C,P,F,D,I,(by rw[if_neg (show ¬c.keyed=true by simp[A8]),e]<;>rfl)⟩⟩
theorem fn54:isFn Tryz.prog 54=true:=by kernel_rfl

set_option maxRecDepth 100000 in
theorem mimage_any {w:World} {Q:Nat→Prop} (uQ:Up w Q) {v0:Value} {m:Mk} (h0:Pt tMk 113 w Q v0 m) (sta:Nat) (a1:sta<9223372036854775808) (p0:272≤m.b.length) (p1:m.b.length≤4294967296) :
    Calls Tryz.prog 15 #[v0,(.int .i64 sta)] w fun en w'=>∃u0:Value,∃r0:List UInt8,∃Q':Nat→Prop,en = .returned (u0)∧Md [] w w'∧NewQ w w' Q Q'∧Ow tB8 5 (Fsh [] w) w' Q' u0 r0∧imageM m sta=r0:=by
  obtain⟨Ae,Ap,rfl,Al,h0,Aj⟩:=h0;obtain⟨v1,v2,v3,v4,rfl,Y,G,Aq,Ar,As⟩:=tMk_un Aj;have M:=Md.refl [] w;have Ax:=uQ;have r:∀b,Q b→Q b:=fun _ h=>h;have N:∀b,Q b→b<w.heap.size→Q b:=fun _ h _=>h;refine enter (n:=33) Tryz.func15 rfl rfl rfl ?_;intro B;refine ns (asg rfl (nt (ns (mv rfl (sn rfl (sf rfl off113_1 (st _ (r_loadPart (RHead.cells m.h) rfl (by exact agg110) h0 rfl) (st_alloc z110 ?_))))))));intro R Ay f Ah E C;have Af:Ae≠R:=(by have:=h0.lt;omega);obtain⟨o,e,l,K,J⟩:=exQ uQ f Ah E;replace G:=G.sub e;replace r:=fun b D=>r b (l b D);replace N:=fun b D k=>e b (N b D k) (lv k M.size);replace f:=lQ M.size f;replace G:=G.md0 E;replace h0:=h0.md0 E;replace uQ:=uQ.md E;replace M:=M.step0 E;replace uQ:=J;clear J e l;have L:Fsh [] w R:=.inr f;replace C:Blk _ _ (RHead.cells (({compat:=0,incompat:=0,state:=0,file:=idZ,machine:=idZ,boot:=idZ,seq:=idZ,n:=(List.replicate 20 0),tailArray:=0,tailItems:=0,tailEntry:=0}:RHead))) _:=C;have Ai:RHead.ok (({compat:=0,incompat:=0,state:=0,file:=idZ,machine:=idZ,boot:=idZ,seq:=idZ,n:=(List.replicate 20 0),tailArray:=0,tailItems:=0,tailEntry:=0}:RHead)):=(by exact⟨(by decide),(by decide),(by decide),rfl,rfl,rfl,rfl,(nums_zero _),(by decide),(by decide),(by decide)⟩)
  refine st_storeAgg (us:=(RHead.cells m.h)) rfl rfl (by exact agg110) (by exact fun u hu=>one_cells (RHead.one) u hu) C (ly rfl) ?_;have I:=C;clear C;intro Az E C;have c:∀b∈[R],¬o b:=(by intro b D;simp at D;subst D;exact K);replace G:=G.md E c;replace h0:=h0.md E (by intro D;simp at D;omega);replace uQ:=uQ.md E;replace M:=M.step E (all_cons L all_nil);clear I c;replace C:Blk _ _ (RHead.cells m.h) _:=C;refine nt (ns (mv rfl (sf rfl off110_2 (st_store rfl rfl one3 rfl C (ly rfl) ?_))));have I:=C;clear C;intro A0 E C;have c:∀b∈[R],¬o b:=(by intro b D;simp at D;subst D;exact K);replace G:=G.md E c;replace h0:=h0.md E (by intro D;simp at D;omega);replace uQ:=uQ.md E;replace M:=M.step E (all_cons L all_nil);clear I c;obtain⟨Z,O⟩:∃y,y=({m.h with state:=sta}:RHead):=⟨_,rfl⟩;replace C:Blk _ _ (RHead.cells ({m.h with state:=sta})) _:=C;rw[← O]at C;have A:RHead.ok Z:=(by rw[O];exact⟨Y.2.1.1,Y.2.1.2.1,(by omega),Y.2.1.2.2.2.1,Y.2.1.2.2.2.2.1,Y.2.1.2.2.2.2.2.1,Y.2.1.2.2.2.2.2.2.1,Y.2.1.2.2.2.2.2.2.2.1,Y.2.1.2.2.2.2.2.2.2.2.1,Y.2.1.2.2.2.2.2.2.2.2.2.1,Y.2.1.2.2.2.2.2.2.2.2.2.2⟩);refine nt (ns (mv rfl (sn rfl (sf rfl off113_3 (sl (u:=v1) rfl one45 h0 rfl (sL rfl u45 G.shp (st _ (r_subN (a:=m.b.length) (b:=272) 9223372036854775808 rfl rfl rfl (by omega)) (st _ (r_convN (a:=m.b.length-272) 18446744073709551616 rfl (by rw[u3];rfl) u23 rfl (by omega)) (sf rfl off110_7 (st _ ((r_indexArrN (i:=1) 1 rfl rfl u108 el23 (by decide))) (st_store rfl rfl one23 rfl C (ly rfl) ?_)))))))))));have I:=C;clear C;intro Ac E C;have c:∀b∈[R],¬o b:=(by intro b D;simp at D;subst D;exact K)
  replace G:=G.md E c;replace h0:=h0.md E (by intro D;simp at D;omega);replace uQ:=uQ.md E;replace M:=M.step E (all_cons L all_nil);clear I c;obtain⟨j,P⟩:∃y,y=({Z with n:=Z.n.set 1 (m.b.length-272)}:RHead):=⟨_,rfl⟩
  replace C:Blk Ac R (RHead.cells ({Z with n:=Z.n.set 1 (m.b.length-272)})) 110:=by
    have hh:=C;simp only[RHead.cells];rw[nums20_set (by exact A.2.2.2.2.2.2.2.1.1) (by decide)];exact hh
  rw[← P]at C;have p:RHead.ok j:=(by rw[P];exact⟨A.1,A.2.1,A.2.2.1,A.2.2.2.1,A.2.2.2.2.1,A.2.2.2.2.2.1,A.2.2.2.2.2.2.1,(nums_set A.2.2.2.2.2.2.2.1 (by omega)),A.2.2.2.2.2.2.2.2.1,A.2.2.2.2.2.2.2.2.2.1,A.2.2.2.2.2.2.2.2.2.2⟩);refine nt (c_seq ?_);have U:=h0;have W:=C;refine c_mixT [(0,true),(1,true),(2,true),(3,true),(4,true),(6,true),(7,true),(8,true),(9,true),(10,true),(5,false)] [11,12] (fun w'=>Md [] Ac w') mixed (by kernel_rfl) ?_;intro A1 X;refine⟨X.mono (by simp),?_⟩;have z:=X.mono (T:=[]) (by simp);refine mz (fun w' d=>r_loadPart (RHead.cells j) rfl (by exact agg110) (W.md0 d) rfl) (mo rfl (mz (fun w' d=>r_nil rfl) (mz (fun w' d=>r_field rfl off113_2) (mz (fun w' d=>(r_loadBlk rfl one23 (U.md0 d) rfl).to (b:=(.int .u64 m.depth)) rfl) ?_))));have Aw:m.depth<18446744073709551616:=Y.2.2;refine mo rfl (mz (fun w' d=>r_nil rfl) (mz (fun w' d=>r_field rfl off113_3) (mz (fun w' d=>(r_loadBlk rfl one45 (U.md0 d) rfl).to (b:=v1) rfl) (mz (fun w' d=>r_sliceZ 1 272 m.b.length u45 el5 rfl G.shp (by omega) (by omega) ⟨_,rfl⟩ rfl) ?_))));have H:=G.tail (lo:=272) (by omega);replace H:=H.md0 X;replace uQ:=uQ.md X;replace M:=M.step0 X;refine m_e ?_ rfl;refine st_call fn54 rfl (headBytes_any uQ j p m.depth (by omega)) ?_;rintro en A2 ⟨t,x,Ao,rfl,E,⟨e,l,J⟩,F,V⟩;refine⟨_,rfl,?_⟩;have Aa:∀b,vblock t=some b→b∈[]∨_:=fun b D=>Or.inr (lQ z.size ((F.2 b D).1.elim (fun h=>by simp at h) id));replace H:=H.sub e;replace r:=fun b D=>r b (l b D)
  replace N:=fun b D k=>e b (N b D k) (lv k M.size);replace F:=F.lower (Fsh.lift (S':=[]) M);replace H:=H.md0 E;replace uQ:=uQ.md E;replace M:=M.step0 E;replace z:=z.step0 E;replace uQ:=J;clear J e l;have S:=headF_len j m.depth (by assumption);rw[V]at S;try simp only[LL,Nat.reduceAdd,Nat.reduceMul]at S
  refine st_nil ⟨rfl,z,?_⟩;refine m_nil ?_;clear U W;clear z;refine st_ap (sz:=1) (by rfl) u45 elT5 rfl rfl F H (fun _ h _=>h) uQ (Fsh.new M) (by(simp<;>omega)) (by(simp<;>omega)) ?_;intro Ak A3 Ad e l J Ab E c _ Ag;have g:=F;clear F;replace r:=fun b D=>r b (l b D);replace N:=fun b D k=>e b (N b D k) (lv k M.size);replace uQ:=uQ.md E;replace M:=M.stepO E (fun b D=>(g.2 b D).1);replace uQ:=J;clear J e l c Ag;refine asg rfl (nt (c_ret ?_));exact ret1L (v:=Ak) trivial rfl ⟨rfl,tV⟩ ⟨_,(x ++ (m.b.drop 272)),Ad,rfl,M,⟨N,r,uQ⟩,Ab,(by(try simp only[O,P]at V);rw[imageM]<;>simp(disch:=first|omega|assumption|(simp;done)|fail) only [SS,reduceIte,O,P,V])⟩
end Go.Proofs.YtfadcpfgenjbeaaGreat
namespace Go.Wk
open Go Go.RowKit
theorem Ow.lsB {e:TypeId} {w w':World} {Q Q':Nat→Prop} {v:Value} {xs:Ly} (h:Ow tB8 e (Fsh [] w) w' Q' v xs) (uQ:Up w Q):Ls tB8 w' Q v xs :=
  Ls.of_by h.read.by fun b hb _=>Fsh.up uQ b (h.2 b hb).1
end Go.Wk
