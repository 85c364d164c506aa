/- Part 6 of what the walk of a law stands on: VSo4, LaidI, SortI, VXa, VXb, VXf, VXk, VXl, BlP, VXm, VYa, VSeq5, VSeq6, VYb, VXn, VXo, ImgP, MakeP, ViewP, AtP, AtQ, AtR, ImT1, ImT2, ImT3, ImT4, ImT5. No statement is proved here. -/
import Derived.Test.YtfadcpfgenjbeaaGreatNFD5
import Derived.Test.YtfadcpfgenjbeaaGreatRows
set_option linter.unusedSimpArgs false
namespace Go.Proofs.YtfadcpfgenjbeaaGreat
open Go Go.Wk Go.RowKit
set_option linter.unusedVariables false
set_option linter.unusedSimpArgs false
attribute [local irreducible] wpList wpQuiet wpStill wpMix Code.wp Calls bodyPost
theorem fn101:isFn Tryz.prog 101=true:=by kernel_rfl
theorem fn102:isFn Tryz.prog 102=true:=by kernel_rfl
theorem fn104:isFn Tryz.prog 104=true:=by kernel_rfl

theorem kList_any {w:World} {Q:Nat→Prop} (uQ:Up w Q) {v0:Value} {l:List Pr} (h0:Ls tPr w Q v0 l) (p0:l.length≤1000) :
    Calls Tryz.prog 55 #[v0] w fun en w'=>∃u0:Value,∃r0:List Pr,∃r1:Nat,en = .returned (.tuple #[u0,(.int .i64 r1)])∧Md [] w w'∧Ls tPr w' Q u0 r0∧r1<9223372036854775808∧plistF l=(r0,r1):=by
  have L0:=h0.len63;have M:=Md.refl [] w;have Ac:=uQ;have U:∀b,Q b→Q b:=fun _ h=>h;have L:∀b,Q b→b<w.heap.size→Q b:=fun _ h _=>h;refine enter (n:=37) Tryz.func55 rfl rfl rfl ?_;intro B;refine ns (asg rfl (asg rfl (nt (c_seq (ns (mv rfl (sL rfl u47 h0.shp (st _ (r_eqN (a:=l.length) (b:=0) rfl rfl) (nt ?_)))))))));refine c_if rfl (fun Y=>?_) (fun Y=>?_)
  · (have G:=dq Y);refine ns (asg rfl (asg rfl (nt (c_ret (r_then ?_)))));exact retL (vs:=[(.slice none 0 0),(.int .i64 ((16:Nat):Int))]) trivial rfl ⟨rfl,rfl,tV⟩ rfl ⟨_,[],16,rfl,M,(Ls.nil _ _ _),(by omega),(by rw[plistF]<;>simp(disch:=first|omega|assumption|(simp;done)|fail) only [SS,reduceIte,G])⟩
  · (have G:=dF Y);refine c_skip (c_then (c_seq (ns (mv rfl (sL rfl u47 h0.shp (mv rfl (nt (c_block ?_))))))));obtain⟨r0,H⟩:∃r,chkL l (packE l)=r:=⟨_,rfl⟩;have Ai:=H
    try simp only[List.nil_append]at H
    refine loop1 (fun(i:Nat)=>[(14,(.int .i64 i)),(0,v0),(12,v0),(13,(.int .i64 l.length))]) (fun(i:Nat) w'=>∃Q':Nat→Prop,(∀b,Q' b→Q b)∧(∀b,Q b→b<w.heap.size→Q' b)∧Up w' Q'∧Md [] w w'∧Ls tPr w' Q' v0 l∧i≤l.length∧(∀q∈l.take i,right q.pb=true)∧chkL (l.drop i) (packE l)=r0) (fun(i:Nat)=>l.length-i) (x0:=0) ?_ ?_ ?_
    · exact⟨rfl,rfl,rfl,rfl,tV⟩
    · exact⟨Q,U,L,uQ,M,h0,(by omega),(by simp),(by have N:=H;exact N)⟩
    · clear M uQ U L h0
      rintro i B w1 ⟨Q2,U,L,uQ,M,h0,Aj,W,f⟩;refine ns (st _ (r_ltN (a:=i) (b:=l.length) rfl rfl) (nt (c_seq ?_)));refine c_if rfl (fun Z=>?_) (fun Z=>?_)
      · (have V:=dq Z);refine c_skip (c_then (c_seq (c_block (ns (st _ (r_indexN (i:=i) 2 rfl rfl u47 el91 h0.shp (by omega)) ?_)))));obtain⟨k,P⟩:=getE (l:=l) (i:=i) (by omega);obtain⟨c4,Aa,T⟩:=h0.get P;obtain⟨_,rfl⟩:=tPr_un Aa;replace T:At _ v0 (i*2) (Pr.cells k):=T;refine st _ (r_loadEA (kk:=i*2) (Pr.cells k) 0 rfl rfl (by exact agg91) T rfl) (st_alloc z91 ?_);intro o w5 S Ab F E;obtain⟨Q6,v,x,g,R⟩:=exQ uQ S Ab F;replace h0:=h0.sub v;replace U:=fun b J=>U b (x b J);replace L:=fun b J hl=>v b (L b J hl) (ly hl M.size);replace S:=lv M.size S;replace h0:=h0.md0 F;replace uQ:=uQ.md F;replace M:=M.step0 F;replace uQ:=R;clear R v x;have j:Fsh [] w o:=.inr S;replace E:Blk _ _ (Pr.cells (({name:=[],value:=[]}:Pr))) _:=E;refine st_storeAgg (us:=(Pr.cells k)) rfl rfl (by exact agg91) (by exact fun u hu=>one_cells (Pr.one) u hu) E (lq rfl) ?_;have t:=E;clear E;intro w7 F E;have hS:∀b∈[o],¬Q6 b:=(by intro b J;simp at J;subst J;exact g);replace h0:=h0.md F hS;clear T;replace uQ:=uQ.md F;replace M:=M.step F (all_cons j all_nil);clear t hS;replace E:Blk _ _ (Pr.cells k) _:=E;refine nt (ns (st _ (r_loadPart (Pr.cells k) rfl (by exact agg91) E rfl) (st_call fn100 rfl (kJoin_any uQ k) ?_)));rintro en w8 ⟨Al,Ao,K,rfl,F,Af,Ak,e⟩;refine⟨_,rfl,?_⟩;replace h0:=h0.md0 F;replace uQ:=uQ.md F;replace M:=M.step0 F;refine mv rfl (se rfl rfl (se rfl rfl (asg rfl (asg rfl (nt (ns (mv rfl (st _ (r_neN (a:=K) (b:=0) rfl rfl) (nt ?_)))))))));refine c_if rfl (fun c=>?_) (fun c=>?_)
        · (have I:=dq c);refine ns ?_;have y:plistF l=([],K):=(by have N:=f;rw[chk_step P,e]at N;simp only at N;rw[if_pos I]at N;unfold plistF;rw[if_neg G,H,← N]);refine mv rfl (asg rfl (asg rfl (nt (c_ret (r_block (r_then (r_then (r_block (r_then ?_)))))))));exact retL (vs:=[(.slice none 0 0),(.int .i64 K)]) trivial rfl ⟨rfl,rfl,tV⟩ rfl ⟨_,[],K,rfl,M,(Ls.nil _ _ _),(by assumption),y⟩
        · (have I:=dF c);refine c_skip (n_block (c_then (c_region (st _ (r_addN (a:=i) (b:=1) 9223372036854775808 rfl rfl rfl (by omega)) (mv rfl (nt ?_))))));refine next1 (x0:=(i+1)) (by omega) ⟨(fitI rfl (by omega)),rfl,rfl,rfl,tV⟩ ⟨Q6,U,L,uQ,M,h0,(by omega),(by intro q z;rw[List.take_add_one,P]at z;rcases List.mem_append.1 z with h|h;exact W q h;simp at h;subst h;exact joinF_right.1 (by rw[e];simpa using I)),(by have N:=f;simp(disch:=first|omega|assumption|(simp;done)|fail) only [chk_end,chk_step P,SS,reduceIte,G,V,P,e,I]at N;exact N)⟩
      · (have V:=dF Z);refine c_exit (x_then (x_then (x_hit (c_then (ns ?_)))));have rt:∀q∈l,right q.pb=true:=fun q z=>W q (by rw[List.take_of_length_le (by omega)];exact z);have y:plistF l=packE l:=(by have N:=f;rw[chk_end (by omega)]at N;unfold plistF;rw[if_neg G,H,← N]);refine mv rfl (st_call fn101 rfl (kClone_any uQ h0 (by omega) (by omega)) ?_);rintro en w9 ⟨Am,X,Ap,rfl,F,⟨v,x,R⟩,A,p⟩;refine⟨_,rfl,?_⟩;replace U:=fun b J=>U b (x b J);replace A:=A.lower (Fsh.lift (S':=[]) M);replace uQ:=uQ.md F;replace M:=M.step0 F;replace uQ:=R;clear R v x;refine asg rfl (nt (ns (mv rfl (st_call fn102 rfl (sort_any A (by subst_vars;omega) (by subst_vars;exact rt) (by subst_vars;omega)) ?_))));rintro en Au ⟨rfl,F,D⟩;refine⟨_,rfl,?_⟩;have C:=A;replace A:=D;clear D;replace M:=M.stepO F (fun b J=>(C.2 b J).1);clear C;refine nt (ns (mv rfl (st_call fn104 rfl (compact_any A) ?_)));rintro en Av ⟨Ad,rfl,F,Ar,D⟩;refine⟨_,rfl,?_⟩;have C:=A;replace A:=D;clear D;replace M:=M.stepO F (fun b J=>(C.2 b J).1);clear C;refine asg rfl (nt (c_seq (ns ?_)));have cl:=compact_len (sortF l);have cs:(sortF l).length=l.length:=(by simp[sortF]);refine mv rfl (sL rfl u47 A.shp ?_)
        refine st _ (r_gtN (a:=((compactF (sortF X)).length)) (b:=16) rfl rfl) (nt ?_);refine c_if rfl (fun d=>?_) (fun d=>?_)
        · (have O:=dq d);refine ns (asg rfl (asg rfl (nt (c_ret (r_then ?_)))));exact retL (vs:=[(.slice none 0 0),(.int .i64 ((21:Nat):Int))]) trivial rfl ⟨rfl,rfl,tV⟩ rfl ⟨_,[],21,rfl,M,(Ls.nil _ _ _),(by omega),(by rw[y,packE,packF,p,if_pos O])⟩
        · (have O:=dF d);refine c_skip (c_then (ns (mv rfl (asg rfl (asg rfl (nt (c_ret ?_)))))));exact retL (vs:=[Ad,(.int .i64 ((0:Nat):Int))]) trivial rfl ⟨rfl,rfl,tV⟩ rfl ⟨_,(compactF (sortF X)),0,rfl,M,(A.ls (fun b J=>U b J) (Fsh.up Ac)),(by omega),(by rw[y,packE,packF,p,if_neg O])⟩
end Go.Proofs.YtfadcpfgenjbeaaGreat
namespace Go.Proofs.YtfadcpfgenjbeaaGreat
open Go Go.Shelf
def sortIt_ren:Go.Shelf.Ren:=⟨fun|6=>107|15=>142|14=>157|28=>193|29=>194|20=>209|21=>210|22=>211|23=>212|24=>213|25=>214|26=>215|27=>216|46=>241|47=>233|48=>234|49=>242|50=>243|57=>253|n=>n,fun|22=>121|24=>181|25=>185|3=>3|39=>72|0=>0|53=>103|55=>23|4=>4|46=>268|45=>267|50=>273|5=>5|9=>9|66=>306|70=>309|76=>323|77=>65|n=>n,fun|n=>n⟩
theorem sortIt:Go.Proofs.SlLaysF0.n6 Tryz.prog sortIt_ren:={
  mixed:=by kernel_rfl
  f6:=⟨Tryz.f107.name,by decide,Tryz.func107.trans (congrArg some (by kernel_rfl))⟩
  f14:=⟨Tryz.f157.name,by decide,Tryz.func157.trans (congrArg some (by kernel_rfl))⟩
  f15:=Tryz.func142.trans (congrArg some (by kernel_rfl))
  f20:=⟨Tryz.f209.name,by decide,Tryz.func209.trans (congrArg some (by kernel_rfl))⟩
  f21:=⟨Tryz.f210.name,by decide,Tryz.func210.trans (congrArg some (by kernel_rfl))⟩
  f22:=⟨Tryz.f211.name,by decide,Tryz.func211.trans (congrArg some (by kernel_rfl))⟩
  f23:=⟨Tryz.f212.name,by decide,Tryz.func212.trans (congrArg some (by kernel_rfl))⟩
  f24:=⟨Tryz.f213.name,by decide,Tryz.func213.trans (congrArg some (by kernel_rfl))⟩
  f25:=⟨Tryz.f214.name,by decide,Tryz.func214.trans (congrArg some (by kernel_rfl))⟩
  f26:=⟨Tryz.f215.name,by decide,Tryz.func215.trans (congrArg some (by kernel_rfl))⟩
  f27:=⟨Tryz.f216.name,by decide,Tryz.func216.trans (congrArg some (by kernel_rfl))⟩
  f28:=Tryz.func193.trans (congrArg some (by kernel_rfl))
  f29:=Tryz.func194.trans (congrArg some (by kernel_rfl))
  f46:=⟨Tryz.f241.name,by decide,Tryz.func241.trans (congrArg some (by kernel_rfl))⟩
  f47:=Tryz.func233.trans (congrArg some (by kernel_rfl))
  f48:=Tryz.func234.trans (congrArg some (by kernel_rfl))
  f49:=⟨Tryz.f242.name,by decide,Tryz.func242.trans (congrArg some (by kernel_rfl))⟩
  f50:=⟨Tryz.f243.name,by decide,Tryz.func243.trans (congrArg some (by kernel_rfl))⟩
  f57:=⟨Tryz.f253.name,by decide,Tryz.func253.trans (congrArg some (by kernel_rfl))⟩
  t0:=Tryz.underlying0
  a0:=Tryz.isAgg0
  z0:=Tryz.sizeOf0
  v0:=Tryz.zeroValue0
  t3:=Tryz.underlying3
  a3:=Tryz.isAgg3
  z3:=Tryz.sizeOf3
  v3:=Tryz.zeroValue3
  t4:=Tryz.underlying4
  a4:=Tryz.isAgg4
  z4:=Tryz.sizeOf4
  v4:=Tryz.zeroValue4
  t5:=Tryz.underlying5
  a5:=Tryz.isAgg5
  z5:=Tryz.sizeOf5
  v5:=Tryz.zeroValue5
  t9:=Tryz.underlying9
  a9:=Tryz.isAgg9
  z9:=Tryz.sizeOf9
  v9:=Tryz.zeroValue9
  t22:=Tryz.underlying121
  a22:=Tryz.isAgg121
  z22:=Tryz.sizeOf121
  v22:=Tryz.zeroValue121
  t25:=Tryz.underlying185
  a25:=Tryz.isAgg185
  z25:=Tryz.sizeOf185
  v25:=Tryz.zeroValue185
  t39:=Tryz.underlying72
  a39:=Tryz.isAgg72
  z39:=Tryz.sizeOf72
  v39:=Tryz.zeroValue72
  t45:=Tryz.underlying267
  a45:=Tryz.isAgg267
  z45:=Tryz.sizeOf267
  v45:=Tryz.zeroValue267
  t46:=Tryz.underlying268
  a46:=Tryz.isAgg268
  z46:=Tryz.sizeOf268
  v46:=Tryz.zeroValue268
  t50:=Tryz.underlying273
  a50:=Tryz.isAgg273
  z50:=Tryz.sizeOf273
  v50:=Tryz.zeroValue273
  t53:=Tryz.underlying103
  a53:=Tryz.isAgg103
  z53:=Tryz.sizeOf103
  v53:=Tryz.zeroValue103
  t55:=Tryz.underlying23
  a55:=Tryz.isAgg23
  z55:=Tryz.sizeOf23
  v55:=Tryz.zeroValue23
  t66:=Tryz.underlying306
  a66:=Tryz.isAgg306
  z66:=Tryz.sizeOf306
  v66:=Tryz.zeroValue306
  t70:=Tryz.underlying309
  a70:=Tryz.isAgg309
  z70:=Tryz.sizeOf309
  v70:=Tryz.zeroValue309
  t76:=Tryz.underlying323
  a76:=Tryz.isAgg323
  z76:=Tryz.sizeOf323
  v76:=Tryz.zeroValue323
  t77:=Tryz.underlying65
  a77:=Tryz.isAgg65
  z77:=Tryz.sizeOf65
  v77:=Tryz.zeroValue65}
end Go.Proofs.YtfadcpfgenjbeaaGreat
namespace Go.Wk
open Go Go.RowKit Go.Sort Go.Proofs
def RwI (e:TypeId) (w:World) (b cap:Nat) (xs:List Itm):Prop :=
  ∃cur,Blk w b cur e∧cur.length=cap*2∧xs.length≤cap∧cur.take (xs.length*2)=xs.flatMap Itm.cells
theorem flat_lenI (xs:List Itm):(xs.flatMap Itm.cells).length=xs.length*2:=by
  induction xs with
  | nil=>rfl
  | cons x r ih=>simp[List.flatMap_cons,ih,Itm.cells];omega
theorem flat_getI {xs:List Itm} {i j:Nat} {x:Itm} {u:Value} (h:xs[i]? = some x) (k:(Itm.cells x)[j]? = some u):(xs.flatMap Itm.cells)[i*2+j]? = some u:=by
  induction xs generalizing i with
  | nil=>simp at h
  | cons y r ih =>
    cases i with
    | zero =>
      simp at h;subst h
      rw[List.flatMap_cons,Nat.zero_mul,Nat.zero_add,List.getElem?_append_left (List.getElem?_eq_some_iff.1 k).1]
      exact k
    | succ i =>
      rw[List.flatMap_cons,show(i+1)*2+j=2+(i*2+j)by omega,List.getElem?_append_right (by simp[Itm.cells])]
      have:=ih (i:=i) (by simpa using h)
      simpa [Itm.cells]using this
section
variable {w w':World} {b cap:Nat} {xs:List Itm} {e:TypeId}
theorem Ow.rwI {lo:Nat→Prop} {Q:Nat→Prop} {v:Value} (h:Ow tItm e lo w Q v xs) (h0:0<xs.length):∃b cap,v = .slice (some ⟨b,0,none⟩) xs.length cap∧cap≤maxLen∧RwI e w b cap xs∧lo b∧¬Q b∧∀x∈xs,Itm.ok x:=by
  obtain⟨⟨E,F,G⟩,C⟩:=h
  obtain⟨b,cap,B,rfl,L,H,I,J,K⟩:=F.blk h0
  have A:E=xs.flatMap Itm.cells∧∀x∈xs,Itm.ok x:=by
    clear F C L H I J K h0
    induction xs generalizing E with
    | nil=>exact⟨G,fun _ h=>by simp at h⟩
    | cons x r ih =>
      obtain⟨c,s,rfl,O,P⟩:=G
      obtain⟨_,rfl,ok⟩:=tItm_un O
      obtain⟨M,N⟩:=ih _ P
      exact⟨by rw[List.flatMap_cons,M],fun y D=>by rcases List.mem_cons.1 D with rfl|D;exact ok;exact N y D⟩
  refine⟨b,cap,rfl,I,⟨B,L,J,H,?_⟩,(C b rfl).1,(C b rfl).2,A.2⟩
  rw[show xs.length*2=xs.length*tItm.n from rfl,K];exact A.1
theorem els_itm {Q:Nat→Prop} (xs:List Itm) (h:∀x∈xs,Itm.ok x):Els tItm w Q (xs.flatMap Itm.cells) xs:=by
  induction xs with
  | nil=>rfl
  | cons x r ih=>exact⟨_,_,by rw[List.flatMap_cons],tItm_mk (h x (by simp)),ih fun y A=>h y (by simp[A])⟩
theorem RwI.ow {lo:Nat→Prop} {Q:Nat→Prop} (h:RwI e w b cap xs) (hc:cap≤maxLen) (hl:lo b) (hq:¬Q b) (ok:∀x∈xs,Itm.ok x):Ow tItm e lo w Q (.slice (some ⟨b,0,none⟩) xs.length cap) xs:=by
  obtain⟨B,C,D,E,F⟩:=h
  refine⟨⟨xs.flatMap Itm.cells,?_,els_itm xs ok⟩,fun G A=>by simp[vblock]at A;subst A;exact⟨hl,hq⟩⟩
  have:=Own.of_blk (sz:=2) (m:=xs.length) C E hc D
  rw[F]at this
  exact this
end
/-- Items whose hash hangs on their place alone. -/
abbrev RIt (hf:Nat→Nat):={x:Itm // x.pos<18446744073709551616∧x.hash=hf x.pos%18446744073709551616}
instance (hf:Nat→Nat):Inhabited (RIt hf):=⟨⟨{pos:=0,hash:=hf 0%18446744073709551616},by show 0<_;omega,rfl⟩⟩
section
variable {hf:Nat→Nat}
def encJ (x:RIt hf):List Value:=Itm.cells x.1
theorem encJ_one (x:RIt hf):∀v∈encJ x,v.oneCell'=true:=by
  intro v A;simp[encJ,Itm.cells]at A;rcases A with rfl|rfl <;> rfl
def cmpN (a b:Nat):Int:=if a<b then -1 else if b<a then 1 else 0
def cfI (x y:RIt hf):Int:=cmpN x.1.pos y.1.pos
theorem ltI (x y:RIt hf):ltOf cfI x y=decide (x.1.pos<y.1.pos):=by
  unfold ltOf cfI cmpN
  by_cases h:x.1.pos<y.1.pos
  · rw[if_pos h];simp[h]
  · rw[if_neg h];simp only[h,decide_false];split <;> rfl
theorem swoI:SWO (ltOf (cfI (hf:=hf))) where
  irrefl x:=by rw[ltI];simp
  trans x y z h1 h2:=by rw[ltI]at *;simp only[decide_eq_true_eq]at *;omega
  ntrans x y z h1 h2:=by rw[ltI]at *;simp only[decide_eq_false_iff_not]at *;omega
theorem totI (x y:RIt hf) (h1:ltOf cfI x y=false) (h2:ltOf cfI y x=false):x=y:=by
  rw[ltI]at h1 h2
  simp only[decide_eq_false_iff_not]at h1 h2
  have A:x.1.pos=y.1.pos:=by omega
  refine Subtype.ext ?_
  have B:=x.2.2;have C:=y.2.2
  cases hx:x.1;cases hy:y.1
  rw[hx]at B A;rw[hy]at C A
  simp only at B C A
  rw[B,C,A]
end
theorem sortI_sub {hf:Nat→Nat} (l:List (RIt hf)):(l.mergeSort fun x y=>!(ltOf cfI) y x).map Subtype.val=sortI (l.map Subtype.val):=by
  unfold sortI
  exact List.map_mergeSort fun a _ b _=>by rw[ltI];rfl
theorem lift_itm {hf:Nat→Nat}:∀(l:List Itm),(∀x∈l,x.pos<18446744073709551616∧x.hash=hf x.pos%18446744073709551616)→∃l':List (RIt hf),l'.map Subtype.val=l
  | [],_=>⟨[],rfl⟩
  | p :: r,h=>by
    obtain⟨r',hr⟩:=lift_itm r fun q hq=>h q (by simp[hq])
    exact⟨⟨p,h p (by simp)⟩ :: r',by simp[hr]⟩
section
variable {hf:Nat→Nat}
theorem flatK_toListI (d:List (RIt hf)):(flatK encJ 2 d.toArray).toList=(d.map Subtype.val).flatMap Itm.cells:=by
  apply List.ext_getElem?
  intro t
  have F:(flatK encJ 2 d.toArray).size=d.length*2:=by simp
  have G:((d.map Subtype.val).flatMap Itm.cells).length=d.length*2:=by rw[flat_lenI];simp
  by_cases ht:t<d.length*2
  · have A:=get_flatK encJ 2 d.toArray t (by simpa using ht)
    have C:t/2<d.length:=by omega
    have D:d.toArray[t/2]! = d[t/2]:=by rw[getElem!_pos d.toArray (t/2) (by simpa using C)];simp
    rw[D]at A
    have E:(encJ d[t/2])[t%2]! = ((encJ d[t/2])[t%2]'(by have:(encJ d[t/2]).length=2:=rfl;omega)):=getElem!_pos (encJ d[t/2]) (t%2) _
    rw[E]at A
    have B:=flat_getI (xs:=d.map Subtype.val) (i:=t/2) (j:=t%2) (x:=d[t/2].1) (u:=(encJ d[t/2])[t%2]'(by have:(encJ d[t/2]).length=2:=rfl;omega)) (by simp[C]) (by rw[List.getElem?_eq_getElem (by have:(Itm.cells d[t/2].1).length=2:=rfl;omega)];rfl)
    rw[show t/2*2+t%2=t by omega]at B
    rw[B,Array.getElem?_toList,← A,getElem!_pos _ t (by simpa using ht)]
    exact Array.getElem?_eq_getElem _
  · rw[List.getElem?_eq_none (by simpa using Nat.le_of_not_lt ht),List.getElem?_eq_none (by omega)]
theorem RwI.holds {e:TypeId} {w:World} {b cap:Nat} {d:List (RIt hf)} (h:RwI e w b cap (d.map Subtype.val)):HoldsK encJ 2 w b 0 d.toArray:=by
  obtain⟨A,B,F,G,C⟩:=h
  intro j E
  have hj':j<d.length*2:=by simpa using E
  rw[Nat.zero_add,B.cell,B.frozen]
  refine⟨?_,rfl⟩
  have D:(A.take ((d.map Subtype.val).length*2))[j]? = A[j]?:=by rw[List.getElem?_take,if_pos (by simpa using hj')]
  rw[← D,C,← flatK_toListI,Array.getElem?_toList,getElem!_pos _ j (by simpa using hj')]
  exact Array.getElem?_eq_getElem _
theorem RwI.sorted {e:TypeId} {w:World} {b cap n:Nat} {d d':List (RIt hf)} {os:Array Obj} (h:RwI e w b cap (d.map Subtype.val)) (hl:d'.length=d.length) :
    Md [b] w (sortWorldK encJ 2 w b 0 n d'.toArray os)∧RwI e (sortWorldK encJ 2 w b 0 n d'.toArray os) b cap (d'.map Subtype.val):=by
  obtain⟨A,D,F,E,I⟩:=h
  have G:=D.lt
  have C:(sortWorldK encJ 2 w b 0 n d'.toArray os).heap[b]? = some (.cells (putCells id 0 (flatK encJ 2 d'.toArray) A.toArray) e (0,0)):=by
    unfold sortWorldK grow putRowK putRow mapBlock
    simp only[Sort.ahead]
    rw[Array.getElem?_append_left (by simpa using G),Array.getElem?_modify,if_pos rfl]
    have:w.heap[b]? = some (.cells A.toArray e (0,0)):=D
    rw[this]
    rfl
  refine⟨⟨rfl,rfl,rfl,?_,?_⟩,(putCells id 0 (flatK encJ 2 d'.toArray) A.toArray).toList,by unfold Blk;rw[C],?_,?_,?_⟩
  · simp[sortWorldK,grow,putRowK,putRow,mapBlock,Sort.ahead]
  · intro k hk B
    simp only[List.mem_singleton]at B
    unfold sortWorldK grow putRowK putRow mapBlock
    simp only[Sort.ahead]
    rw[Array.getElem?_append_left (by simpa using hk),Array.getElem?_modify,if_neg (fun h=>B h.symm)]
  · simp[putCells,F]
  · simp at E ⊢;omega
  · rw[← flatK_toListI]
    have B:(flatK encJ 2 d'.toArray).size=d'.length*2:=by simp
    apply List.ext_getElem?
    intro t
    simp only[List.length_map]at E ⊢
    by_cases ht:t<d'.length*2
    · rw[List.getElem?_take,if_pos ht,Array.getElem?_toList,Array.getElem?_toList]
      unfold putCells
      rw[Array.getElem?_mapIdx]
      have H:t<A.length:=by omega
      simp only[List.getElem?_toArray,List.getElem?_eq_getElem H,Option.map_some,Nat.zero_le,true_and,Nat.zero_add,B,ht,if_true,Nat.sub_zero,id]
      rw[getElem!_pos _ t (by simpa using ht)]
      exact(Array.getElem?_eq_getElem _).symm
    · rw[List.getElem?_eq_none (by simp;omega),List.getElem?_eq_none (by simp;omega)]
end
end Go.Wk
namespace Go.Proofs.YtfadcpfgenjbeaaGreat
open Go Go.Wk Go.RowKit
set_option linter.unusedVariables false
set_option linter.unusedSimpArgs false
attribute [local irreducible] wpList wpQuiet wpStill wpMix Code.wp Calls bodyPost
theorem fn109:isFn Tryz.prog 109=true:=by kernel_rfl
theorem fn158:isFn Tryz.prog 158=true:=by kernel_rfl

theorem nanU_any (a:Nat) (w:World):Calls Tryz.prog 158 #[.int .u64 a] w fun e w'=>e = .returned (.bool false)∧w=w':=by
  refine enter (n:=6) Tryz.func158 rfl rfl rfl ?_;intro B;refine ns (asg rfl (nt (ns (mv rfl (mv rfl (st _ (r_neN (a:=a) (b:=a) rfl rfl) (asg rfl (nt (c_ret ?_)))))))));exact ret1 trivial rfl rfl ⟨retB (by simp),rfl⟩
theorem cmpU_any (a b:Nat) (w:World):Calls Tryz.prog 109 #[.int .u64 a,.int .u64 b] w fun e w'=>e = .returned (.int .i64 (cmpN a b))∧w=w':=by
  refine enter (n:=20) Tryz.func109 rfl rfl rfl ?_;intro B;refine ns (asg rfl (nt (ns (mv rfl (st_call fn158 rfl (nanU_any a _) ?_)))));rintro e _ ⟨rfl,rfl⟩;refine⟨_,rfl,?_⟩;refine asg rfl (nt (ns (mv rfl (st_call fn158 rfl (nanU_any b _) ?_))));rintro e _ ⟨rfl,rfl⟩;refine⟨_,rfl,?_⟩;refine asg rfl (nt (c_seq (ns (mv rfl (nt (c_if_f rfl rfl (c_skip (c_then (c_seq (ns (mv rfl (nt (c_if_f rfl rfl ?_)))))))))))));refine c_skip (c_then (c_seq (ns (mv rfl (mv rfl (st _ (r_ltN (a:=a) (b:=b) rfl rfl) (nt ?_)))))));refine c_if rfl (fun D=>?_) (fun D=>?_)
  · have A:=dq D
    refine ns (asg rfl (nt (c_ret (r_then ?_))));exact ret1 trivial rfl rfl ⟨retI (by unfold cmpN;rw[if_pos A]),rfl⟩
  · have A:=dF D
    refine c_skip (c_then (c_seq (ns (mv rfl (mv rfl (st _ (r_gtN (a:=a) (b:=b) rfl rfl) (nt ?_)))))));refine c_if rfl (fun E=>?_) (fun E=>?_)
    · have C:=dq E
      refine ns (asg rfl (nt (c_ret (r_then ?_))));exact ret1 trivial rfl rfl ⟨retI (by unfold cmpN;rw[if_neg A,if_pos C]),rfl⟩
    · have C:=dF E
      refine c_skip (c_then (ns (asg rfl (nt (c_ret ?_)))));exact ret1 trivial rfl rfl ⟨retI (by unfold cmpN;rw[if_neg A,if_neg C]),rfl⟩
theorem clo_gr (x y:Itm) (w:World):Calls Tryz.prog 108 #[.agg x.cells.toArray,.agg y.cells.toArray] w fun e w'=>e = .returned (.int .i64 (cmpN x.pos y.pos))∧Gr w w':=by
  have M:=Gr.refl w;refine enter (n:=10) Tryz.func108 rfl rfl rfl ?_;intro B;refine ns (st_boxG (cs:=x.cells) rfl rfl ?_);intro E K G I A C;replace M:=M.step0 A;refine st_boxG (cs:=y.cells) rfl rfl ?_;intro F L H J A D;replace C:=C.md0 A.md;replace M:=M.step0 A;refine asg rfl (nt (ns (sf rfl off181_0 (st _ (r_loadBlk rfl one23 C rfl) (sf rfl off181_0 (st _ (r_loadBlk rfl one23 D rfl) (st_call fn109 rfl (cmpU_any _ _ _) ?_)))))));rintro e _ ⟨rfl,rfl⟩;refine⟨_,rfl,?_⟩;refine asg rfl (nt (c_ret ?_));exact ret1 trivial rfl rfl ⟨rfl,M⟩
theorem sortI_any {w:World} {Q lo:Nat→Prop} {v:Value} {xs:List Itm} (h0:Ow tItm 181 lo w Q v xs) (h1:1≤xs.length) (hr:(xs.map Itm.pos).Nodup) (hl:xs.length≤1000000) :
    Calls Tryz.prog 107 #[v,.func (.func 108) #[] #[]] w fun en w'=>en = .returned (.tuple #[])∧Md (vblock v).toList w w'∧Ow tItm 181 lo w' Q v (sortI xs):=by
  obtain⟨b,F,rfl,M,G,H,L,I⟩:=h0.rwI h1;obtain⟨hf,R⟩:∃hf:Nat→Nat,∀x∈xs,x.pos<18446744073709551616∧x.hash=hf x.pos%18446744073709551616:=⟨hashAt xs,fun x E=>⟨(I x E).1,by rw[hashAt_of xs hr x E];exact(Nat.mod_eq_of_lt (I x E).2).symm⟩⟩;clear hr;obtain⟨d,rfl⟩:=lift_itm xs R;have J:∀args w,(callFunc 108 args).run Tryz.prog w = .ok (.enter 108 args) w:=Go.Proofs.enters_of Tryz.func108 (by kernel_rfl) rfl
  have C:CmpLays Tryz.prog 108 #[] (encJ (hf:=hf)) 2 (cfI (hf:=hf)) b 0 d.toArray.size w:=by
    intro m os T N x y;refine(clo_gr x.1 y.1 _).mono ?_;rintro e w' ⟨O,P⟩;exact⟨O,P.grown⟩
  have A:=AnyQ.slices_SortFunc_total sortIt 2 Tryz.isAgg181 Tryz.sizeOf181 (encJ (hf:=hf)) (fun _=>rfl) encJ_one (cfI (hf:=hf)) swoI 108 #[] b 0 F d.toArray w J C G.holds (by obtain⟨_,K,_⟩:=G;exact K.lt) (by simp at hl ⊢;omega) totI;simp only[List.size_toArray,List.length_map]at A hl ⊢;refine A.mono ?_;rintro e w' ⟨rfl,n,os,rfl⟩;obtain⟨S,B⟩:=G.sorted (n:=n) (os:=os) (d':=d.mergeSort fun x y=>!(ltOf cfI) y x) (by simp);refine⟨rfl,by simpa [vblock]using S,?_⟩;rw[sortI_sub]at B;have D:(sortI (d.map Subtype.val)).length=d.length:=(by simp[sortI]);have:=B.ow (lo:=lo) (Q:=Q) M H L fun x E=>I x ((sortI_perm _).subset E);rw[D]at this;exact this

theorem agg123:isAggN Tryz.prog 123 21=true:=by kernel_rfl
theorem elT181:elT Tryz.prog 181 2 16=true:=by kernel_rfl
theorem fn105:isFn Tryz.prog 105=true:=by kernel_rfl
theorem fn106:isFn Tryz.prog 106=true:=by kernel_rfl
theorem fn107:isFn Tryz.prog 107=true:=by kernel_rfl
theorem fn110:isFn Tryz.prog 110=true:=by kernel_rfl
theorem fn111:isFn Tryz.prog 111=true:=by kernel_rfl
theorem fn112:isFn Tryz.prog 112=true:=by kernel_rfl

set_option maxHeartbeats 16000000 in
set_option maxRecDepth 100000 in
theorem dEntry_any {w:World} {Q:Nat→Prop} (uQ:Up w Q) {b0:Nat} {v0_0:Value} (m:Drf) (h0:Blk w b0 (Drf.cells m v0_0) 107) (n0:¬Q b0) (a0_0:Drf.ok m) (a0_1:Ow tB8 5 (fun _=>True) w Q v0_0 m.b) {v1:Value} {l:List Pr} (h1:Ls tPr w Q v1 l) {v2_0:Value} (e:Ent) (a2_0:Ent.ok e) (a2_1:Ls tItm w Q v2_0 e.items) (p0:v2_0 = .slice none 0 0) (p1:e.items=[]) (p2:m.okEnt l e) (p3:1≤l.length∧l.length≤1000) (p4:∀q∈l,(joinF q).1.length≤1000) :
    Calls Tryz.prog 57 #[.pointer (some ⟨b0,0,none⟩),v1,.agg (Ent.cells e v2_0).toArray] w fun en w'=>∃m0:Drf,∃u50_0:Value,∃Q':Nat→Prop,en = .returned (.tuple #[])∧Md (b0 :: (vblock v0_0).toList) w w'∧NewQ w w' Q Q'∧Blk w' b0 (Drf.cells m0 u50_0) 107∧¬Q' b0∧Drf.ok m0∧Ow tB8 5 (Fsh (b0 :: (vblock v0_0).toList) w) w' Q' u50_0 m0.b∧m.entry l e=m0:=by
  have L1:=h1.len63;subst p0;obtain⟨es,er,em,eb,ex,ei⟩:=e;have Fe:ei=[]:=p1;subst Fe;clear p1;obtain⟨o1,o2,o3,o4,o5⟩:=p2;clear a2_1;have G:=n0;have Al:Fsh (b0 :: (vblock v0_0).toList) w b0:=.inl (by simp);replace a0_1:=a0_1.reP (lo':=Fsh (b0 :: (vblock v0_0).toList) w) (fun b N=>.inl (by simp[N]));have M:=Md.refl (b0 :: (vblock v0_0).toList) w;have Fq:=uQ;have tQ:∀b,Q b→Q b:=fun _ h=>h;have Aw:∀b,Q b→b<w.heap.size→Q b:=fun _ h _=>h;refine enter (n:=96) Tryz.func57 rfl rfl rfl ?_;intro B;refine ns (st_box (cs:=(Ent.cells (({seq:=es,real:=er,mono:=em,boot:=eb,xor:=ex,items:=[]}:Ent)) (.slice none 0 0))) rfl rfl ?_);intro Bn w1 C8 Fj E H;have Fc:b0≠Bn:=(by have:=h0.lt;omega);obtain⟨Q2,sQ,sT,v,Bb⟩:=exQ uQ C8 Fj E;replace a0_1:=a0_1.sub sQ sT;replace G:=fun hh=>G (sT _ hh);replace h1:=h1.sub sQ;replace tQ:=fun b N=>tQ b (sT b N);replace Aw:=fun b N hl=>sQ b (Aw b N hl) (ly hl M.size);replace C8:=lv M.size C8;replace a0_1:=a0_1.md0 E;replace h0:=h0.md0 E;replace h1:=h1.md0 E;replace uQ:=uQ.md E;replace M:=M.step0 E;replace uQ:=Bb;clear Bb sQ sT;have C4:Fsh [] w Bn:=.inr C8;refine nt (ns (mv rfl (st_call fn105 rfl (wPays_any uQ h1 (by omega)) ?_)));rintro en w3 ⟨C6,Dj,rfl,E,S,Co⟩;refine⟨_,rfl,?_⟩;replace a0_1:=a0_1.md0 E;replace h0:=h0.md0 E;replace h1:=h1.md0 E;replace H:=H.md0 E;replace uQ:=uQ.md E;replace M:=M.step0 E;have la:=congrArg List.length Co;rw[List.length_map]at la;refine asg rfl (nt (c_seq (ns (mv rfl (sL rfl u47 h1.shp (mv rfl (nt (c_block ?_))))))));obtain⟨r0,C3⟩:∃r,Drf.dataL l m []=r:=⟨_,rfl⟩;have Ei:=C3
  try simp only[List.nil_append,Co]at C3
  refine loop5 (fun(z:Drf) (Af:Value) (ee:Ent) (K:Value) (i:Nat)=>[(14,(.int .i64 i)),(0,(.pointer (some ⟨b0,0,none⟩))),(5,(.pointer (some ⟨Bn,0,none⟩))),(6,C6),(12,v1),(13,(.int .i64 l.length))]) (fun(z:Drf) (Af:Value) (ee:Ent) (K:Value) (i:Nat) w'=>∃Q':Nat→Prop,(∀b,Q' b→Q b)∧(∀b,Q b→b<w.heap.size→Q' b)∧Up w' Q'∧Md (b0 :: (vblock v0_0).toList) w w'∧Blk w' b0 (Drf.cells z Af) 107∧Ow tB8 5 (Fsh (b0 :: (vblock v0_0).toList) w) w' Q' Af z.b∧Drf.ok z∧Blk w' Bn (Ent.cells ee K) 123∧Ow tItm 181 (Fsh [] w) w' Q' K ee.items∧Ent.ok ee∧Ls (tSl tB8) w' Q' C6 Dj∧Ls tPr w' Q' v1 l∧¬Q' b0∧¬Q' Bn∧Drf.okDatL (l.drop i) z∧(ee.seq=es∧ee.real=er∧ee.mono=em∧ee.boot=eb)∧ee.items.length=i∧i≤l.length∧Drf.dataL (l.drop i) z ee.items=r0) (fun(z:Drf) (Af:Value) (ee:Ent) (K:Value) (i:Nat)=>l.length-i) (x0:=m) (x1:=v0_0) (x2:=(({seq:=es,real:=er,mono:=em,boot:=eb,xor:=ex,items:=[]}:Ent))) (x3:=(.slice none 0 0)) (x4:=0) ?_ ?_ ?_
  · exact⟨rfl,rfl,rfl,rfl,rfl,rfl,tV⟩
  · exact⟨Q2,tQ,Aw,uQ,M,h0,a0_1,a0_0,H,(by exact Ow.nil _ _ _ _ _),a2_0,S,h1,G,v,o1,⟨rfl,rfl,rfl,rfl⟩,rfl,(by omega),(by have hh:=C3;exact hh)⟩
  · clear M uQ tQ Aw G v a0_1 h0 h1 H S
    rintro z Af ee K i B w4 ⟨Q5,tQ,Aw,uQ,M,h0,F,Di,H,C,Bl,S,h1,G,v,Dg,Dh,G4,G6,Eh⟩;refine ns (st _ (r_ltN (a:=i) (b:=l.length) rfl rfl) (nt (c_seq ?_)));refine c_if rfl (fun Dq=>?_) (fun Dq=>?_)
    · (have Ed:=dq Dq);refine c_skip (c_then (c_seq (c_block (ns (mv rfl (st _ (r_indexN (i:=i) 2 rfl rfl u47 el91 h1.shp (by omega)) ?_))))));obtain⟨x6,Cp⟩:=getE (l:=l) (i:=i) (by omega);obtain⟨c7,Fg,Db⟩:=h1.get Cp;obtain⟨_,rfl⟩:=tPr_un Fg;replace Db:At _ v1 (i*2) (Pr.cells x6):=Db;refine st _ (r_loadEA (kk:=i*2) (Pr.cells x6) 0 rfl rfl (by exact agg91) Db rfl) (st_alloc z91 ?_);intro Cw w8 C9 Fk E Bo;have Fd:b0≠Cw:=(by have:=h0.lt;omega);have Ev:Bn≠Cw:=(by have:=H.lt;omega);obtain⟨Q9,sQ,sT,D0,Bb⟩:=exQ uQ C9 Fk E;replace F:=F.sub sQ sT;replace G:=fun hh=>G (sT _ hh);replace C:=C.sub sQ sT;replace v:=fun hh=>v (sT _ hh);replace S:=S.sub sQ;replace h1:=h1.sub sQ;replace tQ:=fun b N=>tQ b (sT b N);replace Aw:=fun b N hl=>sQ b (Aw b N hl) (ly hl M.size);replace C9:=lv M.size C9;replace F:=F.md0 E;replace h0:=h0.md0 E;replace C:=C.md0 E;replace H:=H.md0 E;replace S:=S.md0 E;replace h1:=h1.md0 E;replace uQ:=uQ.md E;replace M:=M.step0 E;replace uQ:=Bb;clear Bb sQ sT;have D5:Fsh [] w Cw:=.inr C9;replace Bo:Blk _ _ (Pr.cells (({name:=[],value:=[]}:Pr))) _:=Bo;refine asg rfl (st_storeAgg (us:=(Pr.cells x6)) rfl rfl (by exact agg91) (by exact fun u hu=>one_cells (Pr.one) u hu) Bo (lq rfl) ?_);have C1:=Bo;clear Bo;intro Ft E Bo;have W:∀b∈[Cw],¬Q9 b:=(by intro b N;simp at N;subst N;exact D0);replace F:=F.md E (apart_bo C1 F (by decide)) W;replace h0:=h0.md E (by intro N;simp at N;omega);replace C:=C.md E (apart_bo C1 C (by decide)) W;replace H:=H.md E (by intro N;simp at N;omega);replace S:=S.md E W;replace h1:=h1.md E W;clear Db;replace uQ:=uQ.md E;replace M:=M.step E (all_cons (Fsh.wid D5) all_nil);clear C1 W;replace Bo:Blk _ _ (Pr.cells x6) _:=Bo;refine st_nil ?_
      refine c_then ?_;have Bq:=F;have V:=H;have Bz:=S;have B8:=Bo;have Da:∀b∈(b0 :: (vblock Af).toList),¬Q9 b:=all_cons G (all_row (fun x hx=>(F.2 x hx).2));refine c_mixT [(0,true),(1,true),(2,true),(3,true),(4,true),(5,true),(6,true),(7,true),(8,false),(9,false)] [10,11,12] (fun w'=>Md (b0 :: (vblock Af).toList) Ft w') mixed (by kernel_rfl) ?_;intro Je Z;refine⟨Z.mono (by simp),?_⟩;have MC:=Z.mono (T:=(b0 :: (vblock Af).toList)) (by simp);refine mz (fun w' Y=>r_field rfl off123_5) (mz (fun w' Y=>(r_loadBlk rfl one121 (V.md Y (by exact nin_cons (by omega) (apart_ow Bq V (by decide)))) rfl).to (b:=K) rfl) (mo rfl (mz (fun w' Y=>r_loadPart (Pr.cells x6) rfl (by exact agg91) (B8.md Y (by exact nin_cons (by omega) (apart_ow Bq B8 (by decide)))) rfl) (mo rfl (mo rfl (mz (fun w' Y=>r_indexN (i:=i) 1 rfl rfl u127 el45 S.shp (by omega)) ?_))))));obtain⟨Es,Ce⟩:=getE (l:=Dj) (i:=i) (by omega);obtain⟨Ix,Ej,Cd⟩:=Bz.get Ce;obtain⟨Ek,rfl,C2⟩:=Ej;replace Cd:At _ C6 (i*1) [Ek]:=Cd;refine mz (fun w' Y=>(r_loadE (kk:=i*1) 0 rfl rfl one45 (Cd.md Y (Bz.offS Ce Da)) rfl).to (b:=Ek) rfl) ?_;have jt:(joinF x6).1=Es:=(by have h9:=Ce;rw[← Co,List.getElem?_map,Cp]at h9;exact Option.some.inj h9);obtain⟨⟨k1,k2,k3,k4,k5,k6⟩,k7⟩:=okDatL_step Cp Dg;rw[jt]at k1 k4 k6 k7;replace F:=F.md0 Z;replace h0:=h0.md0 Z;replace C:=C.md0 Z;replace H:=H.md0 Z;replace S:=S.md0 Z;replace h1:=h1.md0 Z;replace Bo:=Bo.md0 Z;replace C2:=C2.md0 Z;replace uQ:=uQ.md Z;replace M:=M.step0 Z;refine m_e ?_ rfl;have jt:(joinF x6).1=Es:=(by have h9:=Ce;rw[← Co,List.getElem?_map,Cp]at h9;exact Option.some.inj h9);obtain⟨⟨k1,k2,k3,k4,k5,k6⟩,k7⟩:=okDatL_step Cp Dg;rw[jt]at k1 k4 k6 k7;refine st_call fn106 rfl (dData_any uQ z h0 G Di (F.reP (fun _ _=>trivial)) x6 C2 (by exact k1) (by exact k2) (by exact k3) (by exact k4) (by exact k5) (by exact k6)) ?_
      rintro en Jf ⟨Bs,Dx,Ct,E8,rfl,E,⟨sQ,sT,Bb⟩,C5,Cf,Cj,Cq,J,Df⟩;refine⟨_,rfl,?_⟩;have hP:∀i∈(b0 :: (vblock Af).toList),Fsh (b0 :: (vblock v0_0).toList) w i:=(all_cons Al (all_row (fun x hx=>(F.2 x hx).1)));have W:∀i∈(b0 :: (vblock Af).toList),¬Q9 i:=(all_cons G (all_row (fun x hx=>(F.2 x hx).2)));have Ba:∀b,vblock K=some b→b∉(b0 :: (vblock Af).toList):=fun b N=>(nin_cons (C.blk_ne h0 (by decide) b N) ((apart_oo F C (by decide)) b N));have Ao:Bn∉(b0 :: (vblock Af).toList):=(nin_cons (by omega) (apart_ow F H (by decide)));have Dd:Cw∉(b0 :: (vblock Af).toList):=(nin_cons (by omega) (apart_ow F Bo (by decide)));replace J:=J.reP (fun x hx=>(J.2 x hx).1);replace J:=J.reP (fun x hx=>(J.2 x hx).1.elim (hP x) (Fsh.new M x));replace C:=C.sub sQ sT;replace v:=fun hh=>v (sT _ hh);replace S:=S.sub sQ;replace h1:=h1.sub sQ;replace tQ:=fun b N=>tQ b (sT b N);replace Aw:=fun b N hl=>sQ b (Aw b N hl) (ly hl M.size);replace W:=fun i hi hq=>W i hi (sT i hq);replace C:=C.md E Ba W;clear Ba;replace H:=H.md E Ao;clear Ao;replace S:=S.md E W;replace h1:=h1.md E W;clear Dd;replace M:=M.step E hP;replace MC:=MC.step E (fun i hi=>Or.inl (by simpa using hi));replace uQ:=Bb;clear Bb sQ sT;clear hP W h0 G;have h0:=Cf;have G:=Cj;clear Cf Cj;clear F;rw[Df]at k7;simp only at k7;refine st_nil ⟨rfl,MC,?_⟩;refine m_e ?_ rfl;refine st_buildSliceG [(Itm.cells Bs)] u121 elT181 (by decide) (by decide) rfl rfl ⟨rfl,tV⟩ ⟨rfl,tV⟩ rfl (by decide) ?_;intro G2 Jg Ec Ha E C0;have Et:=uQ _ Ec;replace h0:=h0.md0 E;replace C:=C.md0 E;replace H:=H.md0 E;replace S:=S.md0 E;replace h1:=h1.md0 E;replace J:=J.md0 E;replace uQ:=uQ.md E;replace M:=M.step0 E;replace MC:=MC.step0 E;replace C0:=Ls.of_blk (m:=1) (R:=E8) (T:=tItm) (xs:=[Bs]) C0 ⟨_,_,rfl,(tItm_mk C5),rfl⟩ rfl (by decide) Et
      refine st_nil ⟨rfl,MC,?_⟩;refine m_nil ?_;clear Bz V Bq B8;clear MC;refine st_ap (sz:=2) (by rfl) u121 elT181 rfl rfl C C0 (fun _ h _=>h) uQ (Fsh.new M) (by(simp<;>omega)) (by(simp<;>omega)) ?_;intro El Jh Ea sQ sT Bb Bw E W _ Fh;have L:=C;clear C;replace G:=fun hh=>G (sT _ hh);replace v:=fun hh=>v (sT _ hh);replace S:=S.sub sQ;replace h1:=h1.sub sQ;replace J:=J.sub sQ sT;replace tQ:=fun b N=>tQ b (sT b N);replace Aw:=fun b N hl=>sQ b (Aw b N hl) (ly hl M.size);replace h0:=h0.md E (apart_ow L h0 (by decide));replace H:=H.md E (apart_ow L H (by decide));replace S:=S.md E W;replace h1:=h1.md E W;replace J:=J.md E (apart_oo L J (by decide)) W;replace uQ:=uQ.md E;replace M:=M.stepO E (fun b N=>Fsh.wid (L.2 b N).1);replace uQ:=Bb;clear Bb sQ sT W Fh;refine sf rfl off123_5 (st_store rfl rfl one121 Bw.oneCell H (lq rfl) ?_);have Br:=H;clear H;intro Ji E H;have W:∀b∈[Bn],¬Ea b:=(by intro b N;simp at N;subst N;exact v);replace h0:=h0.md E (by intro N;simp at N;omega);replace S:=S.md E W;replace h1:=h1.md E W;replace J:=J.md E (apart_bo Br J (by decide)) W;replace Bw:=Bw.md E (apart_bo Br Bw (by decide)) W;replace uQ:=uQ.md E;replace M:=M.step E (all_cons (Fsh.wid C4) all_nil);clear Br W;obtain⟨D6,Bv⟩:∃y,y=({ee with items:=ee.items ++ ([Bs])}:Ent):=⟨_,rfl⟩;replace H:Blk _ _ (Ent.cells ({ee with items:=ee.items ++ ([Bs])}) El) _:=H;rw[← Bv]at H;have D3:Ent.ok D6:=(by rw[Bv];exact⟨Bl.1,Bl.2.1,Bl.2.2.1,Bl.2.2.2.1,Bl.2.2.2.2⟩);rw[show ee.items ++ ([Bs])=D6.items by rw[Bv]]at Bw;refine st_nil ?_
      clear Cd;refine n_block (c_then (c_region (st _ (r_addN (a:=i) (b:=1) 9223372036854775808 rfl rfl rfl (by omega)) (mv rfl (nt ?_)))));refine next5 (x0:=Dx) (x1:=Ct) (x2:=D6) (x3:=El) (x4:=(i+1)) (by omega) ⟨(fitI rfl (by omega)),rfl,rfl,rfl,rfl,rfl,tV⟩ ⟨Ea,tQ,Aw,uQ,M,h0,J,Cq,H,Bw,D3,S,h1,G,v,k7,(by rw[Bv];exact Dh),(by rw[Bv];simp only[List.length_append,List.length_cons,List.length_nil];omega),(by omega),(by have hh:=Eh;rw[dataL_step Cp jt Df]at hh;rw[Bv];exact hh)⟩
    · (have Ed:=dF Dq);refine c_exit (x_then (x_then (x_hit (c_then (c_seq ?_)))));have de:Drf.dataL l m []=(ee.items,z):=(by have e9:=Eh;rw[dataL_end (by omega)]at e9;exact Ei.trans e9.symm);rw[de]at o2 o3 o4 o5;simp only at o2 o3 o4 o5;obtain⟨Dl,Dm,Dn,Do⟩:=Dh;refine c_region (sf rfl off123_5 (sl (u:=K) rfl one121 H rfl ?_));have W:∀b∈(vblock K).toList,¬Q5 b:=fun b N=>(C.2 b (by simpa using N)).2;refine st_call fn107 rfl (sortI_any C (by omega) o2 (by omega)) ?_;rintro en Fu ⟨rfl,E,Bj⟩;refine⟨_,rfl,?_⟩;have L:=C;replace C:=Bj;clear Bj;replace F:=F.md E (apart_oo L F (by decide)) W;replace h0:=h0.md E (apart_ow L h0 (by decide));replace H:=H.md E (apart_ow L H (by decide));replace S:=S.md E W;replace uQ:=uQ.md E;replace M:=M.stepO E (fun b N=>Fsh.wid (L.2 b N).1);clear L W;obtain⟨Cu,Bh⟩:∃y,y=({ee with items:=sortI ee.items}:Ent):=⟨_,rfl⟩;replace H:Blk Fu Bn (Ent.cells Cu K) 123:=(by rw[Bh];exact H);rw[show sortI ee.items=Cu.items by rw[Bh]]at C;have B3:Ent.ok Cu:=(by rw[Bh];exact Bl);refine nt (ns (mv rfl (st_call fn110 rfl (eXor_any uQ S (by intro x hx;rw[← Co]at hx;obtain⟨q,hq,rfl⟩:=List.mem_map.1 hx;have:=p4 q hq;omega)) ?_)));rintro en Jj ⟨C7,rfl,E,Fn,Ef⟩;refine⟨_,rfl,?_⟩;replace F:=F.md0 E;replace h0:=h0.md0 E;replace H:=H.md0 E;replace C:=C.md0 E;replace uQ:=uQ.md E;replace M:=M.step0 E;refine sf rfl off123_4 (st_store rfl rfl one23 rfl H (lq rfl) ?_);have Br:=H;clear H;intro Fv E H;have W:∀b∈[Bn],¬Q5 b:=(by intro b N;simp at N;subst N;exact v);replace F:=F.md E (apart_bo Br F (by decide)) W;replace h0:=h0.md E (by intro N;simp at N;omega)
      replace C:=C.md E (apart_bo Br C (by decide)) W;replace uQ:=uQ.md E;replace M:=M.step E (all_cons (Fsh.wid C4) all_nil);clear Br W;obtain⟨O,Bi⟩:∃y,y=({Cu with xor:=C7}:Ent):=⟨_,rfl⟩;replace H:Blk _ _ (Ent.cells ({Cu with xor:=C7}) K) _:=H;rw[← Bi]at H;have Aa:Ent.ok O:=(by rw[Bi];exact⟨B3.1,B3.2.1,B3.2.2.1,B3.2.2.2.1,(by omega)⟩);rw[show Cu.items=O.items by rw[Bi]]at C;refine nt (ns (mv rfl (st _ (r_loadPart (Ent.cells O K) rfl (by exact agg123) H rfl) ?_)));have Dp:O=Drf.entOf ({seq:=es,real:=er,mono:=em,boot:=eb,xor:=ex,items:=[]}:Ent) l ee.items:=(by rw[Bi,Bh];unfold Drf.entOf;simp only;rw[Co,Ef,← Dl,← Dm,← Dn,← Do]);have si:O.items=sortI ee.items:=(by rw[Bi,Bh]);have il:=congrArg List.length si;rw[sortI_len]at il;obtain⟨Eb,fQ,fT,Bk⟩:=C.freeze;replace F:=F.subF fQ fT (apart_oo C F (by decide));replace G:=fun hh=>(fT _ hh).elim G (nfz (apart_ow C h0 (by decide)));replace tQ:=fun b N=>(fT b N).elim (tQ b) (fun hv=>Fsh.up Fq b (C.2 b hv).1);replace Aw:=fun b N hl=>fQ b (Aw b N hl);replace uQ:Up Fv Eb:=fun b N=>fQ b (uQ b N);clear C fQ fT;have C:=Bk;clear Bk;refine st_call fn111 rfl (ePut_any uQ O Aa C (by omega)) ?_;rintro en Jk ⟨Fs,D7,rfl,E,Dr,Cb⟩;refine⟨_,rfl,?_⟩;replace F:=F.md0 E;replace h0:=h0.md0 E;replace C:=C.md0 E;replace H:=H.md0 E;replace uQ:=uQ.md E;replace M:=M.step0 E;have Fm:=congrArg List.length Cb;rw[putEntryF_len _ Aa.2.2.2.1]at Fm;refine st_call fn94 rfl (dAdd_any uQ z h0 G Di (F.reP (fun _ _=>trivial)) Dr (by omega) (by omega) (by omega)) ?_
      rintro en w32 ⟨Bt,Dy,Bm,E9,rfl,E,⟨sQ,sT,Bb⟩,Fo,Cg,Ck,Cr,U,Cc⟩;refine⟨_,rfl,?_⟩;have hP:∀i∈(b0 :: (vblock Af).toList),Fsh (b0 :: (vblock v0_0).toList) w i:=(all_cons Al (all_row (fun x hx=>(F.2 x hx).1)));have W:∀i∈(b0 :: (vblock Af).toList),¬Eb i:=(all_cons G (all_row (fun x hx=>(F.2 x hx).2)));have Ao:Bn∉(b0 :: (vblock Af).toList):=(nin_cons (by omega) (apart_ow F H (by decide)));replace U:=U.reP (fun x hx=>(U.2 x hx).1);replace U:=U.reP (fun x hx=>(U.2 x hx).1.elim (hP x) (Fsh.new M x));replace C:=C.sub sQ;replace tQ:=fun b N=>tQ b (sT b N);replace Aw:=fun b N hl=>sQ b (Aw b N hl) (ly hl M.size);replace W:=fun i hi hq=>W i hi (sT i hq);replace C:=C.md E W;replace H:=H.md E Ao;clear Ao;replace M:=M.step E hP;replace uQ:=Bb;clear Bb sQ sT;clear hP W h0 G;have h0:=Cg;have G:=Ck;clear Cg Ck;clear F;have Cv:=add_at z D7;rw[Cc]at Cv;try simp only[LL,Nat.reduceAdd,Nat.reduceMul]at Cv
      rw[← Dp,Cb,Cc]at o5;simp only at o5;rw[← si]at o5;obtain⟨l1,l2,l3,l4,l5,l6,l7⟩:=o5;refine asg rfl (nt (ns (mv rfl (mv rfl (sf rfl off123_5 (sl (u:=K) rfl one121 H rfl (st_call fn112 rfl (dLink_any uQ Dy h0 G Cr (U.reP (fun _ _=>trivial)) Bt (by omega) C (by omega) (by omega) (by omega) (by omega)) ?_)))))));rintro en Ep ⟨I,P,Az,rfl,E,⟨sQ,sT,Bb⟩,Ch,Cl,D,A,Cy⟩;refine⟨_,rfl,?_⟩;have hP:∀i∈(b0 :: (vblock Bm).toList),Fsh (b0 :: (vblock v0_0).toList) w i:=(all_cons Al (all_row (fun x hx=>(U.2 x hx).1)));have W:∀i∈(b0 :: (vblock Bm).toList),¬E9 i:=(all_cons G (all_row (fun x hx=>(U.2 x hx).2)));have Ao:Bn∉(b0 :: (vblock Bm).toList):=(nin_cons (by omega) (apart_ow U H (by decide)));replace A:=A.reP (fun x hx=>(A.2 x hx).1);replace A:=A.reP (fun x hx=>(A.2 x hx).1.elim (hP x) (Fsh.new M x));replace tQ:=fun b N=>tQ b (sT b N);replace Aw:=fun b N hl=>sQ b (Aw b N hl) (ly hl M.size);replace W:=fun i hi hq=>W i hi (sT i hq);replace H:=H.md E Ao;clear Ao;replace M:=M.step E hP;replace uQ:=Bb;clear Bb sQ sT;clear hP W h0 G;have h0:=Ch;have G:=Cl;clear Ch Cl;clear U;rw[Cy]at l5 l6 l7;refine nt (c_seq (ns (mv rfl (sn rfl (sf rfl off107_1 (sf rfl off105_15 (sl (u:=(.int .u64 ((I.h.n.getD 8 0:Nat):Int))) rfl one23 h0 rfl ?_)))))))
      have I8:I.h.n.getD 8 0<18446744073709551616:=(nums_bd D.2.2.2.2.2.2.2.1 8);refine st _ (r_eqN (a:=(I.h.n.getD 8 0)) (b:=1) rfl rfl) (nt ?_);refine c_if rfl (fun Ds=>?_) (fun Ds=>?_)
      · (have Cx:=dq Ds);have V:=H;have Da:∀b∈[b0],¬Az b:=(all_cons G all_nil);refine c_mixT [(0,true),(1,true),(2,true),(3,true),(4,true),(5,true),(6,true),(7,true),(8,true),(9,false)] [10,11,12,13] (fun w'=>Md [b0] Ep w') mixed (by kernel_rfl) ?_;intro Jl Z;refine⟨Z.mono (by simp),?_⟩;have MC:=Z.mono (T:=[b0]) (by simp);refine mo rfl (mo rfl (mz (fun w' Y=>r_field rfl off123_0) (mz (fun w' Y=>(r_loadBlk rfl one23 (V.md Y (by(simp;omega))) rfl).to (b:=(.int .u64 O.seq)) rfl) ?_)));have I9:O.seq<18446744073709551616:=Aa.1;refine mz (fun w' Y=>r_field rfl off123_1) (mz (fun w' Y=>(r_loadBlk rfl one23 (V.md Y (by(simp;omega))) rfl).to (b:=(.int .u64 O.real)) rfl) ?_);have Ja:O.real<18446744073709551616:=Aa.2.1;refine mz (fun w' Y=>r_nil rfl) (mz (fun w' Y=>r_field rfl off107_1) (mz (fun w' Y=>r_field rfl off105_17) ?_));replace h0:=h0.md0 Z;replace H:=H.md0 Z;replace A:=A.md0 Z;replace uQ:=uQ.md Z;replace M:=M.step0 Z;refine m_e ?_ rfl;refine st_store rfl rfl one23 rfl h0 (lq rfl) ?_;have X:=h0;clear h0;intro Fw E h0;have W:∀b∈[b0],¬Az b:=(by intro b N;simp at N;subst N;exact G);replace H:=H.md E (by intro N;simp at N;omega);replace A:=A.md E (apart_bo X A (by decide)) W;replace uQ:=uQ.md E;replace M:=M.step E (all_cons Al all_nil);replace MC:=MC.step1' E (by simp);clear X W;obtain⟨Ar,A0⟩:∃y,y=({I with h:={I.h with n:=I.h.n.set 10 O.seq}}:Drf):=⟨_,rfl⟩
        replace h0:Blk Fw b0 (Drf.cells ({I with h:={I.h with n:=I.h.n.set 10 O.seq}}) P) 107:=by
          have hh:=h0;simp only[Drf.cells,PHead.cells];rw[nums21_set (by exact D.2.2.2.2.2.2.2.1.1) (by decide)];exact hh
        rw[← A0]at h0;have Ab:Drf.ok Ar:=(by rw[A0];exact(by unfold Drf.ok;exact⟨D.1,D.2.1,D.2.2.1,D.2.2.2.1,D.2.2.2.2.1,D.2.2.2.2.2.1,D.2.2.2.2.2.2.1,(nums_set D.2.2.2.2.2.2.2.1 (by omega)),D.2.2.2.2.2.2.2.2.1,D.2.2.2.2.2.2.2.2.2.1,D.2.2.2.2.2.2.2.2.2.2⟩));have Hl:Ar.b.length=I.b.length:=(by rw[A0]);have Hm:Ar.h.n.getD 0 0=I.h.n.getD 0 0:=(by rw[A0];exact getD_set_ne' (by decide));have Hn:Ar.h.n.getD 2 0=I.h.n.getD 2 0:=(by rw[A0];exact getD_set_ne' (by decide));have Ho:Ar.h.n.getD 3 0=I.h.n.getD 3 0:=(by rw[A0];exact getD_set_ne' (by decide));have Hp:Ar.h.n.getD 4 0=I.h.n.getD 4 0:=(by rw[A0];exact getD_set_ne' (by decide));have Hq:Ar.h.n.getD 5 0=I.h.n.getD 5 0:=(by rw[A0];exact getD_set_ne' (by decide));rw[show I.b=Ar.b by rw[A0]]at A;refine st_nil ⟨rfl,MC,?_⟩;refine m_nil ?_;clear V;clear MC;refine sn rfl (sf rfl off107_1 (sf rfl off105_19 (st_store rfl rfl one23 rfl h0 (lq rfl) ?_)));have X:=h0;clear h0;intro Er E h0;have W:∀b∈[b0],¬Az b:=(by intro b N;simp at N;subst N;exact G);replace H:=H.md E (by intro N;simp at N;omega);replace A:=A.md E (apart_bo X A (by decide)) W;replace uQ:=uQ.md E;replace M:=M.step E (all_cons Al all_nil);clear X W;obtain⟨As,A3⟩:∃y,y=({Ar with h:={Ar.h with n:=Ar.h.n.set 12 O.real}}:Drf):=⟨_,rfl⟩
        replace h0:Blk Er b0 (Drf.cells ({Ar with h:={Ar.h with n:=Ar.h.n.set 12 O.real}}) P) 107:=by
          have hh:=h0;simp only[Drf.cells,PHead.cells];rw[nums21_set (by exact Ab.2.2.2.2.2.2.2.1.1) (by decide)];exact hh
        rw[← A3]at h0;have Ac:Drf.ok As:=(by rw[A3];exact(by unfold Drf.ok;exact⟨Ab.1,Ab.2.1,Ab.2.2.1,Ab.2.2.2.1,Ab.2.2.2.2.1,Ab.2.2.2.2.2.1,Ab.2.2.2.2.2.2.1,(nums_set Ab.2.2.2.2.2.2.2.1 (by omega)),Ab.2.2.2.2.2.2.2.2.1,Ab.2.2.2.2.2.2.2.2.2.1,Ab.2.2.2.2.2.2.2.2.2.2⟩));have Hr:As.b.length=Ar.b.length:=(by rw[A3]);have Ht:As.h.n.getD 0 0=Ar.h.n.getD 0 0:=(by rw[A3];exact getD_set_ne' (by decide));have Hu:As.h.n.getD 2 0=Ar.h.n.getD 2 0:=(by rw[A3];exact getD_set_ne' (by decide));have Hv:As.h.n.getD 3 0=Ar.h.n.getD 3 0:=(by rw[A3];exact getD_set_ne' (by decide));have Hw:As.h.n.getD 4 0=Ar.h.n.getD 4 0:=(by rw[A3];exact getD_set_ne' (by decide));have Hy:As.h.n.getD 5 0=Ar.h.n.getD 5 0:=(by rw[A3];exact getD_set_ne' (by decide));rw[show Ar.b=As.b by rw[A3]]at A;refine nt (c_seq ?_);have V:=H;have Da:∀b∈[b0],¬Az b:=(all_cons G all_nil);refine c_mixT [(0,true),(1,true),(2,true),(3,true),(4,true),(5,true),(6,true),(7,true),(8,true),(9,true),(10,true),(11,true),(12,true),(13,true),(14,true),(15,true),(16,true),(17,false),(18,true),(19,true),(20,true),(21,false),(22,true),(23,true),(24,true),(25,false),(26,true),(27,true),(28,true),(29,false),(30,true),(31,true),(32,true),(33,false)] [] (fun w'=>Md [b0] Er w') mixed (by kernel_rfl) ?_;intro Jm Z;refine⟨Z.mono (by simp),?_⟩;have MC:=Z.mono (T:=[b0]) (by simp);refine mo rfl (mo rfl (mo rfl (mo rfl (mo rfl (mz (fun w' Y=>r_field rfl off123_0) (mz (fun w' Y=>(r_loadBlk rfl one23 (V.md Y (by(simp;omega))) rfl).to (b:=(.int .u64 O.seq)) rfl) (mz (fun w' Y=>r_field rfl off123_1) (mz (fun w' Y=>(r_loadBlk rfl one23 (V.md Y (by(simp;omega))) rfl).to (b:=(.int .u64 O.real)) rfl) ?_))))))))
        refine mz (fun w' Y=>r_field rfl off123_2) (mz (fun w' Y=>(r_loadBlk rfl one23 (V.md Y (by(simp;omega))) rfl).to (b:=(.int .u64 O.mono)) rfl) ?_);have Jb:O.mono<18446744073709551616:=Aa.2.2.1;refine mz (fun w' Y=>r_field rfl off123_3) (mz (fun w' Y=>r_loadPart (idc O.boot) rfl (by exact agg27) (V.md Y (by(simp;omega))) rfl) ?_);have Jc:O.boot.length=16:=Aa.2.2.2.1;refine mo rfl (mz (fun w' Y=>r_nil rfl) (mz (fun w' Y=>r_field rfl off107_1) (mz (fun w' Y=>r_field rfl off105_16) ?_)));replace A:=A.md0 Z;replace h0:=h0.md0 Z;replace uQ:=uQ.md Z;replace M:=M.step0 Z;refine m_e ?_ rfl;refine st_store rfl rfl one23 rfl h0 (lq rfl) ?_;have X:=h0;clear h0;intro Fx E h0;have W:∀b∈[b0],¬Az b:=(by intro b N;simp at N;subst N;exact G);replace A:=A.md E (apart_bo X A (by decide)) W;replace uQ:=uQ.md E;replace M:=M.step E (all_cons Al all_nil);replace MC:=MC.step1' E (by simp);clear X W;obtain⟨Au,A4⟩:∃y,y=({As with h:={As.h with n:=As.h.n.set 9 O.seq}}:Drf):=⟨_,rfl⟩
        replace h0:Blk Fx b0 (Drf.cells ({As with h:={As.h with n:=As.h.n.set 9 O.seq}}) P) 107:=by
          have hh:=h0;simp only[Drf.cells,PHead.cells];rw[nums21_set (by exact Ac.2.2.2.2.2.2.2.1.1) (by decide)];exact hh
        rw[← A4]at h0;have Ad:Drf.ok Au:=(by rw[A4];exact(by unfold Drf.ok;exact⟨Ac.1,Ac.2.1,Ac.2.2.1,Ac.2.2.2.1,Ac.2.2.2.2.1,Ac.2.2.2.2.2.1,Ac.2.2.2.2.2.2.1,(nums_set Ac.2.2.2.2.2.2.2.1 (by omega)),Ac.2.2.2.2.2.2.2.2.1,Ac.2.2.2.2.2.2.2.2.2.1,Ac.2.2.2.2.2.2.2.2.2.2⟩));have Hz:Au.b.length=As.b.length:=(by rw[A4]);have H3:Au.h.n.getD 0 0=As.h.n.getD 0 0:=(by rw[A4];exact getD_set_ne' (by decide));have H4:Au.h.n.getD 2 0=As.h.n.getD 2 0:=(by rw[A4];exact getD_set_ne' (by decide));have H5:Au.h.n.getD 3 0=As.h.n.getD 3 0:=(by rw[A4];exact getD_set_ne' (by decide));have H6:Au.h.n.getD 4 0=As.h.n.getD 4 0:=(by rw[A4];exact getD_set_ne' (by decide));have H7:Au.h.n.getD 5 0=As.h.n.getD 5 0:=(by rw[A4];exact getD_set_ne' (by decide));rw[show As.b=Au.b by rw[A4]]at A;refine st_nil ⟨rfl,MC,?_⟩;refine mz (fun w' Y=>r_nil rfl) (mz (fun w' Y=>r_field rfl off107_1) (mz (fun w' Y=>r_field rfl off105_20) ?_));refine m_e ?_ rfl;refine st_store rfl rfl one23 rfl h0 (lq rfl) ?_;have X:=h0;clear h0;intro Fy E h0;have W:∀b∈[b0],¬Az b:=(by intro b N;simp at N;subst N;exact G);replace A:=A.md E (apart_bo X A (by decide)) W;replace uQ:=uQ.md E;replace M:=M.step E (all_cons Al all_nil);replace MC:=MC.step1' E (by simp);clear X W;obtain⟨Av,A6⟩:∃y,y=({Au with h:={Au.h with n:=Au.h.n.set 13 O.real}}:Drf):=⟨_,rfl⟩
        replace h0:Blk Fy b0 (Drf.cells ({Au with h:={Au.h with n:=Au.h.n.set 13 O.real}}) P) 107:=by
          have hh:=h0;simp only[Drf.cells,PHead.cells];rw[nums21_set (by exact Ad.2.2.2.2.2.2.2.1.1) (by decide)];exact hh
        rw[← A6]at h0;have Ae:Drf.ok Av:=(by rw[A6];exact(by unfold Drf.ok;exact⟨Ad.1,Ad.2.1,Ad.2.2.1,Ad.2.2.2.1,Ad.2.2.2.2.1,Ad.2.2.2.2.2.1,Ad.2.2.2.2.2.2.1,(nums_set Ad.2.2.2.2.2.2.2.1 (by omega)),Ad.2.2.2.2.2.2.2.2.1,Ad.2.2.2.2.2.2.2.2.2.1,Ad.2.2.2.2.2.2.2.2.2.2⟩));have H8:Av.b.length=Au.b.length:=(by rw[A6]);have H9:Av.h.n.getD 0 0=Au.h.n.getD 0 0:=(by rw[A6];exact getD_set_ne' (by decide));have Ia:Av.h.n.getD 2 0=Au.h.n.getD 2 0:=(by rw[A6];exact getD_set_ne' (by decide));have Ib:Av.h.n.getD 3 0=Au.h.n.getD 3 0:=(by rw[A6];exact getD_set_ne' (by decide));have Ic:Av.h.n.getD 4 0=Au.h.n.getD 4 0:=(by rw[A6];exact getD_set_ne' (by decide));have Id:Av.h.n.getD 5 0=Au.h.n.getD 5 0:=(by rw[A6];exact getD_set_ne' (by decide));rw[show Au.b=Av.b by rw[A6]]at A;refine st_nil ⟨rfl,MC,?_⟩;refine mz (fun w' Y=>r_nil rfl) (mz (fun w' Y=>r_field rfl off107_1) (mz (fun w' Y=>r_field rfl off105_21) ?_));refine m_e ?_ rfl;refine st_store rfl rfl one23 rfl h0 (lq rfl) ?_;have X:=h0;clear h0;intro Fz E h0;have W:∀b∈[b0],¬Az b:=(by intro b N;simp at N;subst N;exact G);replace A:=A.md E (apart_bo X A (by decide)) W;replace uQ:=uQ.md E;replace M:=M.step E (all_cons Al all_nil);replace MC:=MC.step1' E (by simp);clear X W;obtain⟨Ax,A7⟩:∃y,y=({Av with h:={Av.h with n:=Av.h.n.set 14 O.mono}}:Drf):=⟨_,rfl⟩
        replace h0:Blk Fz b0 (Drf.cells ({Av with h:={Av.h with n:=Av.h.n.set 14 O.mono}}) P) 107:=by
          have hh:=h0;simp only[Drf.cells,PHead.cells];rw[nums21_set (by exact Ae.2.2.2.2.2.2.2.1.1) (by decide)];exact hh
        rw[← A7]at h0;have Ap:Drf.ok Ax:=(by rw[A7];exact(by unfold Drf.ok;exact⟨Ae.1,Ae.2.1,Ae.2.2.1,Ae.2.2.2.1,Ae.2.2.2.2.1,Ae.2.2.2.2.2.1,Ae.2.2.2.2.2.2.1,(nums_set Ae.2.2.2.2.2.2.2.1 (by omega)),Ae.2.2.2.2.2.2.2.2.1,Ae.2.2.2.2.2.2.2.2.2.1,Ae.2.2.2.2.2.2.2.2.2.2⟩));have Ie:Ax.b.length=Av.b.length:=(by rw[A7]);have If:Ax.h.n.getD 0 0=Av.h.n.getD 0 0:=(by rw[A7];exact getD_set_ne' (by decide));have Ig:Ax.h.n.getD 2 0=Av.h.n.getD 2 0:=(by rw[A7];exact getD_set_ne' (by decide));have Ih:Ax.h.n.getD 3 0=Av.h.n.getD 3 0:=(by rw[A7];exact getD_set_ne' (by decide));have Ii:Ax.h.n.getD 4 0=Av.h.n.getD 4 0:=(by rw[A7];exact getD_set_ne' (by decide));have Ij:Ax.h.n.getD 5 0=Av.h.n.getD 5 0:=(by rw[A7];exact getD_set_ne' (by decide));rw[show Av.b=Ax.b by rw[A7]]at A;refine st_nil ⟨rfl,MC,?_⟩;refine mz (fun w' Y=>r_nil rfl) (mz (fun w' Y=>r_field rfl off107_1) (mz (fun w' Y=>r_field rfl off105_5) ?_));refine m_e ?_ rfl;refine st_storeAgg (us:=(idc O.boot)) rfl rfl (by exact agg27) (by exact one_idc _) h0 (lq rfl) ?_;have X:=h0;clear h0;intro Jn E h0;have W:∀b∈[b0],¬Az b:=(by intro b N;simp at N;subst N;exact G);replace A:=A.md E (apart_bo X A (by decide)) W;replace uQ:=uQ.md E;replace M:=M.step E (all_cons Al all_nil);replace MC:=MC.step1' E (by simp);clear X W;obtain⟨Ay,A8⟩:∃y,y=({Ax with h:={Ax.h with boot:=O.boot}}:Drf):=⟨_,rfl⟩;replace h0:Blk _ _ (Drf.cells ({Ax with h:={Ax.h with boot:=O.boot}}) P) _:=h0;rw[← A8]at h0;have Aq:Drf.ok Ay:=(by rw[A8];exact(by unfold Drf.ok;exact⟨Ap.1,Ap.2.1,Ap.2.2.1,Ap.2.2.2.1,Ap.2.2.2.2.1,(by exact Aa.2.2.2.1),Ap.2.2.2.2.2.2.1,Ap.2.2.2.2.2.2.2.1,Ap.2.2.2.2.2.2.2.2.1,Ap.2.2.2.2.2.2.2.2.2.1,Ap.2.2.2.2.2.2.2.2.2.2⟩));have Ik:Ay.b.length=Ax.b.length:=(by rw[A8]);have Il:Ay.h.n.getD 0 0=Ax.h.n.getD 0 0:=(by rw[A8])
        have Im:Ay.h.n.getD 2 0=Ax.h.n.getD 2 0:=(by rw[A8]);have In:Ay.h.n.getD 3 0=Ax.h.n.getD 3 0:=(by rw[A8]);have Io:Ay.h.n.getD 4 0=Ax.h.n.getD 4 0:=(by rw[A8]);have Ip:Ay.h.n.getD 5 0=Ax.h.n.getD 5 0:=(by rw[A8]);rw[show Ax.b=Ay.b by rw[A8]]at A;refine st_nil ⟨rfl,MC,?_⟩;refine mz (fun w' Y=>r_nil rfl) (mz (fun w' Y=>r_field rfl off107_1) (mz (fun w' Y=>r_field rfl off105_30) ?_));refine m_e ?_ rfl;refine st_store rfl rfl one23 rfl h0 (lq rfl) ?_;have X:=h0;clear h0;intro Jo E h0;have W:∀b∈[b0],¬Az b:=(by intro b N;simp at N;subst N;exact G);replace A:=A.md E (apart_bo X A (by decide)) W;replace uQ:=uQ.md E;replace M:=M.step E (all_cons Al all_nil);replace MC:=MC.step1' E (by simp);clear X W;obtain⟨Bu,A9⟩:∃y,y=({Ay with h:={Ay.h with tailEntry:=Bt}}:Drf):=⟨_,rfl⟩;replace h0:Blk _ _ (Drf.cells ({Ay with h:={Ay.h with tailEntry:=Bt}}) P) _:=h0;rw[← A9]at h0;have D4:Drf.ok Bu:=(by rw[A9];exact(by unfold Drf.ok;exact⟨Aq.1,Aq.2.1,Aq.2.2.1,Aq.2.2.2.1,Aq.2.2.2.2.1,Aq.2.2.2.2.2.1,Aq.2.2.2.2.2.2.1,Aq.2.2.2.2.2.2.2.1,Aq.2.2.2.2.2.2.2.2.1,Aq.2.2.2.2.2.2.2.2.2.1,(by omega)⟩));have Iq:Bu.b.length=Ay.b.length:=(by rw[A9]);have Ir:Bu.h.n.getD 0 0=Ay.h.n.getD 0 0:=(by rw[A9]);have Is:Bu.h.n.getD 2 0=Ay.h.n.getD 2 0:=(by rw[A9]);have It:Bu.h.n.getD 3 0=Ay.h.n.getD 3 0:=(by rw[A9]);have Iu:Bu.h.n.getD 4 0=Ay.h.n.getD 4 0:=(by rw[A9]);have Iv:Bu.h.n.getD 5 0=Ay.h.n.getD 5 0:=(by rw[A9]);rw[show Ay.b=Bu.b by rw[A9]]at A;refine st_nil ⟨rfl,MC,?_⟩;refine m_nil ?_;clear V;clear MC;refine nt (c_region (mv rfl ?_));have Fp:Bu.h.state<256:=(by rw[A9,A8,A7,A6,A4,A3,A0,Bi,Bh];exact l7);refine st_call fn69 rfl (dSeal_any uQ Bu h0 G A D4 (by omega) (by omega) (by omega)) ?_
        rintro en Jp ⟨Dz,rfl,E,Ci,Cm,Cs,Eg⟩;refine⟨_,rfl,?_⟩;have j:=A;replace A:=Cm.reP (fun x hx=>(j.2 x hx).1);clear Cm;replace h0:=Ci;clear Ci;replace uQ:=uQ.md E;replace M:=M.stepO E (fun b N=>(j.2 b N).1);clear j;refine st_nil ?_;exact retL (vs:=[]) trivial rfl trivial rfl ⟨Dz,_,Az,rfl,M,⟨Aw,tQ,uQ⟩,h0,G,Cs,A,(by unfold Drf.entry;rw[de];simp only;rw[← Dp,Cb,Cc];simp only;rw[← si,Cy];unfold Drf.mark;simp only;rw[if_pos (show I.num 8=1 from Cx),← Eg,A9,A8,A7,A6,A4,A3,A0,Bi,Bh];simp only[Dl,Dm,Dn,Do];rfl)⟩
      · (have Cx:=dF Ds);refine c_skip (c_then (c_seq ?_));have V:=H;have Da:∀b∈[b0],¬Az b:=(all_cons G all_nil);refine c_mixT [(0,true),(1,true),(2,true),(3,true),(4,true),(5,true),(6,true),(7,true),(8,true),(9,true),(10,true),(11,true),(12,true),(13,true),(14,true),(15,true),(16,true),(17,false),(18,true),(19,true),(20,true),(21,false),(22,true),(23,true),(24,true),(25,false),(26,true),(27,true),(28,true),(29,false),(30,true),(31,true),(32,true),(33,false)] [] (fun w'=>Md [b0] Ep w') mixed (by kernel_rfl) ?_;intro Hh Z;refine⟨Z.mono (by simp),?_⟩;have MC:=Z.mono (T:=[b0]) (by simp);refine mo rfl (mo rfl (mo rfl (mo rfl (mo rfl (mz (fun w' Y=>r_field rfl off123_0) (mz (fun w' Y=>(r_loadBlk rfl one23 (V.md Y (by(simp;omega))) rfl).to (b:=(.int .u64 O.seq)) rfl) ?_))))));have Hd:O.seq<18446744073709551616:=Aa.1;refine mz (fun w' Y=>r_field rfl off123_1) (mz (fun w' Y=>(r_loadBlk rfl one23 (V.md Y (by(simp;omega))) rfl).to (b:=(.int .u64 O.real)) rfl) ?_);have He:O.real<18446744073709551616:=Aa.2.1;refine mz (fun w' Y=>r_field rfl off123_2) (mz (fun w' Y=>(r_loadBlk rfl one23 (V.md Y (by(simp;omega))) rfl).to (b:=(.int .u64 O.mono)) rfl) ?_);have Hf:O.mono<18446744073709551616:=Aa.2.2.1;refine mz (fun w' Y=>r_field rfl off123_3) (mz (fun w' Y=>r_loadPart (idc O.boot) rfl (by exact agg27) (V.md Y (by(simp;omega))) rfl) ?_);have Hg:O.boot.length=16:=Aa.2.2.2.1
        refine mo rfl (mz (fun w' Y=>r_nil rfl) (mz (fun w' Y=>r_field rfl off107_1) (mz (fun w' Y=>r_field rfl off105_16) ?_)));replace h0:=h0.md0 Z;replace A:=A.md0 Z;replace uQ:=uQ.md Z;replace M:=M.step0 Z;refine m_e ?_ rfl;refine st_store rfl rfl one23 rfl h0 (lq rfl) ?_;have X:=h0;clear h0;intro Em E h0;have W:∀b∈[b0],¬Az b:=(by intro b N;simp at N;subst N;exact G);replace A:=A.md E (apart_bo X A (by decide)) W;replace uQ:=uQ.md E;replace M:=M.step E (all_cons Al all_nil);replace MC:=MC.step1' E (by simp);clear X W;obtain⟨c,Ag⟩:∃y,y=({I with h:={I.h with n:=I.h.n.set 9 O.seq}}:Drf):=⟨_,rfl⟩
        replace h0:Blk Em b0 (Drf.cells ({I with h:={I.h with n:=I.h.n.set 9 O.seq}}) P) 107:=by
          have hh:=h0;simp only[Drf.cells,PHead.cells];rw[nums21_set (by exact D.2.2.2.2.2.2.2.1.1) (by decide)];exact hh
        rw[← Ag]at h0;have f:Drf.ok c:=(by rw[Ag];exact(by unfold Drf.ok;exact⟨D.1,D.2.1,D.2.2.1,D.2.2.2.1,D.2.2.2.2.1,D.2.2.2.2.2.1,D.2.2.2.2.2.2.1,(nums_set D.2.2.2.2.2.2.2.1 (by omega)),D.2.2.2.2.2.2.2.2.1,D.2.2.2.2.2.2.2.2.2.1,D.2.2.2.2.2.2.2.2.2.2⟩));have F0:c.b.length=I.b.length:=(by rw[Ag]);have F1:c.h.n.getD 0 0=I.h.n.getD 0 0:=(by rw[Ag];exact getD_set_ne' (by decide));have F2:c.h.n.getD 2 0=I.h.n.getD 2 0:=(by rw[Ag];exact getD_set_ne' (by decide));have F3:c.h.n.getD 3 0=I.h.n.getD 3 0:=(by rw[Ag];exact getD_set_ne' (by decide));have F4:c.h.n.getD 4 0=I.h.n.getD 4 0:=(by rw[Ag];exact getD_set_ne' (by decide));have Ga:c.h.n.getD 5 0=I.h.n.getD 5 0:=(by rw[Ag];exact getD_set_ne' (by decide));rw[show I.b=c.b by rw[Ag]]at A;refine st_nil ⟨rfl,MC,?_⟩;refine mz (fun w' Y=>r_nil rfl) (mz (fun w' Y=>r_field rfl off107_1) (mz (fun w' Y=>r_field rfl off105_20) ?_));refine m_e ?_ rfl;refine st_store rfl rfl one23 rfl h0 (lq rfl) ?_;have X:=h0;clear h0;intro En E h0;have W:∀b∈[b0],¬Az b:=(by intro b N;simp at N;subst N;exact G);replace A:=A.md E (apart_bo X A (by decide)) W;replace uQ:=uQ.md E;replace M:=M.step E (all_cons Al all_nil);replace MC:=MC.step1' E (by simp);clear X W;obtain⟨d,Ah⟩:∃y,y=({c with h:={c.h with n:=c.h.n.set 13 O.real}}:Drf):=⟨_,rfl⟩
        replace h0:Blk En b0 (Drf.cells ({c with h:={c.h with n:=c.h.n.set 13 O.real}}) P) 107:=by
          have hh:=h0;simp only[Drf.cells,PHead.cells];rw[nums21_set (by exact f.2.2.2.2.2.2.2.1.1) (by decide)];exact hh
        rw[← Ah]at h0;have g:Drf.ok d:=(by rw[Ah];exact(by unfold Drf.ok;exact⟨f.1,f.2.1,f.2.2.1,f.2.2.2.1,f.2.2.2.2.1,f.2.2.2.2.2.1,f.2.2.2.2.2.2.1,(nums_set f.2.2.2.2.2.2.2.1 (by omega)),f.2.2.2.2.2.2.2.2.1,f.2.2.2.2.2.2.2.2.2.1,f.2.2.2.2.2.2.2.2.2.2⟩));have Gb:d.b.length=c.b.length:=(by rw[Ah]);have Gc:d.h.n.getD 0 0=c.h.n.getD 0 0:=(by rw[Ah];exact getD_set_ne' (by decide));have Gd:d.h.n.getD 2 0=c.h.n.getD 2 0:=(by rw[Ah];exact getD_set_ne' (by decide));have Ge:d.h.n.getD 3 0=c.h.n.getD 3 0:=(by rw[Ah];exact getD_set_ne' (by decide));have Gf:d.h.n.getD 4 0=c.h.n.getD 4 0:=(by rw[Ah];exact getD_set_ne' (by decide));have Gg:d.h.n.getD 5 0=c.h.n.getD 5 0:=(by rw[Ah];exact getD_set_ne' (by decide));rw[show c.b=d.b by rw[Ah]]at A;refine st_nil ⟨rfl,MC,?_⟩;refine mz (fun w' Y=>r_nil rfl) (mz (fun w' Y=>r_field rfl off107_1) (mz (fun w' Y=>r_field rfl off105_21) ?_));refine m_e ?_ rfl;refine st_store rfl rfl one23 rfl h0 (lq rfl) ?_;have X:=h0;clear h0;intro Eo E h0;have W:∀b∈[b0],¬Az b:=(by intro b N;simp at N;subst N;exact G);replace A:=A.md E (apart_bo X A (by decide)) W;replace uQ:=uQ.md E;replace M:=M.step E (all_cons Al all_nil);replace MC:=MC.step1' E (by simp);clear X W;obtain⟨k,Ai⟩:∃y,y=({d with h:={d.h with n:=d.h.n.set 14 O.mono}}:Drf):=⟨_,rfl⟩
        replace h0:Blk Eo b0 (Drf.cells ({d with h:={d.h with n:=d.h.n.set 14 O.mono}}) P) 107:=by
          have hh:=h0;simp only[Drf.cells,PHead.cells];rw[nums21_set (by exact g.2.2.2.2.2.2.2.1.1) (by decide)];exact hh
        rw[← Ai]at h0;have p:Drf.ok k:=(by rw[Ai];exact(by unfold Drf.ok;exact⟨g.1,g.2.1,g.2.2.1,g.2.2.2.1,g.2.2.2.2.1,g.2.2.2.2.2.1,g.2.2.2.2.2.2.1,(nums_set g.2.2.2.2.2.2.2.1 (by omega)),g.2.2.2.2.2.2.2.2.1,g.2.2.2.2.2.2.2.2.2.1,g.2.2.2.2.2.2.2.2.2.2⟩));have Gh:k.b.length=d.b.length:=(by rw[Ai]);have Gi:k.h.n.getD 0 0=d.h.n.getD 0 0:=(by rw[Ai];exact getD_set_ne' (by decide));have Gj:k.h.n.getD 2 0=d.h.n.getD 2 0:=(by rw[Ai];exact getD_set_ne' (by decide));have Gk:k.h.n.getD 3 0=d.h.n.getD 3 0:=(by rw[Ai];exact getD_set_ne' (by decide));have Gl:k.h.n.getD 4 0=d.h.n.getD 4 0:=(by rw[Ai];exact getD_set_ne' (by decide));have Gm:k.h.n.getD 5 0=d.h.n.getD 5 0:=(by rw[Ai];exact getD_set_ne' (by decide));rw[show d.b=k.b by rw[Ai]]at A;refine st_nil ⟨rfl,MC,?_⟩;refine mz (fun w' Y=>r_nil rfl) (mz (fun w' Y=>r_field rfl off107_1) (mz (fun w' Y=>r_field rfl off105_5) ?_));refine m_e ?_ rfl;refine st_storeAgg (us:=(idc O.boot)) rfl rfl (by exact agg27) (by exact one_idc _) h0 (lq rfl) ?_;have X:=h0;clear h0;intro Hi E h0;have W:∀b∈[b0],¬Az b:=(by intro b N;simp at N;subst N;exact G);replace A:=A.md E (apart_bo X A (by decide)) W;replace uQ:=uQ.md E;replace M:=M.step E (all_cons Al all_nil);replace MC:=MC.step1' E (by simp);clear X W;obtain⟨o,Aj⟩:∃y,y=({k with h:={k.h with boot:=O.boot}}:Drf):=⟨_,rfl⟩;replace h0:Blk _ _ (Drf.cells ({k with h:={k.h with boot:=O.boot}}) P) _:=h0;rw[← Aj]at h0;have t:Drf.ok o:=(by rw[Aj];exact(by unfold Drf.ok;exact⟨p.1,p.2.1,p.2.2.1,p.2.2.2.1,p.2.2.2.2.1,(by exact Aa.2.2.2.1),p.2.2.2.2.2.2.1,p.2.2.2.2.2.2.2.1,p.2.2.2.2.2.2.2.2.1,p.2.2.2.2.2.2.2.2.2.1,p.2.2.2.2.2.2.2.2.2.2⟩));have Gn:o.b.length=k.b.length:=(by rw[Aj])
        have Gp:o.h.n.getD 0 0=k.h.n.getD 0 0:=(by rw[Aj]);have Gq:o.h.n.getD 2 0=k.h.n.getD 2 0:=(by rw[Aj]);have Gs:o.h.n.getD 3 0=k.h.n.getD 3 0:=(by rw[Aj]);have Gt:o.h.n.getD 4 0=k.h.n.getD 4 0:=(by rw[Aj]);have Gu:o.h.n.getD 5 0=k.h.n.getD 5 0:=(by rw[Aj]);rw[show k.b=o.b by rw[Aj]]at A;refine st_nil ⟨rfl,MC,?_⟩;refine mz (fun w' Y=>r_nil rfl) (mz (fun w' Y=>r_field rfl off107_1) (mz (fun w' Y=>r_field rfl off105_30) ?_));refine m_e ?_ rfl;refine st_store rfl rfl one23 rfl h0 (lq rfl) ?_;have X:=h0;clear h0;intro Hj E h0;have W:∀b∈[b0],¬Az b:=(by intro b N;simp at N;subst N;exact G);replace A:=A.md E (apart_bo X A (by decide)) W;replace uQ:=uQ.md E;replace M:=M.step E (all_cons Al all_nil);replace MC:=MC.step1' E (by simp);clear X W;obtain⟨Be,Ak⟩:∃y,y=({o with h:={o.h with tailEntry:=Bt}}:Drf):=⟨_,rfl⟩;replace h0:Blk _ _ (Drf.cells ({o with h:={o.h with tailEntry:=Bt}}) P) _:=h0;rw[← Ak]at h0;have De:Drf.ok Be:=(by rw[Ak];exact(by unfold Drf.ok;exact⟨t.1,t.2.1,t.2.2.1,t.2.2.2.1,t.2.2.2.2.1,t.2.2.2.2.2.1,t.2.2.2.2.2.2.1,t.2.2.2.2.2.2.2.1,t.2.2.2.2.2.2.2.2.1,t.2.2.2.2.2.2.2.2.2.1,(by omega)⟩));have Gv:Be.b.length=o.b.length:=(by rw[Ak]);have Gw:Be.h.n.getD 0 0=o.h.n.getD 0 0:=(by rw[Ak]);have Gx:Be.h.n.getD 2 0=o.h.n.getD 2 0:=(by rw[Ak]);have Gy:Be.h.n.getD 3 0=o.h.n.getD 3 0:=(by rw[Ak]);have Gz:Be.h.n.getD 4 0=o.h.n.getD 4 0:=(by rw[Ak]);have G0:Be.h.n.getD 5 0=o.h.n.getD 5 0:=(by rw[Ak]);rw[show o.b=Be.b by rw[Ak]]at A;refine st_nil ⟨rfl,MC,?_⟩;refine m_nil ?_;clear V;clear MC;refine nt (c_region (mv rfl ?_));have Fp:Be.h.state<256:=(by rw[Ak,Aj,Ai,Ah,Ag,Bi,Bh];exact l7)
        refine st_call fn69 rfl (dSeal_any uQ Be h0 G A De (by omega) (by omega) (by omega)) ?_;rintro en Hk ⟨Dc,rfl,E,B4,B6,Ca,Du⟩;refine⟨_,rfl,?_⟩;have j:=A;replace A:=B6.reP (fun x hx=>(j.2 x hx).1);clear B6;replace h0:=B4;clear B4;replace uQ:=uQ.md E;replace M:=M.stepO E (fun b N=>(j.2 b N).1);clear j;refine st_nil ?_;exact retL (vs:=[]) trivial rfl trivial rfl ⟨Dc,_,Az,rfl,M,⟨Aw,tQ,uQ⟩,h0,G,Ca,A,(by unfold Drf.entry;rw[de];simp only;rw[← Dp,Cb,Cc];simp only;rw[← si,Cy];unfold Drf.mark;simp only;rw[if_neg (show ¬I.num 8=1 from Cx),← Du,Ak,Aj,Ai,Ah,Ag,Bi,Bh];simp only[Dl,Dm,Dn,Do];rfl)⟩
theorem fn25:isFn Tryz.prog 25=true:=by kernel_rfl
theorem fn55:isFn Tryz.prog 55=true:=by kernel_rfl
theorem fn56:isFn Tryz.prog 56=true:=by kernel_rfl
theorem fn57:isFn Tryz.prog 57=true:=by kernel_rfl
theorem off102_2:fieldOff Tryz.prog 102 2=some 2:=by kernel_rfl
theorem pl123:bplace Tryz.prog 123=some [(0,1),(1,1),(2,1),(3,16),(19,1),(20,1)]:=by kernel_rfl
theorem z123:zcells Tryz.prog 123=some ([.int .u64 0,.int .u64 0,.int .u64 0] ++ (List.replicate 16 (.int .u8 0) ++ ([.int .u64 0,.slice none 0 0]))):=by kernel_rfl

set_option maxHeartbeats 16000000 in
set_option maxRecDepth 100000 in
theorem wAppend_any {w:World} {Q:Nat→Prop} (uQ:Up w Q) {b0:Nat} {v0_0:Value} (m:Wri) (h0:Blk w b0 (Wri.cells m v0_0) 102) (n0:¬Q b0) (a0_0:Wri.ok m) (a0_1:Pt tDrf 107 w Q v0_0 m.d) {v1:Value} {l:List Pr} (h1:Ls tPr w Q v1 l) (real:Nat) (a2:real<18446744073709551616) (mono:Nat) (a3:mono<18446744073709551616) (boot:Ly) (a4:boot.length=16) (p0:l.length≤1000) (p1:m.waiting≤1000000) (p2:m.okApp l real mono boot) (p3:m.d.b.length≤1000000) :
    Calls Tryz.prog 17 #[.pointer (some ⟨b0,0,none⟩),v1,(.int .u64 real),(.int .u64 mono),.agg (idc boot).toArray] w fun en w'=>∃r0:Nat,∃r1:Nat,∃m0:Wri,∃u50_0:Value,en = .returned (.tuple #[(.int .u64 r0),(.int .i64 r1)])∧Md [b0] w w'∧r0<18446744073709551616∧r1<9223372036854775808∧Blk w' b0 (Wri.cells m0 u50_0) 102∧¬Q b0∧Wri.ok m0∧Pt tDrf 107 w' Q u50_0 m0.d∧m.append l real mono boot=(r0,r1,m0):=by
  have L1:=h1.len63;have H:=n0;have Ar:Fsh [b0] w b0:=.inl (by simp);have M:=Md.refl [b0] w;have Bq:=uQ;have v:∀b,Q b→Q b:=fun _ h=>h;refine enter (n:=69) Tryz.func17 rfl rfl rfl ?_;intro B;refine ns (st_box (cs:=(idc boot)) rfl rfl ?_);intro Av w1 Az Cm E L;have Bt:b0≠Av:=(by have:=h0.lt;omega);have j:=uQ _ Az;replace Az:=lv M.size Az;replace a0_1:=a0_1.md0 E;replace h0:=h0.md0 E;replace h1:=h1.md0 E;replace uQ:=uQ.md E;replace M:=M.step0 E;refine asg rfl (asg rfl (nt (c_seq (ns (mv rfl (sn rfl (sf rfl off102_5 (sl (u:=(.bool m.archived)) rfl one4 h0 rfl (nt ?_)))))))));refine c_if rfl (fun A3=>?_) (fun A3=>?_)
  · (have W:=A3);refine ns (asg rfl (asg rfl (nt (c_ret (r_then ?_)))));exact retL (vs:=[(.int .u64 ((0:Nat):Int)),(.int .i64 ((8:Nat):Int))]) trivial rfl ⟨rfl,rfl,tV⟩ rfl ⟨0,8,m,_,rfl,M,(by omega),(by omega),h0,n0,a0_0,(a0_1.sub (fun b N _=>v b N)),(by unfold Wri.append;rw[if_pos W])⟩
  · (have W:=A3);refine c_skip (c_then (ns (mv rfl (st_call fn55 rfl (kList_any uQ h1 (by omega)) ?_))));rintro en w2 ⟨Ce,Cf,Ai,rfl,E,J,Cc,f⟩;refine⟨_,rfl,?_⟩;replace a0_1:=a0_1.md0 E;replace h0:=h0.md0 E;replace L:=L.md0 E;replace uQ:=uQ.md E;replace M:=M.step0 E;refine mv rfl (se rfl rfl (se rfl rfl (asg rfl (asg rfl (nt (c_seq (c_block (ns (mv rfl (st _ (r_neN (a:=Ai) (b:=0) rfl rfl) (asg rfl (nt ?_))))))))))));refine c_if rfl (fun A4=>?_) (fun A4=>?_)
    · (have Aq:=dq A4);refine ns (mv rfl (asg rfl (asg rfl (nt (c_ret (r_block (r_then ?_)))))));exact retL (vs:=[(.int .u64 ((0:Nat):Int)),(.int .i64 Ai)]) trivial rfl ⟨rfl,rfl,tV⟩ rfl ⟨0,Ai,m,_,rfl,M,(by omega),(by assumption),h0,n0,a0_0,(a0_1.sub (fun b N _=>v b N)),(by unfold Wri.append;rw[if_neg (by simp[W]),f];simp only;rw[if_pos Aq])⟩
    · (have Aq:=dF A4);refine ns (mv rfl (st_call fn25 rfl (wTail_any uQ m h0 H a0_0 a0_1) ?_));rintro en w3 ⟨Br,rfl,E,Cd,Ck⟩;refine⟨_,rfl,?_⟩;replace a0_1:=a0_1.md0 E;replace h0:=h0.md0 E;replace L:=L.md0 E;replace J:=J.md0 E;replace uQ:=uQ.md E;replace M:=M.step0 E;refine st _ (r_eqN (a:=Br) (b:=18446744073709551615) rfl rfl) (asg rfl (nt ?_));refine c_if rfl (fun A6=>?_) (fun A6=>?_)
      · (have Bi:=dq A6);refine ns (asg rfl (asg rfl (nt (c_ret (r_block (r_then ?_))))));exact retL (vs:=[(.int .u64 ((0:Nat):Int)),(.int .i64 ((1:Nat):Int))]) trivial rfl ⟨rfl,rfl,tV⟩ rfl ⟨0,1,m,_,rfl,M,(by omega),(by omega),h0,n0,a0_0,(a0_1.sub (fun b N _=>v b N)),(by unfold Wri.append;rw[if_neg (by simp[W]),f];simp only;rw[if_neg (by omega),if_pos (by omega)])⟩
      · (have Bi:=dF A6);refine c_skip (n_block (c_then (ns (mv rfl (sn rfl (sf rfl off102_3 (sl (u:=v0_0) rfl one99 h0 rfl ?_)))))));have U:=a0_1;obtain⟨Ap,B6,rfl,e,U,Bp⟩:=U;obtain⟨v5,rfl,q6,Bv⟩:=tDrf_un Bp;refine st_call fn56 rfl (dTwinP_any uQ ⟨_,_,rfl,e,U,tDrf_mk q6 Bv⟩ (by omega)) ?_;rintro en w8 ⟨D,K,Bs,Q9,rfl,E,⟨sQ,sT,Ag⟩,F,I,c,Ae,C,Bn⟩;refine⟨_,rfl,?_⟩;have Bf:b0≠D:=(by have:=h0.lt;omega);have Aw:Av≠D:=(by have:=L.lt;omega);have Ax:Ap≠D:=(by have:=U.lt;omega);have g:Fsh [] w D:=Fsh.new M _ c;replace c:=lv M.size c;replace a0_1:=a0_1.sub sQ;replace H:=fun hh=>H (sT _ hh);replace j:=sQ _ j L.lt;replace J:=J.sub sQ;replace e:=sQ _ e U.lt;replace v:=fun b N=>v b (sT b N);replace C:=C.lower (Fsh.lift (S':=[]) M);replace a0_1:=a0_1.md0 E;replace h0:=h0.md0 E;replace L:=L.md0 E;replace J:=J.md0 E;replace U:=U.md0 E;replace uQ:=uQ.md E;replace M:=M.step0 E;replace uQ:=Ag;clear Ag sQ sT;refine asg rfl (nt (c_seq ?_));have k:=h0;have Aa:=L;have O:=F;refine c_mixT [(0,true),(1,true),(2,true),(5,true),(6,true),(7,true),(3,false),(4,true),(8,true)] [9] (fun w'=>Md [] w8 w') mixed (by kernel_rfl) ?_;intro Cr G;refine⟨G.mono (by simp),?_⟩;have MC:=G.mono (T:=[]) (by simp);refine mo rfl (mo rfl (mo rfl (mo rfl (mo rfl ?_))))
        refine mz (fun w' z=>r_loadPart (idc boot) rfl (by exact agg27) (Aa.md0 z) rfl) ?_;replace a0_1:=a0_1.md0 G;replace h0:=h0.md0 G;replace L:=L.md0 G;replace J:=J.md0 G;replace U:=U.md0 G;replace C:=C.md0 G;replace F:=F.md0 G;replace uQ:=uQ.md G;replace M:=M.step0 G;refine m_e ?_ rfl;refine st_call fn25 rfl (wTail_any uQ m h0 H a0_0 a0_1) ?_;rintro en Cs ⟨S,rfl,E,B0,Cb⟩;refine⟨_,rfl,?_⟩;replace a0_1:=a0_1.md0 E;replace h0:=h0.md0 E;replace L:=L.md0 E;replace J:=J.md0 E;replace U:=U.md0 E;replace C:=C.md0 E;replace F:=F.md0 E;replace uQ:=uQ.md E;replace M:=M.step0 E;replace MC:=MC.step0 E;refine st_nil ⟨rfl,MC,?_⟩;refine mz (fun w' z=>r_addN (a:=S) (b:=1) 18446744073709551616 rfl rfl rfl (by omega)) (mz (fun w' z=>r_buildG (us:=[[(.int .u64 ((S+1:Nat):Int))],[(.int .u64 real)],[(.int .u64 mono)],(idc boot)]) (cs:=(Ent.cells (({seq:=S+1,real:=real,mono:=mono,boot:=boot,xor:=0,items:=[]}:Ent)) (.slice none 0 0))) [(0,0,1),(1,1,1),(2,2,1),(3,3,16)] z123 pl123 rfl rfl ⟨rfl,rfl,rfl,rfl,tV⟩ ⟨rfl,rfl,rfl,rfl,tV⟩ rfl rfl) (m_nil ?_));clear Aa O k;clear MC;have Bx:m.d.num 9=S:=(by omega);have Bk:m.entE real mono boot=({seq:=S+1,real:=real,mono:=mono,boot:=boot,xor:=0,items:=[]}:Ent):=(by unfold Wri.entE;rw[Bx]);obtain⟨Ba,Bb,Bc⟩:=p2 (by simp[W]) (by rw[f];simp only;omega) (by omega);rw[Bk,f,Bn]at Ba;rw[f]at Bb Bc;simp only at Ba Bb Bc;refine st_call fn57 rfl (dEntry_any uQ Bs F I Ae (C.reP (fun _ _=>trivial)) J (({seq:=S+1,real:=real,mono:=mono,boot:=boot,xor:=0,items:=[]}:Ent)) (by exact⟨(by(simp<;>omega)),(by omega),(by omega),(by assumption),(by(simp<;>omega))⟩) (Ls.nil _ _ _) (by rfl) (by rfl) (by exact Ba) (by exact Bb) (by exact Bc)) ?_
        rintro en B4 ⟨P,t,Cj,rfl,E,⟨sQ,sT,Ag⟩,o,p,r,A,Bl⟩;refine⟨_,rfl,?_⟩;have hP:∀i∈(D :: (vblock K).toList),Fsh [] w i:=(all_cons g (all_row (fun x hx=>(C.2 x hx).1)));have hS:∀i∈(D :: (vblock K).toList),¬Q9 i:=(all_cons I (all_row (fun x hx=>(C.2 x hx).2)));have Ab:b0∉(D :: (vblock K).toList):=(nin_cons (by omega) (apart_ow C h0 (by decide)));have Am:Av∉(D :: (vblock K).toList):=(nin_cons (fun h=>I (h ▸ j)) (apart_ow C L (by decide)));have Ao:Ap∉(D :: (vblock K).toList):=(nin_cons (fun h=>I (h ▸ e)) (apart_ow C U (by decide)));replace A:=A.reP (fun x hx=>(A.2 x hx).1);replace A:=A.reP (fun x hx=>(A.2 x hx).1.elim (hP x) (Fsh.new M x));replace a0_1:=a0_1.sub sQ;replace H:=fun hh=>H (sT _ hh);replace v:=fun b N=>v b (sT b N);replace hS:=fun i hi hq=>hS i hi (sT i hq);replace a0_1:=a0_1.md E hS;replace h0:=h0.md E Ab;clear Ab;clear Am;clear Ao;replace M:=M.step E (fun i hi=>Fsh.wid (hP i hi));replace uQ:=Ag;clear Ag sQ sT;clear hP hS F I;have F:=o;have I:=p;clear o p;clear C;have Bo:m.d.entry (plistF l).1 (m.entE real mono boot)=P:=(by rw[Bk,f,Bn];exact Bl);refine nt (c_seq (c_seq ?_));have k:=h0;have O:=F;refine c_mixT (ml 9) [9] (fun w'=>Md [] B4 w') mixed (by kernel_rfl) ?_;intro Bd G;refine⟨G.mono (by simp),?_⟩;have MC:=G.mono (T:=[]) (by simp);refine mo rfl (mz (fun w' z=>r_nil rfl) ?_)
        refine mz (fun w' z=>r_field rfl off107_0) (mz (fun w' z=>(r_loadBlk rfl one45 (O.md0 z) rfl).to (b:=t) rfl) (mz (fun w' z=>r_len rfl u45 A.shp) (mo rfl (mz (fun w' z=>r_nil rfl) (mz (fun w' z=>r_field rfl off102_2) (mz (fun w' z=>(r_loadBlk rfl one3 (k.md0 z) rfl).to (b:=(.int .i64 m.most)) rfl) ?_))))));have Co:m.most<9223372036854775808:=a0_0.1;refine m_nil ?_;replace a0_1:=a0_1.md0 G;replace h0:=h0.md0 G;replace F:=F.md0 G;replace A:=A.md0 G;replace uQ:=uQ.md G;replace M:=M.step0 G;clear O k;clear MC;refine st _ (r_gtN (a:=P.b.length) (b:=m.most) rfl rfl) (nt ?_);refine c_if rfl (fun A7=>?_) (fun A7=>?_)
        · (have Bj:=dq A7);refine ns (asg rfl (asg rfl (nt (c_ret (r_then ?_)))));exact retL (vs:=[(.int .u64 ((0:Nat):Int)),(.int .i64 ((15:Nat):Int))]) trivial rfl ⟨rfl,rfl,tV⟩ rfl ⟨0,15,m,_,rfl,M,(by omega),(by omega),h0,n0,a0_0,(a0_1.sub (fun b N _=>v b N)),(by unfold Wri.append;rw[if_neg (by simp[W]),Bo,f];simp only;rw[if_neg (by omega),if_neg (by omega),if_pos (by omega)])⟩
        · (have Bj:=dF A7);refine c_skip (c_then (ns (mv rfl (mv rfl (sn rfl (sf rfl off102_3 ?_))))));obtain⟨Ak,fQ,fT,X⟩:=A.freeze;replace H:=fun hh=>(fT _ hh).elim H (nfz (apart_ow A h0 (by decide)));replace v:=fun b N=>(fT b N).elim (v b) (fun hv=>Fsh.up Bq b (A.2 b hv).1);replace uQ:Up Bd Ak:=fun b N=>fQ b (uQ b N);clear A fQ fT;have A:=X;clear X;obtain⟨Al,fQ,fT,fB⟩:∃Q9:Nat→Prop,(∀x,Ak x→Q9 x)∧(∀x,Q9 x→Ak x∨x=D)∧Q9 D:=⟨fun x=>Ak x∨x=D,fun _ h=>.inl h,fun _ h=>h,.inr rfl⟩;replace H:=fun hh=>(fT _ hh).elim H (by omega);replace A:=A.sub (fun b N _=>fQ b N);replace v:=fun b N=>(fT b N).elim (v b) (fun hv=>Fsh.up Bq b (hv ▸ g));replace uQ:Up Bd Al:=fun b N=>fQ b (uQ b N);have Y:Pt tDrf 107 Bd Al (.pointer (some ⟨D,0,none⟩)) P:=⟨_,_,rfl,fB,F,tDrf_mk r A⟩;clear fQ fT fB;refine st_store rfl rfl one99 rfl h0 (lq rfl) ?_;have A0:=h0;clear h0;intro Ct E h0;have hS:∀b∈[b0],¬Al b:=(by intro b N;simp at N;subst N;exact H);replace Y:=Y.md E hS
          replace uQ:=uQ.md E;replace M:=M.step E (all_cons Ar all_nil);clear A0 hS;obtain⟨R,V⟩:∃y,y=({m with d:=P}:Wri):=⟨_,rfl⟩;replace h0:Blk _ _ (Wri.cells ({m with d:=P}) (.pointer (some ⟨D,0,none⟩))) _:=h0;rw[← V]at h0;have Ac:Wri.ok R:=(by rw[V];exact⟨a0_0.1,a0_0.2⟩);have Cg:R.waiting=m.waiting:=(by rw[V]);have Ch:R.most=m.most:=(by rw[V]);rw[show P=R.d by rw[V]]at Y;refine nt (ns (mv rfl (sn rfl (sf rfl off102_4 (sl (u:=(.int .i64 R.waiting)) rfl one3 h0 rfl ?_)))));have Cp:R.waiting<9223372036854775808:=Ac.2;refine st _ (r_addN (a:=R.waiting) (b:=1) 9223372036854775808 rfl rfl rfl (by omega)) (sn rfl (sf rfl off102_4 (st_store rfl rfl one3 rfl h0 (lq rfl) ?_)));have A0:=h0;clear h0;intro Cu E h0;have hS:∀b∈[b0],¬Al b:=(by intro b N;simp at N;subst N;exact H);replace Y:=Y.md E hS;replace uQ:=uQ.md E;replace M:=M.step E (all_cons Ar all_nil);clear A0 hS;obtain⟨Af,Z⟩:∃y,y=({R with waiting:=R.waiting+1}:Wri):=⟨_,rfl⟩;replace h0:Blk _ _ (Wri.cells ({R with waiting:=R.waiting+1}) (.pointer (some ⟨D,0,none⟩))) _:=h0;rw[← Z]at h0;have Ad:Wri.ok Af:=(by rw[Z];exact⟨Ac.1,(by(simp<;>omega))⟩);have Ci:Af.most=R.most:=(by rw[Z]);rw[show R.d=Af.d by rw[Z]]at Y;refine nt (ns (mv rfl (st_call fn25 rfl (wTail_any uQ Af h0 H Ad Y) ?_)));rintro en Cv ⟨Ah,rfl,E,B3,Bm⟩;refine⟨_,rfl,?_⟩;replace Y:=Y.md0 E
          replace h0:=h0.md0 E;replace M:=M.step0 E;refine asg rfl (asg rfl (nt (c_ret ?_)));exact retL (vs:=[(.int .u64 Ah),(.int .i64 ((0:Nat):Int))]) trivial rfl ⟨rfl,rfl,tV⟩ rfl ⟨Ah,0,Af,_,rfl,M,(by assumption),(by omega),h0,n0,Ad,(Y.sub (fun b N _=>v b N)),(by have e8:=Bm;rw[Z,V]at e8;unfold Wri.append;rw[if_neg (by simp[W]),Bo,f];simp only;rw[if_neg (by omega),if_neg (by omega),if_neg (by omega),Z,V,e8])⟩

theorem app_fs (m:Wri) (l:List Pr) (real mono:Nat) (boot:Ly):(m.append l real mono boot).2.2.fs=m.fs:=by
  unfold Wri.append
  repeat' split
  all_goals rfl
section
variable {wb k:Nat} {fp:List Nat} {w:World} {Q:Nat→Prop} {b:Nat} {x:WrS}
theorem xAppend (uQ:Up w Q) (hW:WrO wb k fp w Q b x) {v1:Value} {l:List Pr} (h1:Ls tPr w Q v1 l) (real:Nat) (a2:real<18446744073709551616) (mono:Nat) (a3:mono<18446744073709551616) (boot:Ly) (a4:boot.length=16) (p0:l.length≤1000) (p1:x.wr.waiting≤1000000) (p2:x.wr.okApp l real mono boot) (p3:x.wr.d.b.length≤1000000) :
    Calls Tryz.prog 17 #[.pointer (some ⟨wb,0,none⟩),v1,(.int .u64 real),(.int .u64 mono),.agg (idc boot).toArray] w fun en w'=>∃r0:Nat,∃r1:Nat,en = .returned (.tuple #[(.int .u64 r0),(.int .i64 r1)])∧r0<18446744073709551616∧r1<9223372036854775808∧WrPost wb k fp w Q b w' fun m=>m.fs=x.fs∧x.wr.append l real mono boot=(r0,r1,m.wr):=by
  obtain⟨E,v,rfl,I,F,J,G,rfl,K,L⟩:=hW;refine(wAppend_any uQ x.wr J G K L h1 real a2 mono a3 boot a4 p0 p1 p2 p3).mono ?_;rintro en w' ⟨r0,r1,m,u,rfl,D,P,R,B,M,N,O,H⟩;have C:m.fs=x.wr.fs:=(by have:=app_fs x.wr l real mono boot;rw[H]at this;exact this);refine⟨r0,r1,rfl,P,R,⟨x.fs,m⟩,wb :: E,Q,D.mono fun y A _=>by rw[List.mem_singleton.1 A];simp,⟨fun b h _=>h,fun b h=>h,uQ.md D⟩,fun y A=>.inl A,⟨E,u,rfl,?_,F,B,M,C,N,O⟩,rfl,H⟩;exact I.md D (fun y A B=>F (by rw[List.mem_singleton.1 B]at A;exact A)) (fun y A=>by rw[List.mem_singleton.1 A];exact G)
theorem xCommit (uQ:Up w Q) (hW:WrO wb k fp w Q b x) (p0:k≤90000) (p1:x.wr.name.length≤1000000) (p2:1≤x.wr.d.b.length∧x.wr.d.b.length≤1000000) :
    Calls Tryz.prog 20 #[.pointer (some ⟨wb,0,none⟩)] w fun en w'=>∃r:Nat,en = .returned (.int .i64 r)∧r<9223372036854775808∧WrPost wb (k+4) fp w Q b w' fun m=>m.wr={x.wr with waiting:=if r=0 then 0 else x.wr.waiting}∧∃i j,saveR x.wr.archived x.fs x.wr.name x.wr.d.b i j=(r,m.fs):=by
  obtain⟨X,v,rfl,F,G,H,I,rfl,J,K⟩:=hW;refine(wCommit_any uQ x.wr F H I G J K p0 p1 p2).mono ?_;rintro en w' ⟨r,E,A,D,m,rfl,R,O,P,B,M,N,T,U,V,W,C,L⟩;exact⟨r,rfl,R,⟨E,m⟩,wb :: A,D,O,P,fun y S=>(List.mem_cons.1 S).elim (fun e=>.inl (by simp[e])) (B y),⟨A,_,rfl,M,U,N,T,by show m.fs=_;rw[C],V,W⟩,C,L⟩
theorem xWait (uQ:Up w Q) (hW:WrO wb k fp w Q b x):Calls Tryz.prog 27 #[.pointer (some ⟨wb,0,none⟩)] w fun en w'=>∃r0:Nat,en = .returned (.int .i64 r0)∧Md [] w w'∧r0<9223372036854775808∧x.wr.waiting=r0:=by
  obtain⟨E,v,rfl,F,G,A,B,rfl,C,D⟩:=hW;exact wWait_any uQ x.wr A B C D
theorem xTail (uQ:Up w Q) (hW:WrO wb k fp w Q b x):Calls Tryz.prog 25 #[.pointer (some ⟨wb,0,none⟩)] w fun en w'=>∃r0:Nat,en = .returned (.int .u64 r0)∧Md [] w w'∧r0<18446744073709551616∧x.wr.d.num 9=r0:=by
  obtain⟨E,v,rfl,F,G,A,B,rfl,C,D⟩:=hW;exact wTail_any uQ x.wr A B C D
end


theorem burn_free {f:SFs} (h:f.fuse = -1):burnF f=(0,f):=burn_2 (by omega) (by omega)
theorem may_ok {s:Ly} (h:fnameF s=true):mayF false [s]=0:=by unfold mayF;simp[h]
theorem gtF_none {f:SFs} {s:Ly} (ho:f.off=false) (h:fnameF s=true) (hq:findN f.nodes s=none):gtF f.off f.nodes s=(none,16):=by unfold gtF;rw[ho,may_ok h,hq];rfl
theorem gtF_hit {f:SFs} {s:Ly} {x:SNd} (ho:f.off=false) (h:fnameF s=true) (hq:findN f.nodes s=some x):mayF f.off [s]=0∧findN f.nodes s=some x:=⟨by rw[ho,may_ok h],hq⟩
theorem make_free {f:SFs} {s:Ly} {i j:Nat} (ho:f.off=false) (hf:f.fuse = -1) (hn:fnameF s=true) (hq:findN f.nodes s=none) (ht:(totF f.nodes).1<24):makeR f s i j=(0,{f with nodes:=f.nodes ++ [⟨i,⟨s,true,j⟩,⟨[],[]⟩⟩],pend:=f.pend ++ [⟨0,i,[],none⟩]}) :=
  make_0 (gtF_none ho hn hq) rfl (a:=(totF f.nodes).1) (z:=(totF f.nodes).2) rfl (by omega) (burn_free hf) rfl
theorem write_free {f:SFs} {s:Ly} {p:Nat} {b:Ly} {j:Nat} {x:SNd} (ho:f.off=false) (hn:fnameF s=true) (hq:findN f.nodes s=some x) (hb:b.length≠0) (hp:p+b.length≤32768) (ht:((totF f.nodes).2:Int)+((max x.fl.b.length (p+b.length):Nat):Int)-(x.fl.b.length:Int)≤f.room) :
    writeR f s (p:Int) b j=if(burnF f).1≠0 then burnF f else(0,{(burnF f).2 with nodes:=updN f.nodes x.id fun z=>{z with no:={z.no with fid:=j},fl:={x.fl with b:=writeF x.fl.b p b}}}):=by
  have B:wrF x.fl (p:Int) b=(0,{x.fl with b:=writeF x.fl.b p b}):=(by rw[wr_ok (by omega) (by omega) hb,Int.toNat_natCast]);have A:¬(0<(((writeF x.fl.b p b).length:Nat):Int)-(x.fl.b.length:Int)∧f.room<((totF f.nodes).2:Int)+((((writeF x.fl.b p b).length:Nat):Int)-(x.fl.b.length:Int))):=(by rw[writeF_len];omega);by_cases hc:(burnF f).1=0
  · rw[if_neg (by simpa using hc)]
    exact write_0 (gtF_hit ho hn hq) B rfl (a:=(totF f.nodes).1) (z:=(totF f.nodes).2) rfl A (c:=(burnF f).1) (m:=(burnF f).2) rfl hc
  · rw[if_pos (by simpa using hc)]
    exact write_b (gtF_hit ho hn hq) B rfl (a:=(totF f.nodes).1) (z:=(totF f.nodes).2) rfl A (c:=(burnF f).1) (m:=(burnF f).2) rfl hc
theorem sync_free {f:SFs} {s:Ly} {x:SNd} (ho:f.off=false) (hf:f.fuse = -1) (hn:fnameF s=true) (hq:findN f.nodes s=some x):syncR f s=(0,{f with nodes:=updN f.nodes x.id fun z=>{z with fl:={b:=x.fl.b,safe:=x.fl.b}}}):=sync_0 (gtF_hit ho hn hq) (burn_free hf) rfl
theorem findN_app (l:List SNd) (x:SNd) (s:Ly) (h:findN l s=none) (h1:x.no.there=true) (h2:x.no.nm=s):findN (l ++ [x]) s=some x:=by
  induction l with
  | nil=>rw[List.nil_append,findN,if_pos ⟨h1,h2⟩]
  | cons y l ih =>
    rw[findN]at h
    split at h
    · cases h
    · rename_i hy;rw[List.cons_append,findN,if_neg hy];exact ih h
theorem totF_one (x:SNd) (h1:x.no.there=true):∀l:List SNd,totF (l ++ [x])=((totF l).1+1,(totF l).2+x.fl.b.length)
  | []=>by simp[totF,h1]
  | y :: l=>by
    rw[List.cons_append,totF,totF_one x h1 l,totF]
    split
    · exact Prod.ext rfl (by simp only;omega)
    · rfl
theorem updN_last {l:List SNd} {x:SNd} {g:SNd→SNd} (h:((l ++ [x]).map (·.id)).Nodup):updN (l ++ [x]) x.id g=l ++ [g x]:=by
  unfold updN;rw[List.map_append,List.map_singleton,if_pos rfl]
  congr 1
  refine(List.map_congr_left fun z A=>?_).trans (List.map_id l);rw[List.map_append,List.nodup_append]at h;exact if_neg (h.2.2 _ (List.mem_map.2 ⟨z,A,rfl⟩) _ (by simp))
theorem findN_memW:∀{l:List SNd} {s:Ly} {x:SNd},findN l s=some x→x∈l∧x.no.there=true∧x.no.nm=s
  | [],_,_,h=>by simp[findN]at h
  | y :: l,s,x,h=>by
    rw[findN]at h
    split at h
    · rename_i hy;cases h;exact⟨by simp,hy⟩
    · obtain⟨h1,h2⟩:=findN_memW h;exact⟨by simp[h1],h2⟩
theorem updN_none {l:List SNd} {i:Nat} {g:SNd→SNd} (h:i∉l.map (·.id)):updN l i g=l:=by
  unfold updN;refine(List.map_congr_left fun z B=>if_neg fun(e:z.id=i)=>h (e ▸ List.mem_map.2 ⟨z,B,rfl⟩)).trans (List.map_id l)
/-- A file that is put anew is found, and counts anew. -/
theorem findN_upd {g:SNd→SNd} (hg:∀z,(g z).no.nm=z.no.nm∧(g z).no.there=z.no.there):∀{l:List SNd} {s:Ly} {x:SNd},(l.map (·.id)).Nodup→findN l s=some x→findN (updN l x.id g) s=some (g x)∧(totF (updN l x.id g)).2+x.fl.b.length=(totF l).2+(g x).fl.b.length∧(totF (updN l x.id g)).1=(totF l).1∧x.fl.b.length≤(totF l).2
  | [],_,_,_,h=>by simp[findN]at h
  | y :: l,s,x,hn,h=>by
    rw[List.map_cons,List.nodup_cons]at hn;rw[findN]at h
    split at h
    · rename_i hy
      cases h
      have e:updN (y :: l) y.id g=g y :: l:=by
        have:=updN_none (g:=g) hn.1;unfold updN at this ⊢;rw[List.map_cons,if_pos rfl,this]
      rw[e,findN,if_pos ⟨by rw[(hg y).2];exact hy.1,by rw[(hg y).1];exact hy.2⟩,totF,totF,if_pos hy.1,if_pos (by rw[(hg y).2];exact hy.1)];exact⟨rfl,by simp only;omega,rfl,by simp only;omega⟩
    · rename_i hy
      obtain⟨B,C,D,E⟩:=findN_upd hg hn.2 h;have A:y.id≠x.id:=fun e=>hn.1 (e ▸ List.mem_map.2 ⟨x,(findN_memW h).1,rfl⟩);have e:updN (y :: l) x.id g=y :: updN l x.id g:=(by unfold updN;rw[List.map_cons,if_neg A]);rw[e,findN,if_neg hy,totF,totF];refine⟨B,?_⟩
      split
      · simp only;omega
      · exact⟨C,D,E⟩
theorem write_ids (f:SFs) (s:Ly) (p:Int) (b:Ly) (j:Nat):(writeR f s p b j).2.nodes.map (·.id)=f.nodes.map (·.id):=by
  have A:=(burn_same f).1;unfold writeR
  split
  · rfl
  · split
    · rfl
    · split
      · rfl
      · split
        · rfl
        · split
          · rw[A]
          · exact updN_ids fun _=>rfl
theorem sync_ids (f:SFs) (s:Ly):(syncR f s).2.nodes.map (·.id)=f.nodes.map (·.id):=by
  have A:=(burn_same f).1;unfold syncR
  split
  · rfl
  · split
    · rfl
    · split
      · rw[A]
      · exact updN_ids fun _=>rfl
theorem stepW_ids (p:Nat × SFs) (g:SFs→Nat × SFs) (h:∀m,(g m).2.nodes.map (·.id)=m.nodes.map (·.id)):(stepW p g).2.nodes.map (·.id)=p.2.nodes.map (·.id):=by
  unfold stepW;split;rfl;exact h _
theorem free_pos {f:SFs} (ho:f.off=false) {n:Int} (hn:0<n):n≤freeF f↔n≤f.room-((totF f.nodes).2:Int):=by
  unfold freeF;rw[ho];simp only[Bool.false_eq_true,if_false];split <;> omega
/-- A file is made, with these bytes, or is not. -/
theorem create_fs {f f':SFs} {s B:Ly} {i j q r:Nat} (e:createR f s B i j q=(r,f')) (ho:f.off=false) (hf:f.fuse = -1) (hs:fnameF s=true) (hn:(f'.nodes.map (·.id)).Nodup) (hB:1≤B.length∧B.length≤32768) :
    (freeF f<(B.length:Int)→r=15∧f'=f)∧((B.length:Int)≤freeF f→((∃x,findN f.nodes s=some x)→r=17∧f'=f)∧(findN f.nodes s=none→(totF f.nodes).1<24→r=0∧∃z:SNd,z.no.nm=s∧z.no.there=true∧z.fl=⟨B,B⟩∧f'={f with nodes:=f.nodes ++ [z],pend:=f.pend ++ [⟨0,z.id,[],none⟩]})):=by
  unfold createR at e;rw[if_neg (by rw[ho];simp)]at e;refine⟨fun h=>?_,fun h=>⟨fun⟨x,F⟩=>?_,fun F L=>?_⟩⟩
  · rw[if_pos h]at e;cases e;exact⟨rfl,rfl⟩
  · rw[if_neg (by omega),make_17 (gtF_0 (gtF_hit ho hs F)) rfl,stepW_c (stepW_c rfl (by decide)) (by decide)]at e
    cases e;exact⟨rfl,rfl⟩
  · rw[if_neg (by omega),make_free ho hf hs F L]at e
    have P:=(free_pos ho (by omega)).1 h
    generalize hz:(⟨i,⟨s,true,j⟩,⟨[],[]⟩⟩:SNd)=z at e;have C:z.id=i∧z.no.nm=s∧z.no.there=true∧z.fl=⟨[],[]⟩:=(by rw[← hz];exact⟨rfl,rfl,rfl,rfl⟩);have K:=C.1;rw[← K]at e
    generalize hm:({f with nodes:=f.nodes ++ [z],pend:=f.pend ++ [⟨0,z.id,[],none⟩]}:SFs)=m at e;have A:m.nodes=f.nodes ++ [z]∧m.off=false∧m.fuse = -1∧m.room=f.room:=(by rw[← hm];exact⟨rfl,ho,hf,rfl⟩)
    have M:(m.nodes.map (·.id)).Nodup:=by
      have I:=stepW_ids (stepW ((0:Nat),m) fun m=>writeR m s 0 B q) (fun m=>syncR m s) fun m=>sync_ids m s;rw[e,stepW_ids _ _ fun m=>write_ids m s 0 B q]at I;rw[← I];exact hn
    have J:findN m.nodes s=some z:=(by rw[A.1];exact findN_app _ _ _ F C.2.2.1 C.2.1);have N:(totF m.nodes).2=(totF f.nodes).2:=(by rw[A.1,totF_one z C.2.2.1,C.2.2.2];rfl);have G:=write_free (j:=q) (p:=0) (b:=B) A.2.1 hs J (by omega) (by omega) (by rw[N,A.2.2.2,C.2.2.2];simp only[List.length_nil];omega);rw[burn_free A.2.2.1]at G;simp only[ne_eq,not_true_eq_false,if_false]at G;have H:writeF z.fl.b 0 B=B:=(by rw[C.2.2.2];unfold writeF;simp);rw[H]at G;rw[stepW_0 ((stepW_0 rfl).trans G)]at e;have E:=M;rw[A.1]at E;have O:updN m.nodes z.id (fun y=>{y with no:={y.no with fid:=q},fl:={z.fl with b:=B}})=f.nodes ++ [{z with no:={z.no with fid:=q},fl:={z.fl with b:=B}}]:=(by rw[A.1];exact updN_last E);rw[O]at e
    generalize hy:({z with no:={z.no with fid:=q},fl:={z.fl with b:=B}}:SNd)=y at e;have D:y.id=z.id∧y.no.nm=s∧y.no.there=true∧y.fl.b=B:=(by rw[← hy];exact⟨rfl,C.2.1,C.2.2.1,rfl⟩);rw[sync_free (f:={m with nodes:=f.nodes ++ [y]}) (x:=y) A.2.1 A.2.2.1 hs (findN_app _ _ _ F D.2.2.1 D.2.1)]at e;simp only at e;rw[updN_last (by rw[List.map_append,List.map_singleton,D.1];rw[List.map_append,List.map_singleton]at E;exact E)]at e
    cases e
    refine⟨rfl,{y with fl:={b:=y.fl.b,safe:=y.fl.b}},D.2.1,D.2.2.1,by rw[D.2.2.2],?_⟩;rw[← hm];simp only[D.1]
theorem updN_comp {l:List SNd} {i:Nat} {g h:SNd→SNd} (hg:∀z,(g z).id=z.id):updN (updN l i g) i h=updN l i fun z=>h (g z):=by
  unfold updN;rw[List.map_map];refine List.map_congr_left fun z _=>?_;simp only[Function.comp_apply];by_cases e:z.id=i
  · rw[if_pos e,if_pos (by rw[hg];exact e),if_pos e]
  · rw[if_neg e,if_neg e,if_neg e]
theorem write_ok {f:SFs} {s:Ly} {p:Nat} {b:Ly} {j:Nat} {x:SNd} (ho:f.off=false) (hf:f.fuse = -1) (hn:fnameF s=true) (hq:findN f.nodes s=some x) (hp:p+b.length≤32768) (ht:x.fl.b.length<p+b.length→((totF f.nodes).2:Int)+((p+b.length:Nat):Int)-(x.fl.b.length:Int)≤f.room) :
    writeR f s (p:Int) b j=(0,{f with nodes:=updN f.nodes x.id fun z=>{z with no:={z.no with fid:=j},fl:={x.fl with b:=if b.length=0 then x.fl.b else writeF x.fl.b p b}}}):=by
  by_cases hb:b.length=0
  · rw[if_pos hb]
    exact write_0 (gtF_hit ho hn hq) (wr_0 (by omega) (by omega) hb) rfl (a:=(totF f.nodes).1) (z:=(totF f.nodes).2) rfl (by show ¬(0<((x.fl.b.length:Nat):Int)-_∧_);omega) (burn_free hf) rfl
  · rw[if_neg hb]
    refine write_0 (gtF_hit ho hn hq) (y:={x.fl with b:=writeF x.fl.b p b}) (by rw[wr_ok (by omega) (by omega) hb,Int.toNat_natCast]) rfl (a:=(totF f.nodes).1) (z:=(totF f.nodes).2) rfl ?_ (burn_free hf) rfl;simp only[writeF_len];omega
/-- What stands in the file is put anew, in two parts. -/
theorem save_fs {f f':SFs} {s x:Ly} {i j r:Nat} {z:SNd} (e:saveR false f s x i j=(r,f')) (ho:f.off=false) (hf:f.fuse = -1) (hs:fnameF s=true) (nd:(f.nodes.map (·.id)).Nodup) (hz:findN f.nodes s=some z) (hx:1≤x.length∧x.length≤32768) (hl:z.fl.b.length≤x.length) :
    (freeF f<(x.length:Int)-(z.fl.b.length:Int)→r=15∧f'=f)∧((x.length:Int)-(z.fl.b.length:Int)≤freeF f→r=0∧f'={f with nodes:=updN f.nodes z.id fun y=>{y with no:={y.no with fid:=j},fl:=⟨x,x⟩}}):=by
  have B:lenF f.off f.nodes s=(z.fl.b.length,0):=lenF_in (gtF_hit ho hs hz) rfl;unfold saveR at e;rw[if_neg (by simp),B]at e;simp only[ne_eq,not_true_eq_false,if_false]at e;refine⟨fun h=>?_,fun h=>?_⟩
  · rw[if_pos h]at e;cases e;exact⟨rfl,rfl⟩
  · rw[if_neg (by omega)]at e
    have N:z.fl.b.length<x.length→((totF f.nodes).2:Int)+(x.length:Int)-(z.fl.b.length:Int)≤f.room:=fun F=>by have:=(free_pos ho (by omega)).1 h;omega
    unfold saveW at e
    generalize hp:min 512 x.length=p at e;have d:(x.drop p).length=x.length-p:=List.length_drop;have I:(x.take p).length=p:=(by rw[List.length_take];omega)
    -- the first part
    have L:=write_ok (j:=i) (p:=p) (b:=x.drop p) ho hf hs hz (by omega) (fun F=>by have:=N (by omega);omega)
    generalize hb1:(if(x.drop p).length=0 then z.fl.b else writeF z.fl.b p (x.drop p))=b1 at L
    have A:b1.length≤x.length∧z.fl.b.length≤b1.length∧b1.drop p=x.drop p:=by
      subst hb1
      split
      · exact⟨hl,Nat.le_refl _,by rw[List.drop_of_length_le (by omega),List.drop_of_length_le (by omega)]⟩
      · rename_i hne
        refine⟨by rw[writeF_len];omega,by rw[writeF_len];omega,?_⟩;unfold writeF;have U:((z.fl.b ++ List.replicate (p+(x.drop p).length-z.fl.b.length) 0).take p).length=p:=(by rw[List.length_take,List.length_append,List.length_replicate];omega);have H:(z.fl.b ++ List.replicate (p+(x.drop p).length-z.fl.b.length) 0).drop (p+(x.drop p).length)=[]:=List.drop_of_length_le (by rw[List.length_append,List.length_replicate];omega);rw[List.append_assoc,List.drop_left' U,H,List.append_nil]
    generalize hg1:(fun y:SNd=>({y with no:={y.no with fid:=i},fl:={z.fl with b:=b1}}:SNd))=g1 at L;have D:∀y,(g1 y).id=y.id:=fun y=>by rw[← hg1]
    have P:∀y,(g1 y).no.nm=y.no.nm∧(g1 y).no.there=y.no.there:=fun y=>by rw[← hg1];exact⟨rfl,rfl⟩
    have S:(g1 z).fl.b=b1:=(by rw[← hg1]);obtain⟨X,g,_,k⟩:=findN_upd P nd hz;have c:((updN f.nodes z.id g1).map (·.id)).Nodup:=(by rw[updN_ids D];exact nd);have E:=sync_free (f:={f with nodes:=updN f.nodes z.id g1}) (s:=s) (x:=g1 z) ho hf hs X;simp only at E;rw[D z,updN_comp D]at E
    generalize hg2:(fun y:SNd=>({g1 y with fl:={b:=(g1 z).fl.b,safe:=(g1 z).fl.b}}:SNd))=g2 at E;have V:partW f s p (x.drop p) i=(0,{f with nodes:=updN f.nodes z.id g2}):=(by unfold partW;rw[stepW_0 L];exact E);rw[stepW_0 V]at e;have J:∀y,(g2 y).id=y.id:=fun y=>by rw[← hg2];exact D y
    have Q:∀y,(g2 y).no.nm=y.no.nm∧(g2 y).no.there=y.no.there:=fun y=>by rw[← hg2];exact P y
    have M:(g2 z).fl.b=b1:=(by rw[← hg2];exact S);obtain⟨Y,Z,_,l⟩:=findN_upd Q nd hz
    -- the second part
    have C:=write_ok (f:={f with nodes:=updN f.nodes z.id g2}) (j:=j) (p:=0) (b:=x.take p) (x:=g2 z) ho hf hs Y (by omega) (fun F=>by rw[M]at F Z ⊢;simp only;have:=N (by omega);omega);simp only at C;rw[J z,updN_comp J,if_neg (by omega),M]at C
    have G:writeF b1 0 (x.take p)=x:=by
      unfold writeF;rw[List.take_zero,List.nil_append,Nat.zero_add,I];by_cases h9:p≤b1.length
      · rw[show p-b1.length=0 by omega,List.replicate_zero,List.append_nil,A.2.2,List.take_append_drop]
      · have R:x.drop p=[]:=by rw[← A.2.2];exact List.drop_of_length_le (by omega)
        rw[List.drop_of_length_le (by rw[List.length_append,List.length_replicate];omega),← R,List.take_append_drop]
    rw[G]at C
    generalize hg3:(fun y:SNd=>({g2 y with no:={(g2 y).no with fid:=j},fl:={(g2 z).fl with b:=x}}:SNd))=g3 at C;have O:∀y,(g3 y).id=y.id:=fun y=>by rw[← hg3];exact J y
    have n3:∀y,(g3 y).no.nm=y.no.nm∧(g3 y).no.there=y.no.there:=fun y=>by rw[← hg3];exact Q y
    have T:(g3 z).fl.b=x:=(by rw[← hg3]);obtain⟨a,_⟩:=findN_upd n3 nd hz;have K:=sync_free (f:={f with nodes:=updN f.nodes z.id g3}) (s:=s) (x:=g3 z) ho hf hs a;simp only at K;rw[O z,updN_comp O,T]at K;have W:partW {f with nodes:=updN f.nodes z.id g2} s 0 (x.take p) j=(0,{f with nodes:=updN f.nodes z.id fun y=>{g3 y with fl:={b:=x,safe:=x}}}):=(by unfold partW;rw[stepW_0 C];exact K);rw[W]at e
    cases e
    refine⟨rfl,?_⟩
    congr 1
    congr 1
    funext y;rw[← hg3,← hg2,← hg1]

end Go.Proofs.YtfadcpfgenjbeaaGreat
namespace Go.Wk
open Go Go.RowKit
/-- The head's bytes are the document's. -/
theorem putH_headF {p:PHead} {h:RHead} {depth:Nat} (hd:(p.compat,p.incompat,p.state,p.file,p.machine,p.boot,p.seq,p.tailArray,p.tailItems,p.tailEntry)=(h.compat,h.incompat,h.state,h.file,h.machine,h.boot,h.seq,h.tailArray,h.tailItems,h.tailEntry)) (hn:p.n=h.n ++ [depth]):putH p=headF h depth:=by
  simp only[Prod.mk.injEq]at hd
  obtain⟨B,C,D,E,F,G,H,I,J,A⟩:=hd
  unfold putH headF signF
  rw[B,C,D,E,F,G,H,I,J,A,hn,nums_appW]
  simp only[nums,List.append_assoc,List.append_nil]
set_option maxRecDepth 100000 in
theorem blank_image {c:Cfg} {t:Nat} (ok:Cfg.ok c) (h:1≤c.dataSlots∧c.dataSlots≤64∧1≤c.fieldSlots∧c.fieldSlots≤64) :
    (blankF c t).b=imageM (newMk c t) 1∧(blankF c t).b.length=304+16*c.dataSlots+16*c.fieldSlots:=by
  have B:=(putTableF_lenA 4 (List.replicate c.dataSlots ({first:=0,tail:=0}:Slt))).2 (.inl rfl)
  have C:=(putTableF_lenA 5 (List.replicate c.fieldSlots ({first:=0,tail:=0}:Slt))).2 (.inr rfl)
  rw[List.length_replicate]at B C
  have A:(blankF c t).b=imageM (newMk c t) 1:=by
    unfold blankF newMk imageM
    generalize putTableF 4 (List.replicate c.dataSlots ({first:=0,tail:=0}:Slt))=T4
    generalize putTableF 5 (List.replicate c.fieldSlots ({first:=0,tail:=0}:Slt))=T5
    have A:∀(x y:Ly),x=y→∀z:List UInt8,x ++ z=y ++ z:=fun x y h z=>by rw[h]
    exact A _ _ (putH_headF rfl rfl) _
  refine⟨A,?_⟩
  rw[A]
  unfold imageM newMk headF
  simp only[List.length_append,List.length_drop,List.length_replicate,low_len,nums_len,List.length_cons,List.length_nil,List.length_set,ok.1,ok.2.1,ok.2.2.1]
  omega
theorem newMk_b {c:Cfg} {t:Nat}:272≤(newMk c t).b.length∧(newMk c t).b.length≤320+16*c.dataSlots+16*c.fieldSlots:=by
  have A:=(putTableF_lenA 4 (List.replicate c.dataSlots ({first:=0,tail:=0}:Slt))).1
  have B:=(putTableF_lenA 5 (List.replicate c.fieldSlots ({first:=0,tail:=0}:Slt))).1
  rw[List.length_replicate]at A B
  unfold newMk
  simp only[List.length_append,List.length_replicate]
  omega
end Go.Wk
namespace Go.Proofs.YtfadcpfgenjbeaaGreat
open Go Go.Wk Go.RowKit
set_option linter.unusedVariables false
set_option linter.unusedSimpArgs false
attribute [local irreducible] wpList wpQuiet wpStill wpMix Code.wp Calls bodyPost

/-- The configuration of no choices, a journal of it, one pair. -/
def cfg0:Cfg:={file:=idF 0,machine:=idF 0,seq:=idF 0,dataSlots:=1,fieldSlots:=1,most:=32768,keyed:=false}
theorem cfg0_of:((Sq.mk [] 0).config).1=cfg0:=rfl
theorem cfg0_ok:Cfg.ok cfg0:=by unfold Cfg.ok;decide
def prA:Pr:={name:=[65],value:=[49]}
instance (d:Drf) (a b:Nat) (t:Ly) (k:Nat):Decidable (Drf.okL d a b t k):=by unfold Drf.okL;infer_instance
instance (d:Drf) (x:Pr):Decidable (Drf.okDat d x):=by unfold Drf.okDat;infer_instance
instance (d:Drf) (a n:Nat):Decidable (Drf.okList d a n):=by unfold Drf.okList;infer_instance
def fD0:Drf:=blankF cfg0 4
def fIt:Itm:=(fD0.data prA.name (joinF prA).1).1
def fD1:Drf:=(fD0.data prA.name (joinF prA).1).2
def fE0:Ent:={seq:=5,real:=1,mono:=1,boot:=idZ,xor:=0,items:=[]}
def fE1:Ent:={seq:=5,real:=1,mono:=1,boot:=idZ,xor:=xorF 0 [(joinF prA).1],items:=[fIt]}
def fAd:Nat × Drf:=fD1.add (putEntryF fE1)
def fD3:Drf:=fAd.2.link fAd.1 [fIt]
def fD4:Drf:=fD3.mark fAd.1 5 1 1 idZ
theorem sortI_one (x:Itm):sortI [x]=[x]:=by simp[sortI]
theorem dataL_one (x:Pr) (d:Drf):Drf.dataL [x] d []=([(d.data x.name (joinF x).1).1],(d.data x.name (joinF x).1).2):=by
  generalize h:d.data x.name (joinF x).1=y;obtain⟨i,A⟩:=y;unfold Drf.dataL;rw[h];rfl
theorem fir_dataL:Drf.dataL [prA] fD0 []=([fIt],fD1):=dataL_one prA fD0
theorem fir_ent:Drf.entOf fE0 [prA] [fIt]=fE1:=by unfold Drf.entOf;rw[sortI_one];rfl
theorem okLinkL_one {p:Nat} {x:Itm} {d:Drf} (h:x.pos+64≤d.b.length∧(at8 d.b (x.pos+56)≠0→d.okList (x.pos+48) (at8 d.b (x.pos+56)-1))∧at8 d.b (x.pos+56)≤1000000∧d.b.length≤800000∧d.h.n.getD 0 0≤d.b.length):Drf.okLinkL p [x] d:=⟨h,tV⟩
theorem fir_a:fD0.okDat prA:=by decide +kernel
theorem fir_b:fD1.b.length≤700000∧fD1.h.n.getD 0 0≤fD1.b.length:=by decide +kernel
theorem fir_c:(fAd.2.okList 176 (fAd.2.num 8)∧184≤fAd.2.b.length)∧(let z:=(fAd.2.list 176 (fAd.2.num 8) fAd.1).2.2.linkH (fAd.2.list 176 (fAd.2.num 8) fAd.1).1 (fAd.2.list 176 (fAd.2.num 8) fAd.1).2.1;fIt.pos+64≤z.b.length∧(at8 z.b (fIt.pos+56)≠0→z.okList (fIt.pos+48) (at8 z.b (fIt.pos+56)-1))∧at8 z.b (fIt.pos+56)≤1000000∧z.b.length≤800000∧z.h.n.getD 0 0≤z.b.length):=by decide +kernel
theorem fir_d:fAd.2.b.length≤800000∧fAd.2.h.n.getD 0 0≤fAd.2.b.length∧fAd.2.h.n.getD 8 0≤1000000∧272≤(fAd.2.link fAd.1 [fIt]).b.length∧(fAd.2.link fAd.1 [fIt]).b.length≤1000000∧(fAd.2.link fAd.1 [fIt]).h.state<256:=by decide +kernel
theorem fir_e:fD4.num 9=5∧fD4.b.length≤32768∧fD0.b.length≤fD4.b.length∧fD0.num 9=4∧fD0.b.length=336:=by decide +kernel
theorem fir_f:336<fD4.b.length:=by decide +kernel
theorem fD0_def:blankF cfg0 4=fD0:=rfl
section
attribute [local irreducible] fD0 fIt fD1 fAd fD3 fD4 Drf.link Drf.add Drf.linkH Drf.list
theorem fAd_def:fD1.add (putEntryF fE1)=fAd:=by unfold fAd;rfl
theorem fir_mk (r:Nat × Drf):(match r with|(p,d2)=>(d2.link p [fIt]).mark p fE0.seq fE0.real fE0.mono fE0.boot)=(r.2.link r.1 [fIt]).mark r.1 5 1 1 idZ:=by obtain⟨p,d2⟩:=r;rfl
theorem fir_entry:fD0.entry [prA] fE0=fD4:=by unfold Drf.entry;rw[fir_dataL];simp only;rw[fir_ent,fAd_def,sortI_one];refine(fir_mk fAd).trans ?_;unfold fD4 fD3;rfl
theorem fir_k:fAd.2.okLink fAd.1 [fIt]:=by unfold Drf.okLink;exact⟨fir_c.1.1,fir_c.1.2,okLinkL_one fir_c.2⟩
theorem fir_key (r:Nat × Drf) (h:r.2.okLink r.1 [fIt]) (k:r.2.b.length≤800000∧r.2.h.n.getD 0 0≤r.2.b.length∧r.2.h.n.getD 8 0≤1000000∧272≤(r.2.link r.1 [fIt]).b.length∧(r.2.link r.1 [fIt]).b.length≤1000000∧(r.2.link r.1 [fIt]).h.state<256) :
    (match r with|(p,d2)=>d2.okLink p [fIt]∧d2.b.length≤800000∧d2.h.n.getD 0 0≤d2.b.length∧d2.h.n.getD 8 0≤1000000∧272≤(d2.link p [fIt]).b.length∧(d2.link p [fIt]).b.length≤1000000∧(d2.link p [fIt]).h.state<256):=by
  obtain⟨p,d2⟩:=r;exact⟨h,k⟩
theorem fir_okEnt:fD0.okEnt [prA] fE0:=by
  refine⟨⟨fir_a,tV⟩,?_,?_⟩
  · rw[fir_dataL];simp
  · rw[fir_dataL]
    simp only;rw[fir_ent,sortI_one];rw[fAd_def];exact⟨fir_b.1,fir_b.2,fir_key fAd fir_k fir_d⟩
theorem fir_list:plistF [prA]=([prA],0):=by
  have e:packF [prA]=[prA]:=(by unfold packF sortF;rw[List.mergeSort_singleton];rfl);unfold plistF packE;rw[if_neg (by decide),e];rfl
def fWr (b:Nat) (s:Ly) (d:Drf) (n:Nat):Wri:={fs:=b,name:=s,most:=32768,d:=d,waiting:=n,archived:=false}
theorem fir_app0 (b:Nat) (s:Ly):(fWr b s fD0 0).append [] 1 1 idZ=(0,16,fWr b s fD0 0):=by
  unfold Wri.append;rw[if_neg (by simp[fWr]),show plistF []=([],16)from rfl];simp only;rw[if_pos (by decide)]
theorem fir_ok0 (b:Nat) (s:Ly):(fWr b s fD0 0).okApp [] 1 1 idZ:=fun _ h=>by rw[show plistF []=([],16)from rfl]at h;simp at h
theorem fir_app1 (b:Nat) (s:Ly):(fWr b s fD0 0).append [prA] 1 1 idZ=(5,0,fWr b s fD4 1):=by
  have e:=fir_e;unfold Wri.append;rw[if_neg (by simp[fWr]),fir_list];simp only;have A:(fWr b s fD0 0).entE 1 1 idZ=fE0:=(by unfold Wri.entE fE0;show({seq:=fD0.num 9+1,..}:Ent)=_;rw[e.2.2.2.1]);rw[if_neg (by simp),A,show(fWr b s fD0 0).d=fD0 from rfl,fir_entry,if_neg (by omega),if_neg (by show ¬32768<_;omega),e.1]
  rfl
theorem fir_ok1 (b:Nat) (s:Ly):(fWr b s fD0 0).okApp [prA] 1 1 idZ:=fun _ _ _=>by
  have e:=fir_e;rw[fir_list];have en:(fWr b s fD0 0).entE 1 1 idZ=fE0:=(by unfold Wri.entE fE0;show({seq:=fD0.num 9+1,..}:Ent)=_;rw[e.2.2.2.1]);rw[en];exact⟨fir_okEnt,by decide,by decide⟩
theorem fWr_def (b:Nat) (s:Ly) (d:Drf) (n:Nat):({fs:=b,name:=s,most:=cfg0.most,d:=d,waiting:=n,archived:=false}:Wri)=fWr b s d n:=rfl
theorem fWr_c (b:Nat) (s:Ly) (d:Drf) (n:Nat):(fWr b s d n).fs=b∧(fWr b s d n).name=s∧(fWr b s d n).d=d∧(fWr b s d n).waiting=n∧(fWr b s d n).archived=false∧(fWr b s d n).most=32768:=⟨rfl,rfl,rfl,rfl,rfl,rfl⟩
end

theorem off29_0:fieldOff Tryz.prog 29 0=some 0:=by kernel_rfl
theorem off29_1:fieldOff Tryz.prog 29 1=some 16:=by kernel_rfl
theorem off29_2:fieldOff Tryz.prog 29 2=some 32:=by kernel_rfl
theorem off29_3:fieldOff Tryz.prog 29 3=some 48:=by kernel_rfl
theorem off29_4:fieldOff Tryz.prog 29 4=some 49:=by kernel_rfl
theorem off29_5:fieldOff Tryz.prog 29 5=some 50:=by kernel_rfl
theorem off29_6:fieldOff Tryz.prog 29 6=some 51:=by kernel_rfl
theorem pl41:bplace Tryz.prog 41=some [(0,16),(16,16),(32,16),(48,1),(49,1),(50,1),(51,1)]:=by kernel_rfl
theorem z41:zcells Tryz.prog 41=some (List.replicate 48 (.int .u8 0) ++ ([.int .i64 0,.int .i64 0,.int .i64 0,.bool false])):=by kernel_rfl

theorem lConf_any {w:World} {Q:Nat→Prop} (uQ:Up w Q) (c:Cfg) (a0_0:Cfg.ok c) :
    Calls Tryz.prog 13 #[.agg (Cfg.cells c).toArray] w fun en w'=>∃r0:Cfg,en = .returned (.agg (Cfg.cells r0).toArray)∧Md [] w w'∧Cfg.ok r0∧c=r0:=by
  have M:=Md.refl [] w;have X:=uQ;refine enter (n:=18) Tryz.func13 rfl rfl rfl ?_;intro B;refine ns (st_box (cs:=(Cfg.cells c)) rfl rfl ?_);intro L g F T E A;have O:=uQ _ F;replace F:=lv M.size F;replace uQ:=uQ.md E;replace M:=M.step0 E;refine st_alloc z41 ?_;intro H h D N E C;have K:L≠H:=(by have:=A.lt;omega);obtain⟨Z,V,W,P,J⟩:=exQ uQ D N E;replace D:=lv M.size D;replace A:=A.md0 E;replace uQ:=uQ.md E;replace M:=M.step0 E;replace uQ:=J;clear J V W;have G:Fsh [] w H:=.inr D;replace C:Blk _ _ (Cfg.cells (({file:=idZ,machine:=idZ,seq:=idZ,dataSlots:=0,fieldSlots:=0,most:=0,keyed:=false}:Cfg))) _:=C;have R:Cfg.ok (({file:=idZ,machine:=idZ,seq:=idZ,dataSlots:=0,fieldSlots:=0,most:=0,keyed:=false}:Cfg)):=(by exact⟨rfl,rfl,rfl,(by decide),(by decide),(by decide)⟩);refine nt (ns (sf rfl off29_0 (st _ (r_loadPart (idc c.file) rfl (by exact agg27) A rfl) ?_)));have a:c.file.length=16:=a0_0.1;refine sf rfl off29_1 (st _ (r_loadPart (idc c.machine) rfl (by exact agg27) A rfl) ?_);have b:c.machine.length=16:=a0_0.2.1;refine sf rfl off29_2 (st _ (r_loadPart (idc c.seq) rfl (by exact agg27) A rfl) ?_);have d:c.seq.length=16:=a0_0.2.2.1;refine sf rfl off29_3 (sl (u:=(.int .i64 c.dataSlots)) rfl one3 A rfl ?_);have e:c.dataSlots<9223372036854775808:=a0_0.2.2.2.1;refine sf rfl off29_4 (sl (u:=(.int .i64 c.fieldSlots)) rfl one3 A rfl ?_)
  have f:c.fieldSlots<9223372036854775808:=a0_0.2.2.2.2.1;refine sf rfl off29_5 (sl (u:=(.int .i64 c.most)) rfl one3 A rfl ?_);have U:c.most<9223372036854775808:=a0_0.2.2.2.2.2;refine sf rfl off29_6 (sl (u:=(.bool c.keyed)) rfl one4 A rfl (st _ (r_buildG (us:=[(idc c.file),(idc c.machine),(idc c.seq),[(.int .i64 c.dataSlots)],[(.int .i64 c.fieldSlots)],[(.int .i64 c.most)],[(.bool c.keyed)]]) (cs:=(Cfg.cells (({file:=c.file,machine:=c.machine,seq:=c.seq,dataSlots:=c.dataSlots,fieldSlots:=c.fieldSlots,most:=c.most,keyed:=c.keyed}:Cfg)))) [(0,0,16),(1,16,16),(2,32,16),(3,48,1),(4,49,1),(5,50,1),(6,51,1)] z41 pl41 rfl rfl ⟨rfl,rfl,rfl,rfl,rfl,rfl,rfl,tV⟩ ⟨rfl,rfl,rfl,rfl,rfl,rfl,rfl,tV⟩ rfl (by simp[splices,splice,idc,Cfg.cells])) (st_storeAgg (us:=(Cfg.cells (({file:=c.file,machine:=c.machine,seq:=c.seq,dataSlots:=c.dataSlots,fieldSlots:=c.fieldSlots,most:=c.most,keyed:=c.keyed}:Cfg)))) rfl rfl (by exact agg41) (by exact fun u S=>one_cells (Cfg.one) u S) C (lq rfl) ?_)));have I:=C;clear C;intro Y E C;replace M:=M.step E (all_cons G all_nil);clear I;replace C:Blk _ _ (Cfg.cells (({file:=c.file,machine:=c.machine,seq:=c.seq,dataSlots:=c.dataSlots,fieldSlots:=c.fieldSlots,most:=c.most,keyed:=c.keyed}:Cfg))) _:=C;refine nt (c_ret ?_);exact ret1L (v:=(.agg (Cfg.cells (({file:=c.file,machine:=c.machine,seq:=c.seq,dataSlots:=c.dataSlots,fieldSlots:=c.fieldSlots,most:=c.most,keyed:=c.keyed}:Cfg))).toArray)) trivial rfl ⟨⟨_,rfl,load_agg (cs:=(Cfg.cells (({file:=c.file,machine:=c.machine,seq:=c.seq,dataSlots:=c.dataSlots,fieldSlots:=c.fieldSlots,most:=c.most,keyed:=c.keyed}:Cfg)))) (by exact agg41) C⟩,tV⟩ ⟨(({file:=c.file,machine:=c.machine,seq:=c.seq,dataSlots:=c.dataSlots,fieldSlots:=c.fieldSlots,most:=c.most,keyed:=c.keyed}:Cfg)),rfl,M,(by assumption),rfl⟩
theorem agg63:isAggN Tryz.prog 63 20=true:=by kernel_rfl
theorem fn47:isFn Tryz.prog 47=true:=by kernel_rfl
theorem fn58:isFn Tryz.prog 58=true:=by kernel_rfl
theorem fn59:isFn Tryz.prog 59=true:=by kernel_rfl
theorem pl63:bplace Tryz.prog 63=some [(0,1),(1,1),(2,1),(3,16),(19,1)]:=by kernel_rfl
theorem z63:zcells Tryz.prog 63=some ([.int .u64 0,.int .u64 0,.int .u64 0] ++ (List.replicate 16 (.int .u8 0) ++ ([.slice none 0 0]))):=by kernel_rfl

set_option maxRecDepth 100000 in
theorem kRecord_any {w:World} {Q:Nat→Prop} (uQ:Up w Q) {b0:Nat} {v0_0:Value} (s:Sq) (h0:Blk w b0 (Sq.cells s v0_0) 33) (n0:¬Q b0) (a0_0:Sq.ok s) (a0_1:Ls tInt w Q v0_0 s.l) (seq:Nat) (a1:seq<18446744073709551616) :
    Calls Tryz.prog 31 #[.pointer (some ⟨b0,0,none⟩),(.int .u64 seq)] w fun en w'=>∃u0_0:Value,∃r0:Rec,∃m0:Sq,∃u50_0:Value,en = .returned (.agg (Rec.cells r0 u0_0).toArray)∧Md [b0] w w'∧Rec.ok r0∧Ls tPr w' Q u0_0 r0.fields∧Blk w' b0 (Sq.cells m0 u50_0) 33∧¬Q b0∧Sq.ok m0∧Ls tInt w' Q u50_0 m0.l∧s.record seq=(r0,m0):=by
  have C:=n0;have R:Fsh [b0] w b0:=.inl (by simp);have M:=Md.refl [b0] w;have Bg:=uQ;have tQ:∀b,Q b→Q b:=fun _ h=>h;refine enter (n:=25) Tryz.func31 rfl rfl rfl ?_;intro B;refine ns (st_alloc z63 ?_);intro O w1 r Ay F D;have Av:b0≠O:=(by have:=h0.lt;omega);obtain⟨Q2,sQ,sT,Ac,Ar⟩:=exQ uQ r Ay F;replace a0_1:=a0_1.sub sQ;replace C:=fun hh=>C (sT _ hh);replace tQ:=fun b p=>tQ b (sT b p);replace r:=lv M.size r;replace a0_1:=a0_1.md0 F;replace h0:=h0.md0 F;replace uQ:=uQ.md F;replace M:=M.step0 F;replace uQ:=Ar;clear Ar sQ sT;have Ad:Fsh [] w O:=.inr r;replace D:Blk _ _ (Rec.cells (({seq:=0,real:=0,mono:=0,boot:=idZ,fields:=[]}:Rec)) (.slice none 0 0)) _:=D;have A0:Rec.ok (({seq:=0,real:=0,mono:=0,boot:=idZ,fields:=[]}:Rec)):=(by exact⟨(by decide),(by decide),(by decide),rfl⟩);refine nt (ns (mv rfl (st_call fn58 rfl (kPairs_any uQ s h0 C a0_0 a0_1 4 (by omega) (by omega)) ?_)));rintro en w4 ⟨Ba,Bb,z,Am,rfl,F,Af,W,c,g,J,Ag⟩;refine⟨_,rfl,?_⟩;have T:∀i∈[b0],Fsh [b0] w i:=(all_cons R all_nil);have P:∀i∈[b0],¬Q2 i:=(all_cons C all_nil);have A:O∉[b0]:=(nin_cons (by omega) (by simp));replace D:=D.md F A;clear A;replace M:=M.step F T;replace uQ:=uQ.md F;clear T P h0 C;have h0:=W;have C:=c;clear W c;have S:=pairs_bd s 4;rw[Ag]at S;try simp only[LL,Nat.reduceAdd,Nat.reduceMul]at S
  refine st_call fn59 rfl (rList_any uQ Af (by omega) (fun q hq=>by have:=S.1 q hq;omega)) ?_;rintro en w5 ⟨L,N,Bc,rfl,F,E,A3,Aw⟩;refine⟨_,rfl,?_⟩;replace h0:=h0.md0 F;replace D:=D.md0 F;replace J:=J.md0 F;replace uQ:=uQ.md F;replace M:=M.step0 F;refine mv rfl (se rfl rfl (se rfl rfl (asg rfl (asg rfl (nt (ns (mv rfl (mv rfl (st_call fn48 rfl (kN_any uQ z h0 C g J 40 (by omega) (by omega)) ?_)))))))));rintro en w6 ⟨H,Aa,Ao,rfl,F,A4,X,d,j,U,Ah⟩;refine⟨_,rfl,?_⟩;have T:∀i∈[b0],Fsh [b0] w i:=(all_cons R all_nil);have P:∀i∈[b0],¬Q2 i:=(all_cons C all_nil);have A:O∉[b0]:=(nin_cons (by omega) (by simp));replace D:=D.md F A;clear A;replace E:=E.md F P;replace M:=M.step F T;replace uQ:=uQ.md F;clear T P h0 C;have h0:=X;have C:=d;clear X d;have t:=Sq.num_le z 40;rw[Ah]at t;try simp only[LL,Nat.reduceAdd,Nat.reduceMul]at t
  refine st _ (r_convN (a:=H) 18446744073709551616 rfl (by rw[u3];rfl) u23 rfl (by omega)) (mv rfl (st_call fn48 rfl (kN_any uQ Aa h0 C j U 9 (by omega) (by omega)) ?_));rintro en w7 ⟨I,Ab,Ap,rfl,F,A6,Y,e,k,V,Ai⟩;refine⟨_,rfl,?_⟩;have T:∀i∈[b0],Fsh [b0] w i:=(all_cons R all_nil);have P:∀i∈[b0],¬Q2 i:=(all_cons C all_nil);have A:O∉[b0]:=(nin_cons (by omega) (by simp));replace D:=D.md F A;clear A;replace E:=E.md F P;replace M:=M.step F T;replace uQ:=uQ.md F;clear T P h0 C;have h0:=Y;have C:=e;clear Y e;have x:=Sq.num_le Aa 9;rw[Ai]at x;try simp only[LL,Nat.reduceAdd,Nat.reduceMul]at x
  refine st _ (r_convN (a:=I) 18446744073709551616 rfl (by rw[u3];rfl) u23 rfl (by omega)) (mv rfl (st_call fn48 rfl (kN_any uQ Ab h0 C k V 3 (by omega) (by omega)) ?_));rintro en w8 ⟨As,Al,Aq,rfl,F,A7,Z,f,o,G,Aj⟩;refine⟨_,rfl,?_⟩;have T:∀i∈[b0],Fsh [b0] w i:=(all_cons R all_nil);have P:∀i∈[b0],¬Q2 i:=(all_cons C all_nil);have A:O∉[b0]:=(nin_cons (by omega) (by simp));replace D:=D.md F A;clear A;replace E:=E.md F P;replace M:=M.step F T;replace uQ:=uQ.md F;clear T P h0 C;have h0:=Z;have C:=f;clear Z f;have y:=Sq.num_le Ab 3;rw[Aj]at y;try simp only[LL,Nat.reduceAdd,Nat.reduceMul]at y
  refine st_call fn47 rfl (kID_any uQ (((As:Nat):Int)) (by omega)) ?_;rintro en w9 ⟨K,rfl,F,A8,Ax⟩;refine⟨_,rfl,?_⟩;replace h0:=h0.md0 F;replace D:=D.md0 F;replace E:=E.md0 F;replace G:=G.md0 F;replace M:=M.step0 F;refine mv rfl (st _ (r_buildG (us:=[[(.int .u64 seq)],[(.int .u64 H)],[(.int .u64 I)],(idc K),[L]]) (cs:=(Rec.cells (({seq:=seq,real:=H,mono:=I,boot:=K,fields:=N}:Rec)) L)) [(0,0,1),(1,1,1),(2,2,1),(3,3,16),(4,19,1)] z63 pl63 rfl rfl ⟨rfl,rfl,rfl,rfl,(cells_one E.oneCell),tV⟩ ⟨rfl,rfl,rfl,rfl,rfl,tV⟩ rfl rfl) (st_storeAgg (us:=(Rec.cells (({seq:=seq,real:=H,mono:=I,boot:=K,fields:=N}:Rec)) L)) rfl rfl (by exact agg63) (by exact fun u hu=>one_cells (Rec.one E.oneCell) u hu) D (lq rfl) ?_));have Ak:=D;clear D;intro Bh F D;have P:∀b∈[O],¬Q2 b:=(by intro b p;simp at p;subst p;exact Ac);replace h0:=h0.md F (by intro p;simp at p;omega);replace E:=E.md F P;replace G:=G.md F P;replace M:=M.step F (all_cons (Fsh.wid Ad) all_nil);clear Ak P;replace D:Blk _ _ (Rec.cells (({seq:=seq,real:=H,mono:=I,boot:=K,fields:=N}:Rec)) L) _:=D;refine nt (c_ret ?_);exact ret1L (v:=(.agg (Rec.cells (({seq:=seq,real:=H,mono:=I,boot:=K,fields:=N}:Rec)) L).toArray)) trivial rfl ⟨⟨_,rfl,load_agg (cs:=(Rec.cells (({seq:=seq,real:=H,mono:=I,boot:=K,fields:=N}:Rec)) L)) (by exact agg63) D⟩,tV⟩ ⟨_,(({seq:=seq,real:=H,mono:=I,boot:=K,fields:=N}:Rec)),Al,_,rfl,M,(by exact⟨(by omega),(by(simp<;>omega)),(by(simp<;>omega)),(by assumption)⟩),(E.sub (fun b p _=>tQ b p)),h0,n0,o,(G.sub (fun b p _=>tQ b p)),(by rw[Sq.record]<;>simp(disch:=first|omega|assumption|(simp;done)|fail) only [SS,reduceIte,Ag,Aw,Ah,Ai,Aj,Ax])⟩
theorem agg29:isAggN Tryz.prog 29 52=true:=by kernel_rfl
theorem pl29:bplace Tryz.prog 29=some [(0,16),(16,16),(32,16),(48,1),(49,1),(50,1),(51,1)]:=by kernel_rfl
theorem z29:zcells Tryz.prog 29=some (List.replicate 48 (.int .u8 0) ++ ([.int .i64 0,.int .i64 0,.int .i64 0,.bool false])):=by kernel_rfl

theorem kConfig_any {w:World} {Q:Nat→Prop} (uQ:Up w Q) {b0:Nat} {v0_0:Value} (s:Sq) (h0:Blk w b0 (Sq.cells s v0_0) 33) (n0:¬Q b0) (a0_0:Sq.ok s) (a0_1:Ls tInt w Q v0_0 s.l) :
    Calls Tryz.prog 9 #[.pointer (some ⟨b0,0,none⟩)] w fun en w'=>∃r0:Cfg,∃m0:Sq,∃u50_0:Value,en = .returned (.agg (Cfg.cells r0).toArray)∧Md [b0] w w'∧Cfg.ok r0∧Blk w' b0 (Sq.cells m0 u50_0) 33∧¬Q b0∧Sq.ok m0∧Ls tInt w' Q u50_0 m0.l∧s.config=(r0,m0):=by
  have C:=n0;have R:Fsh [b0] w b0:=.inl (by simp);have M:=Md.refl [b0] w;have Bz:=uQ;have tQ:∀b,Q b→Q b:=fun _ h=>h;refine enter (n:=22) Tryz.func9 rfl rfl rfl ?_;intro B;refine ns (st_alloc z29 ?_);intro S w1 Ag Bi E D;have Be:b0≠S:=(by have:=h0.lt;omega);obtain⟨Q2,sQ,sT,Av,Ba⟩:=exQ uQ Ag Bi E;replace a0_1:=a0_1.sub sQ;replace C:=fun hh=>C (sT _ hh);replace tQ:=fun b hb=>tQ b (sT b hb);replace Ag:=lv M.size Ag;replace a0_1:=a0_1.md0 E;replace h0:=h0.md0 E;replace uQ:=uQ.md E;replace M:=M.step0 E;replace uQ:=Ba;clear Ba sQ sT;have Aw:Fsh [] w S:=.inr Ag;replace D:Blk _ _ (Cfg.cells (({file:=idZ,machine:=idZ,seq:=idZ,dataSlots:=0,fieldSlots:=0,most:=0,keyed:=false}:Cfg))) _:=D;have Bo:Cfg.ok (({file:=idZ,machine:=idZ,seq:=idZ,dataSlots:=0,fieldSlots:=0,most:=0,keyed:=false}:Cfg)):=(by exact⟨rfl,rfl,rfl,(by decide),(by decide),(by decide)⟩);refine nt (ns (mv rfl (st_call fn48 rfl (kN_any uQ s h0 C a0_0 a0_1 5 (by omega) (by omega)) ?_)));rintro en w4 ⟨Bb,Ap,A7,rfl,E,Bp,x,Aa,Ad,J,A0⟩;refine⟨_,rfl,?_⟩;have T:∀i∈[b0],Fsh [b0] w i:=(all_cons R all_nil);have U:∀i∈[b0],¬Q2 i:=(all_cons C all_nil);have A:S∉[b0]:=(nin_cons (by omega) (by simp));replace D:=D.md E A;clear A;replace M:=M.step E T;replace uQ:=uQ.md E;clear T U h0 C;have h0:=x;have C:=Aa;clear x Aa;have Ah:=Sq.num_le s 5;rw[A0]at Ah;try simp only[LL,Nat.reduceAdd,Nat.reduceMul]at Ah
  refine st_call fn47 rfl (kID_any uQ (((Bb:Nat):Int)) (by omega)) ?_;rintro en w5 ⟨N,rfl,E,Bq,Bf⟩;refine⟨_,rfl,?_⟩;replace h0:=h0.md0 E;replace D:=D.md0 E;replace J:=J.md0 E;replace uQ:=uQ.md E;replace M:=M.step0 E;refine mv rfl (st_call fn48 rfl (kN_any uQ Ap h0 C Ad J 5 (by omega) (by omega)) ?_);rintro en w6 ⟨Bc,Aq,A8,rfl,E,Br,y,Ab,Ae,K,A3⟩;refine⟨_,rfl,?_⟩;have T:∀i∈[b0],Fsh [b0] w i:=(all_cons R all_nil);have U:∀i∈[b0],¬Q2 i:=(all_cons C all_nil);have A:S∉[b0]:=(nin_cons (by omega) (by simp));replace D:=D.md E A;clear A;replace M:=M.step E T;replace uQ:=uQ.md E;clear T U h0 C;have h0:=y;have C:=Ab;clear y Ab;have Ai:=Sq.num_le Ap 5;rw[A3]at Ai;try simp only[LL,Nat.reduceAdd,Nat.reduceMul]at Ai
  refine st_call fn47 rfl (kID_any uQ (((Bc:Nat):Int)) (by omega)) ?_;rintro en w7 ⟨O,rfl,E,Bs,Bg⟩;refine⟨_,rfl,?_⟩;replace h0:=h0.md0 E;replace D:=D.md0 E;replace K:=K.md0 E;replace uQ:=uQ.md E;replace M:=M.step0 E;refine mv rfl (st_call fn48 rfl (kN_any uQ Aq h0 C Ae K 5 (by omega) (by omega)) ?_);rintro en w8 ⟨Bd,Ar,A9,rfl,E,Bt,z,Ac,Af,L,A4⟩;refine⟨_,rfl,?_⟩;have T:∀i∈[b0],Fsh [b0] w i:=(all_cons R all_nil);have U:∀i∈[b0],¬Q2 i:=(all_cons C all_nil);have A:S∉[b0]:=(nin_cons (by omega) (by simp));replace D:=D.md E A;clear A;replace M:=M.step E T;replace uQ:=uQ.md E;clear T U h0 C;have h0:=z;have C:=Ac;clear z Ac;have Aj:=Sq.num_le Aq 5;rw[A4]at Aj;try simp only[LL,Nat.reduceAdd,Nat.reduceMul]at Aj
  refine st_call fn47 rfl (kID_any uQ (((Bd:Nat):Int)) (by omega)) ?_;rintro en w9 ⟨P,rfl,E,Bu,Bh⟩;refine⟨_,rfl,?_⟩;replace h0:=h0.md0 E;replace D:=D.md0 E;replace L:=L.md0 E;replace uQ:=uQ.md E;replace M:=M.step0 E;refine mv rfl (st_call fn48 rfl (kN_any uQ Ar h0 C Af L 7 (by omega) (by omega)) ?_);rintro en B0 ⟨F,r,Ax,rfl,E,Bj,V,Y,f,d,Ak⟩;refine⟨_,rfl,?_⟩;have T:∀i∈[b0],Fsh [b0] w i:=(all_cons R all_nil);have U:∀i∈[b0],¬Q2 i:=(all_cons C all_nil);have A:S∉[b0]:=(nin_cons (by omega) (by simp));replace D:=D.md E A;clear A;replace M:=M.step E T;replace uQ:=uQ.md E;clear T U h0 C;have h0:=V;have C:=Y;clear V Y;have k:=Sq.num_le Ar 7;rw[Ak]at k;try simp only[LL,Nat.reduceAdd,Nat.reduceMul]at k
  refine st _ (r_addN (a:=F) (b:=1) 9223372036854775808 rfl rfl rfl (by omega)) (mv rfl (st_call fn48 rfl (kN_any uQ r h0 C f d 4 (by omega) (by omega)) ?_));rintro en B3 ⟨G,t,Ay,rfl,E,Bk,W,Z,g,e,Al⟩;refine⟨_,rfl,?_⟩;have T:∀i∈[b0],Fsh [b0] w i:=(all_cons R all_nil);have U:∀i∈[b0],¬Q2 i:=(all_cons C all_nil);have A:S∉[b0]:=(nin_cons (by omega) (by simp));replace D:=D.md E A;clear A;replace M:=M.step E T;replace uQ:=uQ.md E;clear T U h0 C;have h0:=W;have C:=Z;clear W Z;have o:=Sq.num_le r 4;rw[Al]at o;try simp only[LL,Nat.reduceAdd,Nat.reduceMul]at o
  refine st _ (r_addN (a:=G) (b:=1) 9223372036854775808 rfl rfl rfl (by omega)) (mv rfl (st_call fn48 rfl (kN_any uQ t h0 C g e 2 (by omega) (by omega)) ?_));rintro en B4 ⟨H,Au,Az,rfl,E,Bl,X,c,j,I,Am⟩;refine⟨_,rfl,?_⟩;have T:∀i∈[b0],Fsh [b0] w i:=(all_cons R all_nil);have U:∀i∈[b0],¬Q2 i:=(all_cons C all_nil);have A:S∉[b0]:=(nin_cons (by omega) (by simp));replace D:=D.md E A;clear A;replace M:=M.step E T;clear T U h0 C;have h0:=X;have C:=c;clear X c;have p:=Sq.num_le t 2;rw[Am]at p;try simp only[LL,Nat.reduceAdd,Nat.reduceMul]at p
  refine st _ (r_eqN (a:=H) (b:=1) rfl rfl) (st _ (r_buildG (us:=[(idc N),(idc O),(idc P),[(.int .i64 ((F+1:Nat):Int))],[(.int .i64 ((G+1:Nat):Int))],[(.int .i64 ((32768:Nat):Int))],[(.bool ((decide (H=1))))]]) (cs:=(Cfg.cells (({file:=N,machine:=O,seq:=P,dataSlots:=F+1,fieldSlots:=G+1,most:=32768,keyed:=(decide (H=1))}:Cfg)))) [(0,0,16),(1,16,16),(2,32,16),(3,48,1),(4,49,1),(5,50,1),(6,51,1)] z29 pl29 rfl rfl ⟨rfl,rfl,rfl,rfl,rfl,rfl,rfl,tV⟩ ⟨rfl,rfl,rfl,rfl,rfl,rfl,rfl,tV⟩ rfl (by simp[splices,splice,idc,Cfg.cells])) (st_storeAgg (us:=(Cfg.cells (({file:=N,machine:=O,seq:=P,dataSlots:=F+1,fieldSlots:=G+1,most:=32768,keyed:=(decide (H=1))}:Cfg)))) rfl rfl (by exact agg29) (by exact fun u hu=>one_cells (Cfg.one) u hu) D (lq rfl) ?_));have A6:=D;clear D;intro B6 E D;have U:∀b∈[S],¬Q2 b:=(by intro b hb;simp at hb;subst hb;exact Av);replace h0:=h0.md E (by intro hb;simp at hb;omega);replace I:=I.md E U;replace M:=M.step E (all_cons (Fsh.wid Aw) all_nil);clear A6 U;replace D:Blk _ _ (Cfg.cells (({file:=N,machine:=O,seq:=P,dataSlots:=F+1,fieldSlots:=G+1,most:=32768,keyed:=(decide (H=1))}:Cfg))) _:=D;refine nt (c_ret ?_);exact ret1L (v:=(.agg (Cfg.cells (({file:=N,machine:=O,seq:=P,dataSlots:=F+1,fieldSlots:=G+1,most:=32768,keyed:=(decide (H=1))}:Cfg))).toArray)) trivial rfl ⟨⟨_,rfl,load_agg (cs:=(Cfg.cells (({file:=N,machine:=O,seq:=P,dataSlots:=F+1,fieldSlots:=G+1,most:=32768,keyed:=(decide (H=1))}:Cfg)))) (by exact agg29) D⟩,tV⟩ ⟨(({file:=N,machine:=O,seq:=P,dataSlots:=F+1,fieldSlots:=G+1,most:=32768,keyed:=(decide (H=1))}:Cfg)),Au,_,rfl,M,(by exact⟨(by assumption),(by assumption),(by assumption),(by(simp<;>omega)),(by(simp<;>omega)),(by(simp<;>omega))⟩),h0,n0,j,(I.sub (fun b hb _=>tQ b hb)),(by rw[Sq.config]<;>simp(disch:=first|omega|assumption|(simp;done)|fail) only [SS,reduceIte,A0,Bf,A3,Bg,A4,Bh,Ak,Al,Am])⟩
theorem fn11:isFn Tryz.prog 11=true:=by kernel_rfl
theorem fn12:isFn Tryz.prog 12=true:=by kernel_rfl
theorem fn13:isFn Tryz.prog 13=true:=by kernel_rfl
theorem fn17:isFn Tryz.prog 17=true:=by kernel_rfl
theorem fn20:isFn Tryz.prog 20=true:=by kernel_rfl
theorem fn27:isFn Tryz.prog 27=true:=by kernel_rfl
theorem fn9:isFn Tryz.prog 9=true:=by kernel_rfl
theorem pl27:bplace Tryz.prog 27=some [(0,1),(1,1),(2,1),(3,1),(4,1),(5,1),(6,1),(7,1),(8,1),(9,1),(10,1),(11,1),(12,1),(13,1),(14,1),(15,1)]:=by kernel_rfl
theorem pl33:bplace Tryz.prog 33=some [(0,1),(1,1)]:=by kernel_rfl
theorem u35:Tryz.prog.underlying 35=some (.pointer 97):=by kernel_rfl
theorem u38:Tryz.prog.underlying 38=some (.pointer 102):=by kernel_rfl
theorem z33:zcells Tryz.prog 33=some [.slice none 0 0,.int .i64 0]:=by kernel_rfl

section
attribute [local irreducible] fD0 fIt fD1 fAd fD3 fD4 blankF Drf.entry Drf.link Drf.add Wri.okApp Wri.append plistF saveR fWr
set_option maxHeartbeats 16000000 in
set_option maxRecDepth 100000 in
theorem fFirst_any {w:World} {Q:Nat→Prop} (uQ:Up w Q)  :
    Calls Tryz.prog 8 #[] w fun en w'=>∃r0:Bool,en = .returned (.bool r0)∧Md [] w w'∧true=r0:=by
  have C7:idZ.length=16:=rfl;have M:=Md.refl [] w;have Dc:=uQ;refine enter (n:=73) Tryz.func8 rfl rfl rfl ?_;intro B;refine ns (asg rfl (nt (ns (st_call fn11 rfl (oNew uQ (1048576) (by omega) (by omega) (by omega)) ?_))));rintro en w1 ⟨Aa,P,Q2,rfl,G,⟨U,V,H⟩,Bj,C⟩;refine⟨_,rfl,?_⟩;have E:∀x∈P,Fsh [] w x:=fun x f=>Fsh.new M x (Bj x f);replace uQ:=uQ.md G;replace M:=M.step0 G;replace uQ:=H;clear H U V;refine mv rfl (se rfl rfl (se rfl rfl (asg rfl (asg rfl (nt (c_seq (ns (mv rfl (st _ (r_neN (a:=0) (b:=0) rfl rfl) (mv rfl ?_))))))))));refine part_n (t:=15) rfl (fun o=>?_) (fun o=>?_)
  · (have A7:=dq o);exfalso;omega
  · (have A7:=dF o);refine sg o (r_move rfl) (sg o (r_eqlPN rfl u35) (st _ (r_pick_f rfl o rfl) (nt (c_if_f rfl rfl (c_skip (c_then (ns (mv rfl (st _ (r_buildG (us:=[]) (cs:=(Sq.cells (({l:=[],pos:=0}:Sq)) (.slice none 0 0))) [] z33 pl33 rfl rfl trivial trivial rfl rfl) (st_box (cs:=(Sq.cells (({l:=[],pos:=0}:Sq)) (.slice none 0 0))) rfl rfl ?_))))))))));intro I w3 k Bk G F;have A:I∉P:=fun f=>by have:=(C.lt _ f).1;omega
    obtain⟨Q4,U,V,N,H⟩:=exQ uQ k Bk G;replace C:=C.sub U V;replace k:=lv M.size k;replace C:=C.md0 G;replace uQ:=uQ.md G;replace M:=M.step0 G;replace uQ:=H;clear H U V;have Al:Fsh [] w I:=.inr k;refine st_call fn9 rfl (kConfig_any uQ (({l:=[],pos:=0}:Sq)) F N (by exact(show(({l:=[],pos:=0}:Sq)).pos<9223372036854775808 from(by(simp<;>omega)))) (Ls.nil _ _ _)) ?_;rintro en w5 ⟨Bo,Co,Bm,rfl,G,Bt,Ae,Af,Bl,D,B4⟩;refine⟨_,rfl,?_⟩;have hP:∀i∈[I],Fsh [] w i:=(all_cons Al all_nil);have W:∀i∈[I],¬Q4 i:=(all_cons N all_nil);have Ak:∀x∈P,x∉[I]:=fun x f=>nin_cons (fun e=>A (e ▸ f)) (by simp);replace C:=C.md G Ak W;replace M:=M.step G hP;replace uQ:=uQ.md G;clear hP W F N;have F:=Ae;have N:=Af;clear Ae Af;have Cb:Bo=cfg0:=(congrArg Prod.fst B4).symm.trans cfg0_of;subst Cb;refine st_call fn13 rfl (lConf_any uQ cfg0 cfg0_ok) ?_;rintro en w6 ⟨Cr,rfl,G,Bu,B6⟩;refine⟨_,rfl,?_⟩;replace C:=C.md0 G;replace F:=F.md0 G;replace D:=D.md0 G;replace uQ:=uQ.md G;replace M:=M.step0 G;have Ca:=B6.symm;subst Ca;refine st_call fn12 rfl (wCreate_any uQ C (([106]:Ly)) cfg0 cfg0_ok 4 (by omega) (by decide) (by decide) (by omega) (by have fe:(blankF cfg0 4).b.length=336:=(by rw[fD0_def];exact fir_e.2.2.2.2);omega)) ?_;rintro en w7 ⟨r7,f7,Ad,Q8,G,⟨U,V,H⟩,J,C5,⟨Cw,Cx,Cy,Be⟩,hD⟩;have A6:=F.lt;have C3:=G.size;have C4:=M.size;have W:∀b∈P,¬Q8 b:=fun b hb hq=>(C.lt b hb).2 (V b hq);have O:I∉Ad:=fun h=>(J _ h).elim A (fun h=>by have:=F.lt;omega);replace F:=F.md G A;replace A:=O;clear O;replace D:=(D.sub U).md G W;have r9:∀x∈Ad,Fsh [] w x:=fun x f=>(J x f).elim (E x) (Fsh.new M x)
    have Dd:=uQ;have Da:=V;have y:=G.size;replace M:=M.step G E;clear uQ E;have uQ:=H;have E:=r9;clear H r9 U V W J G;clear C;rcases hD with⟨Av,rfl,C⟩|⟨Av,g,C6,rfl,C⟩
    · refine⟨_,rfl,?_⟩
      replace C:FsO (3) _ _ _ _ _:=C;have fe:(blankF cfg0 4).b.length=336:=(by rw[fD0_def];exact fir_e.2.2.2.2);have cf:=create_fs Be rfl rfl (by decide) C.wf.nd ⟨by omega,by omega⟩;have cz:=(cf.2 (by rw[fe];decide)).2 rfl (by decide);exfalso;exact Av cz.1
    · refine⟨_,rfl,?_⟩
      replace C:WrO g (3) _ _ _ _ _:=C;subst Av;obtain⟨x7,X⟩:∃x,x=({fs:=f7,wr:={fs:=Aa,name:=(([106]:Ly)),most:=cfg0.most,d:=blankF cfg0 4,waiting:=0,archived:=false}}:WrS):=⟨_,rfl⟩;rw[← X]at C;have A:I∉g :: Ad:=nin_cons (by omega) A;replace E:∀x∈g :: Ad,Fsh [] w x:=fun x f=>(List.mem_cons.1 f).elim (fun e=>.inr (by rw[e];omega)) (E x);have Aj:=C.wf.nd;rw[X]at Aj;have fe:(blankF cfg0 4).b.length=336:=(by rw[fD0_def];exact fir_e.2.2.2.2);have cf:=create_fs Be rfl rfl (by decide) Aj ⟨by omega,by omega⟩;have cz:=(cf.2 (by rw[fe];decide)).2 rfl (by decide);obtain⟨_,fz,z1,z2,z3,z4⟩:=cz;rw[fD0_def,fWr_def]at X;rw[fD0_def]at z3;simp only at Aj;have Am:=fWr_c Aa [106] fD0 0;have j:=fWr_c Aa [106] fD4 1;refine mv rfl (se rfl rfl (se rfl rfl (asg rfl (asg rfl (nt (c_seq (ns (mv rfl (st _ (r_neN (a:=0) (b:=0) rfl rfl) (mv rfl ?_))))))))));refine part_n (t:=30) rfl (fun p=>?_) (fun p=>?_)
      · (have A8:=dq p);exfalso;omega
      · (have A8:=dF p);refine sg p (r_move rfl) (sg p (r_eqlPN rfl u38) (st _ (r_pick_f rfl p rfl) (nt (c_if_f rfl rfl (c_skip (c_then (ns (mv rfl (st _ (r_buildG (us:=[]) (cs:=idc idZ) [] z27 pl27 rfl rfl trivial trivial rfl rfl) (st_call fn17 rfl (xAppend uQ C (Ls.nil tPr _ _) 1 (by omega) 1 (by omega) idZ (by assumption) (by decide) (by rw[X];show(fWr _ _ fD0 0).waiting≤_;rw[Am.2.2.2.1];decide) (by rw[X];exact fir_ok0 _ _) (by have e:=fir_e;rw[X];simp only;rw[Am.2.2.1];omega)) ?_))))))))));rintro en w9 ⟨Cs,Bp,rfl,Cp,Cq,m9,Ar,Az,G,⟨U,V,H⟩,J,L,B8⟩;refine⟨_,rfl,?_⟩;have W:∀b∈(g :: Ad),¬Az b:=fun b hb hq=>(C.lt b hb).2 (V b hq);have O:I∉Ar:=fun h=>(J _ h).elim A (fun h=>by have:=F.lt;omega);replace F:=F.md G A;replace A:=O;clear O;replace D:=(D.sub U).md G W;have r9:∀x∈Ar,Fsh [] w x:=fun x f=>(J x f).elim (E x) (Fsh.new M x);replace M:=M.step G E;clear uQ E C;have uQ:=H;have E:=r9;have C:=L;have y:=G;clear H r9 L U V W J G;clear y;replace C:WrO g (3) _ _ _ _ _:=C;obtain⟨Ap,Ab⟩:=B8;rw[X]at Ab Ap;simp only at Ab Ap;rw[fir_app0]at Ab;simp only[Prod.mk.injEq]at Ab;obtain⟨u1,u2,u3⟩:=Ab;refine mv rfl (se rfl rfl (se rfl rfl (asg rfl (asg rfl (nt (ns (mv rfl (st _ (r_buildG (us:=[[(str (([65]:Ly)))],[(str (([49]:Ly)))]]) (cs:=(Pr.cells (({name:=([65]:Ly),value:=([49]:Ly)}:Pr)))) [(0,0,1),(1,1,1)] z91 pl91 rfl rfl ⟨rfl,rfl,tV⟩ ⟨rfl,rfl,tV⟩ rfl rfl) ?_))))))))
        refine st_buildSliceG [(Pr.cells (({name:=([65]:Ly),value:=([49]:Ly)}:Pr)))] u47 elT91 (by decide) (by decide) rfl rfl ⟨rfl,tV⟩ ⟨rfl,tV⟩ rfl (by decide) ?_;intro Cj De A4 Cm G K;have Bq:=uQ _ A4;replace C:=C.md0 G;replace F:=F.md0 G;replace D:=D.md0 G;replace uQ:=uQ.md G;replace M:=M.step0 G;replace K:=Ls.of_blk (m:=1) (R:=Az) (T:=tPr) (xs:=[({name:=([65]:Ly),value:=([49]:Ly)}:Pr)]) K ⟨_,_,rfl,(tPr_mk),rfl⟩ rfl (by decide) Bq;refine st _ (r_buildG (us:=[]) (cs:=idc idZ) [] z27 pl27 rfl rfl trivial trivial rfl rfl) (st_call fn17 rfl (xAppend uQ C K 1 (by omega) 1 (by omega) idZ (by assumption) (by decide) (by rw[← u3,Am.2.2.2.1];decide) (by rw[← u3,show([{name:=[65],value:=[49]}]:List Pr)=[prA]from rfl];exact fir_ok1 _ _) (by have e:=fir_e;rw[← u3,Am.2.2.1];omega)) ?_);rintro en Df ⟨Aw,Ax,rfl,Cc,Cd,C8,Ac,Bv,G,⟨U,V,H⟩,J,L,Bf⟩;refine⟨_,rfl,?_⟩;have W:∀b∈Ar,¬Bv b:=fun b hb hq=>(C.lt b hb).2 (V b hq);have O:I∉Ac:=fun h=>(J _ h).elim A (fun h=>by have:=F.lt;omega);replace F:=F.md G A;replace A:=O;clear O;replace D:=(D.sub U).md G W;replace K:=(K.sub U).md G W;have r9:∀x∈Ac,Fsh [] w x:=fun x f=>(J x f).elim (E x) (Fsh.new M x);replace M:=M.step G E;clear uQ E C;have uQ:=H;have E:=r9;have C:=L;have y:=G;clear H r9 L U V W J G;clear y;replace C:WrO g (3) _ _ _ _ _:=C;obtain⟨B0,Ai⟩:=Bf;rw[← u3]at Ai;rw[show([{name:=[65],value:=[49]}]:List Pr)=[prA]from rfl,fir_app1]at Ai;simp only[Prod.mk.injEq]at Ai;obtain⟨v1,v2,v3⟩:=Ai;refine mv rfl (se rfl rfl (se rfl rfl (asg rfl (asg rfl (nt (ns (mv rfl (st _ (r_eqN (a:=Bp) (b:=16) rfl rfl) ?_))))))))
        refine mv rfl ?_;refine part_n (t:=50) rfl (fun r=>?_) (fun r=>?_)
        · (have A9:=dq r);refine sg r (r_move rfl) (sg r (r_eqN (a:=Ax) (b:=0) rfl rfl) (st _ (r_pick_t rfl r rfl) (mv rfl ?_)));refine part_n (t:=54) rfl (fun u=>?_) (fun u=>?_)
          · (have Ba:=dq u);refine sg u (r_move rfl) (sg u (r_eqN (a:=Aw) (b:=5) rfl rfl) (st _ (r_pick_t rfl u rfl) (mv rfl ?_)));refine part_n (t:=58) rfl (fun Y=>?_) (fun Y=>?_)
            · (have Bb:=dq Y);refine sg Y (r_move rfl) (st_call_g rfl rfl rfl Y fn27 rfl (xWait uQ C) ?_);rintro en Dg ⟨Ah,rfl,G,Ce,Bg⟩;refine⟨_,rfl,?_⟩;replace C:=C.md0 G;replace F:=F.md0 G;replace D:=D.md0 G;replace K:=K.md0 G;replace uQ:=uQ.md G;replace M:=M.step0 G;have wt:1=Ah:=(by rw[← Bg,← v3];exact j.2.2.2.1.symm);refine sg Y (r_eqN (a:=Ah) (b:=1) rfl rfl) (st _ (r_pick_t rfl Y rfl) (mv rfl ?_));refine part_n (t:=63) rfl (fun Z=>?_) (fun Z=>?_)
              · (have Bc:=dq Z);refine sg Z (r_move rfl) (st_call_g rfl rfl rfl Z fn20 rfl (xCommit uQ C (by omega) (by rw[← v3,j.2.1];decide) (by have e:=fir_e;rw[← v3,j.2.2.1];omega)) ?_);rintro en Dh ⟨Ay,rfl,Cf,C9,Ao,Bw,G,⟨U,V,H⟩,J,L,Bh⟩;refine⟨_,rfl,?_⟩;have W:∀b∈Ac,¬Bw b:=fun b hb hq=>(C.lt b hb).2 (V b hq);have O:I∉Ao:=fun h=>(J _ h).elim A (fun h=>by have:=F.lt;omega);replace A:=O;clear O;replace D:=(D.sub U).md G W;replace K:=(K.sub U).md G W;have r9:∀x∈Ao,Fsh [] w x:=fun x f=>(J x f).elim (E x) (Fsh.new M x);replace M:=M.step G E;clear uQ E C;have uQ:=H;have E:=r9;have C:=L;have y:=G;clear H r9 L U V W J G;clear y;replace C:WrO g (7) _ _ _ _ _:=C;obtain⟨A0,si,sj,A3⟩:=Bh;rw[← v3,B0,Ap,j.2.1,j.2.2.1,j.2.2.2.2.1]at A3;rw[← v3]at A0;have Ch:=save_fs (z:=fz) A3 (by rw[z4]) (by rw[z4]) (by decide) Aj (by rw[z4];simp only[List.nil_append];rw[findN,if_pos ⟨z2,z1⟩]) ⟨by have e:=fir_e;omega,by have e:=fir_e;omega⟩ (by have e:=fir_e;rw[z3];exact e.2.2.1);have C0:=fir_f;have B3:fD0.b.length=336:=fir_e.2.2.2.2;have Aq:fz.fl.b.length=336:=(by rw[z3];exact B3);have C1:=fir_e.2.1;have Db:=(Ch.2 ((free_pos (by rw[z4]) (by rw[Aq];omega)).2 (by rw[Aq,z4];simp only[List.nil_append,totF,z2,if_true];rw[Aq];omega))).1;refine sg Z (r_eqN (a:=Ay) (b:=0) rfl rfl) (st _ (r_pick_t rfl Z rfl) (mv rfl ?_));refine part_n (t:=68) rfl (fun c=>?_) (fun c=>?_)
                · (have Bd:=dq c);refine sg c (r_move rfl) (st_call_g rfl rfl rfl c fn25 rfl (xTail uQ C) ?_);rintro en Di ⟨S,rfl,G,Cg,Bi⟩;refine⟨_,rfl,?_⟩;replace M:=M.step0 G;have tl:5=S:=(by rw[← Bi,A0,j.2.2.1];exact fir_e.1.symm);refine sg c (r_eqN (a:=S) (b:=5) rfl rfl) (st _ (r_pick_t rfl c rfl) (asg rfl (nt (c_ret ?_))));exact ret1L (v:=(.bool ((decide (S=5))))) trivial rfl ⟨rfl,tV⟩ ⟨(decide (S=5)),rfl,M,(decide_eq_true (by omega)).symm⟩
                · (have Bd:=dF c);exfalso;omega
              · (have Bc:=dF Z);exfalso;omega
            · (have Bb:=dF Y);exfalso;omega
          · (have Ba:=dF u);exfalso;omega
        · (have A9:=dF r);exfalso;omega
end
theorem fn45:isFn Tryz.prog 45=true:=by kernel_rfl


section
variable {wb k:Nat} {fp:List Nat} {w:World} {Q:Nat→Prop} {b:Nat} {x:WrS}
theorem xImage (uQ:Up w Q) (hW:WrO wb k fp w Q b x) (p0:x.wr.d.b.length≤1000000):Calls Tryz.prog 24 #[.pointer (some ⟨wb,0,none⟩)] w fun en w'=>∃u0:Value,∃r0:List UInt8,en = .returned u0∧Md [] w w'∧Ls tB8 w' Q u0 r0∧x.wr.d.b=r0:=by
  obtain⟨E,v,rfl,F,G,A,B,rfl,C,D⟩:=hW;exact wImage_any uQ x.wr A B C D p0
end

end Go.Proofs.YtfadcpfgenjbeaaGreat
namespace Go.Wk
open Go Go.RowKit
theorem config_slots (s:Sq):s.config.1.dataSlots≤10∧s.config.1.fieldSlots≤10:=by
  rcases h1:s.num 5 with⟨a,E⟩
  rcases h2:E.num 5 with⟨b,F⟩
  rcases h3:F.num 5 with⟨c,C⟩
  rcases h4:C.num 7 with⟨d,D⟩
  rcases h5:D.num 4 with⟨e,G⟩
  rcases h6:G.num 2 with⟨f,H⟩
  have A:=C.num_le 7
  have B:=D.num_le 4
  rw[h4]at A;rw[h5]at B
  simp only[Sq.config,h1,h2,h3,h4,h5,h6]
  simp only at A B
  omega
end Go.Wk
namespace Go.Wk
open Go Go.RowKit
theorem getD_set_eq' {l:List Nat} {i v:Nat} (h:i<l.length):(l.set i v).getD i 0=v:=by simp[List.getD,h]
def finM (z:Mk) (n seq real mono e:Nat) (boot:Ly):Mk :=
  let m7:=if n=0 then(z.setN 10 seq).setN 12 real else z
  let m8:=m7.setN 8 ((m7.num 8+1)%18446744073709551616)
  let m9:=((m8.setN 9 seq).setN 13 real).setN 14 mono
  {m9 with h:={m9.h with boot:=boot,tailEntry:=e}}
theorem finM_spec (z:Mk) (n seq real mono e:Nat) (boot:Ly):(finM z n seq real mono e boot).b=z.b∧(finM z n seq real mono e boot).c=z.c∧(finM z n seq real mono e boot).datas=z.datas∧(finM z n seq real mono e boot).fields=z.fields∧(finM z n seq real mono e boot).main=z.main ∧
    (finM z n seq real mono e boot).h.n.getD 2 0=z.h.n.getD 2 0∧(finM z n seq real mono e boot).h.n.getD 4 0=z.h.n.getD 4 0∧(finM z n seq real mono e boot).h.n.length=z.h.n.length ∧
    (z.h.n.length=20→(finM z n seq real mono e boot).n8=(z.n8+1)%18446744073709551616∧(finM z n seq real mono e boot).num 9=seq):=by
  unfold finM
  simp only
  generalize hm7:(if n=0 then(z.setN 10 seq).setN 12 real else z)=m7
  have A:m7.b=z.b∧m7.c=z.c∧m7.datas=z.datas∧m7.fields=z.fields∧m7.main=z.main∧m7.h.n.getD 8 0=z.h.n.getD 8 0∧m7.h.n.getD 2 0=z.h.n.getD 2 0∧m7.h.n.getD 4 0=z.h.n.getD 4 0∧m7.h.n.length=z.h.n.length:=by
    subst hm7
    split
    · exact⟨rfl,rfl,rfl,rfl,rfl,(getD_set_ne' (by decide)).trans (getD_set_ne' (by decide)),(getD_set_ne' (by decide)).trans (getD_set_ne' (by decide)),(getD_set_ne' (by decide)).trans (getD_set_ne' (by decide)),by simp[Mk.setN]⟩
    · exact⟨rfl,rfl,rfl,rfl,rfl,rfl,rfl,rfl,rfl⟩
  obtain⟨C,D,E,F,G,H,I,J,K⟩:=A
  clear hm7
  refine⟨C,D,E,F,G,?_,?_,?_,fun B=>⟨?_,?_⟩⟩
  · rw[← I]
    exact(getD_set_ne' (by decide)).trans ((getD_set_ne' (by decide)).trans ((getD_set_ne' (by decide)).trans (getD_set_ne' (by decide))))
  · rw[← J]
    exact(getD_set_ne' (by decide)).trans ((getD_set_ne' (by decide)).trans ((getD_set_ne' (by decide)).trans (getD_set_ne' (by decide))))
  · rw[← K];simp[Mk.setN]
  · have e:m7.num 8=z.n8:=H
    rw[e]
    exact(getD_set_ne' (by decide)).trans ((getD_set_ne' (by decide)).trans ((getD_set_ne' (by decide)).trans (getD_set_eq' (by omega))))
  · exact(getD_set_ne' (by decide)).trans ((getD_set_ne' (by decide)).trans (getD_set_eq' (by simp[Mk.setN];omega)))
theorem append_ok {m:Mk} (h:MkOk m) {raw:List Pr} {real mono:Nat} {boot:Ly} (hb:boot.length=16) (h20:(m.append raw real mono boot).2.2.h.n.length=20):MkOk (m.append raw real mono boot).2.2:=by
  rcases hl:listF raw with⟨l,c⟩
  by_cases h2:c≠0
  · have e:m.append raw real mono boot=(0,c,m):=by unfold Mk.append;simp only[hl];rw[if_pos h2]
    rw[e];exact h
  by_cases h3:m.num 9=18446744073709551615
  · have e:m.append raw real mono boot=(0,1,m):=by unfold Mk.append;simp only[hl];rw[if_neg h2,if_pos h3]
    rw[e];exact h
  obtain⟨w,ll⟩:=listF_bd hl
  have D:=datasL_ok l m [] [] 0 (datas_start h) w
  rcases hd:datasL l m [] []with⟨ps,M,x⟩
  rw[hd,Nat.zero_add]at D
  simp only at D
  have s1:=h.small
  have s4:=h.nb
  have d1:=D.app.ge
  have d2:=D.app.le
  have d5:=D.len.1
  have Ad:=D.app.n8
  generalize hE:({seq:=(x.num 9+1)%18446744073709551616,real:=real,mono:=mono,boot:=boot,xor:=xorF 0 ps,items:=itemsL x M}:Ent)=E
  have eb:E.boot.length=16:=by subst hE;exact hb
  have ei:E.items.length=M.length:=by subst hE;simp[itemsL]
  have el:=putEntryF_len E eb
  have C:=app_object (L:=400) (o:=putEntryF E) D.app (by omega)
  have d:=(object_spec x (putEntryF E)).2.1
  have S:=(object_same x (putEntryF E)).2.2.2
  have O:=(object_same x (putEntryF E)).2.1
  rcases ho:x.object (putEntryF E)with⟨e,B⟩
  rw[ho]at C d S O
  simp only at C d S O
  have N:B.h.n.getD 8 0=m.n8:=C.n8
  have Z:chainFit B.b.length B.main (B.num 8):=by
    rw[show B.num 8=m.n8 from N,S,D.main];exact chain_mono h.main C.ge
  have K:=link_ok B B.main (B.num 8) 176 e Z
  have G:=app_link (src:=176) (item:=e) C Z
  rcases hk:B.link B.main (B.num 8) 176 e with⟨a,t,P⟩
  rw[hk]at K G
  simp only at K G
  generalize hY:(let m4:=({P with main:=a}:Mk).setN 11 (a.getD 0 0);({m4 with h:={m4.h with tailArray:=lastN a%4294967296,tailItems:=t%4294967296}}:Mk))=Y
  have F:AppOk m Y l.length (900*l.length+400+2100+0) 0:=by
    subst hY
    exact app_of (e':=0) G rfl (getD_set_ne' (by decide)) (getD_set_ne' (by decide)) (getD_set_ne' (by decide)) rfl rfl (Nat.le_refl _) (Nat.le_refl _) (Nat.le_refl _)
  have u:Y.b=P.b:=by subst hY;rfl
  have X:Y.datas=P.datas:=by subst hY;rfl
  have v:Y.main=a:=by subst hY;rfl
  obtain⟨A,zm,zd⟩:=hangE_ok (en:=e) M Y _ _ F (fun i T=>by rw[X,K.datas,O];exact D.idx i T)
  have y8:Y.n8=m.n8:=F.n8
  have Q:=(hangE_ok (en:=e) M Y 0 0 ⟨F.fit,rfl,rfl,by rw[y8];exact F.chains,Nat.le_add_right _ 0,Nat.le_add_right _ 0,Nat.le_refl _,Nat.le_refl _⟩ (fun i T=>by rw[X,K.datas,O];exact D.idx i T)).1
  have U:=append_done (real:=real) (mono:=mono) (boot:=boot) hl h2 h3 hd (by rw[hE];exact ho) hk (z:=hangE e M Y) (by rw[hY])
  generalize hangE e M Y=z at *
  replace U:m.append raw real mono boot=if z.c.most<z.b.length then(0,15,m)else((x.num 9+1)%18446744073709551616,0,finM z (B.num 8) ((x.num 9+1)%18446744073709551616) real mono e boot):=U
  rw[U]at h20 ⊢
  split at h20
  · rename_i hm
    rw[if_pos hm];exact h
  · rename_i hm
    rw[if_neg hm]
    have q1:=A.ge
    have q2:=A.le
    have q3:=A.nd
    have q4:=A.nf
    have j:=A.c
    have z8:z.n8=m.n8:=A.n8
    have H:=h.most
    have r1:=h.nd
    have r2:=h.nf
    have g3:=K.ge
    have y:P.b.length≤z.b.length:=by have h:=Q.ge;rw[u]at h;exact h
    obtain⟨J,V,W,g,k5,p,r,kl,k8⟩:=finM_spec z (B.num 8) ((x.num 9+1)%18446744073709551616) real mono e boot
    simp only at h20 ⊢
    generalize finM z (B.num 8) ((x.num 9+1)%18446744073709551616) real mono e boot=R at *
    have I:=(k8 (by omega)).1
    rw[z8,Nat.mod_eq_of_lt (by omega)]at I
    refine⟨fit_mono A.fit ⟨by rw[V],by rw[V],p,r,by rw[J];exact Nat.le_refl _⟩ (fun k hk=>.inl (W ▸ hk)) (fun k hk=>.inl (g ▸ hk)),?_,?_,?_,?_,?_,?_,?_,?_⟩
    · rw[I,J,k5,zm,v]
      have f:=K.chain
      rw[show B.num 8=m.n8 from N]at f
      exact chain_mono f y
    · intro k hk
      rw[W]at hk
      obtain⟨u1,u2,u3,u4⟩:=A.chains k hk
      rw[J,I]
      exact⟨u1,u2,u3,by omega⟩
    · rw[W,I];omega
    · rw[g,I];omega
    · rw[J,I];omega
    · rw[J];rw[j]at hm;omega
    · rw[V,j];exact H
    · rw[J];have:=h.hd;omega
theorem newMk_ok {c:Cfg} {t:Nat} (h:c.dataSlots≤10∧c.fieldSlots≤10) (h1:1≤c.dataSlots∧1≤c.fieldSlots) (h2:c.most≤40000):MkOk (newMk c t):=by
  have D:=(putTableF_lenA 4 (List.replicate c.dataSlots {first:=0,tail:=0})).2 (.inl rfl)
  have E:=(putTableF_lenA 5 (List.replicate c.fieldSlots {first:=0,tail:=0})).2 (.inr rfl)
  have e:(newMk c t).b=List.replicate 272 0 ++ putTableF 4 (List.replicate c.dataSlots {first:=0,tail:=0}) ++ putTableF 5 (List.replicate c.fieldSlots {first:=0,tail:=0}):=rfl
  have A:=congrArg List.length e
  simp only[List.length_append,List.length_replicate]at D E A
  have B:(newMk c t).n8=0:=rfl
  have C:(newMk c t).datas=[]:=rfl
  have F:(newMk c t).fields=[]:=rfl
  refine⟨⟨h1.1,by show c.dataSlots≤64;omega,h1.2,by show c.fieldSlots≤64;omega,?_,?_,(fun k hk=>by rw[C]at hk;simp at hk),(fun k hk=>by rw[F]at hk;simp at hk)⟩,by rw[B];exact chain_nil _,(fun k hk=>by rw[C]at hk;simp at hk),by rw[B];exact Nat.le_refl _,by rw[B];exact Nat.le_refl _,by omega,by omega,h2,by omega⟩
  · have:(newMk c t).h.n.getD 2 0=288:=rfl
    rw[this,A];show 288+16*c.dataSlots≤_;omega
  · have:(newMk c t).h.n.getD 4 0=(List.replicate 272 (0:UInt8) ++ putTableF 4 (List.replicate c.dataSlots {first:=0,tail:=0})).length+16:=rfl
    rw[this,A,List.length_append,List.length_replicate];show _+16*c.fieldSlots≤_;omega
theorem config_ok (s:Sq):(s.config.1.dataSlots≤10∧s.config.1.fieldSlots≤10)∧(1≤s.config.1.dataSlots∧1≤s.config.1.fieldSlots)∧s.config.1.most≤40000:=by
  refine⟨config_slots s,?_⟩
  rcases h1:s.num 5 with⟨a,A⟩
  rcases h2:A.num 5 with⟨b,B⟩
  rcases h3:B.num 5 with⟨c,C⟩
  rcases h4:C.num 7 with⟨d,D⟩
  rcases h5:D.num 4 with⟨e,E⟩
  rcases h6:E.num 2 with⟨f,F⟩
  simp only[Sq.config,h1,h2,h3,h4,h5,h6]
  omega
theorem record_boot (s:Sq) (n:Nat):(s.record n).1.boot.length=16:=by
  rcases h1:s.pairs 4 with⟨D,A⟩
  rcases h2:A.num 40 with⟨a,B⟩
  rcases h3:B.num 9 with⟨b,C⟩
  rcases h4:C.num 3 with⟨c,E⟩
  simp only[Sq.record,h1,h2,h3,h4]
  simp[idF]
/-! the head's numbers stay twenty -/
theorem nl_object (m:Mk) (o:Ly):(m.object o).2.h.n.length=m.h.n.length:=by simp[Mk.object,Mk.setN]
theorem nl_hang (m:Mk) (l:List Known) (t p s:Nat):(m.hang l t p s).2.h=m.h:=by rw[(hang_eq m l t p s).1]
theorem nl_field (m:Mk) (x:Ly):(m.field x).2.h.n.length=m.h.n.length:=by
  unfold Mk.field
  split
  · rfl
  · simp only
    have B:=nl_object m (putFieldF {hash:=hashN m.c.keyed m.c.file x,nextHash:=0,dat:=0,payload:=x})
    generalize m.object (putFieldF {hash:=hashN m.c.keyed m.c.file x,nextHash:=0,dat:=0,payload:=x})=r at *
    obtain⟨p,A⟩:=r
    simp only at B ⊢
    have C:=nl_hang A A.fields (A.num 4) p (hashN m.c.keyed m.c.file x%A.c.fieldSlots)
    generalize A.hang A.fields (A.num 4) p (hashN m.c.keyed m.c.file x%A.c.fieldSlots)=r at *
    obtain⟨n,D⟩:=r
    simp only at C ⊢
    simp only[Mk.setN,List.length_set,C]
    exact B
theorem nl_data (m:Mk) (x:Pr):(m.data x).2.h.n.length=m.h.n.length:=by
  unfold Mk.data
  split
  · rfl
  · simp only
    have C:=nl_object m (putDataF {hash:=hashN m.c.keyed m.c.file (payload x),nextHash:=0,nextField:=0,entry:=0,array:=0,count:=0,payload:=payload x})
    generalize m.object (putDataF {hash:=hashN m.c.keyed m.c.file (payload x),nextHash:=0,nextField:=0,entry:=0,array:=0,count:=0,payload:=payload x})=r at *
    obtain⟨p,A⟩:=r
    simp only at C ⊢
    have D:=nl_hang A A.datas (A.num 2) p (hashN m.c.keyed m.c.file (payload x)%A.c.dataSlots)
    generalize A.hang A.datas (A.num 2) p (hashN m.c.keyed m.c.file (payload x)%A.c.dataSlots)=r at *
    obtain⟨n,B⟩:=r
    simp only at D ⊢
    generalize hx5:({(B.setN 19 (max (B.num 19) n)).setN 15 (((B.setN 19 (max (B.num 19) n)).num 15+1)%18446744073709551616)with datas:=((B.setN 19 (max (B.num 19) n)).setN 15 (((B.setN 19 (max (B.num 19) n)).num 15+1)%18446744073709551616)).datas ++ [({text:=payload x,pos:=p,slot:=hashN m.c.keyed m.c.file (payload x)%A.c.dataSlots,count:=0,arrays:=[]}:Known)]}:Mk)=m5
    have E:m5.h.n.length=m.h.n.length:=by subst hx5;simp only[Mk.setN,List.length_set,D];exact C
    have F:=nl_field m5 x.name
    generalize m5.field x.name=r at *
    obtain⟨k,G⟩:=r
    exact F.trans E
theorem nl_datasL:∀(l:List Pr) (m:Mk) (ps:List (List UInt8)) (od:List Nat),(datasL l m ps od).2.2.h.n.length=m.h.n.length
  | [],_,_,_=>rfl
  | x :: r,m,ps,od=>(nl_datasL r _ _ _).trans (nl_data m x)
theorem nl_link (m:Mk) (a:List Nat) (n src item:Nat):(m.link a n src item).2.2.h.n.length=m.h.n.length:=by
  unfold Mk.link
  generalize roomsL a 0 0 0=r
  obtain⟨A,D⟩:=r
  simp only
  split
  · have B:=nl_object m (putArrayF {next:=0,items:=List.replicate (roomF (a.length:Int)) 0})
    generalize m.object (putArrayF {next:=0,items:=List.replicate (roomF (a.length:Int)) 0})=r at *
    obtain⟨p,C⟩:=r
    simp only at B ⊢
    split
    · show(C.setN 18 _).h.n.length=_
      simp only[Mk.setN,List.length_set];exact B
    · show(C.setN 18 _).h.n.length=_
      simp only[Mk.setN,List.length_set];exact B
  · rfl
theorem nl_hangE (e:Nat):∀(od:List Nat) (m:Mk),(hangE e od m).h.n.length=m.h.n.length
  | [],_=>rfl
  | i :: r,m=>by
    rw[hangE_cons,nl_hangE e r]
    unfold hang1
    simp only
    split
    · rfl
    · exact nl_link m _ _ _ _
theorem nl_append (m:Mk) (raw:List Pr) (real mono:Nat) (boot:Ly):(m.append raw real mono boot).2.2.h.n.length=m.h.n.length:=by
  rcases hl:listF raw with⟨l,c⟩
  by_cases h2:c≠0
  · have e:m.append raw real mono boot=(0,c,m):=by unfold Mk.append;simp only[hl];rw[if_pos h2]
    rw[e]
  by_cases h3:m.num 9=18446744073709551615
  · have e:m.append raw real mono boot=(0,1,m):=by unfold Mk.append;simp only[hl];rw[if_neg h2,if_pos h3]
    rw[e]
  have D:=nl_datasL l m [] []
  rcases hd:datasL l m [] []with⟨I,C,x⟩
  rw[hd]at D
  have E:=nl_object x (putEntryF {seq:=(x.num 9+1)%18446744073709551616,real:=real,mono:=mono,boot:=boot,xor:=xorF 0 I,items:=itemsL x C})
  rcases ho:x.object (putEntryF {seq:=(x.num 9+1)%18446744073709551616,real:=real,mono:=mono,boot:=boot,xor:=xorF 0 I,items:=itemsL x C})with⟨e,A⟩
  rw[ho]at E
  have F:=nl_link A A.main (A.num 8) 176 e
  rcases hk:A.link A.main (A.num 8) 176 e with⟨a,t,H⟩
  rw[hk]at F
  simp only at D E F
  have B:m.append raw real mono boot=_:=append_done (real:=real) (mono:=mono) (boot:=boot) hl h2 h3 hd ho hk rfl
  have G:=nl_hangE e C (let m4:=({H with main:=a}:Mk).setN 11 (a.getD 0 0);{m4 with h:={m4.h with tailArray:=lastN a%4294967296,tailItems:=t%4294967296}})
  generalize hangE e C (let m4:=({H with main:=a}:Mk).setN 11 (a.getD 0 0);{m4 with h:={m4.h with tailArray:=lastN a%4294967296,tailItems:=t%4294967296}})=z at B G
  replace B:m.append raw real mono boot=if z.c.most<z.b.length then(0,15,m)else((x.num 9+1)%18446744073709551616,0,finM z (A.num 8) ((x.num 9+1)%18446744073709551616) real mono e boot):=B
  rw[B]
  split
  · rfl
  · show(finM _ _ _ _ _ _ _).h.n.length=_
    rw[(finM_spec _ _ _ _ _ _ _).2.2.2.2.2.2.2.1,G]
    simp only[Mk.setN,List.length_set]
    omega
end Go.Wk
namespace Go.Wk
open Go Go.RowKit
end Go.Wk
namespace Go.Wk
open Go Go.RowKit
end Go.Wk
namespace Go.Wk
open Go Go.RowKit
end Go.Wk
namespace Go.Wk
open Go Go.RowKit
section
variable {k:Bool} {f b:Ly} {s p i c:Nat} {l:List Itm} {x:Itm} {d:Dat} {fs:List Pr} {all:List (List UInt8)} {q:Pr} {e:Ent} {r:Rec}
end
end Go.Wk
namespace Go.Wk
open Go Go.RowKit
/-- n bytes of b from p on. -/
def seg (b:Ly) (p n:Nat):List UInt8:=(b.drop p).take n
theorem seg_get {b:Ly} {p n i:Nat} (h:i<n):(seg b p n)[i]? = b[p+i]?:=by
  unfold seg;rw[List.getElem?_take,if_pos h,List.getElem?_drop]
theorem seg_len {b:Ly} {p n:Nat} (h:p+n≤b.length):(seg b p n).length=n:=by unfold seg;simp;omega
theorem seg_ext {b c:Ly} {p n:Nat} (h:∀i,i<n→c[p+i]? = b[p+i]?):seg c p n=seg b p n:=by
  apply List.ext_getElem?
  intro i
  by_cases hi:i<n
  · rw[seg_get hi,seg_get hi,h i hi]
  · unfold seg;rw[List.getElem?_take,List.getElem?_take,if_neg hi,if_neg hi]
theorem at8_seg (b:Ly) (p:Nat):at8 b p=leN (seg b p 8):=rfl
theorem seg_seg {b:Ly} {p n q k:Nat} (h:q+k≤n):seg (seg b p n) q k=seg b (p+q) k:=by
  unfold seg
  rw[List.drop_take,List.take_take,List.drop_drop,Nat.min_eq_left (by omega)]
theorem seg_part {b l:Ly} {p n q k:Nat} (h:seg b p n=l) (hq:q+k≤n):seg b (p+q) k=seg l q k:=by rw[← h,seg_seg hq]
theorem seg_app {b o:Ly} {p n:Nat} (h:p+n≤b.length):seg (b ++ o) p n=seg b p n :=
  seg_ext fun i hi=>List.getElem?_append_left (by omega)
theorem seg_new (b o:Ly):seg (b ++ o) b.length o.length=o:=by unfold seg;rw[List.drop_left,List.take_length]
theorem seg_take (x y:Ly) {n:Nat} (h:n=x.length):seg (x ++ y) 0 n=x:=by subst h;simp[seg]
theorem seg_skip {x y:Ly} {p n:Nat} (h:x.length≤p):seg (x ++ y) p n=seg y (p-x.length) n:=by
  unfold seg;rw[List.drop_append,List.drop_eq_nil_of_le h,List.nil_append]
/-! numbers -/
theorem leN_low (v n:Nat):leN (low v n)=v%256 ^ n:=by
  induction n generalizing v with
  | zero=>simp[low,leN,Nat.mod_one]
  | succ n ih =>
    simp only[low,leN,ih]
    rw[UInt8.toNat_ofNat',show 2 ^ 8=256 from rfl,Nat.mod_mod,Nat.pow_succ,Nat.mul_comm (256 ^ n) 256,Nat.mod_mul]
theorem at8_low {v:Nat} (r:Ly) (h:v<18446744073709551616):at8 (low v 8 ++ r) 0=v:=by
  rw[at8_seg,seg_take _ _ (by rw[low_len]),leN_low]
  exact Nat.mod_eq_of_lt h
theorem at8_skip {x y:Ly} {p:Nat} (h:x.length≤p):at8 (x ++ y) p=at8 y (p-x.length):=by rw[at8_seg,at8_seg,seg_skip h]
theorem at8_app {b o:Ly} {p:Nat} (h:p+8≤b.length):at8 (b ++ o) p=at8 b p:=by rw[at8_seg,at8_seg,seg_app h]
theorem at8_part {b l:Ly} {p n q:Nat} (h:seg b p n=l) (hq:q+8≤n):at8 b (p+q)=at8 l q:=by rw[at8_seg,at8_seg,seg_part h hq]
theorem at8_nums:∀{l:List Nat} {r:Ly} {i v:Nat},l[i]? = some v→v<18446744073709551616→at8 (nums l ++ r) (8*i)=v
  | [],_,_,_,h,_=>by simp at h
  | x :: l,r,0,v,h,hv=>by
    simp at h;subst h
    rw[nums,List.append_assoc]
    exact at8_low _ hv
  | x :: l,r,i+1,v,h,hv=>by
    rw[nums,List.append_assoc,at8_skip (by rw[low_len];omega),low_len,show 8*(i+1)-8=8*i by omega]
    exact at8_nums (by simpa using h) hv
theorem at8_nums' {l:List Nat} {i v:Nat} (h:l[i]? = some v) (hv:v<18446744073709551616):at8 (nums l) (8*i)=v:=by
  have:=at8_nums (r:=[]) h hv
  rwa [List.append_nil]at this
/-! eight bytes that are put -/
theorem putG_get:∀(n:Nat) (b:Ly) (p v i q:Nat),(putG n b p v i)[q]? = if p+i≤q∧q<p+i+n∧q<b.length then some (UInt8.ofNat (v/2 ^ (8*(q-p))))else b[q]?
  | 0,b,p,v,i,q=>by rw[if_neg (by omega)];rfl
  | n+1,b,p,v,i,q=>by
    rw[putG,putG_get n]
    simp only[List.length_set]
    by_cases h:p+(i+1)≤q∧q<p+(i+1)+n∧q<b.length
    · rw[if_pos h,if_pos (by omega)]
    · rw[if_neg h]
      by_cases hq:q=p+i
      · subst hq
        by_cases hl:p+i<b.length
        · rw[if_pos (by omega),List.getElem?_set_self hl,show p+i-p=i by omega]
        · rw[if_neg (by omega),List.getElem?_eq_none (by simp;omega),List.getElem?_eq_none (by omega)]
      · rw[if_neg (by omega),List.getElem?_set_ne (by omega)]
theorem putN_get (b:Ly) (p v q:Nat):(putN b p v)[q]? = if p≤q∧q<p+8∧q<b.length then some (UInt8.ofNat (v/2 ^ (8*(q-p))))else b[q]?:=putG_get 8 b p v 0 q
theorem seg_put {b:Ly} {p v q n:Nat} (h:p+8≤q∨q+n≤p):seg (putN b p v) q n=seg b q n :=
  seg_ext fun i hi=>by rw[putN_get,if_neg (by omega)]
theorem low_get:∀(n v i:Nat),i<n→(low v n)[i]? = some (UInt8.ofNat (v/2 ^ (8*i)))
  | n+1,v,0,_=>by
    simp only[low,List.getElem?_cons_zero,Nat.mul_zero,Nat.pow_zero,Nat.div_one,Option.some.injEq]
    apply UInt8.toNat.inj;simp
  | n+1,v,i+1,h=>by
    simp only[low,List.getElem?_cons_succ]
    rw[low_get n (v/256) i (by omega),Nat.div_div_eq_div_mul,show 256*2 ^ (8*i)=2 ^ (8*(i+1))by rw[Nat.mul_add,Nat.pow_add,Nat.mul_comm]]
theorem seg_put_same {b:Ly} {p v:Nat} (h:p+8≤b.length):seg (putN b p v) p 8=low v 8:=by
  apply List.ext_getElem?
  intro i
  by_cases hi:i<8
  · rw[seg_get hi,putN_get,if_pos (by omega),low_get 8 v i hi,show p+i-p=i by omega]
  · rw[List.getElem?_eq_none (by rw[seg_len (by rw[putN_len];omega)];omega),List.getElem?_eq_none (by rw[low_len];omega)]
theorem at8_put {b:Ly} {p v q:Nat} (h:p+8≤q∨q+8≤p):at8 (putN b p v) q=at8 b q:=by rw[at8_seg,at8_seg,seg_put h]
theorem at8_put_same {b:Ly} {p v:Nat} (h:p+8≤b.length) (hv:v<18446744073709551616):at8 (putN b p v) p=v:=by
  rw[at8_seg,seg_put_same h,leN_low]
  exact Nat.mod_eq_of_lt hv
/-! what may be otherwise -/
/-- c is b, longer maybe, but for numbers at places of S. -/
structure Eff (S:Nat→Prop) (b c:Ly):Prop where
  len:b.length≤c.length
  seg:∀q n,q+n≤b.length→(∀a,S a→a+8≤q∨q+n≤a)→seg c q n=seg b q n
theorem Eff.refl (S:Nat→Prop) (b:Ly):Eff S b b:=⟨Nat.le_refl _,fun _ _ _ _=>rfl⟩
theorem Eff.trans {S:Nat→Prop} {a b c:Ly} (h:Eff S a b) (k:Eff S b c):Eff S a c :=
  ⟨lv h.len k.len,fun q n hq hs=>(k.seg q n (lv hq h.len) hs).trans (h.seg q n hq hs)⟩
theorem Eff.mono {S T:Nat→Prop} {a b:Ly} (h:Eff S a b) (hs:∀x,S x→T x):Eff T a b:=⟨h.len,fun q n hq ht=>h.seg q n hq fun x hx=>ht x (hs x hx)⟩
theorem Eff.put (b:Ly) (p v:Nat):Eff (fun a=>a=p) b (putN b p v):=⟨by rw[putN_len];exact Nat.le_refl _,fun q n _ hs=>seg_put (hs p rfl)⟩
theorem Eff.app (S:Nat→Prop) (b o:Ly):Eff S b (b ++ o):=⟨by simp,fun q n hq _=>seg_app hq⟩
theorem Eff.at8 {S:Nat→Prop} {b c:Ly} {q:Nat} (h:Eff S b c) (hq:q+8≤b.length) (hs:∀a,S a→a+8≤q∨q+8≤a):at8 c q=at8 b q:=by
  rw[at8_seg,at8_seg,h.seg q 8 hq hs]
end Go.Wk
namespace Go.Wk
open Go Go.RowKit
structure Ob where
  pos:Nat
  kind:Nat
  size:Nat
def up8 (n:Nat):Nat:=(n+7)/8*8
theorem up8_ge (n:Nat):n≤up8 n∧up8 n<n+8∧up8 n%8=0:=by unfold up8;omega
def hdr (kind size:Nat):List UInt8:=[UInt8.ofNat kind,0,0,0,0,0,0,0] ++ nums [size]
theorem hdr_len (k s:Nat):(hdr k s).length=16:=by simp[hdr,nums_len]
theorem putF_hdr {k:Nat} {body:Ly} (h:1≤k∧k≤7):putF k body=(hdr k (16+body.length) ++ body) ++ List.replicate ((8-(16+body.length)%8)%8) 0:=by
  unfold putF
  rw[if_neg (by omega),pad8]
  have:([UInt8.ofNat k,0,0,0,0,0,0,0] ++ nums [16+body.length] ++ body).length=16+body.length:=by simp[nums_len];omega
  rw[this]
  rfl
/-- Objects one behind the other, from p to e. -/
def Objs (b:Ly):Nat→List Ob→Nat→Prop
  | p,[],e=>p=e
  | p,o :: r,e=>o.pos=p∧1≤o.kind∧o.kind≤7∧16≤o.size∧o.size<18446744073709551616∧seg b p 16=hdr o.kind o.size∧Objs b (p+up8 o.size) r e
theorem Objs.le {b:Ly}:∀{l:List Ob} {p e:Nat},Objs b p l e→p≤e∧(p%8=0→e%8=0)
  | [],_,_,h=>by cases h;exact⟨Nat.le_refl _,id⟩
  | o :: r,p,e,h=>by
    have:=h.2.2.2.2.2.2.le
    have:=up8_ge o.size
    omega
structure ObOk (b:Ly) (p e:Nat) (o:Ob):Prop where
  ge:p≤o.pos
  le:o.pos+up8 o.size≤e
  al:p%8=0→o.pos%8=0
  kind:1≤o.kind∧o.kind≤7
  size:16≤o.size∧o.size<18446744073709551616
  hd:seg b o.pos 16=hdr o.kind o.size
theorem Objs.mem {b:Ly}:∀{l:List Ob} {p e:Nat} {o:Ob},Objs b p l e→o∈l→ObOk b p e o
  | [],_,_,_,_,h=>by simp at h
  | x :: r,p,e,o,h,ho=>by
    obtain⟨h1,h2,h3,h4,h5,h6,h7⟩:=h
    have hl:=h7.le
    have hu:=up8_ge x.size
    rcases List.mem_cons.1 ho with rfl|ho
    · subst h1
      exact⟨Nat.le_refl _,hl.1,id,⟨h2,h3⟩,⟨h4,h5⟩,h6⟩
    · obtain⟨g1,g2,g3,g4,g5,g6⟩:=h7.mem ho
      exact⟨by omega,g2,fun hp=>g3 (by omega),g4,g5,g6⟩
/-- Two of them are one, or stand apart. -/
theorem Objs.sep {b:Ly}:∀{l:List Ob} {p e:Nat} {o x:Ob},Objs b p l e→o∈l→x∈l→o=x∨o.pos+up8 o.size≤x.pos∨x.pos+up8 x.size≤o.pos
  | [],_,_,_,_,_,h,_=>by simp at h
  | y :: r,p,e,o,x,h,ho,hx=>by
    obtain⟨h1,h2,h3,h4,h5,h6,h7⟩:=h
    rcases List.mem_cons.1 ho with e1|e1
    · rcases List.mem_cons.1 hx with e2|e2
      · exact .inl (e1.trans e2.symm)
      · have:=(h7.mem e2).ge;subst e1;exact .inr (.inl (by omega))
    · rcases List.mem_cons.1 hx with e2|e2
      · have:=(h7.mem e1).ge;subst e2;exact .inr (.inr (by omega))
      · exact h7.sep e1 e2
theorem Objs.app {b:Ly}:∀{l:List Ob} {p e:Nat} {o:Ob},Objs b p l e→o.pos=e→1≤o.kind→o.kind≤7→16≤o.size→o.size<18446744073709551616→seg b e 16=hdr o.kind o.size→Objs b p (l ++ [o]) (e+up8 o.size)
  | [],p,e,o,h,h1,h2,h3,h4,h5,h6=>by cases h;exact⟨h1,h2,h3,h4,h5,h6,rfl⟩
  | x :: r,p,e,o,h,h1,h2,h3,h4,h5,h6=>by
    obtain⟨g1,g2,g3,g4,g5,g6,g7⟩:=h
    exact⟨g1,g2,g3,g4,g5,g6,g7.app h1 h2 h3 h4 h5 h6⟩
/-- The places that may be written: ahead of the objects, or within one's body. -/
def Body (l:List Ob) (a:Nat):Prop:=a+8≤272∨∃o∈l,o.pos+16≤a∧a+8≤o.pos+up8 o.size
theorem Objs.eff {b c:Ly} {S:Nat→Prop} {l:List Ob} {p e:Nat} (h:Objs b p l e) (k:Eff S b c) (hb:e≤b.length) (hs:∀o∈l,∀a,S a→a+8≤o.pos∨o.pos+16≤a):Objs c p l e:=by
  induction l generalizing p with
  | nil=>exact h
  | cons o r ih =>
    have K:=Objs.mem (o:=o) h (by simp)
    obtain⟨A,C,D,E,F,G,B⟩:=h
    have L:=up8_ge o.size
    have J:=B.le
    refine⟨A,C,D,E,F,?_,ih B fun x I=>hs x (by simp[I])⟩
    rw[k.seg p 16 (by omega) fun a H=>A ▸ hs o (by simp) a H,G]
theorem Objs.body {b:Ly} {l:List Ob} {e:Nat} (h:Objs b 272 l e) {a:Nat} (ha:Body l a) {o:Ob} (ho:o∈l):a+8≤o.pos∨o.pos+16≤a:=by
  have B:=h.mem ho
  rcases ha with ha|⟨x,C,D,E⟩
  · have:=B.ge;omega
  · have:=up8_ge o.size
    have:=up8_ge x.size
    rcases h.sep ho C with rfl|A|A <;> omega
/-! objects that are read -/
end Go.Wk
namespace Go.Wk
open Go Go.RowKit
/-- The room of the first k arrays. -/
def cum:Nat→Nat
  | 0=>0
  | k+1=>cum k+roomF (k:Int)
theorem rooms_cum:∀(l:List Nat) (k a:Nat),roomsL l k a (cum k)=(if l=[]then a else cum (k+l.length-1),cum (k+l.length))
  | [],_,_=>rfl
  | x :: l,k,a=>by
    have:=rooms_cum l (k+1) (cum k)
    rw[show roomsL (x :: l) k a (cum k)=roomsL l (k+1) (cum k) (cum (k+1))from rfl,this]
    have h1:k+1+l.length=k+(l.length+1):=by omega
    simp only[List.length_cons,h1,reduceCtorEq,if_false,Prod.mk.injEq,and_true]
    split
    · rename_i h;subst h;rfl
    · rfl
theorem rooms_all (l:List Nat):roomsL l 0 0 0=(cum (l.length-1),cum l.length):=by
  have:=rooms_cum l 0 0
  simp only[cum,Nat.zero_add]at this
  rw[this]
  congr 1
  split
  · rename_i h;subst h;rfl
  · rfl
theorem cum_mono {i j:Nat} (h:i≤j):cum i≤cum j:=by
  induction j with
  | zero=>rw[Nat.le_zero.1 h];exact Nat.le_refl _
  | succ j ih =>
    rcases Nat.lt_or_ge i (j+1)with A|A
    · have:=ih (by omega);simp only[cum];omega
    · rw[show i=j+1 by omega];exact Nat.le_refl _
theorem cum_step {i j:Nat} (h:i<j):cum i+roomF (i:Int)≤cum j:=cum_mono (show i+1≤j from h)
theorem getD_app1 (l:List Nat) (x i:Nat):(l ++ [x]).getD i 0=if i=l.length then x else l.getD i 0:=by
  simp only[List.getD_eq_getElem?_getD]
  by_cases h:i<l.length
  · rw[List.getElem?_append_left h,if_neg (by omega)]
  · rw[List.getElem?_append_right (by omega)]
    by_cases h2:i=l.length
    · subst h2;simp
    · rw[if_neg h2,List.getElem?_eq_none (by simp;omega),List.getElem?_eq_none (by omega)]
theorem getD_some {l:List Nat} {i x:Nat} (h:l[i]? = some x):l.getD i 0=x:=by simp[List.getD,h]
structure Chain (b:Ly) (l:List Ob) (src:Nat) (av items:List Nat):Prop where
  word:at8 b src=av.getD 0 0
  ob:∀k a:Nat,av[k]? = some a→(⟨a,6,24+8*roomF (k:Int)⟩:Ob)∈l
  next:∀k a:Nat,av[k]? = some a→at8 b (a+16)=av.getD (k+1) 0
  item:∀k a j:Nat,av[k]? = some a→j<roomF (k:Int)→at8 b (a+24+8*j)=items.getD (cum k+j) 0
  asc:∀k a c:Nat,av[k]? = some a→av[k+1]? = some c→a<c
  lo:cum (av.length-1)≤items.length
  hi:items.length≤cum av.length
theorem asc_lt {av:List Nat} (h:∀k a c:Nat,av[k]? = some a→av[k+1]? = some c→a<c):∀(d k a c:Nat),av[k]? = some a→av[k+d+1]? = some c→a<c
  | 0,k,a,c,h1,h2=>h k a c h1 h2
  | d+1,k,a,c,h1,h2=>by
    obtain⟨y,hy⟩:∃y,av[k+d+1]? = some y:=⟨_,List.getElem?_eq_getElem (by have:=(List.getElem?_eq_some_iff.1 h2).1;omega)⟩
    have:=asc_lt h d k a y h1 hy
    have:=h (k+d+1) y c hy h2
    omega
/-- Where a chain's first place may stand. -/
def Src (l:List Ob) (a:Nat):Prop:=a+8≤272∨∃o∈l,o.kind≠6∧o.pos+16≤a∧a+8≤o.pos+up8 o.size
theorem Src.body {l:List Ob} {a:Nat} (h:Src l a):Body l a:=h.imp id fun⟨o,h1,_,h2⟩=>⟨o,h1,h2⟩
theorem Src.apart {b:Ly} {l:List Ob} {a e:Nat} (h:Src l a) (hO:Objs b 272 l e) {o:Ob} (ho:o∈l) (hk:o.kind=6):a+8≤o.pos∨o.pos+up8 o.size≤a:=by
  rcases h with h|⟨x,C,A,D,E⟩
  · have:=(hO.mem ho).ge;omega
  · rcases hO.sep ho C with rfl|B|B
    · exact absurd hk A
    · omega
    · omega
theorem Src.mono {l r:List Ob} {a:Nat} (h:Src l a) (hs:∀o∈l,o∈r):Src r a:=h.imp id fun⟨o,h1,h2⟩=>⟨o,hs o h1,h2⟩
theorem Src.lt {b:Ly} {l:List Ob} {a e:Nat} (h:Src l a) (hO:Objs b 272 l e):a+8≤e:=by
  rcases h with h|⟨x,A,B,C,D⟩
  · have:=hO.le;omega
  · have:=(hO.mem A).le;omega
/-- Where an item is put, and what leads to it. -/
def LinkS (src:Nat) (av:List Nat) (a:Nat):Prop:=a=src∨∃k c:Nat,av[k]? = some c∧c+16≤a∧a+8≤c+24+8*roomF (k:Int)
theorem up8_arr (r:Nat):up8 (24+8*r)=24+8*r:=by unfold up8;omega
section
variable {b c:Ly} {l:List Ob} {src e:Nat} {av items:List Nat}
theorem Chain.apart (h:Chain b l src av items) (hO:Objs b 272 l e) {k k' a a':Nat} (ha:av[k]? = some a) (ha':av[k']? = some a') (hk:k≠k'):a+24+8*roomF (k:Int)≤a'∨a'+24+8*roomF (k':Int)≤a:=by
  have B:a≠a':=by
    rcases Nat.lt_or_ge k k' with A|A
    · have:=asc_lt h.asc (k'-k-1) k a a' ha (by rw[show k+(k'-k-1)+1=k' by omega];exact ha');omega
    · have:=asc_lt h.asc (k-k'-1) k' a' a ha' (by rw[show k'+(k-k'-1)+1=k by omega];exact ha);omega
  rcases hO.sep (h.ob k a ha) (h.ob k' a' ha')with A|A|A
  · exact absurd (congrArg Ob.pos A) B
  · rw[up8_arr]at A;simp only at A;omega
  · rw[up8_arr]at A;simp only at A;omega
theorem Chain.le (h:Chain b l src av items) (hO:Objs b 272 l e) {k a:Nat} (ha:av[k]? = some a):272≤a∧a+24+8*roomF (k:Int)≤e:=by
  have:=hO.mem (h.ob k a ha)
  have B:=this.le
  have C:=this.ge
  rw[up8_arr]at B
  simp only at B C
  omega
/-- A chain stays where nothing of it is written. -/
theorem Chain.eff {S:Nat→Prop} {r:List Ob} (h:Chain b l src av items) (hO:Objs b 272 l e) (hs:Src l src) (he:e≤b.length) (k:Eff S b c) (hr:∀o∈l,o∈r) (h1:∀a,S a→a+8≤src∨src+8≤a) (h2:∀k x:Nat,av[k]? = some x→∀a,S a→a+8≤x+16∨x+24+8*roomF (k:Int)≤a):Chain c r src av items:=by
  have D:=hs.lt hO
  refine⟨(k.at8 (by omega) h1).trans h.word,fun i a A=>hr _ (h.ob i a A),fun i a A=>?_,fun i a j A C=>?_,h.asc,h.lo,h.hi⟩
  · have:=h.le hO A
    rw[k.at8 (by omega) fun x B=>by have:=h2 i a A x B;omega]
    exact h.next i a A
  · have:=h.le hO A
    rw[k.at8 (by omega) fun x B=>by have:=h2 i a A x B;omega]
    exact h.item i a j A C
/-- One more item, where there is room. -/
theorem Chain.put (h:Chain b l src av items) (hO:Objs b 272 l e) (hs:Src l src) (he:e≤b.length) {x p:Nat} (hx:x<18446744073709551616) (hn:av≠[]) (hp:av[av.length-1]? = some p) (hr:items.length<cum av.length) :
    Chain (putN b (p+24+8*(items.length-cum (av.length-1))) x) l src av (items ++ [x]):=by
  have D:0<av.length:=List.length_pos_iff.2 hn
  have H:cum av.length=cum (av.length-1)+roomF ((av.length-1:Nat):Int):=by rw[show av.length=(av.length-1)+1 by omega];rfl
  have F:=h.lo
  have G:=h.le hO hp
  generalize hq:p+24+8*(items.length-cum (av.length-1))=q
  have B:=hs.apart hO (h.ob _ _ hp) rfl
  rw[up8_arr]at B
  simp only at B
  refine⟨?_,h.ob,fun i a A=>?_,fun i a j A C=>?_,h.asc,?_,?_⟩
  · rw[at8_put (by omega)];exact h.word
  · have:q+8≤a+16∨a+16+8≤q:=by
      by_cases hi:i=av.length-1
      · subst hi;rw[hp]at A;cases A;omega
      · have:=h.apart hO A hp hi;omega
    rw[at8_put this];exact h.next i a A
  · rw[getD_app1]
    by_cases hi:i=av.length-1
    · subst hi
      rw[hp]at A;cases A
      by_cases hj2:j=items.length-cum (av.length-1)
      · rw[if_pos (by omega),show p+24+8*j=q by omega]
        exact at8_put_same (by omega) hx
      · rw[if_neg (by omega),at8_put (by omega)]
        exact h.item _ _ j hp C
    · have E:i<av.length:=(List.getElem?_eq_some_iff.1 A).1
      have:=cum_step (show i<av.length-1 by omega)
      have:=h.apart hO A hp hi
      rw[if_neg (by omega),at8_put (by omega)]
      exact h.item i a j A C
  · rw[List.length_append];simp only[List.length_singleton];omega
  · rw[List.length_append];simp only[List.length_singleton];omega
end
theorem app_get {av:List Nat} {p k a:Nat} (h:(av ++ [p])[k]? = some a):(k<av.length∧av[k]? = some a)∨(k=av.length∧a=p):=by
  rcases Nat.lt_or_ge k av.length with hk|hk
  · rw[List.getElem?_append_left hk]at h;exact .inl ⟨hk,h⟩
  · have A:=(List.getElem?_eq_some_iff.1 h).1
    simp at A
    rw[List.getElem?_append_right hk,show k-av.length=0 by omega]at h
    exact .inr ⟨by omega,by simpa using h.symm⟩
def arrB (r:Nat):List UInt8:=putArrayF {next:=0,items:=List.replicate r 0}
theorem arrB_eq (r:Nat):arrB r=hdr 6 (24+8*r) ++ nums (0 :: List.replicate r 0):=by
  unfold arrB putArrayF
  rw[putF_hdr (by omega)]
  have:(nums [0] ++ nums (List.replicate r 0)).length=8+8*r:=by simp[nums_len]
  simp only[this]
  rw[show(8-(16+(8+8*r))%8)%8=0 by omega,show 16+(8+8*r)=24+8*r by omega]
  simp[nums]
theorem arrB_len (r:Nat):(arrB r).length=24+8*r:=by rw[arrB_eq];simp[hdr_len,nums_len];omega
theorem arrB_word {r i:Nat} (h:i≤r):at8 (arrB r) (16+8*i)=0:=by
  rw[arrB_eq,at8_skip (by rw[hdr_len];omega),hdr_len,show 16+8*i-16=8*i by omega]
  refine at8_nums' (v:=0) ?_ (by decide)
  cases i with
  | zero=>rfl
  | succ i=>simp only[List.getElem?_cons_succ];rw[List.getElem?_replicate,if_pos (by omega)]
theorem arrB_hd (r:Nat):seg (arrB r) 0 16=hdr 6 (24+8*r):=by rw[arrB_eq];exact seg_take _ _ (hdr_len _ _).symm
/-- A new array behind the others, not yet led to. -/
theorem Chain.grow {b:Ly} {l:List Ob} {src:Nat} {av items:List Nat} (h:Chain b l src av items) (hO:Objs b 272 l b.length) (hs:Src l src) (hb:b.length<1000000) (hr:items.length=cum av.length) :
    let b1:=b ++ arrB (roomF (av.length:Int))
    let l1:=l ++ [(⟨b.length,6,24+8*roomF (av.length:Int)⟩:Ob)]
    Objs b1 272 l1 b1.length∧Chain (putN b1 (if av.length=0 then src else lastN av+16) b.length) l1 src (av ++ [b.length]) items:=by
  intro b1 l1
  have R:=roomF_le (av.length:Int)
  have P:b1.length=b.length+(24+8*roomF (av.length:Int)):=by simp[b1,arrB_len]
  have G:Eff (fun _=>False) b b1:=Eff.app _ _ _
  have U:=hO.le
  have M:Objs b1 272 l1 b1.length:=by
    have:=(hO.eff G (Nat.le_refl _) (fun _ _ _ Y=>Y.elim)).app (o:=⟨b.length,6,24+8*roomF (av.length:Int)⟩) rfl (by simp) (by simp) (by simp;omega) (by simp;omega) ?_
    · rw[up8_arr]at this;rw[P];exact this
    · have L:=seg_skip (x:=b) (y:=arrB (roomF (av.length:Int))) (p:=b.length) (n:=16) (Nat.le_refl _)
      rw[Nat.sub_self,arrB_hd]at L
      exact L
  refine⟨M,?_⟩
  have I:∀i,i≤roomF (av.length:Int)→at8 b1 (b.length+16+8*i)=0:=fun i O=>by
    have:=at8_skip (x:=b) (y:=arrB (roomF (av.length:Int))) (p:=b.length+16+8*i) (by omega)
    rw[show b.length+16+8*i-b.length=16+8*i by omega,arrB_word O]at this
    exact this
  have J:=hs.lt hO
  have S:∀q,q+8≤b.length→at8 b1 q=at8 b q:=fun q E=>at8_app E
  have X:cum (av.length+1)=cum av.length+roomF (av.length:Int):=rfl
  -- the place that leads to the new one
  have E:∃q,(if av.length=0 then src else lastN av+16)=q∧q+8≤b.length∧(av=[]∧q=src∨∃p,av[av.length-1]? = some p∧0<av.length∧q=p+16):=by
    by_cases hz:av.length=0
    · exact⟨src,by rw[if_pos hz],J,.inl ⟨List.eq_nil_of_length_eq_zero hz,rfl⟩⟩
    · obtain⟨p,B⟩:∃p,av[av.length-1]? = some p:=⟨_,List.getElem?_eq_getElem (by omega)⟩
      have:=h.le hO B
      exact⟨p+16,by rw[if_neg hz,lastN_eq B],by omega,.inr ⟨p,B,by omega,rfl⟩⟩
  obtain⟨q,V,d,E⟩:=E
  rw[V]
  have D:∀F,F+8≤b.length→(q+8≤F∨F+8≤q)→at8 (putN b1 q b.length) F=at8 b F:=fun F W L=>(at8_put L).trans (S F W)
  have C:at8 (putN b1 q b.length) q=b.length:=at8_put_same (by omega) (by omega)
  have H:∀i,i≤roomF (av.length:Int)→at8 (putN b1 q b.length) (b.length+16+8*i)=0:=fun i O=>(at8_put (by omega)).trans (I i O)
  refine⟨?_,fun k a A=>?_,fun k a A=>?_,fun k a j A Z=>?_,fun k a c A N=>?_,?_,?_⟩
  · rcases E with⟨rfl,rfl⟩|⟨p,B,T,rfl⟩
    · exact C
    · have K:=hs.apart hO (h.ob _ _ B) rfl
      rw[up8_arr]at K
      simp only at K
      rw[D src J (by omega),h.word,getD_app1,if_neg (by omega)]
  · rcases app_get A with⟨_,A⟩|⟨rfl,rfl⟩
    · exact List.mem_append_left _ (h.ob k a A)
    · exact List.mem_append_right _ (by simp)
  · rcases app_get A with⟨hk,A⟩|⟨rfl,rfl⟩
    · have Q:=h.le hO A
      rcases E with⟨rfl,_⟩|⟨p,B,T,rfl⟩
      · simp at hk
      · by_cases hk2:k=av.length-1
        · subst hk2;rw[B]at A;cases A
          rw[C,getD_app1,if_pos (by omega)]
        · have:=h.apart hO A B hk2
          rw[D _ (by omega) (by omega),h.next k a A,getD_app1,if_neg (by omega)]
    · have:=H 0 (by omega)
      rw[Nat.mul_zero,Nat.add_zero]at this
      rw[this,getD_app1,if_neg (by omega)]
      simp
  · rcases app_get A with⟨hk,A⟩|⟨rfl,rfl⟩
    · have Q:=h.le hO A
      have:q+8≤a+24+8*j∨a+24+8*j+8≤q:=by
        rcases E with⟨rfl,_⟩|⟨p,B,T,rfl⟩
        · simp at hk
        · by_cases hk2:k=av.length-1
          · subst hk2;rw[B]at A;cases A;omega
          · have:=h.apart hO A B hk2;omega
      rw[D _ (by omega) this]
      exact h.item k a j A Z
    · have:=H (j+1) (by omega)
      rw[show b.length+16+8*(j+1)=b.length+24+8*j by omega]at this
      rw[this]
      symm
      simp only[List.getD_eq_getElem?_getD]
      rw[List.getElem?_eq_none (by omega)]
      rfl
  · rcases app_get N with⟨hk,N⟩|⟨hk,rfl⟩
    · rcases app_get A with⟨_,A⟩|⟨rfl,_⟩
      · exact h.asc k a c A N
      · omega
    · rcases app_get A with⟨_,A⟩|⟨rfl,_⟩
      · have:=h.le hO A;omega
      · omega
  · simp only[List.length_append,List.length_singleton,Nat.add_sub_cancel];omega
  · simp only[List.length_append,List.length_singleton];omega
end Go.Wk
namespace Go.Wk
open Go Go.RowKit
/-- How many objects there are, the last one's place, and how many arrays. -/
structure Cn (m:Mk) (l:List Ob):Prop where
  len:19≤m.h.n.length
  n6:m.num 6=lastN (l.map Ob.pos)
  n7:m.num 7=l.length%18446744073709551616
  n17:m.num 17=0
  n18:m.num 18=(l.filter fun o=>decide (o.kind=6)).length%18446744073709551616
  k:∀o∈l,o.kind≠7∧(o.kind=6→∃r,1≤r∧o.size=24+8*r)∧(o.kind=4∨o.kind=5→∃r,1≤r∧o.size=16+16*r)
theorem Cn.to {m m':Mk} {l:List Ob} (h:Cn m l) (hl:m'.h.n.length=m.h.n.length) (hn:∀i,i=6∨i=7∨i=17∨i=18→m'.num i=m.num i):Cn m' l :=
  ⟨by rw[hl];exact h.len,(hn 6 (by omega)).trans h.n6,(hn 7 (by omega)).trans h.n7,(hn 17 (by omega)).trans h.n17,(hn 18 (by omega)).trans h.n18,h.k⟩
theorem Cn.same {m m':Mk} {l:List Ob} (h:Cn m l) (e:m'.h=m.h):Cn m' l:=h.to (by rw[e]) fun i _=>by show m'.h.n.getD i 0=_;rw[e];rfl
theorem lastN_snoc (a:List Nat) (x:Nat):lastN (a ++ [x])=x:=lastN_eq (by simp)
theorem num_set {m:Mk} {k v:Nat} (h:k<m.h.n.length):(m.setN k v).num k=v:=getD_set_eq' h
theorem Cn.obj {m:Mk} {l:List Ob} (h:Cn m l) (o:Ly) {k s:Nat} (hk:k≤3):Cn (m.object o).2 (l ++ [⟨m.b.length,k,s⟩]):=by
  have B:=h.len
  refine⟨by simp[Mk.object,Mk.setN];omega,?_,?_,?_,?_,fun x A=>?_⟩
  · simp only[Mk.object]
    rw[num_setN (by omega),num_set (by show 6<m.h.n.length;omega),List.map_append]
    exact(lastN_snoc _ _).symm
  · simp only[Mk.object]
    rw[num_set (by simp[Mk.setN];omega),num_setN (by omega)]
    show(m.num 7+1)%_=_
    rw[h.n7,List.length_append,List.length_singleton];omega
  · simp only[Mk.object]
    rw[num_setN (by omega),num_setN (by omega)];exact h.n17
  · simp only[Mk.object]
    rw[num_setN (by omega),num_setN (by omega),List.filter_append,List.filter_cons_of_neg (by simp;omega),List.filter_nil,List.append_nil];exact h.n18
  · rcases List.mem_append.1 A with A|A
    · exact h.k x A
    · simp at A;subst A
      exact⟨by simp only;omega,fun h=>by simp only at h;omega,fun h=>by simp only at h;omega⟩
theorem Cn.arr {m:Mk} {l:List Ob} (h:Cn m l) (o:Ly) {r:Nat} (hr:1≤r):Cn ((m.object o).2.setN 18 (((m.object o).2.num 18+1)%18446744073709551616)) (l ++ [⟨m.b.length,6,24+8*r⟩]):=by
  have C:=h.len
  have g:=h.obj o (k:=0) (s:=0) (by omega)
  have B:=g.len
  refine⟨by simp[Mk.setN];omega,?_,?_,?_,?_,fun x A=>?_⟩
  · rw[num_setN (by omega),g.n6,List.map_append,List.map_append];rw[List.map_singleton,List.map_singleton,lastN_snoc]
  · rw[num_setN (by omega),g.n7,List.length_append,List.length_append];rfl
  · rw[num_setN (by omega)];exact g.n17
  · rw[num_set (by omega),g.n18,List.filter_append,List.filter_append,List.filter_cons_of_neg (by simp),List.filter_nil,List.append_nil,List.filter_cons_of_pos (by simp),List.filter_nil,List.length_append,List.length_singleton];omega
  · rcases List.mem_append.1 A with A|A
    · exact h.k x A
    · simp at A;subst A
      exact⟨by simp,fun _=>⟨r,hr,rfl⟩,fun h=>by simp at h⟩
structure Linked (m m':Mk) (l l':List Ob) (src:Nat) (av av' items:List Nat) (x:Nat):Prop where
  objs:Objs m'.b 272 l' m'.b.length
  sub:l'=l∨l'=l ++ [(⟨m.b.length,6,24+8*roomF (av.length:Int)⟩:Ob)]
  arr:av'=av∨av'=av ++ [m.b.length]
  chain:Chain m'.b l' src av' (items ++ [x])
  eff:Eff (LinkS src av') m.b m'.b
  ne:av'≠[]
  top:m'.b.length≤m.b.length+2100
  same:m'.c=m.c∧m'.datas=m.datas∧m'.fields=m.fields∧m'.main=m.main∧m'.depth=m.depth∧∀i,i≠6→i≠7→i≠18→m'.num i=m.num i
  cn:Cn m l→Cn m' l'
theorem link_im {m:Mk} {l:List Ob} {src x:Nat} {av items:List Nat} (hO:Objs m.b 272 l m.b.length) (h:Chain m.b l src av items) (hs:Src l src) (hb:m.b.length<900000) (hx:x<18446744073709551616) :
    ∃l',Linked m (m.link av items.length src x).2.2 l l' src av (m.link av items.length src x).1 items x:=by
  unfold Mk.link
  rw[rooms_all]
  simp only
  split
  · rename_i hn
    have g:=h.grow hO hs (by omega) hn
    simp only at g
    obtain⟨V,W⟩:=g
    generalize hl1:l ++ [(⟨m.b.length,6,24+8*roomF (av.length:Int)⟩:Ob)]=l1 at *
    generalize hq:(if av.length=0 then src else lastN av+16)=q at W
    have E:(m.object (putArrayF {next:=0,items:=List.replicate (roomF (av.length:Int)) 0})).2.b=m.b ++ arrB (roomF (av.length:Int)):=rfl
    have O:(m.object (putArrayF {next:=0,items:=List.replicate (roomF (av.length:Int)) 0})).1=m.b.length:=rfl
    have B:=object_same m (putArrayF {next:=0,items:=List.replicate (roomF (av.length:Int)) 0})
    have H:(m.object (putArrayF {next:=0,items:=List.replicate (roomF (av.length:Int)) 0})).2.depth=m.depth:=rfl
    have I:∀i,i≠6→i≠7→(m.object (putArrayF {next:=0,items:=List.replicate (roomF (av.length:Int)) 0})).2.num i=m.num i:=fun i n t=>by
      simp only[Mk.object]
      rw[num_setN (by omega),num_setN (by omega)];rfl
    have J:=fun h:Cn m l=>h.arr (putArrayF {next:=0,items:=List.replicate (roomF (av.length:Int)) 0}) (r:=roomF (av.length:Int)) (by have:=roomF_ge (k:=(av.length:Int)) (by omega);omega)
    rw[hl1]at J
    generalize m.object (putArrayF {next:=0,items:=List.replicate (roomF (av.length:Int)) 0})=r at *
    obtain⟨p,A⟩:=r
    simp only at E O B H I J ⊢
    subst O
    have d:=roomF_le (av.length:Int)
    have S:=roomF_ge (k:=(av.length:Int)) (by omega)
    have Aa:A.b.length=m.b.length+(24+8*roomF (av.length:Int)):=by rw[E];simp[arrB_len]
    have Y:cum (av ++ [m.b.length]).length=cum av.length+roomF (av.length:Int):=by simp[cum]
    have Q:Src l1 src:=hs.mono fun o F=>by rw[← hl1];exact List.mem_append_left _ F
    have P:Body l1 q∧(q=src∨∃k c:Nat,(av ++ [m.b.length])[k]? = some c∧q=c+16):=by
      rw[← hq]
      split
      · exact⟨Q.body,.inl rfl⟩
      · rename_i v
        obtain⟨p,G⟩:∃p,av[av.length-1]? = some p:=⟨_,List.getElem?_eq_getElem (by omega)⟩
        rw[lastN_eq G]
        have F:=h.ob _ _ G
        refine⟨.inr ⟨⟨p,6,24+8*roomF ((av.length-1:Nat):Int)⟩,?_,Nat.le_refl _,?_⟩,.inr ⟨av.length-1,p,by rw[List.getElem?_append_left (by omega)];exact G,rfl⟩⟩
        · rw[← hl1];exact List.mem_append_left _ F
        · rw[up8_arr];simp only;omega
    rw[E.symm]at V W
    have j:Eff (fun a=>a=q) A.b (putN A.b q m.b.length):=Eff.put _ _ _
    have U:Objs (putN A.b q m.b.length) 272 l1 (putN A.b q m.b.length).length:=by
      rw[putN_len]
      exact V.eff j (Nat.le_refl _) fun o F a C=>by subst C;exact V.body P.1 F
    have D:(av ++ [m.b.length])[(av ++ [m.b.length]).length-1]? = some m.b.length:=by simp
    have N:=W.put (x:=x) (p:=m.b.length) U Q (Nat.le_refl _) hx (by simp) D (by rw[Y];omega)
    have X:items.length-cum ((av ++ [m.b.length]).length-1)=0:=by simp;omega
    rw[X]at N
    have L:Eff (fun a=>a=m.b.length+24+8*0) (putN A.b q m.b.length) (putN (putN A.b q m.b.length) (m.b.length+24+8*0) x):=Eff.put _ _ _
    have f:Objs (putN (putN A.b q m.b.length) (m.b.length+24+8*0) x) 272 l1 (putN (putN A.b q m.b.length) (m.b.length+24+8*0) x).length:=by
      rw[putN_len]
      refine U.eff L (Nat.le_refl _) fun o F a C=>?_
      subst C
      refine U.body (.inr ⟨⟨m.b.length,6,24+8*roomF (av.length:Int)⟩,?_,?_,?_⟩) F
      · rw[← hl1];simp
      · simp only;omega
      · rw[up8_arr];simp only;omega
    have R:∀M:Mk,M=(if av.length=0 then(A.setN 18 ((A.num 18+1)%18446744073709551616)).put src m.b.length else(A.setN 18 ((A.num 18+1)%18446744073709551616)).put (lastN av+16) m.b.length)→M.b=putN A.b q m.b.length∧M.c=A.c∧M.datas=A.datas∧M.fields=A.fields∧M.main=A.main∧M.depth=A.depth∧M.h=(A.setN 18 ((A.num 18+1)%18446744073709551616)).h∧∀i,i≠18→M.num i=A.num i:=by
      intro M z
      subst z
      rw[← hq]
      split
      · exact⟨rfl,rfl,rfl,rfl,rfl,rfl,rfl,fun i hi=>num_setN (m:=A) (by omega)⟩
      · exact⟨rfl,rfl,rfl,rfl,rfl,rfl,rfl,fun i hi=>num_setN (m:=A) (by omega)⟩
    have e:=R _ rfl
    clear R
    generalize (if av.length=0 then(A.setN 18 ((A.num 18+1)%18446744073709551616)).put src m.b.length else(A.setN 18 ((A.num 18+1)%18446744073709551616)).put (lastN av+16) m.b.length)=M at *
    obtain⟨T,e,k3,k4,k5,k6,kh,k7⟩:=e
    rw[lastN_eq D,show items.length-cum av.length=0 by omega]
    rw[← T]at f N L
    have ml:(M.put (m.b.length+24+8*0) x).b=putN M.b (m.b.length+24+8*0) x:=rfl
    refine⟨l1,⟨by rw[ml];exact f,.inr hl1.symm,.inr rfl,by rw[ml];exact N,?_,by simp,?_,⟨e.trans B.1,k3.trans B.2.1,k4.trans B.2.2.1,k5.trans B.2.2.2,k6.trans H,fun i n t y=>(k7 i y).trans (I i n t)⟩,fun h=>(J h).same kh⟩⟩
    · rw[ml,T]
      have u:Eff (LinkS src (av ++ [m.b.length])) m.b A.b:=by rw[E];exact Eff.app _ _ _
      refine u.trans ((j.mono fun a C=>?_).trans ((T ▸ L).mono fun a C=>?_))
      · subst C
        rcases P.2 with h|⟨k,c,O,w⟩
        · exact .inl h
        · exact .inr ⟨k,c,O,by omega,by omega⟩
      · subst C
        exact .inr ⟨av.length,m.b.length,by simp,by omega,by omega⟩
    · rw[ml,putN_len,T,putN_len];omega
  · rename_i hn
    have Ad:=h.lo
    have Z:=h.hi
    have K:av≠[]:=by rintro rfl;have O:items.length≤0:=Z;have w:¬items.length=0:=hn;omega
    have v:=List.length_pos_iff.2 K
    obtain⟨p,G⟩:∃p,av[av.length-1]? = some p:=⟨_,List.getElem?_eq_getElem (by omega)⟩
    rw[lastN_eq G]
    have N:=h.put hO hs (Nat.le_refl _) hx K G (by omega)
    have Ac:=h.le hO G
    have hc:cum av.length=cum (av.length-1)+roomF ((av.length-1:Nat):Int):=by
      have:av.length=(av.length-1)+1:=by omega
      rw[this];rfl
    generalize hq:p+24+8*(items.length-cum (av.length-1))=q at *
    have L:Eff (fun a=>a=q) m.b (putN m.b q x):=Eff.put _ _ _
    refine⟨l,⟨?_,.inl rfl,.inl rfl,N,L.mono fun a C=>?_,K,?_,⟨rfl,rfl,rfl,rfl,rfl,fun _ _ _ _=>rfl⟩,fun h=>h.same rfl⟩⟩
    · show Objs (putN m.b q x) 272 l (putN m.b q x).length
      rw[putN_len]
      refine hO.eff L (Nat.le_refl _) fun o F a C=>?_
      subst C
      refine hO.body (.inr ⟨_,h.ob _ _ G,?_,?_⟩) F
      · simp only;omega
      · rw[up8_arr];simp only;omega
    · subst C
      exact .inr ⟨av.length-1,p,G,by omega,by omega⟩
    · show(putN m.b q x).length≤_
      rw[putN_len];omega
end Go.Wk
namespace Go.Wk
open Go Go.RowKit
/-- A place that may be written without a hurt to what stays of data, fields, entries. -/
def Mild (l:List Ob) (a:Nat):Prop:=∀o∈l,(a+8≤o.pos∨o.pos+16≤a) ∧
  (o.kind=1→a+8≤o.pos+16∨o.pos+24≤a∧a+8≤o.pos+64∨o.pos+up8 o.size≤a) ∧
  (o.kind=2→a+8≤o.pos+16∨o.pos+24≤a∧a+8≤o.pos+40∨o.pos+up8 o.size≤a) ∧
  (o.kind=3→a+8≤o.pos∨o.pos+up8 o.size≤a)
/-- Within an object of l that is x's alone, or ahead of all. -/
theorem mild_of {b:Ly} {l:List Ob} {e a:Nat} (hO:Objs b 272 l e) {x:Ob} (hx:x∈l) (h1:x.pos+16≤a) (h2:a+8≤x.pos+up8 x.size) (h3:x.kind≠3) (h4:x.kind=1→x.pos+24≤a∧a+8≤x.pos+64) (h5:x.kind=2→x.pos+24≤a∧a+8≤x.pos+40):Mild l a:=by
  intro o A
  have:=up8_ge o.size
  have:=up8_ge x.size
  have:=(hO.mem A).size.1
  rcases hO.sep A hx with rfl|B|B
  · refine⟨by omega,fun h=>.inr (.inl (h4 h)),fun h=>.inr (.inl (h5 h)),fun h=>absurd h h3⟩
  · exact⟨by omega,fun _=>by omega,fun _=>by omega,fun _=>by omega⟩
  · exact⟨by omega,fun _=>by omega,fun _=>by omega,fun _=>by omega⟩
theorem mild_head {b:Ly} {l:List Ob} {e a:Nat} (hO:Objs b 272 l e) (h:a+8≤272):Mild l a:=fun o ho=>by
  have:=(hO.mem ho).ge
  exact⟨by omega,fun _=>by omega,fun _=>by omega,fun _=>by omega⟩
theorem Mild.mono {l r:List Ob} {a:Nat} (h:Mild r a) (hs:∀o∈l,o∈r):Mild l a:=fun o ho=>h o (hs o ho)
/-- Places in tables, and the next ones of data and fields. -/
def Soft (l:List Ob) (a:Nat):Prop:=∃o∈l,((o.kind=4∨o.kind=5)∧o.pos+16≤a∧a+8≤o.pos+up8 o.size)∨(((o.kind=1∧64≤o.size)∨(o.kind=2∧40≤o.size))∧(a=o.pos+24∨a=o.pos+32))
theorem Soft.mono {l r:List Ob} {a:Nat} (h:Soft l a) (hs:∀o∈l,o∈r):Soft r a:=by obtain⟨o,A,h⟩:=h;exact⟨o,hs o A,h⟩
theorem Soft.mild {b:Ly} {l:List Ob} {e a:Nat} (h:Soft l a) (hO:Objs b 272 l e):Mild l a:=by
  obtain⟨o,B,⟨C,A,D⟩|⟨C,A⟩⟩:=h
  · exact mild_of hO B A D (by omega) (by omega) (by omega)
  · have:=up8_ge o.size
    exact mild_of hO B (by omega) (by omega) (by omega) (by omega) (by omega)
theorem Soft.at {b:Ly} {l:List Ob} {e a:Nat} (h:Soft l a) (hO:Objs b 272 l e):272≤a∧a+8≤e∧∀o∈l,(o.kind=1→a+8≤o.pos+40∨o.pos+up8 o.size≤a)∧(o.kind=6→a+8≤o.pos∨o.pos+up8 o.size≤a):=by
  obtain⟨x,D,h⟩:=h
  have C:=hO.mem D
  have hk:=C.le
  have G:=C.ge
  have J:=up8_ge x.size
  have B:x.pos+16≤a∧a+8≤x.pos+up8 x.size∧x.kind≠6∧(x.kind=1→a+8≤x.pos+40):=by
    rcases h with⟨E,A,F⟩|⟨E,A⟩
    · exact⟨A,F,by omega,by omega⟩
    · exact⟨by omega,by omega,by omega,by omega⟩
  refine⟨by omega,by omega,fun o I=>?_⟩
  have:=up8_ge o.size
  rcases hO.sep I D with rfl|H|H
  · exact⟨fun h=>.inl (B.2.2.2 h),fun h=>absurd h B.2.2.1⟩
  · exact⟨fun _=>by omega,fun _=>by omega⟩
  · exact⟨fun _=>by omega,fun _=>by omega⟩
/-! the maker's data and fields -/
def hashM (m:Mk) (s:Ly):Nat:=hashN m.c.keyed m.c.file s
structure DatS (b:Ly) (l:List Ob) (h:Nat) (k:Known):Prop where
  ob:(⟨k.pos,1,64+k.text.length⟩:Ob)∈l
  hash:at8 b (k.pos+16)=h
  text:seg b (k.pos+64) k.text.length=k.text
structure FldS' (b:Ly) (l:List Ob) (h:Nat) (k:Known):Prop where
  ob:(⟨k.pos,2,40+k.text.length⟩:Ob)∈l
  hash:at8 b (k.pos+16)=h
  text:seg b (k.pos+40) k.text.length=k.text
theorem DatS.eff {b c:Ly} {l r:List Ob} {n:Nat} {k:Known} {S:Nat→Prop} (h:DatS b l n k) (hO:Objs b 272 l b.length) (he:Eff S b c) (hs:∀a,S a→Mild l a) (hr:∀o∈l,o∈r):DatS c r n k:=by
  have B:=(hO.mem h.ob).le
  have C:=up8_ge (64+k.text.length)
  refine⟨hr _ h.ob,(he.at8 (by simp only at B;omega) fun a A=>?_).trans h.hash,(he.seg _ _ (by simp only at B;omega) fun a A=>?_).trans h.text⟩
  · have:=(hs a A _ h.ob).2.1 rfl;simp only at this;omega
  · have:=(hs a A _ h.ob).2.1 rfl;simp only at this;omega
theorem FldS'.eff {b c:Ly} {l r:List Ob} {n:Nat} {k:Known} {S:Nat→Prop} (h:FldS' b l n k) (hO:Objs b 272 l b.length) (he:Eff S b c) (hs:∀a,S a→Mild l a) (hr:∀o∈l,o∈r):FldS' c r n k:=by
  have B:=(hO.mem h.ob).le
  have C:=up8_ge (40+k.text.length)
  refine⟨hr _ h.ob,(he.at8 (by simp only at B;omega) fun a A=>?_).trans h.hash,(he.seg _ _ (by simp only at B;omega) fun a A=>?_).trans h.text⟩
  · have:=(hs a A _ h.ob).2.2.1 rfl;simp only at this;omega
  · have:=(hs a A _ h.ob).2.2.1 rfl;simp only at this;omega
/-- What stays of a maker's journal. -/
structure Stat (m:Mk) (l:List Ob):Prop where
  objs:Objs m.b 272 l m.b.length
  tab4:(⟨272,4,16+16*m.c.dataSlots⟩:Ob)∈l
  tab5:(⟨288+16*m.c.dataSlots,5,16+16*m.c.fieldSlots⟩:Ob)∈l
  n2:m.num 2=288
  n4:m.num 4=304+16*m.c.dataSlots
  slots:1≤m.c.dataSlots∧1≤m.c.fieldSlots
  data:∀k∈m.datas,DatS m.b l (hashM m k.text) k
  fld:∀k∈m.fields,FldS' m.b l (hashM m k.text) k
  one:∀i j:Nat,∀k k':Known,m.datas[i]? = some k→m.datas[j]? = some k'→k.pos=k'.pos∨k.text=k'.text→i=j
  all:∀o∈l,o.kind=1→∃k∈m.datas,k.pos=o.pos
  allf:∀o∈l,o.kind=2→∃k∈m.fields,k.pos=o.pos
  cn:Cn m l
/-- Objects of data and of fields are made, tables and next places are written. -/
structure SoftStep (m m':Mk) (l l':List Ob):Prop where
  objs:Objs m'.b 272 l' m'.b.length
  sub:∃t,l'=l ++ t∧∀o∈t,(o.kind=1∨o.kind=2)∧m.b.length≤o.pos
  eff:Eff (Soft l') m.b m'.b
  same:m'.c=m.c∧m'.main=m.main∧∀i,i≠6→i≠7→i<15→m'.num i=m.num i
  cn:Cn m l→Cn m' l'
theorem SoftStep.mem {m m':Mk} {l l':List Ob} (h:SoftStep m m' l l'):∀o∈l,o∈l':=by obtain⟨t,e,_⟩:=h.sub;intro o A;rw[e];exact List.mem_append_left _ A
theorem SoftStep.refl {m:Mk} {l:List Ob} (h:Objs m.b 272 l m.b.length):SoftStep m m l l:=⟨h,⟨[],by simp,by simp⟩,Eff.refl _ _,⟨rfl,rfl,fun _ _ _ _=>rfl⟩,id⟩
theorem SoftStep.trans {m m' m'':Mk} {l l' l'':List Ob} (h:SoftStep m m' l l') (k:SoftStep m' m'' l' l''):SoftStep m m'' l l'':=by
  obtain⟨t,e,F⟩:=h.sub
  obtain⟨u,f,G⟩:=k.sub
  have H:=h.eff.len
  refine⟨k.objs,⟨t ++ u,by rw[f,e,List.append_assoc],fun o A=>?_⟩,(h.eff.mono fun a E=>E.mono k.mem).trans k.eff,⟨k.same.1.trans h.same.1,k.same.2.1.trans h.same.2.1,fun i B C D=>(k.same.2.2 i B C D).trans (h.same.2.2 i B C D)⟩,fun c=>k.cn (h.cn c)⟩
  rcases List.mem_append.1 A with A|A
  · exact F o A
  · have:=G o A;exact⟨this.1,by omega⟩
theorem SoftStep.to {m m' m'':Mk} {l l':List Ob} (h:SoftStep m m' l l') (hb:m''.b=m'.b) (hc:m''.c=m'.c) (hm:m''.main=m'.main) (hn:∀i,i≠15→i≠16→i≠19→m''.num i=m'.num i) (hl:m''.h.n.length=m'.h.n.length):SoftStep m m'' l l' :=
  ⟨by rw[hb];exact h.objs,h.sub,by rw[hb];exact h.eff,⟨hc.trans h.same.1,hm.trans h.same.2.1,fun i h1 h2 h3=>(hn i (by omega) (by omega) (by omega)).trans (h.same.2.2 i h1 h2 h3)⟩,fun c=>(h.cn c).to hl fun i hi=>hn i (by omega) (by omega) (by omega)⟩
theorem SoftStep.put {m:Mk} {l:List Ob} {a:Nat} (v:Nat) (hO:Objs m.b 272 l m.b.length) (ha:Soft l a):SoftStep m (m.put a v) l l:=by
  have B:=ha.mild hO
  refine⟨?_,⟨[],by simp,by simp⟩,(Eff.put m.b a v).mono fun x A=>A ▸ ha,⟨rfl,rfl,fun _ _ _ _=>rfl⟩,fun c=>c.same rfl⟩
  show Objs (putN m.b a v) 272 l (putN m.b a v).length
  rw[putN_len]
  exact hO.eff (Eff.put m.b a v) (Nat.le_refl _) fun o C x A=>by subst A;exact(B o C).1
theorem hdr_of {o h r:Ly} (e:o=(h ++ r)) (hl:h.length=16):seg o 0 16=h:=by subst e;exact seg_take _ _ hl.symm
theorem SoftStep.obj {m:Mk} {l:List Ob} {o r:Ly} {k s:Nat} (hO:Objs m.b 272 l m.b.length) (hk:k=1∨k=2) (he:o=hdr k s ++ r) (hl:o.length=up8 s) (h16:16≤s) (hs:s<1000000):SoftStep m (m.object o).2 l (l ++ [⟨m.b.length,k,s⟩]):=by
  have B:(m.object o).2.b=m.b ++ o:=rfl
  refine⟨?_,⟨_,rfl,fun x C=>?_⟩,by rw[B];exact Eff.app _ _ _,⟨rfl,rfl,fun i F A G=>?_⟩,fun c=>c.obj o (by omega)⟩
  · have D:=(hO.eff (Eff.app (fun _=>False) m.b o) (Nat.le_refl _) (fun _ _ _ E=>E.elim)).app (o:=⟨m.b.length,k,s⟩) rfl (by simp only;omega) (by simp only;omega) h16 (by simp only;omega) ?_
    · rw[B,List.length_append,hl];exact D
    · have A:=seg_skip (x:=m.b) (y:=o) (p:=m.b.length) (n:=16) (Nat.le_refl _)
      rw[Nat.sub_self,hdr_of he (hdr_len _ _)]at A
      exact A
  · simp at C;subst C;exact⟨hk,Nat.le_refl _⟩
  · simp only[Mk.object]
    rw[num_setN (by omega),num_setN (by omega)];rfl
theorem hangL_pos {slot:Nat}:∀(l:List Known) (n q:Nat),(hangL slot l n q).1=n∧(hangL slot l n q).2=q∨n<(hangL slot l n q).1∧∃k∈l,(hangL slot l n q).2=k.pos
  | [],_,_=>.inl ⟨rfl,rfl⟩
  | k :: r,n,q=>by
    simp only[hangL]
    split
    · rcases hangL_pos (slot:=slot) r (n+1) k.pos with⟨h1,h2⟩|⟨h1,y,hy,h2⟩
      · exact .inr ⟨by omega,k,by simp,h2⟩
      · exact .inr ⟨by omega,y,by simp[hy],h2⟩
    · rcases hangL_pos (slot:=slot) r n q with h|⟨h1,y,hy,h2⟩
      · exact .inl h
      · exact .inr ⟨h1,y,by simp[hy],h2⟩
theorem SoftStep.hang {m:Mk} {l:List Ob} {ks:List Known} {table p slot:Nat} (hO:Objs m.b 272 l m.b.length) (ht:Soft l (table+16*slot)∧Soft l (table+16*slot+8)) (hk:∀k∈ks,Soft l (k.pos+24)):SoftStep m (m.hang ks table p slot).2 l l:=by
  unfold Mk.hang
  have C:=hangL_pos (slot:=slot) ks 0 0
  generalize hangL slot ks 0 0=r at *
  obtain⟨n,q⟩:=r
  simp only at C ⊢
  split
  · have A:=SoftStep.put (m:=m) p hO ht.1
    exact A.trans (SoftStep.put (m:=m.put (table+16*slot) p) p A.objs ht.2)
  · rename_i hn
    have E:Soft l (q+24):=by
      rcases C with⟨A,_⟩|⟨_,k,B,D⟩
      · omega
      · rw[D];exact hk k B
    have A:=SoftStep.put (m:=m) p hO E
    exact A.trans (SoftStep.put (m:=m.put (q+24) p) p A.objs ht.2)
end Go.Wk
