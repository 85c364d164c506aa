/- Part 8 of what the walk of a law stands on: VZa, SortS, SLaid, VTg, VZu, VZv, VZw, OpensS, OpensR, OpensD. No statement is proved here. -/
import Derived.Test.YtfadcpfgenjbeaaGreatNFD7
import Derived.Test.YtfadcpfgenjbeaaGreatRows
set_option linter.unusedSimpArgs false
namespace Go.Proofs.YtfadcpfgenjbeaaGreat
open Go Go.Wk Go.RowKit
set_option linter.unusedVariables false
set_option linter.unusedSimpArgs false
attribute [local irreducible] wpList wpQuiet wpStill wpMix Code.wp Calls bodyPost

theorem newMk_img {c:Cfg} {t:Nat} (h:c.dataSlots≤10∧c.fieldSlots≤10) (h1:1≤c.dataSlots∧1≤c.fieldSlots) (ht:t<18446744073709551616):Img (newMk c t) (objs0 c) []∧(newMk c t).num 9=t:=by
  obtain⟨i,_,_⟩:=newMk_im (t:=0) h h1 (by omega);have B:(newMk c t).num 9=t:=rfl;exact⟨⟨i.c.to rfl rfl rfl rfl rfl ⟨rfl,rfl⟩ (fun c=>c.to rfl fun j C=>by rcases C with rfl|rfl|rfl|rfl<;>rfl),i.n8,by rw[B];exact ht,i.n11,i.n10,by simp,fun k hk=>absurd hk List.not_mem_nil⟩,B⟩
/-- A new journal. -/
theorem nums_num {d:Drf} {m:Mk} {v:Nat} (h:d.h.n=m.h.n.set 1 v ++ [0]) (hl:m.h.n.length=20):d.h.n.length=21∧d.num 1=v∧d.num 20=0∧∀i,i≠1→i<20→d.num i=m.num i:=by
  unfold Drf.num Mk.num;refine⟨by rw[h,List.length_append,List.length_set,hl];rfl,?_,?_,fun i A B=>?_⟩
  · rw[h,List.getD_eq_getElem?_getD,List.getElem?_append_left (by rw[List.length_set];omega),List.getElem?_set_self (by omega)];rfl
  · rw[h,List.getD_eq_getElem?_getD,List.getElem?_append_right (by rw[List.length_set];omega),List.length_set,hl];rfl
  · rw[h,List.getD_eq_getElem?_getD,List.getElem?_append_left (by rw[List.length_set];omega),List.getElem?_set_ne (by omega),List.getD_eq_getElem?_getD]
set_option maxRecDepth 100000 in
theorem Live.start {c:Cfg} {t:Nat} (ok:Cfg.ok c) (h:1≤c.dataSlots∧c.dataSlots≤10∧1≤c.fieldSlots∧c.fieldSlots≤10) (hm:c.most≤40000) (ht:t<18446744073709551616):Live (blankF c t) (newMk c t) 0∧(newMk c t).num 9=t∧(newMk c t).b.length=304+16*c.dataSlots+16*c.fieldSlots:=by
  obtain⟨B,R⟩:=newMk_img (t:=t) ⟨h.2.1,h.2.2.2⟩ ⟨h.1,h.2.2.1⟩ ht;have o:=newMk_ok (c:=c) (t:=t) ⟨h.2.1,h.2.2.2⟩ ⟨h.1,h.2.2.1⟩ hm;have H:=newMk_hs (c:=c) (t:=t) ⟨h.1,h.2.2.1⟩;obtain⟨M,N⟩:=blank_image (t:=t) ok ⟨h.1,by omega,h.2.2.1,by omega⟩
  have C:∃d:Drf,blankF c t=d.hput∧d.b=(newMk c t).b∧d.h.n=(newMk c t).h.n.set 1 ((newMk c t).b.length-272) ++ [0]∧hdD d=hdM (newMk c t)∧d.h.n.getD 3 0=16*c.dataSlots∧d.h.n.getD 5 0=16*c.fieldSlots∧d.h.n.getD 0 0=272:=by
    unfold blankF newMk hdD hdM
    generalize putTableF 4 (List.replicate c.dataSlots ({first:=0,tail:=0}:Slt))=T4
    generalize putTableF 5 (List.replicate c.fieldSlots ({first:=0,tail:=0}:Slt))=T5;exact⟨_,rfl,rfl,rfl,rfl,rfl,rfl,rfl⟩
  obtain⟨d,T,D,U,E,V,W,X⟩:=C;obtain⟨Y,Z,n3,F⟩:=nums_num U H.h20
  have Q:d.h.file.length=16∧d.h.machine.length=16∧d.h.boot.length=16∧d.h.seq.length=16∧d.h.state<256:=by
    have:=E;unfold hdD hdM newMk at this;simp only[Prod.mk.injEq]at this;obtain⟨_,_,G,I,J,K,L,_⟩:=this;rw[G,I,J,K,L];exact⟨ok.1,ok.2.1,by simp,ok.2.2.1,by decide⟩
  have S:Sim 0 d (newMk c t):=⟨by rw[D];exact⟨rfl,fun _ _=>rfl⟩,Y,H.h20,X,by rw[Z,D],V,W,fun i O P=>F i O P.2,(F 8 (by decide) (by decide)),n3,E,rfl,rfl,Q⟩
  have w:at8 (newMk c t).b 176=(newMk c t).num 11:=by
    rw[B.c.main.word,B.n11]
  have a:=newMk_b (c:=c) (t:=t);have A:=Sim.hput S a.1 w;rw[← T]at A;refine⟨⟨⟨_,[],B,rfl⟩,H,o,⟨fun h=>absurd rfl h,fun k hk=>by simp[newMk]at hk⟩,A,by rw[M];rfl⟩,R,by rw[← A.agr.1];exact N⟩
/-- An entry of few short fields is put by the program's writer. -/
theorem Live.put {x:Wri} {m:Mk} {n:Nat} (L:Live x.d m n) (ha:x.archived=false) (hm:x.most=m.c.most) {fs:List Pr} {real mono:Nat} {boot:Ly} (hb:boot.length=16) (hr:real<18446744073709551616∧mono<18446744073709551616) (hl:listF fs=(fs,0)) (h9:m.num 9≤100)
    (hf:1≤fs.length∧fs.length≤4) (hq:∀q∈fs,right q.pb=true∧q.name.length≤8∧q.value.length≤40) (hn:n≤8) (hs:m.b.length+2420≤m.c.most) :
    x.okApp fs real mono boot∧∃(z:Mk) (d:Drf),x.append fs real mono boot=(m.num 9+1,0,{x with d:=d,waiting:=x.waiting+1})∧Live d z (n+1)∧z.num 9=m.num 9+1∧z.c=m.c∧z.b.length≤m.b.length+2420∧x.d.b.length≤d.b.length:=by
  have P:x.d.num 9=m.num 9:=L.sim.num 9 (by decide) (by decide);obtain⟨Q,z,B,V,R⟩:=L.step (e:=x.entE real mono boot) hb hr hl (by omega) ⟨by unfold Wri.entE;rw[P],rfl,rfl,rfl⟩;obtain⟨l,T,F,N⟩:=L.img;obtain⟨O,C,I⟩:=append_small (real:=real) (mono:=mono) (boot:=boot) F L.ok hb hl (by omega) hf.2 (fun q h=>(hq q h).2) (by omega) hs
  have A:¬m.c.most<(x.d.entry fs (x.entE real mono boot)).b.length:=fun h=>by
    rw[if_pos h,C]at B;have:=congrArg (fun y=>y.2.1) B;simp at this
  rw[if_neg A,C]at B;have E:O=z:=(by have:=congrArg (fun y=>y.2.2) B;exact this);obtain⟨D,G,S⟩:=R A;have H:plistF fs=(fs,0):=(by rw[plist_eq,hl]);have J:(x.d.entry fs (x.entE real mono boot)).num 9=m.num 9+1:=(by rw[D.sim.num 9 (by decide) (by decide),G]);refine⟨fun _ _ _=>?_,z,x.d.entry fs (x.entE real mono boot),?_,D,G,S,by rw[← E];exact I,?_⟩
  · rw[H]
    refine⟨Q,⟨hf.1,by simp only;omega⟩,fun q h=>?_⟩;rw[joinF_pay (hq q h).1,payload_len];have:=(hq q h).2;omega
  · unfold Wri.append
    rw[if_neg (by rw[ha];simp),H];simp only;rw[if_neg (by simp),if_neg (by omega),if_neg (by rw[hm];exact A),J]
  · obtain⟨U,g,K,_,M⟩:=append_im F L.ok L.hs.h20 hb hr (by rw[C])
    have:=M.len;rw[L.sim.agr.1,D.sim.agr.1,← E];exact this
/-! ## the directory -/
/-! ## the loop -/
theorem config_most (s:Sq):s.config.1.most=32768:=by
  rcases h1:s.num 5 with⟨a,A⟩;rcases h2:A.num 5 with⟨b,B⟩;rcases h3:B.num 5 with⟨c,C⟩;rcases h4:C.num 7 with⟨d,D⟩;rcases h5:D.num 4 with⟨e,E⟩;rcases h6:E.num 2 with⟨f,F⟩;simp only[Sq.config,h1,h2,h3,h4,h5,h6]
theorem config_all (s:Sq):(1≤s.config.1.dataSlots∧s.config.1.dataSlots≤10∧1≤s.config.1.fieldSlots∧s.config.1.fieldSlots≤10)∧s.config.1.most=32768:=by
  have:=config_ok s;exact⟨⟨this.2.1.1,this.1.1,this.2.1.2,this.1.2⟩,config_most s⟩
theorem config_of {s s':Sq} {c:Cfg} (h:s.config=(c,s')):(1≤c.dataSlots∧c.dataSlots≤10∧1≤c.fieldSlots∧c.fieldSlots≤10)∧c.most=32768:=by
  have:=config_all s;rw[h]at this;exact this
end Go.Proofs.YtfadcpfgenjbeaaGreat
namespace Go.Wk
open Go Go.RowKit Go.Sort
def sortL (l:List (List UInt8)):List (List UInt8):=l.mergeSort fun x y=>decide (x≤y)
theorem sortL_len (l:List (List UInt8)):(sortL l).length=l.length:=by unfold sortL;simp
theorem row_sorted {w:World} {b m n:Nat} {e:TypeId} {cur:List Value} {xs ys:List (List UInt8)} {os:Array Obj} (hB:Blk w b cur e) (hm:m≤cur.length) (hx:cur.take m=xs.map str) (hl:xs.length=m) (hy:ys.length=m) :
    Md [b] w (grow (putRow Go.Proofs.encStr (Sort.ahead w n) b 0 ys.toArray) os)∧Blk (grow (putRow Go.Proofs.encStr (Sort.ahead w n) b 0 ys.toArray) os) b (ys.map str ++ cur.drop m) e:=by
  have E:=hB.lt
  refine⟨⟨rfl,rfl,rfl,?_,?_⟩,?_⟩
  · simp[grow,putRow,mapBlock,Sort.ahead]
  · intro k hk B
    simp only[List.mem_singleton]at B
    unfold grow putRow mapBlock
    simp only[Sort.ahead]
    rw[Array.getElem?_append_left (by simpa using hk),Array.getElem?_modify,if_neg (fun h=>B h.symm)]
  · have C:w.heap[b]? = some (.cells cur.toArray e (0,0)):=hB
    have D:(grow (putRow Go.Proofs.encStr (Sort.ahead w n) b 0 ys.toArray) os).heap[b]? = some (.cells (putCells Go.Proofs.encStr 0 ys.toArray cur.toArray) e (0,0)):=by
      unfold grow putRow mapBlock
      simp only[Sort.ahead]
      rw[Array.getElem?_append_left (by simpa using E),Array.getElem?_modify,if_pos rfl,C]
      rfl
    unfold Blk
    rw[D]
    congr 2
    apply Array.ext'
    apply List.ext_getElem?
    intro t
    unfold putCells
    rw[Array.getElem?_toList,Array.getElem?_mapIdx,List.getElem?_toArray]
    simp only[List.size_toArray,Nat.zero_le,true_and,Nat.zero_add,Nat.sub_zero]
    by_cases ht:t<m
    · have F:t<cur.length:=by omega
      have A:t<ys.length:=by omega
      rw[List.getElem?_eq_getElem F,Option.map_some,if_pos (by omega),List.getElem?_append_left (by simpa using A),List.getElem?_map,List.getElem?_eq_getElem A,Option.map_some]
      rw[getElem!_pos _ t (by simpa using A)]
      rfl
    · rw[List.getElem?_append_right (by simp;omega),List.getElem?_drop,List.length_map,hy,show m+(t-m)=t by omega]
      cases cur[t]? with
      | none=>rfl
      | some u=>rw[Option.map_some,if_neg (by omega)]
theorem sortS {P:Program} {ρ:Shelf.Ren} (L:Go.Proofs.SlLaysM.n6 P ρ) {w:World} {Q lo:Nat→Prop} {e:TypeId} {v:Value} {xs:List (List UInt8)} (h:Ow tStr e lo w Q v xs) (hl:xs.length≤1000000) :
    Calls P (ρ.f 6) #[v] w fun en w'=>en = .returned (.tuple #[])∧Md (vblock v).toList w w'∧Ow tStr e lo w' Q v (sortL xs):=by
  obtain⟨⟨T,E,H⟩,I⟩:=h
  obtain⟨rfl,_⟩:=els_one_eq H
  rcases Nat.eq_zero_or_pos xs.length with D|D
  · have G:xs=[]:=List.eq_nil_of_length_eq_zero D
    subst G
    obtain⟨a,cap,rfl,_⟩:=own_cells E
    refine(Go.Proofs.AnyM.slices_Sort_string_none L a cap w).mono ?_
    rintro en w' ⟨rfl,rfl⟩
    exact⟨rfl,(Md.refl [] _).mono (by simp),by rw[show sortL []=[]from by simp[sortL]];exact⟨⟨_,E,H⟩,I⟩⟩
  · obtain⟨b,cap,A,rfl,B,K,M,N,C⟩:=E.blk D
    have G:tStr.n=1:=rfl
    rw[G,Nat.mul_one]at N C
    refine(Go.Proofs.AnyM.slices_Sort_string L b 0 cap xs w ?_ B.lt (by omega)).mono ?_
    · intro j R
      have hj':j<xs.length:=by simpa using R
      rw[Nat.zero_add,B.cell,B.frozen]
      refine⟨?_,rfl⟩
      have O:(A.take xs.length)[j]? = A[j]?:=by rw[List.getElem?_take,if_pos hj']
      rw[← O,C,List.getElem?_map,List.getElem?_eq_getElem hj',Option.map_some,getElem!_pos _ j (by simpa using hj')]
      rfl
    · rintro en w' ⟨rfl,n,os,rfl⟩
      obtain⟨S,F⟩:=row_sorted (n:=n) (os:=os) (ys:=sortL xs) B (by omega) C rfl (sortL_len xs)
      refine⟨rfl,S,⟨⟨(sortL xs).map str,?_,els_one fun _ _=>trivial⟩,I⟩⟩
      have J:=Own.of_blk (sz:=1) (m:=xs.length) (cap:=cap) F K M (by rw[List.length_append,List.length_map,List.length_drop,sortL_len];omega)
      rw[Nat.mul_one,List.take_append_of_le_length (by rw[List.length_map,sortL_len];omega),List.take_of_length_le (by rw[List.length_map,sortL_len];omega)]at J
      rw[sortL_len]
      exact J
end Go.Wk
namespace Go.Proofs.YtfadcpfgenjbeaaGreat
open Go Go.Shelf
def sortStr_ren:Go.Shelf.Ren:=⟨fun|6=>93|8=>142|9=>141|19=>193|20=>194|21=>184|22=>185|23=>186|24=>187|25=>188|26=>189|27=>190|28=>191|29=>192|36=>232|31=>233|32=>234|37=>235|38=>236|39=>204|41=>248|n=>n,fun|27=>88|29=>9|3=>3|32=>72|26=>88|0=>0|44=>103|46=>23|4=>4|36=>268|35=>267|41=>273|5=>5|9=>9|53=>306|57=>309|63=>323|64=>65|n=>n,fun|n=>n⟩
theorem sortStr:Go.Proofs.SlLaysM.n6 Tryz.prog sortStr_ren:={
  mixed:=by kernel_rfl
  f6:=⟨Tryz.f93.name,by decide,Tryz.func93.trans (congrArg some (by kernel_rfl))⟩
  f8:=Tryz.func142.trans (congrArg some (by kernel_rfl))
  f9:=⟨Tryz.f141.name,by decide,Tryz.func141.trans (congrArg some (by kernel_rfl))⟩
  f19:=Tryz.func193.trans (congrArg some (by kernel_rfl))
  f20:=Tryz.func194.trans (congrArg some (by kernel_rfl))
  f21:=⟨Tryz.f184.name,by decide,Tryz.func184.trans (congrArg some (by kernel_rfl))⟩
  f22:=⟨Tryz.f185.name,by decide,Tryz.func185.trans (congrArg some (by kernel_rfl))⟩
  f23:=⟨Tryz.f186.name,by decide,Tryz.func186.trans (congrArg some (by kernel_rfl))⟩
  f24:=⟨Tryz.f187.name,by decide,Tryz.func187.trans (congrArg some (by kernel_rfl))⟩
  f25:=⟨Tryz.f188.name,by decide,Tryz.func188.trans (congrArg some (by kernel_rfl))⟩
  f26:=⟨Tryz.f189.name,by decide,Tryz.func189.trans (congrArg some (by kernel_rfl))⟩
  f27:=⟨Tryz.f190.name,by decide,Tryz.func190.trans (congrArg some (by kernel_rfl))⟩
  f28:=⟨Tryz.f191.name,by decide,Tryz.func191.trans (congrArg some (by kernel_rfl))⟩
  f29:=⟨Tryz.f192.name,by decide,Tryz.func192.trans (congrArg some (by kernel_rfl))⟩
  f31:=Tryz.func233.trans (congrArg some (by kernel_rfl))
  f32:=Tryz.func234.trans (congrArg some (by kernel_rfl))
  f36:=⟨Tryz.f232.name,by decide,Tryz.func232.trans (congrArg some (by kernel_rfl))⟩
  f37:=⟨Tryz.f235.name,by decide,Tryz.func235.trans (congrArg some (by kernel_rfl))⟩
  f38:=⟨Tryz.f236.name,by decide,Tryz.func236.trans (congrArg some (by kernel_rfl))⟩
  f39:=⟨Tryz.f204.name,by decide,Tryz.func204.trans (congrArg some (by kernel_rfl))⟩
  f41:=⟨Tryz.f248.name,by decide,Tryz.func248.trans (congrArg some (by kernel_rfl))⟩
  t0:=Tryz.underlying0
  a0:=Tryz.isAgg0
  z0:=Tryz.sizeOf0
  v0:=Tryz.zeroValue0
  t3:=Tryz.underlying3
  a3:=Tryz.isAgg3
  z3:=Tryz.sizeOf3
  v3:=Tryz.zeroValue3
  t4:=Tryz.underlying4
  a4:=Tryz.isAgg4
  z4:=Tryz.sizeOf4
  v4:=Tryz.zeroValue4
  t5:=Tryz.underlying5
  a5:=Tryz.isAgg5
  z5:=Tryz.sizeOf5
  v5:=Tryz.zeroValue5
  t9:=Tryz.underlying9
  a9:=Tryz.isAgg9
  z9:=Tryz.sizeOf9
  v9:=Tryz.zeroValue9
  t26:=Tryz.underlying88
  a26:=Tryz.isAgg88
  z26:=Tryz.sizeOf88
  v26:=Tryz.zeroValue88
  t27:=Tryz.underlying88
  a27:=Tryz.isAgg88
  z27:=Tryz.sizeOf88
  v27:=Tryz.zeroValue88
  t29:=Tryz.underlying9
  a29:=Tryz.isAgg9
  z29:=Tryz.sizeOf9
  v29:=Tryz.zeroValue9
  t32:=Tryz.underlying72
  a32:=Tryz.isAgg72
  z32:=Tryz.sizeOf72
  v32:=Tryz.zeroValue72
  t35:=Tryz.underlying267
  a35:=Tryz.isAgg267
  z35:=Tryz.sizeOf267
  v35:=Tryz.zeroValue267
  t36:=Tryz.underlying268
  a36:=Tryz.isAgg268
  z36:=Tryz.sizeOf268
  v36:=Tryz.zeroValue268
  t41:=Tryz.underlying273
  a41:=Tryz.isAgg273
  z41:=Tryz.sizeOf273
  v41:=Tryz.zeroValue273
  t44:=Tryz.underlying103
  a44:=Tryz.isAgg103
  z44:=Tryz.sizeOf103
  v44:=Tryz.zeroValue103
  t46:=Tryz.underlying23
  a46:=Tryz.isAgg23
  z46:=Tryz.sizeOf23
  v46:=Tryz.zeroValue23
  t53:=Tryz.underlying306
  a53:=Tryz.isAgg306
  z53:=Tryz.sizeOf306
  v53:=Tryz.zeroValue306
  t57:=Tryz.underlying309
  a57:=Tryz.isAgg309
  z57:=Tryz.sizeOf309
  v57:=Tryz.zeroValue309
  t63:=Tryz.underlying323
  a63:=Tryz.isAgg323
  z63:=Tryz.sizeOf323
  v63:=Tryz.zeroValue323
  t64:=Tryz.underlying65
  a64:=Tryz.isAgg65
  z64:=Tryz.sizeOf65
  v64:=Tryz.zeroValue65}
end Go.Proofs.YtfadcpfgenjbeaaGreat
namespace Go.Proofs.YtfadcpfgenjbeaaGreat
open Go Go.Wk Go.RowKit
set_option linter.unusedVariables false
set_option linter.unusedSimpArgs false
attribute [local irreducible] wpList wpQuiet wpStill wpMix Code.wp Calls bodyPost
theorem fn93:isFn Tryz.prog 93=true:=by kernel_rfl

def nmF (off:Bool) (l:List SNd):List (List UInt8):=if off=true then[]else(l.filter (·.no.there)).map (·.no.nm)
def namesD (f:SFs):List (List UInt8):=sortL (nmF f.off f.nodes)
theorem nmF_end {off:Bool} {l:List SNd} {i:Nat} (h:¬i<l.length):nmF off (l.drop i)=[]:=by rw[List.drop_of_length_le (by omega)];unfold nmF;split<;>rfl
theorem nmF_yes {off:Bool} {l:List SNd} {i:Nat} {x:SNd} (h:l[i]? = some x) (h1:x.no.there=true) (h2:off=false):nmF off (l.drop i)=x.no.nm :: nmF off (l.drop (i+1)):=by
  unfold nmF;rw[h2,findN_get h,List.filter_cons,if_pos h1];rfl
theorem nmF_no {off:Bool} {l:List SNd} {i:Nat} {x:SNd} (h:l[i]? = some x) (h1:¬(x.no.there=true∧off=false)):nmF off (l.drop i)=nmF off (l.drop (i+1)):=by
  unfold nmF
  cases off with
  | true=>rfl
  | false =>
    simp only[Bool.false_eq_true,if_false];rw[findN_get h,List.filter_cons,if_neg (by simpa using h1)]
theorem fNames_any {w:World} {Q:Nat→Prop} (uQ:Up w Q) {b0:Nat} {v0_0:Value} {v0_1:Value} (f:SFs) (h0:Blk w b0 (SFs.cells f v0_0 v0_1) 97) (n0:¬Q b0) (a0_0:SFs.ok f) (a0_1:Ow tNd 143 (fun _=>True) w Q v0_0 f.nodes) (a0_2:Ow tSCh 153 (fun _=>True) w Q v0_1 f.pend) (p0:Nds 148 203 (fun _=>True) w Q f.nodes) (p1:f.nodes.length≤1000000) :
    Calls Tryz.prog 46 #[.pointer (some ⟨b0,0,none⟩)] w fun en w'=>∃u0:Value,∃r0:List (List UInt8),en = .returned (u0)∧Md [] w w'∧Ls tStr w' Q u0 r0∧namesD f=r0:=by
  have J:=p0;have Ln:=a0_1.read.len63;have E:=n0;have M:=Md.refl [] w;have Af:=uQ;have W:∀b,Q b→Q b:=fun _ h=>h;have H:∀b,Q b→b<w.heap.size→Q b:=fun _ h _=>h;refine enter (n:=37) Tryz.func46 rfl rfl rfl ?_;intro B;refine ns (asg rfl (nt (ns (asg rfl (nt (c_seq (ns (mv rfl (sn rfl (sf rfl off97_3 (sl (u:=v0_0) rfl one94 h0 rfl (sL rfl u94 a0_1.shp (mv rfl ?_)))))))))))));refine nt (c_block ?_);obtain⟨r0,P⟩:∃r,nmF f.off f.nodes=r:=⟨_,rfl⟩;have p:=P
  try simp only[List.nil_append]at P
  refine loop3 (fun(F:Value) (G:List (List UInt8)) (i:Nat)=>[(3,F),(11,(.int .i64 i)),(0,(.pointer (some ⟨b0,0,none⟩))),(9,v0_0),(10,(.int .i64 f.nodes.length))]) (fun(F:Value) (G:List (List UInt8)) (i:Nat) w'=>∃Q':Nat→Prop,(∀b,Q' b→Q b)∧(∀b,Q b→b<w.heap.size→Q' b)∧Up w' Q'∧Md [] w w'∧Ow tStr 9 (Fsh [] w) w' Q' F G∧Blk w' b0 (SFs.cells f v0_0 v0_1) 97∧Ow tNd 143 (fun _=>True) w' Q' v0_0 f.nodes∧Ow tSCh 153 (fun _=>True) w' Q' v0_1 f.pend∧Nds 148 203 (fun _=>True) w' Q' f.nodes∧¬Q' b0∧i≤f.nodes.length∧G.length≤i∧G ++ nmF f.off (f.nodes.drop i)=r0) (fun(F:Value) (G:List (List UInt8)) (i:Nat)=>f.nodes.length-i) (x0:=(.slice none 0 0)) (x1:=([]:List (List UInt8))) (x2:=0) ?_ ?_ ?_
  · exact⟨rfl,rfl,rfl,rfl,rfl,tV⟩
  · exact⟨Q,W,H,uQ,M,(Ow.nil _ _ _ _ _),h0,a0_1,a0_2,J,E,(by omega),(by simp),(by have N:=P;exact N)⟩
  · clear M uQ W H E a0_1 a0_2 h0 J
    rintro F G i B w1 ⟨Q2,W,H,uQ,M,A,h0,a0_1,a0_2,J,E,Ai,Aj,V⟩;refine ns (st _ (r_ltN (a:=i) (b:=f.nodes.length) rfl rfl) (nt (c_seq ?_)));refine c_if rfl (fun X=>?_) (fun X=>?_)
    · (have g:=dq X);refine c_skip (c_then (c_seq (c_block (ns (st _ (r_indexN (i:=i) 1 rfl rfl u94 el143 a0_1.shp (by omega)) ?_)))));obtain⟨Z,L⟩:=getE (l:=f.nodes) (i:=i) (by omega);obtain⟨c4,Ad,S⟩:=a0_1.get L;obtain⟨rfl,_⟩:=Ad;replace S:At _ v0_0 (i*1) [(.pointer (some ⟨Z.id,0,none⟩))]:=S;refine st _ ((r_loadE (kk:=i*1) 0 rfl rfl one143 S rfl).to (b:=(.pointer (some ⟨Z.id,0,none⟩))) rfl) (asg rfl (st_nil ?_));clear S;refine c_then (ns (mv rfl (sn rfl (sf rfl off148_1 (st _ ((r_loadBlk rfl one4 (J.get (List.mem_of_getElem? L)).1 rfl).to (b:=(.bool Z.no.there)) rfl) (mv rfl ?_))))));refine part_n (t:=19) rfl (fun D=>?_) (fun D=>?_)
      · (have j:=D);refine sg D (r_move rfl) (sg D (r_nil rfl) (sg D (r_field rfl off97_2) (sg D ((r_loadBlk rfl one4 h0 rfl).to (b:=(.bool f.off)) rfl) (sg D (r_not rfl) (st _ (r_pick_t rfl D rfl) (nt ?_))))));refine c_if rfl (fun Y=>?_) (fun Y=>?_)
        · (have o:=bnt Y);refine c_region (mv rfl (mv rfl (sn rfl (sf rfl off148_0 (st _ ((r_loadBlk rfl one9 (J.get (List.mem_of_getElem? L)).1 rfl).to (b:=(str Z.no.nm)) rfl) (st_buildSliceG [[(str Z.no.nm)]] u88 elT9 (by decide) (by decide) rfl rfl ⟨rfl,tV⟩ ⟨rfl,tV⟩ rfl (by decide) ?_))))));intro Ag w5 d Ak I O;have z:=uQ _ d;replace A:=A.md0 I;replace h0:=h0.md0 I;replace a0_1:=a0_1.md0 I;replace a0_2:=a0_2.md0 I;replace J:=J.md0 I;replace uQ:=uQ.md I;replace M:=M.step0 I;replace O:=Ls.of_blk (m:=1) (R:=Q2) (T:=tStr) (xs:=[Z.no.nm]) O ⟨_,_,rfl,⟨rfl,tV⟩,rfl⟩ rfl (by decide) z;refine st_ap (sz:=1) (by rfl) u88 elT9 rfl rfl A O (fun _ h _=>h) uQ (Fsh.new M) (by(simp<;>omega)) (by(simp<;>omega)) ?_;intro v7 w8 Q9 x c y Ac I hS _ Ae;have C:=A;clear A;replace E:=fun N=>E (c _ N);replace a0_1:=a0_1.sub x c;replace a0_2:=a0_2.sub x c;replace J:=J.sub x c;replace W:=fun b U=>W b (c b U);replace H:=fun b U hl=>x b (H b U hl) (ly hl M.size);replace h0:=h0.md I (apart_ow C h0 (by decide));replace a0_1:=a0_1.md I (apart_oo C a0_1 (by decide)) hS;replace a0_2:=a0_2.md I (apart_oo C a0_2 (by decide)) hS;replace J:=J.md I (J.apO C (by decide) (by decide)) hS;replace uQ:=uQ.md I;replace M:=M.stepO I (fun b U=>(C.2 b U).1);replace uQ:=y;clear y x c hS Ae;refine asg rfl (st_nil (n_block (c_then (c_region (st _ (r_addN (a:=i) (b:=1) 9223372036854775808 rfl rfl rfl (by omega)) (mv rfl (nt ?_)))))));refine next3 (x0:=v7) (x1:=(G ++ ([Z.no.nm]))) (x2:=(i+1)) (by omega) ⟨rfl,(fitI rfl (by omega)),rfl,rfl,rfl,tV⟩ ⟨Q9,W,H,uQ,M,Ac,h0,a0_1,a0_2,J,E,(by omega),(by simp;omega),(by have N:=V;rw[nmF_yes L (by simp_all) (by simp_all)]at N;rw[List.append_assoc];exact N)⟩
        · (have o:=bnf Y);refine c_skip (n_block (c_then (c_region (st _ (r_addN (a:=i) (b:=1) 9223372036854775808 rfl rfl rfl (by omega)) (mv rfl (nt ?_))))));refine next3 (x0:=F) (x1:=G) (x2:=(i+1)) (by omega) ⟨rfl,(fitI rfl (by omega)),rfl,rfl,rfl,tV⟩ ⟨Q2,W,H,uQ,M,A,h0,a0_1,a0_2,J,E,(by omega),(by omega),(by have N:=V;rw[nmF_no L (by simp_all)]at N;exact N)⟩
      · (have j:=D);refine sk D (sk D (sk D (sk D (sk D (st _ (r_pick_f rfl D rfl) (nt (c_if_f rfl rfl (c_skip (n_block (c_then (c_region (st _ (r_addN (a:=i) (b:=1) 9223372036854775808 rfl rfl rfl (by omega)) (mv rfl ?_)))))))))))));refine nt ?_;refine next3 (x0:=F) (x1:=G) (x2:=(i+1)) (by omega) ⟨rfl,(fitI rfl (by omega)),rfl,rfl,rfl,tV⟩ ⟨Q2,W,H,uQ,M,A,h0,a0_1,a0_2,J,E,(by omega),(by omega),(by have N:=V;rw[nmF_no L (by simp_all)]at N;exact N)⟩
    · (have g:=dF X);refine c_exit (x_then (x_then (x_hit (c_then (ns (mv rfl (st_call fn93 rfl (sortS sortStr A (by omega)) ?_)))))));rintro en Ao ⟨rfl,I,K⟩;refine⟨_,rfl,?_⟩;have C:=A;replace A:=K;clear K;replace M:=M.stepO I (fun b U=>(C.2 b U).1);clear C;refine nt (ns (mv rfl (asg rfl (nt (c_ret ?_)))));exact ret1L (v:=F) trivial rfl ⟨rfl,tV⟩ ⟨_,(sortL G),rfl,M,(A.ls (fun b U=>W b U) (Fsh.up Af)),(by have e:=p.trans V.symm;rw[nmF_end (by omega),List.append_nil]at e;unfold namesD;rw[e])⟩

/-! ## WriterFull: the directory -/
/-- Our file (B), and what takes the room away: the last one has k bytes; two: another one is full. -/
structure FuW (f:SFs) (two:Bool) (k:Nat) (B:Ly):Prop where
  off:f.off=false
  fuse:f.fuse = -1
  room:f.room=65536
  nodes:∃y z:SNd,(y.no.there=true∧y.no.nm=[120]∧y.fl.b.length=k)∧(z.no.there=true∧z.no.nm=[106]∧z.fl.b=B) ∧
    (two=false∧f.nodes=[y,z]∨two=true∧∃u:SNd,(u.no.there=true∧u.no.nm=[121,99]∧u.fl.b.length=32768)∧f.nodes=[u,z,y])
  le:B.length+k+(if two=true then 32768 else 0)≤65536
theorem FuW.tot {f:SFs} {two:Bool} {k:Nat} {B:Ly} (h:FuW f two k B):(totF f.nodes).1≤3∧(totF f.nodes).2=B.length+k+(if two=true then 32768 else 0):=by
  obtain⟨y,z,⟨C,I,D⟩,⟨E,J,F⟩,⟨rfl,A⟩|⟨rfl,u,⟨G,H,u3⟩,A⟩⟩:=h.nodes
  · rw[A];simp[totF,C,E,D,F] <;> omega
  · rw[A];simp[totF,C,E,G,D,F,u3] <;> omega
theorem FuW.free {f:SFs} {two:Bool} {k:Nat} {B:Ly} (h:FuW f two k B):freeF f=((65536-(B.length+k+(if two=true then 32768 else 0)):Nat):Int):=by
  have A:=h.le;unfold freeF;rw[h.off,h.room,h.tot.2];simp only[Bool.false_eq_true,if_false];split <;> omega
theorem FuW.hit {f:SFs} {two:Bool} {k:Nat} {B:Ly} (h:FuW f two k B):(∃y,findN f.nodes [120]=some y∧y.fl.b.length=k)∧∃z,findN f.nodes [106]=some z∧z.fl.b=B:=by
  obtain⟨y,z,⟨F,C,G⟩,⟨H,D,I⟩,⟨rfl,A⟩|⟨rfl,u,⟨J,E,u3⟩,A⟩⟩:=h.nodes
  · exact⟨⟨y,by rw[A,findN,if_pos ⟨F,C⟩],G⟩,z,by rw[A,findN,if_neg (by rw[C];simp),findN,if_pos ⟨H,D⟩],I⟩
  · exact⟨⟨y,by rw[A,findN,if_neg (by rw[E];simp),findN,if_neg (by rw[D];simp),findN,if_pos ⟨F,C⟩],G⟩,z,by rw[A,findN,if_neg (by rw[E];simp),findN,if_pos ⟨H,D⟩],I⟩
theorem FuW.len {f:SFs} {two:Bool} {k:Nat} {B:Ly} (h:FuW f two k B):lenF f.off f.nodes [120]=(k,0)∧allF f.off f.nodes [106]=(B,0):=by
  obtain⟨⟨y,A,C⟩,z,D,E⟩:=h.hit;exact⟨lenF_in (gtF_hit h.off (by decide) A) C,allF_in (gtF_hit h.off (by decide) D) E⟩
theorem FuW.names {f:SFs} {k:Nat} {B:Ly} (h:FuW f false k B):(namesD f).length=2:=by
  obtain⟨y,z,⟨D,_⟩,⟨E,_⟩,⟨_,C⟩|⟨A,_⟩⟩:=h.nodes
  · unfold namesD nmF;rw[sortL_len,h.off,C];simp[D,E]
  · cases A
theorem FuW.start {f f1 f2:SFs} {B:Ly} {i j a b q r1 r2:Nat} (hf:f={room:=65536,fuse:=-1,off:=false,nodes:=[],pend:=[]}) (e1:makeR f [120] i j=(r1,f1)) (e2:createR f1 [106] B a b q=(r2,f2)) (nd:(f2.nodes.map (·.id)).Nodup) (hB:1≤B.length∧B.length≤32768):r1=0∧r2=0∧FuW f2 false 0 B:=by
  subst hf;rw[make_free rfl rfl (by decide) rfl (by decide)]at e1;obtain⟨D,E⟩:=Prod.mk.inj e1;rw[← E]at e2;have c:=create_fs e2 rfl rfl (by decide) nd hB;obtain⟨C,z,F,G,H,A⟩:=(c.2 (by unfold freeF;simp[totF];omega)).2 (by simp[findN]) (by simp[totF]);exact⟨D.symm,C,by rw[A],by rw[A],by rw[A],⟨⟨i,⟨[120],true,j⟩,⟨[],[]⟩⟩,z,⟨rfl,rfl,rfl⟩,⟨G,F,by rw[H]⟩,.inl ⟨rfl,by rw[A];rfl⟩⟩,by simp only[Bool.false_eq_true,if_false];omega⟩
theorem upd_y {l:List SNd} {y z:SNd} {g:SNd→SNd} (nd:(l.map (·.id)).Nodup):(l=[y,z]→updN l y.id g=[g y,z]∧updN l z.id g=[y,g z])∧∀u,l=[u,z,y]→updN l y.id g=[u,z,g y]∧updN l z.id g=[u,g z,y]:=by
  refine⟨fun e=>?_,fun u e=>?_⟩
  · subst e
    simp only[List.map_cons,List.map_nil,List.nodup_cons,List.mem_singleton,List.not_mem_nil,not_false_eq_true,List.nodup_nil,and_true]at nd;have A:¬z.id=y.id:=fun h=>nd h.symm;simp[updN,nd,A]
  · subst e
    simp only[List.map_cons,List.map_nil,List.nodup_cons,List.mem_cons,List.mem_singleton,List.not_mem_nil,or_false,not_or,not_false_eq_true,List.nodup_nil,and_true]at nd;obtain⟨⟨B,A⟩,n3⟩:=nd;have C:¬y.id=z.id:=fun h=>n3 h.symm;simp[updN,B,A,n3,C]
theorem FuW.write {f f':SFs} {two:Bool} {k r j:Nat} {B b:Ly} (h:FuW f two k B) (nd:(f.nodes.map (·.id)).Nodup) (e:writeR f [120] (k:Int) b j=(r,f')) (hb:k+b.length≤32768) (hf:(b.length:Int)≤freeF f):r=0∧FuW f' two (k+b.length) B:=by
  have K:=h.tot;have R:=h.le;rw[h.free]at hf;obtain⟨y,z,⟨D,E,Q⟩,G,F⟩:=h.nodes
  have M:findN f.nodes [120]=some y:=by
    rcases F with⟨_,A⟩|⟨_,u,⟨S,P,u3⟩,A⟩
    · rw[A,findN,if_pos ⟨D,E⟩]
    · rw[A,findN,if_neg (by rw[P];simp),findN,if_neg (by rw[G.2.1];simp),findN,if_pos ⟨D,E⟩]
  have w:=write_ok (j:=j) (b:=b) h.off h.fuse (s:=[120]) (by decide) M (p:=k) hb (fun _=>by rw[K.2,h.room,Q];omega);rw[w]at e;obtain⟨H,C⟩:=Prod.mk.inj e
  have I:(if b.length=0 then y.fl.b else writeF y.fl.b k b).length=k+b.length:=by
    split
    · omega
    · rw[writeF_len];omega
  generalize hg:(fun z:SNd=>({z with no:={z.no with fid:=j},fl:={y.fl with b:=if b.length=0 then y.fl.b else writeF y.fl.b k b}}:SNd))=g at C;have J:(g y).no.there=true∧(g y).no.nm=[120]∧(g y).fl.b.length=k+b.length:=(by rw[← hg];exact⟨D,E,I⟩);obtain⟨N,O⟩:=upd_y (l:=f.nodes) (y:=y) (z:=z) (g:=g) nd;refine⟨H.symm,by rw[← C];exact h.off,by rw[← C];exact h.fuse,by rw[← C];exact h.room,⟨g y,z,J,G,?_⟩,by omega⟩;rcases F with⟨q,A⟩|⟨q,u,L,A⟩
  · exact .inl ⟨q,by rw[← C];exact(N A).1⟩
  · exact .inr ⟨q,u,L,by rw[← C];exact(O u A).1⟩
theorem FuW.move {f f1 f2:SFs} {k r1 r2:Nat} {B:Ly} (h:FuW f false k B) (hk:k=32768) (nd:(f.nodes.map (·.id)).Nodup) (e1:renameR f [120] [121,99]=(r1,f1)):r1=0∧∀i j,makeR f1 [120] i j=(r2,f2)→r2=0∧FuW f2 true 0 B:=by
  have R:=h.le;obtain⟨y,z,⟨L,M,U⟩,⟨N,H,V⟩,⟨_,F⟩|⟨Q,_⟩⟩:=h.nodes
  · have S:mayF f.off [[120],[121,99]]=0:=by rw[h.off];decide
    rw[ren_0 S rfl (x:=y) (by rw[F,findN,if_pos ⟨L,M⟩]) (burn_free h.fuse) rfl (o:=none) (by rw[F,findN,if_neg (by rw[M];simp),findN,if_neg (by rw[H];simp)];rfl) (by simp) rfl]at e1;obtain⟨O,C⟩:=Prod.mk.inj e1
    generalize hg:(fun z:SNd=>({z with no:={z.no with nm:=[121,99]}}:SNd))=g at C;have E:(g y).no.there=true∧(g y).no.nm=[121,99]∧(g y).fl.b.length=32768:=(by rw[← hg];exact⟨L,rfl,U.trans hk⟩);rw[((upd_y (l:=f.nodes) (y:=y) (z:=z) (g:=g) nd).1 F).1]at C;have D:f1.nodes=[g y,z]∧f1.off=false∧f1.fuse = -1∧f1.room=65536:=(by rw[← C];exact⟨rfl,h.off,h.fuse,h.room⟩);obtain⟨G,J,K,T⟩:=D;refine⟨O.symm,fun i j I=>?_⟩;rw[make_free J K (by decide) (by rw[G,findN,if_neg (by rw[E.2.1];simp),findN,if_neg (by rw[H];simp)];rfl) (by rw[G];simp[totF,E.1,N])]at I;obtain⟨P,A⟩:=Prod.mk.inj I;simp only[Bool.false_eq_true,if_false]at R;exact⟨P.symm,by rw[← A];exact J,by rw[← A];exact K,by rw[← A];exact T,⟨⟨i,⟨[120],true,j⟩,⟨[],[]⟩⟩,z,⟨rfl,rfl,rfl⟩,⟨N,H,V⟩,.inr ⟨rfl,g y,E,by rw[← A];simp only[G];rfl⟩⟩,by simp only[if_true];omega⟩
  · cases Q
theorem FuW.save {f f':SFs} {two:Bool} {k r i j:Nat} {B x:Ly} (h:FuW f two k B) (nd:(f.nodes.map (·.id)).Nodup) (e:saveR false f [106] x i j=(r,f')) (hx:1≤x.length∧x.length≤32768) (hl:B.length≤x.length) :
    (freeF f<(x.length:Int)-(B.length:Int)→r=15∧f'=f)∧((x.length:Int)-(B.length:Int)≤freeF f→r=0∧FuW f' two k x):=by
  have D:=h.free;have M:=h.le;obtain⟨y,z,I,⟨E,F,L⟩,H⟩:=h.nodes
  have O:findN f.nodes [106]=some z:=by
    rcases H with⟨_,A⟩|⟨_,u,⟨T,S,u3⟩,A⟩
    · rw[A,findN,if_neg (by rw[I.2.1];simp),findN,if_pos ⟨E,F⟩]
    · rw[A,findN,if_neg (by rw[S];simp),findN,if_pos ⟨E,F⟩]
  obtain⟨J,K⟩:=save_fs e h.off h.fuse (by decide) nd O hx (by rw[L];exact hl);rw[L]at J K;refine⟨J,fun G=>?_⟩;obtain⟨R,C⟩:=K G
  generalize hg:(fun y:SNd=>({y with no:={y.no with fid:=j},fl:=⟨x,x⟩}:SNd))=g at C;obtain⟨P,Q⟩:=upd_y (l:=f.nodes) (y:=y) (z:=z) (g:=g) nd;rw[D]at G;refine⟨R,by rw[C];exact h.off,by rw[C];exact h.fuse,by rw[C];exact h.room,⟨y,g z,I,by rw[← hg];exact⟨E,F,rfl⟩,?_⟩,by omega⟩;rcases H with⟨q,A⟩|⟨q,u,N,A⟩
  · exact .inl ⟨q,by rw[C];exact(P A).2⟩
  · exact .inr ⟨q,u,N,by rw[C];exact(Q u A).2⟩
/-- Behind the drop of what took the room. -/
def FuZ (f:SFs) (B:Ly):Prop:=f.off=false∧f.fuse = -1∧∃z,findN f.nodes [106]=some z∧z.fl.b=B
theorem FuW.drop {f f':SFs} {two:Bool} {k r:Nat} {B:Ly} (h:FuW f two k B) (nd:(f.nodes.map (·.id)).Nodup) (e:dropR f [120]=(r,f')):r=0∧FuZ f' B:=by
  obtain⟨y,z,⟨G,H,P⟩,⟨I,E,O⟩,F⟩:=h.nodes
  have K:findN f.nodes [120]=some y:=by
    rcases F with⟨_,A⟩|⟨_,u,⟨N,D,u3⟩,A⟩
    · rw[A,findN,if_pos ⟨G,H⟩]
    · rw[A,findN,if_neg (by rw[D];simp),findN,if_neg (by rw[E];simp),findN,if_pos ⟨G,H⟩]
  rw[drop_0 (gtF_hit h.off (by decide) K) (burn_free h.fuse) rfl]at e;obtain⟨J,C⟩:=Prod.mk.inj e;obtain⟨L,M⟩:=upd_y (l:=f.nodes) (y:=y) (z:=z) (g:=fun z:SNd=>({z with no:={z.no with there:=false}}:SNd)) nd;refine⟨J.symm,by rw[← C];exact h.off,by rw[← C];exact h.fuse,z,?_,O⟩;rw[← C];rcases F with⟨_,A⟩|⟨_,u,⟨N,D,u3⟩,A⟩
  · simp only[(L A).1];rw[findN,if_neg (by simp),findN,if_pos ⟨I,E⟩]
  · simp only[(M u A).1];rw[findN,if_neg (by rw[D];simp),findN,if_pos ⟨I,E⟩]
theorem FuZ.save {f f':SFs} {r i j:Nat} {B x:Ly} (h:FuZ f B) (nd:(f.nodes.map (·.id)).Nodup) (e:saveR false f [106] x i j=(r,f')) (hx:1≤x.length∧x.length≤32768) (hl:B.length≤x.length):(x.length:Int)-(B.length:Int)≤freeF f→r=0:=by
  obtain⟨C,D,z,F,A⟩:=h;intro E;exact((save_fs e C D (by decide) nd F hx (by rw[A];exact hl)).2 (by rw[A];exact E)).1
/-! ## the writer over it -/
/-- n entries are put, wt of them wait; the file has B. -/
def FuM (x:WrS) (n wt:Nat) (two:Bool) (k:Nat) (B:Ly):Prop :=
  ∃m:Mk,Live x.wr.d m n∧x.wr.archived=false∧x.wr.most=4096∧m.c.most=4096∧x.wr.name=[106]∧m.num 9=n∧x.wr.waiting=wt∧FuW x.fs two k B∧B.length≤x.wr.d.b.length∧x.wr.d.b.length≤4096∧1≤B.length
theorem FuM.see {x:WrS} {n wt:Nat} {two:Bool} {k:Nat} {B:Ly} (h:FuM x n wt two k B):FuW x.fs two k B∧(1≤x.wr.d.b.length∧x.wr.d.b.length≤4096)∧x.wr.waiting=wt∧x.wr.name=[106]∧x.wr.archived=false∧(1≤B.length∧B.length≤x.wr.d.b.length):=by
  obtain⟨m,L,C,I,J,D,K,E,F,G,H,A⟩:=h;exact⟨F,⟨by omega,H⟩,E,D,C,A,G⟩
theorem FuM.start {f f1 f2:SFs} {i j a b q r1 r2 v:Nat} {c:Cfg} (ok:Cfg.ok c) (h:1≤c.dataSlots∧c.dataSlots≤10∧1≤c.fieldSlots∧c.fieldSlots≤10) (hm:c.most=4096) (hf:f={room:=65536,fuse:=-1,off:=false,nodes:=[],pend:=[]}) (e1:makeR f [120] i j=(r1,f1)) (e2:createR f1 [106] (blankF c 0).b a b q=(r2,f2)) (nd:(f2.nodes.map (·.id)).Nodup) :
    r1=0∧r2=0∧FuM ⟨f2,{fs:=v,name:=[106],most:=c.most,d:=blankF c 0,waiting:=0,archived:=false}⟩ 0 0 false 0 (blankF c 0).b∧(blankF c 0).b.length≤700:=by
  obtain⟨A,B,G⟩:=Live.start (t:=0) ok ⟨h.1,by omega,h.2.2.1,by omega⟩ (by omega) (by omega);have F:=A.sim.agr.1;obtain⟨C,D,E⟩:=FuW.start hf e1 e2 nd (by omega);exact⟨C,D,⟨newMk c 0,A,rfl,hm,hm,rfl,B,rfl,E,Nat.le_refl _,by simp only;omega,by omega⟩,by omega⟩
/-- One entry more, or none where there is no room for it. -/
theorem FuM.app {x:WrS} {i wt n:Nat} {two:Bool} {k:Nat} {B:Ly} (h:FuM x i wt two k B) (hi:i≤1000) {q q':Sq} {r:Rec} (e:q.record n=(r,q')):x.wr.okApp r.fields r.real r.mono r.boot∧r.fields.length≤4 ∧
    ∀(r0 r1:Nat) (y:WrS),y.fs=x.fs∧x.wr.append r.fields r.real r.mono r.boot=(r0,r1,y.wr)→(r1=15→FuM y i wt two k B∧y.wr.d.b=x.wr.d.b)∧(r1≠15→r1=0∧FuM y (i+1) (wt+1) two k B):=by
  have h':=h;obtain⟨m,L,N,M,K,X,V,w,W,u,v,U⟩:=h;obtain⟨C,D,E⟩:=record_few q n;obtain⟨_,F,G,_⟩:=record_all q n;rw[e]at C D E F G;simp only at C D E F G;have Y:x.wr.d.num 9=m.num 9:=L.sim.num 9 (by decide) (by decide);obtain⟨Z,z,O,o3,a⟩:=L.step (e:=x.wr.entE r.real r.mono r.boot) F G C (by omega) ⟨by unfold Wri.entE;rw[Y],rfl,rfl,rfl⟩;have Q:plistF r.fields=(r.fields,0):=(by rw[plist_eq,C]);refine⟨fun _ _ _=>?_,D.2,fun r0 r1 y ⟨q1,q2⟩=>?_⟩
  · rw[Q]
    refine⟨Z,⟨D.1,by simp only;omega⟩,fun q h=>?_⟩;rw[joinF_pay (E q h).1,payload_len];have:=(E q h).2;omega
  · unfold Wri.append at q2
    rw[if_neg (by rw[N];simp),Q]at q2;simp only at q2;rw[if_neg (by simp),if_neg (by omega)]at q2;by_cases hf:x.wr.most<(x.wr.d.entry r.fields (x.wr.entE r.real r.mono r.boot)).b.length
    · rw[if_pos hf]at q2
      obtain⟨R,H⟩:=Prod.mk.inj q2;obtain⟨I,A⟩:=Prod.mk.inj H
      have:y=x:=by
        cases y;cases x
        simp only at q1 A;rw[q1,A]
      exact⟨fun _=>⟨by rw[this];exact h',by rw[this]⟩,fun h=>absurd I.symm h⟩
    · rw[if_neg hf]at q2
      obtain⟨R,H⟩:=Prod.mk.inj q2;obtain⟨I,A⟩:=Prod.mk.inj H;obtain⟨P,c,f⟩:=a (by rw[K];rw[M]at hf;exact hf);rw[if_neg (by rw[K];rw[M]at hf;exact hf)]at O;obtain⟨l,p,J,_⟩:=L.img;obtain⟨l',g,S,_,T⟩:=append_im J L.ok L.hs.h20 F G O;have t:=T.len;have j:=L.sim.agr.1;have o:=P.sim.agr.1;refine⟨fun h=>by omega,fun _=>⟨I.symm,z,by rw[← A];exact P,by rw[← A];exact N,by rw[← A];exact M,by rw[f];exact K,by rw[← A];exact X,by rw[c,V],by rw[← A];simp only;omega,by rw[q1];exact W,by rw[← A];simp only;omega,by rw[← A];simp only;omega,U⟩⟩
theorem FuM.fs {x y:WrS} {n wt:Nat} {two two':Bool} {k k':Nat} {B:Ly} (h:FuM x n wt two k B) (e:y.wr=x.wr) (g:FuW y.fs two' k' B):FuM y n wt two' k' B:=by
  obtain⟨m,L,C,D,E,F,G,H,K,I,J,A⟩:=h;exact⟨m,by rw[e];exact L,by rw[e];exact C,by rw[e];exact D,E,by rw[e];exact F,G,by rw[e];exact H,g,by rw[e];exact I,by rw[e];exact J,A⟩
theorem FuM.commit {x y:WrS} {n wt r:Nat} {two:Bool} {k:Nat} {B:Ly} (h:FuM x n wt two k B) (nd:(x.fs.nodes.map (·.id)).Nodup) (e:y.wr={x.wr with waiting:=if r=0 then 0 else x.wr.waiting}∧∃i j,saveR x.wr.archived x.fs x.wr.name x.wr.d.b i j=(r,y.fs)) :
    (freeF x.fs<(x.wr.d.b.length:Int)-(B.length:Int)→r=15∧y=x)∧((x.wr.d.b.length:Int)-(B.length:Int)≤freeF x.fs→r=0∧y.wr.d=x.wr.d∧FuM y n 0 two k x.wr.d.b):=by
  obtain⟨m,L,H,K,M,I,N,T,O,P,Q,J⟩:=h;obtain⟨A,i,j,G⟩:=e;rw[H,I]at G;obtain⟨R,S⟩:=O.save nd G ⟨by omega,by omega⟩ P;refine⟨fun F=>?_,fun F=>?_⟩
  · obtain⟨C,E⟩:=R F
    refine⟨C,?_⟩
    cases y;cases x
    simp only at A E;rw[A,E,C];rfl
  · obtain⟨C,E⟩:=S F
    have D:y.wr.d=x.wr.d:=(by rw[A]);exact⟨C,D,m,by rw[D];exact L,by rw[A];exact H,by rw[A];exact K,M,by rw[A];exact I,N,by rw[A,if_pos C],E,by rw[D];exact Nat.le_refl _,by rw[D];exact Q,by omega⟩
/-- Behind the drop: a Commit is done where there is room. -/
theorem FuM.again {x y:WrS} {n wt r1:Nat} {two:Bool} {k:Nat} {B:Ly} (h:FuM x n wt two k B) (nd:(x.fs.nodes.map (·.id)).Nodup) (e:y.wr=x.wr∧dropR x.fs [120]=(r1,y.fs)):r1=0∧y.wr.d=x.wr.d∧y.wr.name=[106]∧((y.fs.nodes.map (·.id)).Nodup→(x.wr.d.b.length:Int)-(B.length:Int)≤freeF y.fs→∀(r:Nat) (f:SFs),(∃i j,saveR y.wr.archived y.fs y.wr.name y.wr.d.b i j=(r,f))→r=0):=by
  obtain⟨m,L,E,I,J,A,K,M,G,H,N,F⟩:=h;obtain⟨C,D⟩:=G.drop nd e.2;refine⟨C,by rw[e.1],by rw[e.1];exact A,fun nd2 hf r f ⟨i,j,e3⟩=>?_⟩;rw[e.1,E,A]at e3;exact D.save nd2 e3 ⟨by omega,by omega⟩ H hf
/-! ## the loop that takes the room away -/
/-- How often it goes yet. -/
def fuMu (f:SFs):Nat:=(if f.nodes.length≤2 then 2 else 0)+(if(lenF f.off f.nodes [120]).1=0 then 1 else 0)
theorem fuMu_le (f:SFs):fuMu f≤3:=by unfold fuMu;split<;>split<;>omega
theorem FuW.mu {f:SFs} {two:Bool} {k:Nat} {B:Ly} (h:FuW f two k B):fuMu f=(if two=true then 0 else 2)+(if k=0 then 1 else 0):=by
  unfold fuMu;rw[h.len.1];obtain⟨y,z,_,_,⟨rfl,A⟩|⟨rfl,u,_,A⟩⟩:=h.nodes <;> rw[A] <;> rfl
/-- Where it is, with so many bytes that are to be free. -/
def FuL (x:WrS) (n fr:Nat) (B:Ly):Prop:=∃two k,FuM x n n two k B∧B.length≤700∧fr<4096∧(two=false∧(k=0∨k=32768)∨two=true∧(k=0∨k+B.length+fr=32768))
theorem FuL.see {x:WrS} {n fr:Nat} {B:Ly} (h:FuL x n fr B):∃k,lenF x.fs.off x.fs.nodes [120]=(k,0)∧k≤32768∧(freeF x.fs=(fr:Int)∧FuM x n n true k B∨(fr:Int)<freeF x.fs∧freeF x.fs≤65536):=by
  obtain⟨D,k,A,E,F,C⟩:=h;have f:=A.see.1.free;have b:=A.see.2.2.2.2.2;refine⟨k,A.see.1.len.1,by omega,?_⟩;rw[f];rcases C with⟨rfl,rfl|rfl⟩|⟨rfl,rfl|G⟩
  · right;simp only[Bool.false_eq_true,if_false];omega
  · right;simp only[Bool.false_eq_true,if_false];omega
  · right;simp only[if_true];omega
  · left;simp only[if_true];exact⟨by omega,A⟩
theorem FuL.move {x:WrS} {n fr k:Nat} {B:Ly} (h:FuL x n fr B) (nd:(x.fs.nodes.map (·.id)).Nodup) (hk:lenF x.fs.off x.fs.nodes [120]=(k,0)) (k2:32768≤k) :
    (namesD x.fs).length=2∧∀(r1:Nat) (y:WrS),(y.wr=x.wr∧renameR x.fs [120] [121,99]=(r1,y.fs))→r1=0∧∀(r2:Nat) (z:WrS),(z.wr=y.wr∧∃i j,makeR y.fs [120] i j=(r2,z.fs))→r2=0∧FuL z n fr B∧fuMu z.fs<fuMu x.fs:=by
  obtain⟨E,G,A,J,K,C⟩:=h;have L:=A.see.1.len.1;have b:=A.see.2.2.2.2.2;rw[L]at hk;obtain⟨hk,_⟩:=Prod.mk.inj hk
  obtain⟨rfl,H⟩:E=false∧G=32768:=by
    rcases C with⟨C,D|D⟩|⟨C,D|D⟩
    · omega
    · exact⟨C,D⟩
    · omega
    · omega
  refine⟨A.see.1.names,fun r1 y ⟨e1,e2⟩=>⟨(FuW.move (r2:=0) (f2:=y.fs) A.see.1 H nd e2).1,fun r2 z ⟨e3,i,j,e4⟩=>?_⟩⟩;obtain⟨I,F⟩:=(FuW.move (r2:=r2) (f2:=z.fs) A.see.1 H nd e2).2 i j e4;refine⟨I,⟨true,0,A.fs (e3.trans e1) F,J,K,.inr ⟨rfl,.inl rfl⟩⟩,?_⟩;rw[F.mu,A.see.1.mu,if_neg (show ¬G=0 by omega)];decide
theorem FuL.write {x y:WrS} {n fr k r:Nat} {B b:Ly} (h:FuL x n fr B) (nd:(x.fs.nodes.map (·.id)).Nodup) (hk:lenF x.fs.off x.fs.nodes [120]=(k,0)) (k2:k<32768) (hf:(fr:Int)<freeF x.fs) (hb:(b.length:Int)=min (freeF x.fs-(fr:Int)) (32768-(k:Int))) (e:y.wr=x.wr∧∃j,writeR x.fs [120] (k:Int) b j=(r,y.fs)):r=0∧FuL y n fr B∧fuMu y.fs<fuMu x.fs:=by
  obtain⟨C,N,A,I,J,E⟩:=h;have L:=A.see.1.len.1;have O:=A.see.2.2.2.2.2;have f:=A.see.1.free;rw[L]at hk;obtain⟨hk,_⟩:=Prod.mk.inj hk;subst hk;obtain⟨G,j,H⟩:=e;obtain⟨F,D⟩:=A.see.1.write nd H (by omega) (by omega);have M:=A.see.1.mu;rw[f]at hf hb;refine⟨F,⟨C,N+b.length,A.fs G D,I,J,?_⟩,?_⟩
  · rcases E with⟨rfl,rfl|rfl⟩|⟨rfl,rfl|K⟩
    · simp only[Bool.false_eq_true,if_false]at hf hb;exact .inl ⟨rfl,.inr (by omega)⟩
    · omega
    · simp only[if_true]at hf hb;exact .inr ⟨rfl,.inr (by omega)⟩
    · simp only[if_true]at hf hb;omega
  · rw[D.mu,M]
    rcases E with⟨rfl,rfl|rfl⟩|⟨rfl,rfl|K⟩
    · simp only[Bool.false_eq_true,if_false,if_true]at hf hb ⊢;rw[if_neg (by omega)];decide
    · omega
    · simp only[if_true]at hf hb ⊢;rw[if_neg (by omega)];decide
    · simp only[if_true]at hf hb;omega
theorem FuW.mk0 {f f1:SFs} {i j r:Nat} (hf:f={room:=65536,fuse:=-1,off:=false,nodes:=[],pend:=[]}) (e:makeR f [120] i j=(r,f1)):r=0:=by
  subst hf;rw[make_free rfl rfl (by decide) rfl (by decide)]at e;exact(Prod.mk.inj e).1.symm
/-- A Commit, done or not. -/
theorem FuM.com2 {x y:WrS} {n wt r:Nat} {two:Bool} {k:Nat} {B:Ly} (h:FuM x n wt two k B) (nd:(x.fs.nodes.map (·.id)).Nodup) (e:y.wr={x.wr with waiting:=if r=0 then 0 else x.wr.waiting}∧∃i j,saveR x.wr.archived x.fs x.wr.name x.wr.d.b i j=(r,y.fs)) :
    ((r=15∧freeF x.fs<(x.wr.d.b.length:Int)-(B.length:Int)∧FuM y n wt two k B)∨(r=0∧(x.wr.d.b.length:Int)-(B.length:Int)≤freeF x.fs∧FuM y n 0 two k x.wr.d.b))∧y.wr.d=x.wr.d∧∃B',allF y.fs.off y.fs.nodes [106]=(B',0)∧(r=15→B'=B)∧(r=0→B'=x.wr.d.b):=by
  obtain⟨a,b⟩:=h.commit nd e;by_cases hf:freeF x.fs<(x.wr.d.b.length:Int)-(B.length:Int)
  · obtain⟨D,A⟩:=a hf
    exact⟨.inl ⟨D,hf,by rw[A];exact h⟩,by rw[A],B,by rw[A];exact h.see.1.len.2,fun _=>rfl,fun G=>by omega⟩
  · obtain⟨E,F,C⟩:=b (by omega)
    exact⟨.inr ⟨E,by omega,C⟩,F,x.wr.d.b,C.see.1.len.2,fun G=>by omega,fun _=>rfl⟩
theorem FuM.com0 {x y:WrS} {n wt r:Nat} {two:Bool} {k:Nat} {B:Ly} (h:FuM x n wt two k B) (he:x.wr.d.b=B) (nd:(x.fs.nodes.map (·.id)).Nodup) (e:y.wr={x.wr with waiting:=if r=0 then 0 else x.wr.waiting}∧∃i j,saveR x.wr.archived x.fs x.wr.name x.wr.d.b i j=(r,y.fs)):r=0∧FuM y n 0 two k B:=by
  have f:=h.see.1.free;obtain⟨a,_,b⟩:=(h.commit nd e).2 (by rw[he,f];omega);rw[he]at b;exact⟨a,b⟩


section
variable {P:Program} {n:Nat} {A:Fr n} {D:List Deferred} {l:List (Nat × Value)} {w:World}
variable {d:Option Tmp} {ty:TypeId} {ps:String} {af:Array Edge} {g:Option (Nat × Bool)}
/-- The text of one sign. -/
theorem r_rune {x:Operand} {s t:TypeId} {j:IntKind} (hs:(P.underlying s).isSome=true) (ht:P.underlying t=some .string) (hx:ev n l x=some (.int j 99)) :
    RunV P ⟨d,.convert s t x,ty,ps,af,g⟩ (over A D l).eval w (str [99]):=by
  obtain⟨C,B⟩:=Option.isSome_iff_exists.1 hs;have e:Go.Utf8.encode 99=(str [99] |> fun v=>match v with|.string b=>b|_=>default):=(by decide);simp[RunV,execOp,ev_eval hx,convert,run_underlying B,run_underlying ht,Conv.intToString,e,str]
end
section
variable {wb k:Nat} {fp:List Nat} {w:World} {Q:Nat→Prop} {b:Nat} {f:SFs} {x:WrS}
theorem oNames (uQ:Up w Q) (hF:FsO k fp w Q b f) (hk:k≤100000) :
    Calls Tryz.prog 46 #[.pointer (some ⟨b,0,none⟩)] w fun en w'=>∃u0:Value,∃r0:List (List UInt8),en = .returned (u0)∧Md [] w w'∧Ls tStr w' Q u0 r0∧namesD f=r0:=by
  obtain⟨H,I,rfl,A,C,F,D,E,B,G⟩:=hF;exact fNames_any uQ f A C F D E B (FsO.tot G hk).2.1
theorem xNames (uQ:Up w Q) (hW:WrO wb k fp w Q b x) (hk:k≤100000) :
    Calls Tryz.prog 46 #[.pointer (some ⟨b,0,none⟩)] w fun en w'=>∃u0:Value,∃r0:List (List UInt8),en = .returned (u0)∧Md [] w w'∧Ls tStr w' Q u0 r0∧namesD x.fs=r0:=by
  obtain⟨B,v,rfl,A,C⟩:=hW;exact oNames uQ A hk
end
theorem fn22:isFn Tryz.prog 22=true:=by kernel_rfl
theorem fn23:isFn Tryz.prog 23=true:=by kernel_rfl
theorem fn24:isFn Tryz.prog 24=true:=by kernel_rfl
theorem fn28:isFn Tryz.prog 28=true:=by kernel_rfl
theorem fn31:isFn Tryz.prog 31=true:=by kernel_rfl
theorem fn33:isFn Tryz.prog 33=true:=by kernel_rfl
theorem fn46:isFn Tryz.prog 46=true:=by kernel_rfl
theorem fn8:isFn Tryz.prog 8=true:=by kernel_rfl
theorem off63_1:fieldOff Tryz.prog 63 1=some 1:=by kernel_rfl
theorem off63_2:fieldOff Tryz.prog 63 2=some 2:=by kernel_rfl
theorem off63_3:fieldOff Tryz.prog 63 3=some 3:=by kernel_rfl
theorem off63_4:fieldOff Tryz.prog 63 4=some 19:=by kernel_rfl
theorem one47:isOne Tryz.prog 47=true:=by kernel_rfl
theorem u21:Tryz.prog.underlying 21=some (.int .i32):=by kernel_rfl
theorem u4:Tryz.prog.underlying 4=some (.bool):=by kernel_rfl

theorem kSameB_any {w:World} {Q:Nat→Prop} (uQ:Up w Q) {v0:Value} {a:Ly} (h0:Ls tB8 w Q v0 a) {v1:Value} {b:Ly} (h1:Ls tB8 w Q v1 b) :
    Calls Tryz.prog 23 #[v0,v1] w fun en w'=>∃r0:Bool,en = .returned (.bool r0)∧Md [] w w'∧decide (a=b)=r0:=by
  have C:=h0.len63;have D:=h1.len63;have M:=Md.refl [] w;have A:=uQ;refine enter (n:=10) Tryz.func23 rfl rfl rfl ?_;intro B;refine ns (asg rfl (nt (ns (mv rfl (st _ (r_convBS (s:=a) u45 u5 u9 rfl h0.by) (mv rfl (st _ (r_convBS (s:=b) u45 u5 u9 rfl h1.by) (st _ (r_eqlS (a:=a) (b:=b) rfl rfl) (asg rfl (nt (c_ret ?_)))))))))));exact ret1L (v:=(.bool ((decide (a=b))))) trivial rfl ⟨rfl,tV⟩ ⟨(decide (a=b)),rfl,M,(by simp(disch:=first|omega|assumption|(simp;done)|fail) only [SS,reduceIte])⟩
set_option maxHeartbeats 16000000 in
set_option maxRecDepth 100000 in
theorem writerFull_any {w:World} {Q:Nat→Prop} (uQ:Up w Q) {v0:Value} {l:List Int} (h0:Ls tInt w Q v0 l) (free:Int) (a1:(-9223372036854775808≤free∧free<9223372036854775808)) :
    Calls Tryz.prog 7 #[v0,(.int .i64 (free:Int))] w fun en w'=>∃r0:Bool,en = .returned (.bool r0)∧Md [] w w'∧true=r0:=by
  have L0:=h0.len63;have M:=Md.refl [] w;have Kp:=uQ;have tQ:∀b,Q b→Q b:=fun _ h=>h;have X:∀b,Q b→b<w.heap.size→Q b:=fun _ h _=>h;refine enter (n:=236) Tryz.func7 rfl rfl rfl ?_;intro B;refine ns (asg rfl (nt (ns (st_call fn8 rfl (fFirst_any uQ) ?_))));rintro en w1 ⟨L9,rfl,D,I6⟩;refine⟨_,rfl,?_⟩;replace h0:=h0.md0 D;replace uQ:=uQ.md D;replace M:=M.step0 D;have I9:=I6;subst I9;refine asg rfl (nt (c_seq (ns (mv rfl (st _ (r_not rfl) (nt (c_if_f rfl rfl (c_skip (c_then (c_seq (ns (mv rfl (sL rfl u22 h0.shp ?_)))))))))))));refine st _ (r_gtN (a:=l.length) (b:=400) rfl rfl) (nt ?_);refine c_if rfl (fun Ex=>?_) (fun Ex=>?_)
  · (have Gp:=dq Ex);refine ns (mv rfl (asg rfl (nt (c_ret (r_then ?_)))));exact ret1L (v:=(.bool true)) trivial rfl ⟨rfl,tV⟩ ⟨true,rfl,M,(by rfl)⟩
  · (have Gp:=dF Ex);refine c_skip (c_then (ns (st_call fn11 rfl (oNew uQ (65536) (by omega) (by omega) (by omega)) ?_)));rintro en w2 ⟨Ay,C4,Q3,rfl,D,⟨R,g,L⟩,Hz,A⟩;refine⟨_,rfl,?_⟩;have E:∀x∈C4,Fsh [] w x:=fun x hx=>Fsh.new M x (Hz x hx);replace h0:=h0.sub R;replace tQ:=fun b P=>tQ b (g b P);replace X:=fun b P hl=>R b (X b P hl) (ly hl M.size);replace h0:=h0.md0 D;replace uQ:=uQ.md D;replace M:=M.step0 D;replace uQ:=L;clear L R g;refine mv rfl (se rfl rfl (se rfl rfl (asg rfl (asg rfl (nt (c_seq (ns (mv rfl (st _ (r_eqlPN rfl u35) (mv rfl (sg rfl (r_move rfl) (st_call_g rfl rfl rfl rfl fn30 rfl (oMake uQ A (([120]:Ly)) (by(simp<;>omega)) (by omega)) ?_))))))))))));rintro en w4 ⟨Ie,rfl,L8,m4,C2,Q5,D,⟨R,g,L⟩,V,N,I7⟩;refine⟨_,rfl,?_⟩;have S:∀b∈C4,¬Q5 b:=fun b P hq=>(A.lt b P).2 (g b hq);replace h0:=(h0.sub R).md D S;have r9:∀x∈C2,Fsh [] w x:=fun x hx=>(V x hx).elim (E x) (Fsh.new M x);replace tQ:=fun b P=>tQ b (g b P);replace X:=fun b P hl=>R b (X b P hl) (ly hl M.size);replace M:=M.step D E;clear uQ E A;have uQ:=L;have E:=r9;have A:=N;have Ab:=D;clear L r9 N R g S V D;clear Ab;replace A:FsO (1) _ _ _ _ _:=A;obtain⟨ia,ja,Fa⟩:=I7;have M7:=FuW.mk0 rfl Fa;refine sg rfl (r_neN (a:=Ie) (b:=0) rfl rfl) (st _ (r_pick_f rfl rfl rfl) (nt ?_));refine c_if rfl (fun Ey=>?_) (fun Ey=>?_)
    · (have Gq:=dq Ey);exfalso;omega
    · (have Gq:=dF Ey);refine c_skip (c_then (ns (mv rfl (st _ (r_buildG (us:=[[v0]]) (cs:=(Sq.cells (({l:=l,pos:=0}:Sq)) v0)) [(0,0,1)] z33 pl33 rfl rfl ⟨(cells_one h0.oneCell),tV⟩ ⟨rfl,tV⟩ rfl rfl) (st_box (cs:=(Sq.cells (({l:=l,pos:=0}:Sq)) v0)) rfl rfl ?_)))));intro j w6 Cp H6 D I;have F:j∉C2:=fun hx=>by have:=(A.lt _ hx).1;omega
      obtain⟨Q7,R,g,G,L⟩:=exQ uQ Cp H6 D;replace h0:=h0.sub R;replace A:=A.sub R g;replace tQ:=fun b P=>tQ b (g b P);replace X:=fun b P hl=>R b (X b P hl) (ly hl M.size);replace Cp:=lv M.size Cp;replace h0:=h0.md0 D;replace A:=A.md0 D;replace uQ:=uQ.md D;replace M:=M.step0 D;replace uQ:=L;clear L R g;have Bq:Fsh [] w j:=.inr Cp;refine asg rfl (nt (ns (mv rfl (st_call fn9 rfl (kConfig_any uQ (({l:=l,pos:=0}:Sq)) I G (by exact(show(({l:=l,pos:=0}:Sq)).pos<9223372036854775808 from(by(simp<;>omega)))) h0) ?_))));rintro en w8 ⟨Cu,H8,Dk,rfl,D,Av,Dh,Di,Dj,K,I8⟩;refine⟨_,rfl,?_⟩;have hP:∀i∈[j],Fsh [] w i:=(all_cons Bq all_nil);have S:∀i∈[j],¬Q7 i:=(all_cons G all_nil);have Au:∀x∈C2,x∉[j]:=fun x hx=>nin_cons (fun e=>F (e ▸ hx)) (by simp);replace h0:=h0.md D S;replace A:=A.md D Au S;replace M:=M.step D hP;replace uQ:=uQ.md D;clear hP S I G;have I:=Dh;have G:=Di;clear Dh Di;obtain⟨Iu,Mi⟩:=config_of I8;refine st_alloc z29 ?_;intro Bt w9 Dw Jk D Aa;have U:Bt∉C2:=fun hx=>by have:=(A.lt _ hx).1;omega
      have Gi:j≠Bt:=(by have:=I.lt;omega);obtain⟨Ga,R,g,Bo,L⟩:=exQ uQ Dw Jk D;replace h0:=h0.sub R;replace A:=A.sub R g;replace G:=fun hh=>G (g _ hh);replace K:=K.sub R;replace tQ:=fun b P=>tQ b (g b P);replace X:=fun b P hl=>R b (X b P hl) (ly hl M.size);replace Dw:=lv M.size Dw;replace h0:=h0.md0 D;replace A:=A.md0 D;replace I:=I.md0 D;replace K:=K.md0 D;replace uQ:=uQ.md D;replace M:=M.step0 D;replace uQ:=L;clear L R g;have Dl:Fsh [] w Bt:=.inr Dw;replace Aa:Blk _ _ (Cfg.cells (({file:=idZ,machine:=idZ,seq:=idZ,dataSlots:=0,fieldSlots:=0,most:=0,keyed:=false}:Cfg))) _:=Aa;have Ju:Cfg.ok (({file:=idZ,machine:=idZ,seq:=idZ,dataSlots:=0,fieldSlots:=0,most:=0,keyed:=false}:Cfg)):=(by exact⟨rfl,rfl,rfl,(by decide),(by decide),(by decide)⟩);refine st_storeAgg (us:=(Cfg.cells Cu)) rfl rfl (by exact agg29) (by exact fun u hu=>one_cells (Cfg.one) u hu) Aa (lq rfl) ?_;have Df:=Aa;clear Aa;intro Nk D Aa;have S:∀b∈[Bt],¬Ga b:=(by intro b P;simp at P;subst P;exact Bo);replace h0:=h0.md D S;replace A:=A.md D (fun x hx=>by rw[List.mem_singleton];rintro rfl;exact U hx) S;replace I:=I.md D (by intro P;simp at P;omega);replace K:=K.md D S;replace uQ:=uQ.md D;replace M:=M.step D (all_cons Dl all_nil);clear Df S;replace Aa:Blk _ _ (Cfg.cells Cu) _:=Aa;refine nt (ns (sf rfl off29_5 (st_store rfl rfl one3 rfl Aa (lq rfl) ?_)));have Df:=Aa;clear Aa;intro Nl D Aa;have S:∀b∈[Bt],¬Ga b:=(by intro b P;simp at P;subst P;exact Bo);replace h0:=h0.md D S;replace A:=A.md D (fun x hx=>by rw[List.mem_singleton];rintro rfl;exact U hx) S;replace I:=I.md D (by intro P;simp at P;omega)
      replace K:=K.md D S;replace uQ:=uQ.md D;replace M:=M.step D (all_cons Dl all_nil);clear Df S;obtain⟨A0,C1⟩:∃y,y=({Cu with most:=4096}:Cfg):=⟨_,rfl⟩;replace Aa:Blk _ _ (Cfg.cells ({Cu with most:=4096})) _:=Aa;rw[← C1]at Aa;have Bf:Cfg.ok A0:=(by rw[C1];exact⟨Av.1,Av.2.1,Av.2.2.1,Av.2.2.2.1,Av.2.2.2.2.1,(by(simp<;>omega))⟩);refine nt (ns (mv rfl (st _ (r_loadPart (Cfg.cells A0) rfl (by exact agg29) Aa rfl) (st_call fn13 rfl (lConf_any uQ A0 Bf) ?_))));rintro en Nm ⟨K7,rfl,D,Ic,Gy⟩;refine⟨_,rfl,?_⟩;replace h0:=h0.md0 D;replace A:=A.md0 D;replace I:=I.md0 D;replace K:=K.md0 D;replace Aa:=Aa.md0 D;replace uQ:=uQ.md D;replace M:=M.step0 D;have Dv:(1≤A0.dataSlots∧A0.dataSlots≤10∧1≤A0.fieldSlots∧A0.fieldSlots≤10)∧A0.most=4096:=(by rw[C1];exact⟨Iu,rfl⟩);have Ja:=Gy;subst Ja;refine st_call fn12 rfl (wCreate_any uQ A (([106]:Ly)) A0 Bf 0 (by omega) (by omega) (by decide) (by omega) (by have Mh:=(blank_image (t:=0) Bf ⟨by omega,by omega,by omega,by omega⟩).2;omega)) ?_;rintro en Nn ⟨Nc,Iy,A4,Ij,D,⟨R,g,L⟩,V,Lx,⟨Lm,Lo,Lp,D9⟩,hD⟩;have Gn:=I.lt;have Ig:=Aa.lt;have Mp:=D.size;have Mq:=M.size;have S:∀b∈C2,¬Ij b:=fun b P hq=>(A.lt b P).2 (g b hq);replace h0:=(h0.sub R).md D S;have Ao:j∉A4:=fun h=>(V _ h).elim F (fun h=>by have:=I.lt;omega);replace G:=fun hh=>G (g _ hh);replace I:=I.md D F;replace F:=Ao;clear Ao;replace K:=(K.sub R).md D S;have Ao:Bt∉A4:=fun h=>(V _ h).elim U (fun h=>by have:=Aa.lt;omega);replace Aa:=Aa.md D U;replace U:=Ao;clear Ao;have r9:∀x∈A4,Fsh [] w x:=fun x hx=>(V x hx).elim (E x) (Fsh.new M x);replace tQ:=fun b P=>tQ b (g b P);replace X:=fun b P hl=>R b (X b P hl) (ly hl M.size);have Nj:=uQ;have Nf:=g;have Ab:=D.size;replace M:=M.step D E
      clear uQ E;have uQ:=L;have E:=r9;clear L r9 R g S V D;clear A;rcases hD with⟨Fb,rfl,A⟩|⟨Fb,o,Ms,rfl,A⟩
      · refine⟨_,rfl,?_⟩
        replace A:FsO (4) _ _ _ _ _:=A;exfalso;exact Fb (FuM.start (v:=0) Bf Dv.1 Dv.2 rfl Fa D9 A.wf.nd).2.1
      · refine⟨_,rfl,?_⟩
        replace A:WrO o (4) _ _ _ _ _:=A;subst Fb;obtain⟨K8,Cl⟩:∃x,x=({fs:=Iy,wr:={fs:=Ay,name:=(([106]:Ly)),most:=A0.most,d:=blankF A0 0,waiting:=0,archived:=false}}:WrS):=⟨_,rfl⟩;rw[← Cl]at A;have F:j∉o :: A4:=nin_cons (by omega) F;have U:Bt∉o :: A4:=nin_cons (by omega) U;replace E:∀x∈o :: A4,Fsh [] w x:=fun x hx=>(List.mem_cons.1 hx).elim (fun e=>.inr (by rw[e];omega)) (E x);have Ib:=A.wf.nd;rw[Cl]at Ib;obtain⟨_,_,hN,Gx⟩:=FuM.start (v:=Ay) Bf Dv.1 Dv.2 rfl Fa D9 Ib;rw[← Cl]at hN;have Jb:K8.wr.d.b=(blankF A0 0).b:=(by rw[Cl]);have Js:=A.wf.nd;refine mv rfl (se rfl rfl (se rfl rfl (asg rfl (asg rfl (nt (c_seq (ns (mv rfl (st _ (r_neN (a:=0) (b:=0) rfl rfl) (mv rfl ?_))))))))));refine part_n (t:=58) rfl (fun Cv=>?_) (fun Cv=>?_)
        · (have Gs:=dq Cv);exfalso;omega
        · (have Gs:=dF Cv);refine sg Cv (r_move rfl) (sg Cv (r_eqlPN rfl u38) (st _ (r_pick_f rfl Cv rfl) (mv rfl (sg rfl (r_move rfl) (st_call_g rfl rfl rfl rfl fn20 rfl (xCommit uQ A (by omega) (by rw[hN.see.2.2.2.1];decide) (by have e9:=hN.see.2.1;omega)) ?_)))));rintro en Np ⟨Fl,rfl,Jw,Jm,Cm,Gb,D,⟨R,g,L⟩,V,N,Gz⟩;refine⟨_,rfl,?_⟩;have S:∀b∈(o :: A4),¬Gb b:=fun b P hq=>(A.lt b P).2 (g b hq);replace h0:=(h0.sub R).md D S;have Ao:j∉Cm:=fun h=>(V _ h).elim F (fun h=>by have:=I.lt;omega);replace G:=fun hh=>G (g _ hh);replace I:=I.md D F;replace F:=Ao;clear Ao;replace K:=(K.sub R).md D S;have Ao:Bt∉Cm:=fun h=>(V _ h).elim U (fun h=>by have:=Aa.lt;omega);replace U:=Ao;clear Ao;have r9:∀x∈Cm,Fsh [] w x:=fun x hx=>(V x hx).elim (E x) (Fsh.new M x);replace tQ:=fun b P=>tQ b (g b P);replace X:=fun b P hl=>R b (X b P hl) (ly hl M.size);replace M:=M.step D E;clear uQ E A;have uQ:=L;have E:=r9;have A:=N;have Ab:=D;clear L r9 N R g S V D;clear Ab;replace A:WrO o (8) _ _ _ _ _:=A;obtain⟨Mj,E8⟩:=FuM.com0 hN Jb Js Gz;refine sg rfl (r_neN (a:=Fl) (b:=0) rfl rfl) (st _ (r_pick_f rfl rfl rfl) (nt ?_));refine c_if rfl (fun E0=>?_) (fun E0=>?_)
          · (have Gt:=dq E0);exfalso;omega
          · (have Gt:=dF E0);refine c_skip (c_then (ns (mv rfl (st_call fn22 rfl (xAll uQ A (([106]:Ly)) (by(simp<;>omega)) (by omega)) ?_))));rintro en Nq ⟨Aw,Z,K9,rfl,D,C,Jx,G0⟩;refine⟨_,rfl,?_⟩;replace A:=A.md0 D;replace I:=I.md0 D;replace K:=K.md0 D;replace uQ:=uQ.md D;replace M:=M.step0 D;obtain⟨It,Mf⟩:=Prod.mk.inj (E8.see.1.len.2.symm.trans G0);rw[It]at E8 Gx;refine mv rfl (se rfl rfl (se rfl rfl (asg rfl (asg rfl (nt (ns (asg rfl (nt (c_seq ?_)))))))));refine c_cut3 (fun(Bw:List Nat) (xj:WrS) (nj:Nat)=>[(14,(.int .i64 nj)),(1,(.int .i64 (free:Int))),(5,(.bool true)),(6,(.pointer (some ⟨Ay,0,none⟩))),(10,(.pointer (some ⟨o,0,none⟩))),(12,Aw)]) (fun(Bw:List Nat) (xj:WrS) (nj:Nat) w'=>∃Q':Nat→Prop,(∀b,Q' b→Q b)∧(∀b,Q b→b<w.heap.size→Q' b)∧Up w' Q'∧Md [] w w'∧WrO o (500) Bw w' Q' Ay xj∧(∀x∈Bw,Fsh [] w x)∧Ls tB8 w' Q' Aw Z∧FuM xj nj nj false 0 Z∧nj≤40) ?_ ?_
            · clear M uQ tQ X G Bo h0 A I K Aa C E
              rintro Bw xj nj B Nr ⟨Ik,tQ,X,uQ,M,A,E,C,Fc,Je⟩;have Hy:=Fc;have Km:=Hy.see;refine c_then (c_seq (ns (mv rfl (st_call fn24 rfl (xImage uQ A (by omega)) ?_))));rintro en Ns ⟨Kq,Fm,rfl,D,Dd,G1⟩;refine⟨_,rfl,?_⟩;replace A:=A.md0 D;replace C:=C.md0 D;replace uQ:=uQ.md D;replace M:=M.step0 D;have Mv:=congrArg List.length G1;refine sL rfl u45 Dd.shp (st _ (r_gtN (a:=Fm.length) (b:=4096) rfl rfl) (mv rfl ?_));refine part_n (t:=113) rfl (fun Az=>?_) (fun Az=>?_)
              · (have El:=dq Az);exfalso;omega
              · (have El:=dF Az);refine sg Az (r_move rfl) (st_call_g rfl rfl rfl Az fn27 rfl (xWait uQ A) ?_);rintro en Nt ⟨Fn,rfl,D,Jy,G2⟩;refine⟨_,rfl,?_⟩;replace A:=A.md0 D;replace C:=C.md0 D;replace uQ:=uQ.md D;replace M:=M.step0 D;have O7:=Km.2.2.1.symm.trans G2;refine sg Az (r_move rfl) (sg Az (r_neN (a:=Fn) (b:=nj) rfl rfl) (st _ (r_pick_f rfl Az rfl) (nt ?_)));refine c_if rfl (fun C7=>?_) (fun C7=>?_)
                · (have Em:=dq C7);exfalso;omega
                · (have Em:=dF C7);refine c_skip (c_then (ns (mv rfl (st_call fn10 rfl (kNumber_any uQ (free) (by omega) 4096 (by omega) (by omega)) ?_))));rintro en Nu ⟨Ai,rfl,D,Jz,Ea⟩;refine⟨_,rfl,?_⟩;replace A:=A.md0 D;replace C:=C.md0 D;replace uQ:=uQ.md D;replace M:=M.step0 D;have C0:=numF_lt free 4096;rw[Ea]at C0;try simp only[LL,Nat.reduceAdd,Nat.reduceMul]at C0
                  have I4:Ai<4096:=(by have e:=numF_lt free 4096;rw[Ea]at e;omega);have Jp:=fuMu_le xj.fs;refine asg rfl (nt (c_seq (c_block ?_)));refine loop2 (fun(Ar:List Nat) (xl:WrS)=>[(1,(.int .i64 Ai)),(5,(.bool true)),(6,(.pointer (some ⟨Ay,0,none⟩))),(10,(.pointer (some ⟨o,0,none⟩))),(12,Aw),(14,(.int .i64 nj))]) (fun(Ar:List Nat) (xl:WrS) w'=>∃Q':Nat→Prop,(∀b,Q' b→Q b)∧(∀b,Q b→b<w.heap.size→Q' b)∧Up w' Q'∧Md [] w w'∧WrO o (2000-10*fuMu xl.fs) Ar w' Q' Ay xl∧(∀x∈Ar,Fsh [] w x)∧Ls tB8 w' Q' Aw Z∧FuL xl nj Ai Z) (fun(Ar:List Nat) (xl:WrS)=>fuMu xl.fs) (x0:=Bw) (x1:=xj) ?_ ?_ ?_
                  · exact⟨rfl,rfl,rfl,rfl,rfl,rfl,tV⟩
                  · exact⟨Ik,tQ,X,uQ,M,(A.up (by omega)),E,C,⟨false,0,Hy,Gx,I4,.inl ⟨rfl,.inl rfl⟩⟩⟩
                  · clear M uQ tQ X A C Dd E
                    rintro Ar xl B Nv ⟨Ma,tQ,X,uQ,M,A,E,C,Dg⟩;refine c_seq (ns (mv rfl (st_call fn44 rfl (xFree uQ A (by omega)) ?_)));rintro en Nw ⟨Ch,rfl,D,J0,G3⟩;refine⟨_,rfl,?_⟩;replace A:=A.md0 D;replace C:=C.md0 D;replace uQ:=uQ.md D;replace M:=M.step0 D;obtain⟨k9,Fj,Ng,Kn⟩:=Dg.see;have Jp:=fuMu_le xl.fs;have I1:=G3;have Ml:0≤Ch∧Ch≤65536:=(by omega);refine mv rfl (st _ (r_gt (a:=Ch) (b:=((Ai:Nat):Int)) rfl rfl) (nt ?_));refine c_if rfl (fun C8=>?_) (fun C8=>?_)
                    · (have En:=dq C8);have I5:((Ai:Nat):Int)<freeF xl.fs:=(by omega);have D0:=A.wf.nd;refine c_skip (c_then (c_block (ns (mv rfl (st_call fn32 rfl (xLen uQ A (([120]:Ly)) (by(simp<;>omega))) ?_)))));rintro en Nx ⟨Ax,Fo,rfl,D,J1,J2,G4⟩;refine⟨_,rfl,?_⟩;replace A:=A.md0 D;replace C:=C.md0 D;replace uQ:=uQ.md D;replace M:=M.step0 D;obtain⟨Jl,Mw⟩:=Prod.mk.inj (Fj.symm.trans G4);refine mv rfl (se rfl rfl (se rfl rfl (asg rfl (asg rfl (nt (c_seq (ns (mv rfl (st _ (r_neN (a:=Fo) (b:=0) rfl rfl) (nt ?_))))))))));refine c_if rfl (fun C9=>?_) (fun C9=>?_)
                      · (have Eo:=dq C9);exfalso;omega
                      · (have Eo:=dF C9);refine c_skip (c_then (c_seq (ns (mv rfl (st _ (r_geN (a:=Ax) (b:=32768) rfl rfl) (nt ?_))))));refine c_if rfl (fun Da=>?_) (fun Da=>?_)
                        · (have Ep:=dq Da);have H9:=FuL.move Dg D0 Fj (by omega);refine c_seq (ns (mv rfl (mv rfl (st_call fn46 rfl (xNames uQ A (by omega)) ?_))));rintro en Ny ⟨Kr,Dm,rfl,D,Bb,G6⟩;refine⟨_,rfl,?_⟩;replace A:=A.md0 D;replace C:=C.md0 D;replace uQ:=uQ.md D;replace M:=M.step0 D;have Jt:97+(Dm).length=99:=(by rw[← G6,H9.1]);refine sL rfl u88 Bb.shp (st _ (r_addN (a:=97) (b:=Dm.length) 9223372036854775808 rfl rfl rfl (by omega)) (st _ (((r_conv (by rw[u3];rfl) u21 rfl).castI (show _=(99:Int)by rw[Jt];rfl))) (st _ (r_rune (by rw[u21];rfl) u9 rfl) (st _ (r_addS (a:=(([121]:Ly))) (b:=(([99]:Ly))) rfl rfl (by(simp<;>omega))) (st_call fn45 rfl (xRename uQ A (([120]:Ly)) ((([121]:Ly)) ++ (([99]:Ly))) (by(simp<;>omega)) (by(simp<;>omega)) (by omega)) ?_)))));rintro en Nz ⟨Fp,rfl,J3,Mx,D4,Il,D,⟨R,g,L⟩,V,N,G7⟩;refine⟨_,rfl,?_⟩;have S:∀b∈Ar,¬Il b:=fun b P hq=>(A.lt b P).2 (g b hq);replace C:=(C.sub R).md D S;replace Bb:=(Bb.sub R).md D S;have r9:∀x∈D4,Fsh [] w x:=fun x hx=>(V x hx).elim (E x) (Fsh.new M x);replace tQ:=fun b P=>tQ b (g b P);replace X:=fun b P hl=>R b (X b P hl) (ly hl M.size);replace M:=M.step D E;clear uQ E A;have uQ:=L;have E:=r9;have A:=N;have Ab:=D;clear L r9 N R g S V D;clear Ab;replace A:WrO o ((2000-10*fuMu xl.fs)+1) _ _ _ _ _:=A;obtain⟨Nd,Jr⟩:=H9.2 _ _ G7;refine st _ (r_neN (a:=Fp) (b:=0) rfl rfl) (mv rfl ?_);refine part_n (t:=144) rfl (fun A6=>?_) (fun A6=>?_)
                          · (have Er:=dq A6);exfalso;omega
                          · (have Er:=dF A6);refine sg A6 (r_move rfl) (st_call_g rfl rfl rfl A6 fn30 rfl (xMake uQ A (([120]:Ly)) (by(simp<;>omega)) (by omega)) ?_);rintro en N0 ⟨Fq,rfl,J4,Jn,D5,Gc,D,⟨R,g,L⟩,V,N,G8⟩;refine⟨_,rfl,?_⟩;have S:∀b∈D4,¬Gc b:=fun b P hq=>(A.lt b P).2 (g b hq);replace C:=(C.sub R).md D S;replace Bb:=(Bb.sub R).md D S;have r9:∀x∈D5,Fsh [] w x:=fun x hx=>(V x hx).elim (E x) (Fsh.new M x);replace tQ:=fun b P=>tQ b (g b P);replace X:=fun b P hl=>R b (X b P hl) (ly hl M.size);replace M:=M.step D E;clear uQ E A;have uQ:=L;have E:=r9;have A:=N;have Ab:=D;clear L r9 N R g S V D;clear Ab;replace A:WrO o ((2000-10*fuMu xl.fs)+2) _ _ _ _ _:=A;obtain⟨M8,E7,Jq⟩:=Jr _ _ G8;refine sg A6 (r_neN (a:=Fq) (b:=0) rfl rfl) (st _ (r_pick_f rfl A6 rfl) (nt ?_));refine c_if rfl (fun Db=>?_) (fun Db=>?_)
                            · (have Es:=dq Db);exfalso;omega
                            · (have Es:=dF Db);refine c_skip (c_then (c_exit (x_then (x_hit (c_then ?_)))));refine next2 (x0:=D5) (x1:=Jn) (by omega) ⟨rfl,rfl,rfl,rfl,rfl,rfl,tV⟩ ⟨Gc,tQ,X,uQ,M,(A.up (by omega)),E,C,E7⟩
                        · (have Ep:=dF Da);refine c_skip (c_then (ns (mv rfl (mv rfl (mv rfl (st_call fn44 rfl (xFree uQ A (by omega)) ?_))))));rintro en N3 ⟨Dn,rfl,D,J5,G9⟩;refine⟨_,rfl,?_⟩;replace A:=A.md0 D;replace C:=C.md0 D;replace uQ:=uQ.md D;replace M:=M.step0 D;have Mn:=I1.symm.trans G9;obtain⟨f9,Jc⟩:∃f9:Nat,Dn=((f9:Nat):Int):=⟨(Dn).toNat,by omega⟩;subst Jc;refine mv rfl (st _ (r_subN (a:=f9) (b:=Ai) 9223372036854775808 rfl rfl rfl (by omega)) (mv rfl (st _ (r_subN (a:=32768) (b:=Ax) 9223372036854775808 rfl rfl rfl (by omega)) (st _ (r_minN (a:=f9-Ai) (b:=32768-Ax) rfl rfl) (st_mkG (lo:=Fsh [] w) (T:=tB8) (z:=0) (zs:=[(b8 0)]) (m:=min (f9-Ai) (32768-Ax)) rfl u45 elT5 z5 rfl (fun _ _=>⟨rfl,tV⟩) uQ (Fsh.new M) (by omega) ?_)))));intro Ks K6 Mb R g L Bd D H3;have Bp:∀x,vblock Ks=some x→x∉Ar:=fun x hx Ab=>by have h3:=(A.lt x Ab).1;have h4:=H3 x hx;omega
                          replace A:=A.sub R g;replace C:=C.sub R;replace tQ:=fun b P=>tQ b (g b P);replace X:=fun b P hl=>R b (X b P hl) (ly hl M.size);replace A:=A.md0 D;replace C:=C.md0 D;replace uQ:=uQ.md D;replace M:=M.step0 D;replace uQ:=L;clear L R g H3;obtain⟨Im,fQ,fT,De⟩:=Bd.freeze;replace A:=A.subF fQ fT Bp;replace C:=C.sub (fun b P _=>fQ b P);replace tQ:=fun b P=>(fT b P).elim (tQ b) (fun hv=>Fsh.up Kp b (Bd.2 b hv).1);replace X:=fun b P hl=>fQ b (X b P hl);replace uQ:Up K6 Im:=fun b P=>fQ b (uQ b P);clear Bd fQ fT;have Bd:=De;clear De;refine st_call fn34 rfl (xWrite uQ A (([120]:Ly)) (((Ax:Nat):Int)) (by omega) Bd (by(simp<;>omega)) (by omega)) ?_;rintro en N4 ⟨Fs,rfl,J6,Jo,D6,Gd,D,⟨R,g,L⟩,V,N,Ha⟩;refine⟨_,rfl,?_⟩;have S:∀b∈Ar,¬Gd b:=fun b P hq=>(A.lt b P).2 (g b hq);replace C:=(C.sub R).md D S;replace Bd:=(Bd.sub R).md D S;have r9:∀x∈D6,Fsh [] w x:=fun x hx=>(V x hx).elim (E x) (Fsh.new M x);replace tQ:=fun b P=>tQ b (g b P);replace X:=fun b P hl=>R b (X b P hl) (ly hl M.size);replace M:=M.step D E;clear uQ E A;have uQ:=L;have E:=r9;have A:=N;have Ab:=D;clear L r9 N R g S V D;clear Ab;replace A:WrO o ((2000-10*fuMu xl.fs)+1) _ _ _ _ _:=A;obtain⟨O6,E7,Jq⟩:=FuL.write Dg D0 (k:=Ax) (by rw[← Jl];exact Fj) (by omega) I5 (by rw[List.length_replicate];omega) Ha;refine st _ (r_neN (a:=Fs) (b:=0) rfl rfl) (nt ?_);refine c_if rfl (fun Dc=>?_) (fun Dc=>?_)
                          · (have Et:=dq Dc);exfalso;omega
                          · (have Et:=dF Dc);refine c_skip (n_block (c_then ?_));refine next2 (x0:=D6) (x1:=Jo) (by omega) ⟨rfl,rfl,rfl,rfl,rfl,rfl,tV⟩ ⟨Gd,tQ,X,uQ,M,(A.up (by omega)),E,C,E7⟩
                    · (have En:=dF C8)
                      have hM:FuM xl nj nj true k9 Z∧freeF xl.fs=((Ai:Nat):Int):=by
                        rcases Kn with⟨a,b⟩|⟨a,b⟩
                        · exact⟨b,a⟩
                        · exfalso;omega
                      have Id:=hM.1.see;have D0:=A.wf.nd;refine c_exit (x_then (x_then (x_hit (c_then (ns (mv rfl (st_call fn44 rfl (xFree uQ A (by omega)) ?_)))))));rintro en N5 ⟨Ci,rfl,D,J7,Eb⟩;refine⟨_,rfl,?_⟩;replace A:=A.md0 D;replace C:=C.md0 D;replace uQ:=uQ.md D;replace M:=M.step0 D;have Mm:=hM.2.symm.trans Eb;refine mv rfl (st_call fn24 rfl (xImage uQ A (by have e9:=hM.1.see.2.1;omega)) ?_);rintro en N6 ⟨Kt,Br,rfl,D,J,Hb⟩;refine⟨_,rfl,?_⟩;replace A:=A.md0 D;replace C:=C.md0 D;replace uQ:=uQ.md D;replace M:=M.step0 D;have Ji:=Hb;have Mt:=congrArg List.length Ji;refine sL rfl u45 J.shp (mv rfl (sL rfl u45 C.shp (st _ (r_subN (a:=Br.length) (b:=Z.length) 9223372036854775808 rfl rfl rfl (by omega)) (st _ (r_lt (a:=Ci) (b:=((Br.length-Z.length:Nat):Int)) rfl rfl) (asg rfl (nt (ns (mv rfl (st_call fn20 rfl (xCommit uQ A (by omega) (by rw[Id.2.2.2.1];decide) (by omega)) ?_)))))))));rintro en N7 ⟨Aj,rfl,J8,Cw,C3,In,D,⟨R,g,L⟩,V,N,Hc⟩;refine⟨_,rfl,?_⟩;have S:∀b∈Ar,¬In b:=fun b P hq=>(A.lt b P).2 (g b hq);replace C:=(C.sub R).md D S;replace J:=(J.sub R).md D S;have r9:∀x∈C3,Fsh [] w x:=fun x hx=>(V x hx).elim (E x) (Fsh.new M x);replace M:=M.step D E;clear uQ E A;have uQ:=L;have E:=r9;have A:=N;have Ab:=D;clear L r9 N R g S V D;clear Ab;replace A:WrO o ((2000-10*fuMu xl.fs)+4) _ _ _ _ _:=A;obtain⟨Eg,Gf,B9,Iw,Gg,Gh⟩:=FuM.com2 hM.1 D0 Hc;have Ia:=A.wf.nd
                      have Bu:(Aj=15∧Ci<((Br.length-Z.length:Nat):Int)∧FuM Cw nj nj true k9 Z)∨(Aj=0∧¬Ci<((Br.length-Z.length:Nat):Int)∧FuM Cw nj 0 true k9 xl.wr.d.b):=by
                        have e9:=Id.2.2.2.2.2;rw[Eb]at Eg;rcases Eg with⟨a9,b9,c9⟩|⟨a9,b9,c9⟩
                        · exact .inl ⟨a9,by omega,c9⟩
                        · exact .inr ⟨a9,by omega,c9⟩
                      clear Eg;refine asg rfl (nt (ns (mv rfl (st_call fn22 rfl (xAll uQ A (([106]:Ly)) (by(simp<;>omega)) (by omega)) ?_))));rintro en N8 ⟨Ku,La,Do,rfl,D,H,J9,Hd⟩;refine⟨_,rfl,?_⟩;replace A:=A.md0 D;replace C:=C.md0 D;replace J:=J.md0 D;replace uQ:=uQ.md D;replace M:=M.step0 D;obtain⟨Du,Mg⟩:=Prod.mk.inj (Iw.symm.trans Hd);refine mv rfl (se rfl rfl (se rfl rfl (asg rfl (asg rfl (nt (c_seq (ns (mv rfl (st _ (r_eqN (a:=Aj) (b:=15) rfl rfl) (mv rfl (st _ (r_neqBool u4 rfl rfl) (mv rfl ?_))))))))))));refine part_n (t:=181) rfl (fun Am=>?_) (fun Am=>?_)
                      · (have Eu:=dF (bnt Am));exfalso;(rcases Bu with⟨a9,b9,_⟩|⟨a9,b9,_⟩<;>(simp[a9,b9]at Am;done))
                      · (have Eu:=dq (bnf Am));refine sg Am (r_move rfl) (sg Am (r_neN (a:=Aj) (b:=0) rfl rfl) (sg Am (r_move rfl) ?_));refine part_n (t:=184) rfl (fun As=>?_) (fun As=>?_)
                        · (have Ev:=dq As);refine sg As (r_move rfl) (sg As (r_neN (a:=Aj) (b:=15) rfl rfl) (sg Am (r_pick_t rfl As rfl) (st _ (r_pick_f rfl Am rfl) (mv rfl ?_))));refine part_n (t:=189) rfl (fun Bl=>?_) (fun Bl=>?_)
                          · (have Ew:=dq Bl);exfalso;(rcases Bu with⟨a9,b9,_⟩|⟨a9,b9,_⟩<;>omega)
                          · (have Ew:=dF Bl);refine sg Bl (r_move rfl) (sg Bl (r_neN (a:=Do) (b:=0) rfl rfl) (st _ (r_pick_f rfl Bl rfl) (nt ?_)));refine c_if rfl (fun A7=>?_) (fun A7=>?_)
                            · (have B4:=dq A7);exfalso;(rcases Bu with⟨a9,b9,_⟩|⟨a9,b9,_⟩<;>omega)
                            · (have B4:=dF A7);refine c_skip (c_then (c_seq (ns (mv rfl (nt ?_)))));refine c_if rfl (fun A8=>?_) (fun A8=>?_)
                              · (have Aq:=dq A8)
                                obtain⟨c0,Bn⟩:Aj=15∧FuM Cw nj nj true k9 Z:=by
                                  rcases Bu with⟨a9,b9,c9⟩|⟨a9,b9,c9⟩
                                  · exact⟨a9,c9⟩
                                  · exact absurd Aq b9
                                have Ee:=(Gg c0).symm.trans Du;have Cg:=Bn.see;refine c_seq (ns (mv rfl (mv rfl (st_call fn23 rfl (kSameB_any uQ H C) ?_))));rintro en N9 ⟨Lb,rfl,D,Lq⟩;refine⟨_,rfl,?_⟩;replace A:=A.md0 D;replace C:=C.md0 D;replace J:=J.md0 D;replace H:=H.md0 D;replace uQ:=uQ.md D;replace M:=M.step0 D;refine st _ (r_not rfl) (mv rfl ?_);refine part_n (t:=198) rfl (fun r=>?_) (fun r=>?_)
                                · (have B6:=bnt r);exfalso;simp_all
                                · (have B6:=bnf r);refine sg r (r_move rfl) (st_call_g rfl rfl rfl r fn27 rfl (xWait uQ A) ?_);rintro en Oa ⟨Ft,rfl,D,Ka,He⟩;refine⟨_,rfl,?_⟩;replace A:=A.md0 D;replace C:=C.md0 D;replace J:=J.md0 D;replace H:=H.md0 D;replace uQ:=uQ.md D;replace M:=M.step0 D;have Fk:=Cg.2.2.1.symm.trans He;refine sg r (r_move rfl) (sg r (r_neN (a:=Ft) (b:=nj) rfl rfl) (st _ (r_pick_f rfl r rfl) (mv rfl ?_)));refine part_n (t:=204) rfl (fun Ac=>?_) (fun Ac=>?_)
                                  · (have B8:=dq Ac);exfalso;omega
                                  · (have B8:=dF Ac);refine sg Ac (r_move rfl) (st_call_g rfl rfl rfl Ac fn33 rfl (xDrop uQ A (([120]:Ly)) (by(simp<;>omega)) (by omega)) ?_);rintro en Oc ⟨Fu,rfl,Kb,My,D7,Io,D,⟨R,g,L⟩,V,N,Hf⟩;refine⟨_,rfl,?_⟩;have S:∀b∈C3,¬Io b:=fun b P hq=>(A.lt b P).2 (g b hq);replace C:=(C.sub R).md D S;replace J:=(J.sub R).md D S;replace H:=(H.sub R).md D S;have r9:∀x∈D7,Fsh [] w x:=fun x hx=>(V x hx).elim (E x) (Fsh.new M x);replace M:=M.step D E;clear uQ E A;have uQ:=L;have E:=r9;have A:=N;have Ab:=D;clear L r9 N R g S V D;clear Ab;replace A:WrO o ((2000-10*fuMu xl.fs)+5) _ _ _ _ _:=A;obtain⟨Ix,B3,Eh,Ei⟩:=FuM.again Bn Ia Hf;have Fh:=A.wf.nd;refine sg Ac (r_neN (a:=Fu) (b:=0) rfl rfl) (st _ (r_pick_f rfl Ac rfl) (nt ?_));refine c_if rfl (fun A9=>?_) (fun A9=>?_)
                                    · (have Ca:=dq A9);exfalso;omega
                                    · (have Ca:=dF A9);refine c_skip (c_then (c_seq (ns (mv rfl (st_call fn44 rfl (xFree uQ A (by omega)) ?_)))));rintro en Od ⟨Fv,rfl,D,Kc,Hg⟩;refine⟨_,rfl,?_⟩;replace A:=A.md0 D;replace C:=C.md0 D;replace J:=J.md0 D;replace H:=H.md0 D;replace uQ:=uQ.md D;replace M:=M.step0 D;have I0:=Hg;refine mv rfl (st_call fn24 rfl (xImage uQ A (by rw[B3];omega)) ?_);rintro en Oe ⟨Kv,Dp,rfl,D,Ce,Hh⟩;refine⟨_,rfl,?_⟩;replace A:=A.md0 D;replace C:=C.md0 D;replace J:=J.md0 D;replace H:=H.md0 D;replace uQ:=uQ.md D;replace M:=M.step0 D;have Fd:=(congrArg Drf.b B3).symm.trans Hh;have Jf:=congrArg List.length Fd;refine sL rfl u45 Ce.shp (mv rfl (sL rfl u45 C.shp (st _ (r_subN (a:=Dp.length) (b:=Z.length) 9223372036854775808 rfl rfl rfl (by omega)) (st _ (r_ge (a:=Fv) (b:=((Dp.length-Z.length:Nat):Int)) rfl rfl) (mv rfl ?_)))));refine part_n (t:=218) rfl (fun c=>?_) (fun c=>?_)
                                      · (have Cb:=dq c);refine sg c (r_move rfl) (st_call_g rfl rfl rfl c fn20 rfl (xCommit uQ A (by omega) (by rw[Eh];decide) (by rw[B3];omega)) ?_);rintro en Of ⟨Fw,rfl,Kd,Mz,Gl,Ip,D,⟨R,g,L⟩,V,N,Hi⟩;refine⟨_,rfl,?_⟩;have S:∀b∈D7,¬Ip b:=fun b P hq=>(A.lt b P).2 (g b hq);replace C:=(C.sub R).md D S;replace J:=(J.sub R).md D S;replace H:=(H.sub R).md D S;replace Ce:=(Ce.sub R).md D S;have r9:∀x∈Gl,Fsh [] w x:=fun x hx=>(V x hx).elim (E x) (Fsh.new M x);replace M:=M.step D E;clear uQ E A;have uQ:=L;have E:=r9;have A:=N;have Ab:=D;clear L r9 N R g S V D;clear Ab;replace A:WrO o ((2000-10*fuMu xl.fs)+9) _ _ _ _ _:=A;have Iv:=Ei Fh (by omega) _ _ (Hi).2;refine sg c (r_neN (a:=Fw) (b:=0) rfl rfl) (st _ (r_pick_t rfl c rfl) (nt ?_));refine c_if rfl (fun Ba=>?_) (fun Ba=>?_)
                                        · (have Cc:=dq Ba);exfalso;omega
                                        · (have Cc:=dF Ba);refine c_skip (c_then (ns (mv rfl (asg rfl (nt (c_ret (r_then ?_)))))));exact ret1L (v:=(.bool true)) trivial rfl ⟨rfl,tV⟩ ⟨true,rfl,M,(by rfl)⟩
                                      · (have Cb:=dF c);refine sk c (sk c (sk c (st _ (r_pick_f rfl c rfl) (nt (c_if_f rfl rfl (c_skip (c_then (ns (mv rfl (asg rfl (nt (c_ret (r_then ?_)))))))))))));exact ret1L (v:=(.bool true)) trivial rfl ⟨rfl,tV⟩ ⟨true,rfl,M,(by rfl)⟩
                              · (have Aq:=dF A8)
                                obtain⟨c0,Bn⟩:Aj=0∧FuM Cw nj 0 true k9 xl.wr.d.b:=by
                                  rcases Bu with⟨a9,b9,c9⟩|⟨a9,b9,c9⟩
                                  · exact absurd b9 Aq
                                  · exact⟨a9,c9⟩
                                have Ee:=(Gh c0).symm.trans Du;have Cg:=Bn.see;refine c_skip (c_then (ns (mv rfl (mv rfl (sg rfl (r_move rfl) (sg rfl (r_move rfl) (st_call_g rfl rfl rfl rfl fn24 rfl (xImage uQ A (by omega)) ?_)))))));rintro en Og ⟨Kw,Lc,rfl,D,Ez,Hj⟩;refine⟨_,rfl,?_⟩;replace A:=A.md0 D;replace H:=H.md0 D;replace uQ:=uQ.md D;replace M:=M.step0 D;have Jj:=(congrArg Drf.b Gf).symm.trans Hj;refine st_call_g rfl rfl rfl rfl fn23 rfl (kSameB_any uQ H Ez) ?_;rintro en Oh ⟨Ld,rfl,D,Lr⟩;refine⟨_,rfl,?_⟩;replace A:=A.md0 D;replace uQ:=uQ.md D;replace M:=M.step0 D;refine st _ (r_pick_t rfl rfl rfl) (mv rfl ?_);refine part_n (t:=231) rfl (fun f=>?_) (fun f=>?_)
                                · (have Cd:=f);refine sg f (r_move rfl) (st_call_g rfl rfl rfl f fn27 rfl (xWait uQ A) ?_);rintro en Oi ⟨Cj,rfl,D,Ke,Hk⟩;refine⟨_,rfl,?_⟩;replace M:=M.step0 D;have Fk:=Cg.2.2.1.symm.trans Hk;refine sg f (r_eqN (a:=Cj) (b:=0) rfl rfl) (st _ (r_pick_t rfl f rfl) (asg rfl (nt (c_ret ?_))));exact ret1L (v:=(.bool ((decide (Cj=0))))) trivial rfl ⟨rfl,tV⟩ ⟨(decide (Cj=0)),rfl,M,(by exact(decide_eq_true (by omega)).symm)⟩
                                · (have Cd:=f);refine sk f (sk f (sk f (st _ (r_pick_f rfl f rfl) (asg rfl (nt (c_ret ?_))))));exact ret1L (v:=(.bool false)) trivial rfl ⟨rfl,tV⟩ ⟨false,rfl,M,(by simp_all)⟩
                        · (have Ev:=dF As);refine sk As (sk As (sg Am (r_pick_f rfl As rfl) (st _ (r_pick_f rfl Am rfl) (mv rfl (sg rfl (r_move rfl) (sg rfl (r_neN (a:=Do) (b:=0) rfl rfl) (st _ (r_pick_f rfl rfl rfl) (nt ?_))))))));refine c_if rfl (fun A7=>?_) (fun A7=>?_)
                          · (have B4:=dq A7);exfalso;(rcases Bu with⟨a9,b9,_⟩|⟨a9,b9,_⟩<;>omega)
                          · (have B4:=dF A7);refine c_skip (c_then (c_seq (ns (mv rfl (nt ?_)))));refine c_if rfl (fun A8=>?_) (fun A8=>?_)
                            · (have Aq:=dq A8)
                              obtain⟨c0,Bn⟩:Aj=15∧FuM Cw nj nj true k9 Z:=by
                                rcases Bu with⟨a9,b9,c9⟩|⟨a9,b9,c9⟩
                                · exact⟨a9,c9⟩
                                · exact absurd Aq b9
                              have Ee:=(Gg c0).symm.trans Du;have Cg:=Bn.see;refine c_seq (ns (mv rfl (mv rfl (st_call fn23 rfl (kSameB_any uQ H C) ?_))));rintro en Oj ⟨Le,rfl,D,Lt⟩;refine⟨_,rfl,?_⟩;replace A:=A.md0 D;replace C:=C.md0 D;replace J:=J.md0 D;replace H:=H.md0 D;replace uQ:=uQ.md D;replace M:=M.step0 D;refine st _ (r_not rfl) (mv rfl ?_);refine part_n (t:=198) rfl (fun r=>?_) (fun r=>?_)
                              · (have B6:=bnt r);exfalso;omega
                              · (have B6:=bnf r);refine sg r (r_move rfl) (st_call_g rfl rfl rfl r fn27 rfl (xWait uQ A) ?_);rintro en Ok ⟨Fx,rfl,D,Kf,Hl⟩;refine⟨_,rfl,?_⟩;replace A:=A.md0 D;replace C:=C.md0 D;replace J:=J.md0 D;replace H:=H.md0 D;replace uQ:=uQ.md D;replace M:=M.step0 D;have Fk:=Cg.2.2.1.symm.trans Hl;refine sg r (r_move rfl) (sg r (r_neN (a:=Fx) (b:=nj) rfl rfl) (st _ (r_pick_f rfl r rfl) (mv rfl ?_)));refine part_n (t:=204) rfl (fun Ac=>?_) (fun Ac=>?_)
                                · (have B8:=dq Ac);exfalso;omega
                                · (have B8:=dF Ac);refine sg Ac (r_move rfl) (st_call_g rfl rfl rfl Ac fn33 rfl (xDrop uQ A (([120]:Ly)) (by omega) (by omega)) ?_);rintro en Ol ⟨Fy,rfl,Kg,M5,D8,Iq,D,⟨R,g,L⟩,V,N,Hm⟩;refine⟨_,rfl,?_⟩;have S:∀b∈C3,¬Iq b:=fun b P hq=>(A.lt b P).2 (g b hq);replace C:=(C.sub R).md D S;replace J:=(J.sub R).md D S;replace H:=(H.sub R).md D S;have r9:∀x∈D8,Fsh [] w x:=fun x hx=>(V x hx).elim (E x) (Fsh.new M x);replace M:=M.step D E;clear uQ E A;have uQ:=L;have E:=r9;have A:=N;have Ab:=D;clear L r9 N R g S V D;clear Ab;replace A:WrO o ((2000-10*fuMu xl.fs)+5) _ _ _ _ _:=A;obtain⟨Ix,B3,Eh,Ei⟩:=FuM.again Bn Ia Hm;have Fh:=A.wf.nd;refine sg Ac (r_neN (a:=Fy) (b:=0) rfl rfl) (st _ (r_pick_f rfl Ac rfl) (nt ?_));refine c_if rfl (fun A9=>?_) (fun A9=>?_)
                                  · (have Ca:=dq A9);exfalso;omega
                                  · (have Ca:=dF A9);refine c_skip (c_then (c_seq (ns (mv rfl (st_call fn44 rfl (xFree uQ A (by omega)) ?_)))));rintro en Om ⟨Fz,rfl,D,Kh,Hn⟩;refine⟨_,rfl,?_⟩;replace A:=A.md0 D;replace C:=C.md0 D;replace J:=J.md0 D;replace H:=H.md0 D;replace uQ:=uQ.md D;replace M:=M.step0 D;have I0:=Hn;refine mv rfl (st_call fn24 rfl (xImage uQ A (by rw[B3];omega)) ?_);rintro en w64 ⟨Kx,Dq,rfl,D,Cf,Ho⟩;refine⟨_,rfl,?_⟩;replace A:=A.md0 D;replace C:=C.md0 D;replace J:=J.md0 D;replace H:=H.md0 D;replace uQ:=uQ.md D;replace M:=M.step0 D;have Fd:=(congrArg Drf.b B3).symm.trans Ho;have Jf:=congrArg List.length Fd;refine sL rfl u45 Cf.shp (mv rfl (sL rfl u45 C.shp (st _ (r_subN (a:=Dq.length) (b:=Z.length) 9223372036854775808 rfl rfl rfl (by omega)) (st _ (r_ge (a:=Fz) (b:=((Dq.length-Z.length:Nat):Int)) rfl rfl) (mv rfl ?_)))));refine part_n (t:=218) rfl (fun c=>?_) (fun c=>?_)
                                    · (have Cb:=dq c);refine sg c (r_move rfl) (st_call_g rfl rfl rfl c fn20 rfl (xCommit uQ A (by omega) (by rw[Eh];decide) (by rw[B3];omega)) ?_);rintro en On ⟨F0,rfl,Ki,M6,Gm,Ir,D,⟨R,g,L⟩,V,N,Hp⟩;refine⟨_,rfl,?_⟩;have S:∀b∈D8,¬Ir b:=fun b P hq=>(A.lt b P).2 (g b hq);replace C:=(C.sub R).md D S;replace J:=(J.sub R).md D S;replace H:=(H.sub R).md D S;replace Cf:=(Cf.sub R).md D S;have r9:∀x∈Gm,Fsh [] w x:=fun x hx=>(V x hx).elim (E x) (Fsh.new M x);replace M:=M.step D E;clear uQ E A;have uQ:=L;have E:=r9;have A:=N;have Ab:=D;clear L r9 N R g S V D;clear Ab;replace A:WrO o ((2000-10*fuMu xl.fs)+9) _ _ _ _ _:=A;have Iv:=Ei Fh (by omega) _ _ (Hp).2;refine sg c (r_neN (a:=F0) (b:=0) rfl rfl) (st _ (r_pick_t rfl c rfl) (nt ?_));refine c_if rfl (fun Ba=>?_) (fun Ba=>?_)
                                      · (have Cc:=dq Ba);exfalso;omega
                                      · (have Cc:=dF Ba);refine c_skip (c_then (ns (mv rfl (asg rfl (nt (c_ret (r_then ?_)))))));exact ret1L (v:=(.bool true)) trivial rfl ⟨rfl,tV⟩ ⟨true,rfl,M,(by rfl)⟩
                                    · (have Cb:=dF c);refine sk c (sk c (sk c (st _ (r_pick_f rfl c rfl) (nt (c_if_f rfl rfl (c_skip (c_then (ns (mv rfl (asg rfl (nt (c_ret (r_then ?_)))))))))))));exact ret1L (v:=(.bool true)) trivial rfl ⟨rfl,tV⟩ ⟨true,rfl,M,(by rfl)⟩
                            · (have Aq:=dF A8)
                              obtain⟨c0,Bn⟩:Aj=0∧FuM Cw nj 0 true k9 xl.wr.d.b:=by
                                rcases Bu with⟨a9,b9,c9⟩|⟨a9,b9,c9⟩
                                · exact absurd b9 Aq
                                · exact⟨a9,c9⟩
                              have Ee:=(Gh c0).symm.trans Du;have Cg:=Bn.see;refine c_skip (c_then (ns (mv rfl (mv rfl (sg rfl (r_move rfl) (sg rfl (r_move rfl) (st_call_g rfl rfl rfl rfl fn24 rfl (xImage uQ A (by omega)) ?_)))))));rintro en Oo ⟨Ky,Lf,rfl,D,E3,Hq⟩;refine⟨_,rfl,?_⟩;replace A:=A.md0 D;replace H:=H.md0 D;replace uQ:=uQ.md D;replace M:=M.step0 D;have Jj:=(congrArg Drf.b Gf).symm.trans Hq;refine st_call_g rfl rfl rfl rfl fn23 rfl (kSameB_any uQ H E3) ?_;rintro en Oq ⟨Lg,rfl,D,Lu⟩;refine⟨_,rfl,?_⟩;replace A:=A.md0 D;replace uQ:=uQ.md D;replace M:=M.step0 D;refine st _ (r_pick_t rfl rfl rfl) (mv rfl ?_);refine part_n (t:=231) rfl (fun f=>?_) (fun f=>?_)
                              · (have Cd:=f);refine sg f (r_move rfl) (st_call_g rfl rfl rfl f fn27 rfl (xWait uQ A) ?_);rintro en Os ⟨Ck,rfl,D,Kj,Hr⟩;refine⟨_,rfl,?_⟩;replace M:=M.step0 D;have Fk:=Cg.2.2.1.symm.trans Hr;refine sg f (r_eqN (a:=Ck) (b:=0) rfl rfl) (st _ (r_pick_t rfl f rfl) (asg rfl (nt (c_ret ?_))));exact ret1L (v:=(.bool ((decide (Ck=0))))) trivial rfl ⟨rfl,tV⟩ ⟨(decide (Ck=0)),rfl,M,(by exact(decide_eq_true (by omega)).symm)⟩
                              · (have Cd:=f);refine sk f (sk f (sk f (st _ (r_pick_f rfl f rfl) (asg rfl (nt (c_ret ?_))))));exact ret1L (v:=(.bool false)) trivial rfl ⟨rfl,tV⟩ ⟨false,rfl,M,(by simp_all)⟩
            · refine c_block ?_;refine loop5 (fun(Ak:List Nat) (xx:WrS) (q:Sq) (Bz:Value) (i:Nat)=>[(14,(.int .i64 i)),(1,(.int .i64 (free:Int))),(5,(.bool true)),(6,(.pointer (some ⟨Ay,0,none⟩))),(8,(.pointer (some ⟨j,0,none⟩))),(10,(.pointer (some ⟨o,0,none⟩))),(12,Aw)]) (fun(Ak:List Nat) (xx:WrS) (q:Sq) (Bz:Value) (i:Nat) w'=>∃Q':Nat→Prop,(∀b,Q' b→Q b)∧(∀b,Q b→b<w.heap.size→Q' b)∧Up w' Q'∧Md [] w w'∧WrO o (10*i+20) Ak w' Q' Ay xx∧(∀x∈Ak,Fsh [] w x)∧Blk w' j (Sq.cells q Bz) 33∧Ls tInt w' Q' Bz q.l∧Sq.ok q∧Ls tB8 w' Q' Aw Z∧¬Q' j∧j∉Ak∧FuM xx i i false 0 Z∧i≤40) (fun(Ak:List Nat) (xx:WrS) (q:Sq) (Bz:Value) (i:Nat)=>40-i) (x0:=Cm) (x1:=Jm) (x2:=H8) (x3:=Dk) (x4:=0) ?_ ?_ ?_
              · exact⟨rfl,rfl,rfl,rfl,rfl,rfl,rfl,tV⟩
              · exact⟨Gb,tQ,X,uQ,M,(A.up (by omega)),E,I,K,Dj,C,G,F,E8,(by omega)⟩
              · clear M uQ tQ X G Bo h0 A I K Aa C E
                rintro Ak xx q Bz i B Ot ⟨Ds,tQ,X,uQ,M,A,E,I,p,H4,C,G,F,Bx,L7⟩;refine c_seq (ns (mv rfl (st _ (r_ltN (a:=i) (b:=40) rfl rfl) (mv rfl ?_))));refine part_n (t:=74) rfl (fun Bm=>?_) (fun Bm=>?_)
                · (have Gu:=dq Bm);refine sg Bm (r_move rfl) (st_call_g rfl rfl rfl Bm fn28 rfl (kMore_any uQ q I G H4 p) ?_);rintro en Ou ⟨Lh,Ff,F3,rfl,D,Cq,Cs,Cx,O,Lv⟩;refine⟨_,rfl,?_⟩;have hP:∀i∈[j],Fsh [] w i:=(all_cons Bq all_nil);have S:∀i∈[j],¬Ds i:=(all_cons G all_nil);have Au:∀x∈Ak,x∉[j]:=fun x hx=>nin_cons (fun e=>F (e ▸ hx)) (by simp);replace A:=A.md D Au S;replace p:=p.md D S;replace C:=C.md D S;replace M:=M.step D hP;replace uQ:=uQ.md D;clear hP S I G;have I:=Cq;have G:=Cs;clear Cq Cs;refine st _ (r_pick_t rfl Bm rfl) (nt ?_);refine c_if rfl (fun E4=>?_) (fun E4=>?_)
                  · (have Gv:=E4);refine c_skip (c_then (c_block (ns (mv rfl (mv rfl (st _ (r_addN (a:=i) (b:=1) 9223372036854775808 rfl rfl rfl (by omega)) (st _ (r_convN (a:=i+1) 18446744073709551616 rfl (by rw[u3];rfl) u23 rfl (by omega)) (st_call fn31 rfl (kRecord_any uQ Ff I G Cx O (i+1) (by omega)) ?_))))))));rintro en Ov ⟨Bh,Af,Fg,Cz,rfl,D,Bg,Y,Cr,Ct,Cy,W,Ht⟩;refine⟨_,rfl,?_⟩;have hP:∀i∈[j],Fsh [] w i:=(all_cons Bq all_nil);have S:∀i∈[j],¬Ds i:=(all_cons G all_nil);have Au:∀x∈Ak,x∉[j]:=fun x hx=>nin_cons (fun e=>F (e ▸ hx)) (by simp);replace A:=A.md D Au S;replace p:=p.md D S;replace C:=C.md D S;replace O:=O.md D S;replace M:=M.step D hP;replace uQ:=uQ.md D;clear hP S I G;have I:=Cr;have G:=Ct;clear Cr Ct;refine st_alloc z63 ?_;intro Bs Ox Co H5 D Ad;have Ah:Bs∉Ak:=fun hx=>by have:=(A.lt _ hx).1;omega
                    have F2:j≠Bs:=(by have:=I.lt;omega);obtain⟨Is,R,g,Dz,L⟩:=exQ uQ Co H5 D;replace A:=A.sub R g;replace p:=p.sub R;replace G:=fun hh=>G (g _ hh);replace C:=C.sub R;replace O:=O.sub R;replace W:=W.sub R;replace Y:=Y.sub R;replace tQ:=fun b P=>tQ b (g b P);replace X:=fun b P hl=>R b (X b P hl) (ly hl M.size);replace Co:=lv M.size Co;replace A:=A.md0 D;replace p:=p.md0 D;replace I:=I.md0 D;replace C:=C.md0 D;replace O:=O.md0 D;replace W:=W.md0 D;replace Y:=Y.md0 D;replace uQ:=uQ.md D;replace M:=M.step0 D;replace uQ:=L;clear L R g;have D3:Fsh [] w Bs:=.inr Co;replace Ad:Blk _ _ (Rec.cells (({seq:=0,real:=0,mono:=0,boot:=idZ,fields:=[]}:Rec)) (.slice none 0 0)) _:=Ad;have Jv:Rec.ok (({seq:=0,real:=0,mono:=0,boot:=idZ,fields:=[]}:Rec)):=(by exact⟨(by decide),(by decide),(by decide),rfl⟩);refine st_storeAgg (us:=(Rec.cells Af Bh)) rfl rfl (by exact agg63) (by exact fun u hu=>one_cells (Rec.one Y.oneCell) u hu) Ad (lq rfl) ?_;have E9:=Ad;clear Ad;intro Oy D Ad;have S:∀b∈[Bs],¬Is b:=(by intro b P;simp at P;subst P;exact Dz);replace A:=A.md D (fun x hx=>by rw[List.mem_singleton];rintro rfl;exact Ah hx) S;replace p:=p.md D S;replace I:=I.md D (by intro P;simp at P;omega);replace C:=C.md D S;replace O:=O.md D S;replace W:=W.md D S;replace Y:=Y.md D S;replace uQ:=uQ.md D;replace M:=M.step D (all_cons D3 all_nil);clear E9 S;replace Ad:Blk _ _ (Rec.cells Af Bh) _:=Ad;refine nt (ns (mv rfl (st_call fn24 rfl (xImage uQ A (by have e9:=Bx.see.2.1;omega)) ?_)));rintro en Oz ⟨Kz,Li,rfl,D,Bc,Hu⟩;refine⟨_,rfl,?_⟩
                    replace A:=A.md0 D;replace p:=p.md0 D;replace I:=I.md0 D;replace C:=C.md0 D;replace O:=O.md0 D;replace W:=W.md0 D;replace Y:=Y.md0 D;replace Ad:=Ad.md0 D;replace uQ:=uQ.md D;replace M:=M.step0 D;have Jg:=Hu;refine asg rfl (nt (ns (mv rfl (sf rfl off63_4 (sl (u:=Bh) rfl one47 Ad rfl (sf rfl off63_1 (sl (u:=(.int .u64 Af.real)) rfl one23 Ad rfl ?_)))))));have M9:Af.real<18446744073709551616:=Bg.2.1;refine sf rfl off63_2 (sl (u:=(.int .u64 Af.mono)) rfl one23 Ad rfl ?_);have Na:Af.mono<18446744073709551616:=Bg.2.2.1;refine sf rfl off63_3 (st _ (r_loadPart (idc Af.boot) rfl (by exact agg27) Ad rfl) ?_);have Nb:Af.boot.length=16:=Bg.2.2.2;have Fi:=FuM.app Bx (by omega) Ht;have Nh:=Bx.see;refine st_call fn17 rfl (xAppend uQ A Y Af.real (by omega) Af.mono (by omega) Af.boot (by assumption) (by have e9:=Fi.2.1;omega) (by omega) (by exact Fi.1) (by omega)) ?_;rintro en O0 ⟨Lj,Dr,rfl,Kk,Kl,H7,Bv,Ed,D,⟨R,g,L⟩,V,N,Hv⟩;refine⟨_,rfl,?_⟩;have S:∀b∈Ak,¬Ed b:=fun b P hq=>(A.lt b P).2 (g b hq);replace p:=(p.sub R).md D S;have Ao:j∉Bv:=fun h=>(V _ h).elim F (fun h=>by have:=I.lt;omega);replace G:=fun hh=>G (g _ hh);replace I:=I.md D F;replace F:=Ao;clear Ao;replace C:=(C.sub R).md D S;replace O:=(O.sub R).md D S;replace W:=(W.sub R).md D S;replace Y:=(Y.sub R).md D S;have Ao:Bs∉Bv:=fun h=>(V _ h).elim Ah (fun h=>by have:=Ad.lt;omega);replace Ah:=Ao;clear Ao;replace Bc:=(Bc.sub R).md D S;have r9:∀x∈Bv,Fsh [] w x:=fun x hx=>(V x hx).elim (E x) (Fsh.new M x)
                    replace tQ:=fun b P=>tQ b (g b P);replace X:=fun b P hl=>R b (X b P hl) (ly hl M.size);replace M:=M.step D E;clear uQ E A;have uQ:=L;have E:=r9;have A:=N;have Ab:=D;clear L r9 N R g S V D;clear Ab;replace A:WrO o (10*i+20) _ _ _ _ _:=A;have Ge:=Fi.2.2 _ _ _ Hv;refine mv rfl (se rfl rfl (se rfl rfl (asg rfl (asg rfl (nt (c_seq (ns (mv rfl (st _ (r_eqN (a:=Dr) (b:=15) rfl rfl) (nt ?_))))))))));refine c_if rfl (fun E6=>?_) (fun E6=>?_)
                    · (have Gw:=dq E6);obtain⟨Dx,Ko⟩:=Ge.1 (by omega);have Ni:=Dx.see;refine c_seq (ns (mv rfl (st_call fn24 rfl (xImage uQ A (by omega)) ?_)));rintro en O4 ⟨K0,Lk,rfl,D,E5,Hw⟩;refine⟨_,rfl,?_⟩;replace A:=A.md0 D;replace C:=C.md0 D;replace Bc:=Bc.md0 D;replace uQ:=uQ.md D;replace M:=M.step0 D;have Jh:=Ko.symm.trans Hw;have Mu:=Jg.symm.trans Jh;refine mv rfl (st_call fn23 rfl (kSameB_any uQ E5 Bc) ?_);rintro en O5 ⟨Ll,rfl,D,Lw⟩;refine⟨_,rfl,?_⟩;replace A:=A.md0 D;replace C:=C.md0 D;replace uQ:=uQ.md D;replace M:=M.step0 D;refine st _ (r_not rfl) (nt ?_);refine c_if rfl (fun C5=>?_) (fun C5=>?_)
                      · (have Ej:=bnt C5);exfalso;simp_all
                      · (have Ej:=bnf C5);refine c_skip (c_then (c_exit (x_then (x_miss rfl (x_then (x_hit ?_))))));exact⟨rfl,cut_in3 Bv H7 i ⟨(fitI rfl (by omega)),rfl,rfl,rfl,rfl,rfl,tV⟩ ⟨Ed,tQ,X,uQ,M,(A.up (by omega)),E,C,(by exact Dx),(by omega)⟩⟩
                    · (have Gw:=dF E6);obtain⟨z9,Dx⟩:=Ge.2 (by omega);refine c_skip (c_then (c_seq (ns (mv rfl (st _ (r_neN (a:=Dr) (b:=0) rfl rfl) (nt ?_))))));refine c_if rfl (fun C6=>?_) (fun C6=>?_)
                      · (have Ek:=dq C6);exfalso;omega
                      · (have Ek:=dF C6);refine c_skip (c_then (c_region (mv rfl (st _ (r_addN (a:=i) (b:=1) 9223372036854775808 rfl rfl rfl (by omega)) (asg rfl (st_nil (n_block (c_then ?_))))))));refine next5 (x0:=Bv) (x1:=H7) (x2:=Fg) (x3:=Cz) (x4:=(i+1)) (by omega) ⟨(fitI rfl (by omega)),rfl,rfl,rfl,rfl,rfl,rfl,tV⟩ ⟨Ed,tQ,X,uQ,M,(A.up (by omega)),E,I,W,Cy,C,G,F,Dx,(by omega)⟩
                  · (have Gv:=E4);refine c_exit (x_then (x_then (x_hit ?_)));exact⟨rfl,cut_in3 Ak xx i ⟨(fitI rfl (by omega)),rfl,rfl,rfl,rfl,rfl,tV⟩ ⟨Ds,tQ,X,uQ,M,(A.up (by omega)),E,C,(by exact Bx),(by omega)⟩⟩
                · (have Gu:=dF Bm);refine sk Bm (sk Bm (st _ (r_pick_f rfl Bm rfl) (nt (c_if_f rfl rfl (c_exit (x_then (x_then (x_hit ?_))))))));exact⟨rfl,cut_in3 Ak xx i ⟨(fitI rfl (by omega)),rfl,rfl,rfl,rfl,rfl,tV⟩ ⟨Ds,tQ,X,uQ,M,(A.up (by omega)),E,C,(by exact Bx),(by omega)⟩⟩
end Go.Proofs.YtfadcpfgenjbeaaGreat
namespace Go.Wk
open Go Go.RowKit Go.ChangeShapes Go.WideShapes Go.ChangeAt Go.Deep

section
variable {H:Type} {enc:TypeId × Value→H} {P:Program} {w:World} {t f:TypeId} {v:Value} {d:DataW H} {ps:List MemPlace}
/-- []int and its like. -/
theorem open_intl {spare:Nat→Bool} {base:Nat} {held:Bool} {r:Reach} {b0:Nat} {e:TypeId} {k:IntKind} (ht:P.underlying t=some (.slice e)) (he:P.underlying e=some (.int k)) (hc:P.cellsOf e=1) (hv:Value.okWide P w r b0 t v)
    (h:DataW.Trod enc P w base spare held t v d ps):∃l:List Int,Sl w v (l.map (Value.int k))∧∀z∈l,(Lit.int k z).wf=true:=by
  obtain⟨S,A,D,rfl⟩:=okWide_slice ht hv
  obtain⟨L,N⟩:=h
  rcases open_ints ht he hc N with⟨E,_⟩|⟨a,R,M,K,E,_,T,O,J,_,B,I⟩
  · simp[Value.cells]at E
    obtain⟨rfl,rfl,rfl⟩:=E
    exact⟨[],Sl.nil w,by simp⟩
  · simp[Value.cells]at E
    obtain⟨rfl,rfl,rfl⟩:=E
    have G:A≤K.length:=by rw[J];split <;> omega
    refine⟨K.take A,⟨some a,D,by simp[Nat.min_eq_left G],by simp;omega,O,by simp,fun p Q j u F=>?_⟩,fun z J=>I z (List.mem_of_mem_take J)⟩
    cases Q
    have hj':=(List.getElem?_eq_some_iff.1 F).1
    simp only[List.length_map,List.length_take]at hj'
    have H:j<A:=by omega
    have C:j<K.length:=by omega
    rw[B j C]
    rw[List.getElem?_map,List.getElem?_take]at F
    rw[if_pos H]at F
    simp[C]at F
    simp[List.getD,C,F]
end
end Go.Wk
namespace Go.Wk
open Go Go.RowKit Go.ChangeShapes Go.WideShapes Go.ChangeAt Go.Deep
section
variable {H:Type} {enc:TypeId × Value→H} {P:Program} {w:World} {t e f:TypeId} {v:Value} {d:DataW H} {ps:List MemPlace} {spare:Nat→Bool} {base:Nat} {held:Bool}
theorem ints_ls {l:List Int} (h:Sl w v (l.map (Value.int .i64))) (hw:∀z∈l,(Lit.int .i64 z).wf=true):Ls tInt w (fun _=>True) v l :=
  Ls.of_sl h (fun x hx=>by
    have:=hw x hx
    simp[Lit.wf,IntKind.min,IntKind.max,IntKind.signed,IntKind.bits]at this
    show -9223372036854775808≤x∧x<9223372036854775808
    omega) (fun _ _ _=>trivial)
end
theorem int_bd {z:Int} (h:(Lit.int .i64 z).wf=true):-9223372036854775808≤z∧z<9223372036854775808:=by
  simp[Lit.wf,IntKind.min,IntKind.max,IntKind.signed,IntKind.bits]at h
  omega
end Go.Wk
namespace Go.Wk
open Go Go.RowKit Go.ChangeShapes Go.WideShapes Go.ChangeAt Go.Deep
section
variable {H:Type} {enc:TypeId × Value→H} {P:Program} {w:World} {spare:Nat→Bool} {base:Nat} {held:Bool} {t e:TypeId} {α β:Type}
end
end Go.Wk
