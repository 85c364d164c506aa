/- Part 8 of what the walk of a law stands on: VZa, VZb, OpensS, OpensR, OpensD. No statement is proved here. -/
import Derived.Test.YtfadcpfgenjbeaaGreatNMD7
import Derived.Test.YtfadcpfgenjbeaaGreatRows
namespace Go.Proofs.YtfadcpfgenjbeaaGreat
open Go Go.Wk Go.RowKit
set_option linter.unusedVariables false
set_option linter.unusedSimpArgs false
attribute [local irreducible] wpList wpQuiet wpStill wpMix Code.wp Calls bodyPost

/-- A new journal. -/
theorem nums_num {d:Drf} {m:Mk} {v:Nat} (h:d.h.n=m.h.n.set 1 v ++ [0]) (hl:m.h.n.length=20):d.h.n.length=21∧d.num 1=v∧d.num 20=0∧∀i,i≠1→i<20→d.num i=m.num i:=by
  unfold Drf.num Mk.num;refine⟨by rw[h,List.length_append,List.length_set,hl];rfl,?_,?_,fun i A B=>?_⟩
  · rw[h,List.getD_eq_getElem?_getD,List.getElem?_append_left (by rw[List.length_set];omega),List.getElem?_set_self (by omega)];rfl
  · rw[h,List.getD_eq_getElem?_getD,List.getElem?_append_right (by rw[List.length_set];omega),List.length_set,hl];rfl
  · rw[h,List.getD_eq_getElem?_getD,List.getElem?_append_left (by rw[List.length_set];omega),List.getElem?_set_ne (by omega),List.getD_eq_getElem?_getD]
set_option maxRecDepth 100000 in
theorem Live.start {c:Cfg} {t:Nat} (ok:Cfg.ok c) (h:1≤c.dataSlots∧c.dataSlots≤10∧1≤c.fieldSlots∧c.fieldSlots≤10) (hm:c.most≤40000) (ht:t<1000000):Live (blankF c t) (newMk c t) 0∧(newMk c t).num 9=t∧(newMk c t).b.length=304+16*c.dataSlots+16*c.fieldSlots:=by
  obtain⟨B,e,R⟩:=newMk_im (t:=t) ⟨h.2.1,h.2.2.2⟩ ⟨h.1,h.2.2.1⟩ ht;have o:=newMk_ok (c:=c) (t:=t) ⟨h.2.1,h.2.2.2⟩ ⟨h.1,h.2.2.1⟩ hm;have H:=newMk_hs (c:=c) (t:=t) ⟨h.1,h.2.2.1⟩;obtain⟨M,N⟩:=blank_image (t:=t) ok ⟨h.1,by omega,h.2.2.1,by omega⟩
  have C:∃d:Drf,blankF c t=d.hput∧d.b=(newMk c t).b∧d.h.n=(newMk c t).h.n.set 1 ((newMk c t).b.length-272) ++ [0]∧hdD d=hdM (newMk c t)∧d.h.n.getD 3 0=16*c.dataSlots∧d.h.n.getD 5 0=16*c.fieldSlots∧d.h.n.getD 0 0=272:=by
    unfold blankF newMk hdD hdM
    generalize putTableF 4 (List.replicate c.dataSlots ({first:=0,tail:=0}:Slt))=T4
    generalize putTableF 5 (List.replicate c.fieldSlots ({first:=0,tail:=0}:Slt))=T5;exact⟨_,rfl,rfl,rfl,rfl,rfl,rfl,rfl⟩
  obtain⟨d,T,D,U,E,V,W,X⟩:=C;obtain⟨Y,Z,n3,F⟩:=nums_num U H.h20
  have Q:d.h.file.length=16∧d.h.machine.length=16∧d.h.boot.length=16∧d.h.seq.length=16∧d.h.state<256:=by
    have:=E;unfold hdD hdM newMk at this;simp only[Prod.mk.injEq]at this;obtain⟨_,_,G,I,J,K,L,_⟩:=this;rw[G,I,J,K,L];exact⟨ok.1,ok.2.1,by simp,ok.2.2.1,by decide⟩
  have S:Sim 0 d (newMk c t):=⟨by rw[D];exact⟨rfl,fun _ _=>rfl⟩,Y,H.h20,X,by rw[Z,D],V,W,fun i O P=>F i O P.2,(F 8 (by decide) (by decide)),n3,E,rfl,rfl,Q⟩
  have w:at8 (newMk c t).b 176=(newMk c t).num 11:=by
    rw[B.c.main.word,B.n11]
  have a:=newMk_b (c:=c) (t:=t);have A:=Sim.hput S a.1 w;rw[← T]at A;refine⟨⟨⟨_,[],B,rfl⟩,H,o,⟨fun h=>absurd rfl h,fun k hk=>by simp[newMk]at hk⟩,A,by rw[M];rfl⟩,R,by rw[← A.agr.1];exact N⟩
/-- An entry of few short fields is put by the program's writer. -/
theorem Live.put {x:Wri} {m:Mk} {n:Nat} (L:Live x.d m n) (ha:x.archived=false) (hm:x.most=m.c.most) {fs:List Pr} {real mono:Nat} {boot:Ly} (hb:boot.length=16) (hr:real<18446744073709551616∧mono<18446744073709551616) (hl:listF fs=(fs,0)) (h9:m.num 9≤100)
    (hf:1≤fs.length∧fs.length≤4) (hq:∀q∈fs,right q.pb=true∧q.name.length≤8∧q.value.length≤40) (hn:n≤8) (hs:m.b.length+2420≤m.c.most) :
    x.okApp fs real mono boot∧∃(z:Mk) (d:Drf),x.append fs real mono boot=(m.num 9+1,0,{x with d:=d,waiting:=x.waiting+1})∧Live d z (n+1)∧z.num 9=m.num 9+1∧z.c=m.c∧z.b.length≤m.b.length+2420∧x.d.b.length≤d.b.length:=by
  have P:x.d.num 9=m.num 9:=L.sim.num 9 (by decide) (by decide);obtain⟨Q,z,B,V,R⟩:=L.step (e:=x.entE real mono boot) hb hr hl (by omega) ⟨by unfold Wri.entE;rw[P],rfl,rfl,rfl⟩;obtain⟨l,T,F,N⟩:=L.img;obtain⟨O,C,I⟩:=append_small (real:=real) (mono:=mono) (boot:=boot) F L.ok hb hl (by omega) hf.2 (fun q h=>(hq q h).2) (by omega) hs
  have A:¬m.c.most<(x.d.entry fs (x.entE real mono boot)).b.length:=fun h=>by
    rw[if_pos h,C]at B;have:=congrArg (fun y=>y.2.1) B;simp at this
  rw[if_neg A,C]at B;have E:O=z:=(by have:=congrArg (fun y=>y.2.2) B;exact this);obtain⟨D,G,S⟩:=R A;have H:plistF fs=(fs,0):=(by rw[plist_eq,hl]);have J:(x.d.entry fs (x.entE real mono boot)).num 9=m.num 9+1:=(by rw[D.sim.num 9 (by decide) (by decide),G]);refine⟨fun _ _ _=>?_,z,x.d.entry fs (x.entE real mono boot),?_,D,G,S,by rw[← E];exact I,?_⟩
  · rw[H]
    refine⟨Q,⟨hf.1,by simp only;omega⟩,fun q h=>?_⟩;rw[joinF_pay (hq q h).1,payload_len];have:=(hq q h).2;omega
  · unfold Wri.append
    rw[if_neg (by rw[ha];simp),H];simp only;rw[if_neg (by simp),if_neg (by omega),if_neg (by rw[hm];exact A),J]
  · obtain⟨U,g,K,_,M⟩:=append_im F L.ok L.hs.h20 hb hr (by rw[C])
    have:=M.len;rw[L.sim.agr.1,D.sim.agr.1,← E];exact this
/-! ## the directory -/
def nmN (c:Bool):List UInt8:=if c=true then[107]else[106]
theorem nmN_ok (c:Bool):fnameF (nmN c)=true:=by cases c<;>decide
/-- The journal's file, and, where it was given another name, an empty one of the old name. -/
structure NmI (f:SFs) (c:Bool) (B:Ly):Prop where
  off:f.off=false
  fuse:f.fuse = -1
  room:f.room=1048576
  nodes:∃z r,f.nodes=z :: r∧z.no.there=true∧z.no.nm=nmN c∧z.fl.b=B∧(c=false∧r=[]∨c=true∧∃y,r=[y]∧y.no.there=true∧y.no.nm=[106]∧y.fl.b=[])
theorem NmI.tot {f:SFs} {c:Bool} {B:Ly} (h:NmI f c B):(totF f.nodes).1≤2∧(totF f.nodes).2=B.length:=by
  obtain⟨z,r,A,C,G,D,⟨_,rfl⟩|⟨_,y,rfl,E,H,F⟩⟩:=h.nodes
  · rw[A];simp[totF,C,D]
  · rw[A];simp[totF,C,D,E,F]
theorem NmI.hit {f:SFs} {c:Bool} {B:Ly} (h:NmI f c B):∃z,findN f.nodes (nmN c)=some z∧z.fl.b=B:=by
  obtain⟨z,r,A,C,D,E,_⟩:=h.nodes;exact⟨z,by rw[A,findN,if_pos ⟨C,D⟩],E⟩
theorem NmI.start {f':SFs} {B:Ly} {i j q r:Nat} (e:createR {room:=1048576,fuse:=-1,off:=false,nodes:=[],pend:=[]} [106] B i j q=(r,f')) (hn:(f'.nodes.map (·.id)).Nodup) (hB:1≤B.length∧B.length≤32768):r=0∧NmI f' false B:=by
  have c:=create_fs e rfl rfl (by decide) hn hB;obtain⟨C,z,D,E,F,A⟩:=(c.2 (by unfold freeF;simp[totF];omega)).2 rfl (by decide);exact⟨C,by rw[A],by rw[A],by rw[A],z,[],by rw[A];rfl,E,D,by rw[F],.inl ⟨rfl,rfl⟩⟩
theorem NmI.save {f f':SFs} {c:Bool} {B x:Ly} {i j r:Nat} (h:NmI f c B) (nd:(f.nodes.map (·.id)).Nodup) (e:saveR false f (nmN c) x i j=(r,f')) (hx:1≤x.length∧x.length≤32768) (hl:B.length≤x.length):r=0∧NmI f' c x:=by
  have I:=h.tot;obtain⟨z,q,C,D,E,F,H⟩:=h.nodes;have J:findN f.nodes (nmN c)=some z:=(by rw[C,findN,if_pos ⟨D,E⟩])
  have G:(x.length:Int)-(z.fl.b.length:Int)≤freeF f:=by
    by_cases h0:0<(x.length:Int)-(z.fl.b.length:Int)
    · rw[free_pos h.off h0,h.room,I.2,F];omega
    · unfold freeF;rw[h.off];simp only[Bool.false_eq_true,if_false];split <;> omega
  obtain⟨K,A⟩:=(save_fs e h.off h.fuse (nmN_ok c) nd J hx (by rw[F];exact hl)).2 G;rw[C,List.map_cons,List.nodup_cons]at nd
  generalize hg:(fun y:SNd=>({y with no:={y.no with fid:=j},fl:=⟨x,x⟩}:SNd))=g at A
  have L:updN f.nodes z.id g=g z :: q:=by
    have:=updN_none (g:=g) nd.1;unfold updN at this ⊢;rw[C,List.map_cons,if_pos rfl,this]
  rw[L]at A;refine⟨K,by rw[A];exact h.off,by rw[A];exact h.fuse,by rw[A];exact h.room,g z,q,by rw[A],?_,?_,?_,H⟩
  · rw[← hg];exact D
  · rw[← hg];exact E
  · rw[← hg]
theorem NmI.turn {f f1 f2:SFs} {B:Ly} {r1 r2 i j:Nat} (h:NmI f false B) (e1:renameR f [106] [107]=(r1,f1)):r1=0∧(makeR f1 [106] i j=(r2,f2)→r2=0∧NmI f2 true B):=by
  obtain⟨z,q,D,E,M,N,⟨_,rfl⟩|⟨O,_⟩⟩:=h.nodes
  · have h3':z.no.nm=[106]:=M
    have P:mayF f.off [[106],[107]]=0:=(by rw[h.off];decide);have Q:findN f.nodes [107]=none:=(by rw[D,findN,if_neg (by rw[h3'];simp)];rfl);rw[ren_0 P rfl (x:=z) (by rw[D,findN,if_pos ⟨E,h3'⟩]) (burn_free h.fuse) rfl (o:=none) (by rw[Q];rfl) (by simp) rfl]at e1;have R:updN f.nodes z.id (fun y:SNd=>{y with no:={y.no with nm:=[107]}})=[{z with no:={z.no with nm:=[107]}}]:=(by rw[D];simp[updN]);rw[R]at e1;obtain⟨I,J⟩:=Prod.mk.inj e1;have f1:f1.nodes=[{z with no:={z.no with nm:=[107]}}]∧f1.off=false∧f1.fuse = -1∧f1.room=1048576:=(by rw[← J];exact⟨rfl,h.off,h.fuse,h.room⟩);obtain⟨C,G,H,L⟩:=f1;refine⟨I.symm,fun F=>?_⟩;rw[make_free G H (by decide) (by rw[C,findN,if_neg (by simp)];rfl) (by rw[C];simp[totF,E])]at F;obtain⟨K,A⟩:=Prod.mk.inj F;exact⟨K.symm,by rw[← A];exact G,by rw[← A];exact H,by rw[← A];exact L,{z with no:={z.no with nm:=[107]}},[⟨i,⟨[106],true,j⟩,⟨[],[]⟩⟩],by rw[← A];simp only[C];rfl,E,rfl,N,.inr ⟨rfl,_,rfl,rfl,rfl,rfl⟩⟩
  · cases O
theorem NmI.len {f:SFs} {c:Bool} {B:Ly} (h:NmI f c B):lenF f.off f.nodes [107]=(if c=true then(B.length,0)else(0,16))∧(c=true→lenF f.off f.nodes [106]=(0,0))∧allF f.off f.nodes (nmN c)=(B,0):=by
  obtain⟨w,E,F⟩:=h.hit;refine⟨?_,fun I=>?_,allF_in (gtF_hit h.off (nmN_ok c) E) F⟩
  · cases c with
    | true=>rw[if_pos rfl];exact lenF_in (gtF_hit h.off (by decide) E) (by rw[F])
    | false =>
      obtain⟨z,q,A,G,C,H,⟨_,rfl⟩|⟨D,_⟩⟩:=h.nodes
      · rw[if_neg (by simp)]
        exact lenF_no (gtF_none h.off (by decide) (by rw[A,findN,if_neg (by rw[C];simp[nmN])];rfl)) (by decide)
      · cases D
  · subst I
    obtain⟨z,q,A,G,C,H,⟨D,_⟩|⟨_,y,rfl,J,K,L⟩⟩:=h.nodes
    · cases D
    · exact lenF_in (x:=y) (gtF_hit h.off (by decide) (by rw[A,findN,if_neg (by rw[C];simp[nmN]),findN,if_pos ⟨J,K⟩])) (by rw[L];rfl)
/-- Behind a drop. -/
theorem NmI.drop {f f1:SFs} {c:Bool} {B:Ly} {r:Nat} (h:NmI f c B) (nd:(f.nodes.map (·.id)).Nodup) (e:dropR f (nmN c)=(r,f1)):r=0∧f1.off=false∧findN f1.nodes (nmN c)=none:=by
  obtain⟨z,q,A,C,D,H,E⟩:=h.nodes;have F:findN f.nodes (nmN c)=some z:=(by rw[A,findN,if_pos ⟨C,D⟩]);rw[drop_0 (gtF_hit h.off (nmN_ok c) F) (burn_free h.fuse) rfl]at e
  cases e
  refine⟨rfl,h.off,?_⟩;show findN (updN f.nodes z.id fun y=>{y with no:={y.no with there:=false}}) (nmN c)=none;rw[A,List.map_cons,List.nodup_cons]at nd;have:=updN_none (g:=fun y:SNd=>{y with no:={y.no with there:=false}}) nd.1;unfold updN at this ⊢;rw[A,List.map_cons,if_pos rfl,this,findN,if_neg (by simp)];rcases E with⟨_,rfl⟩|⟨rfl,y,rfl,I,G,J⟩
  · rfl
  · rw[findN,if_neg (by rw[G];simp[nmN])];rfl
theorem gone_save {f f':SFs} {s x:Ly} {i j r:Nat} (ho:f.off=false) (hs:fnameF s=true) (hn:findN f.nodes s=none) (e:saveR false f s x i j=(r,f')):r=16∧f'=f:=by
  have A:=lenF_no (gtF_none ho hs hn) (by decide);unfold saveR at e;rw[if_neg (by simp),A,if_pos (by simp)]at e
  cases e;exact⟨rfl,rfl⟩
theorem gone_ren {f f':SFs} {s t:Ly} {r:Nat} (ho:f.off=false) (hm:mayF false [s,t]=0) (hn:findN f.nodes s=none) (e:renameR f s t=(r,f')):r=16:=by
  rw[ren_16 (by rw[ho];exact hm) rfl (by rw[hn];rfl)]at e
  cases e;rfl
/-! ## the loop -/
/-- Where it is: i entries, the name turned or not, all written or not. -/
def NmM (x:WrS) (i:Nat) (c s:Bool):Prop :=
  ∃(m:Mk) (B:Ly),Live x.wr.d m i∧x.wr.archived=false∧x.wr.most=32768∧m.c.most=32768∧x.wr.name=nmN c∧m.num 9=i∧m.b.length≤640+2420*i∧NmI x.fs c B∧B.length≤x.wr.d.b.length∧(s=true→B=x.wr.d.b)∧x.wr.waiting≤i
theorem NmM.len {x:WrS} {i:Nat} {c s:Bool} (h:NmM x i c s) (hi:i≤9):1≤x.wr.d.b.length∧x.wr.d.b.length≤32768∧x.wr.waiting≤i∧x.wr.name=nmN c∧x.wr.archived=false:=by
  obtain⟨m,B,L,A,_,_,C,_,G,_,_,_,D⟩:=h;have E:=L.sim.agr.1;have F:=L.ok.hd;exact⟨by omega,by omega,D,C,A⟩
theorem NmM.start {f f':SFs} {b i j q r:Nat} {c:Cfg} (ok:Cfg.ok c) (h:1≤c.dataSlots∧c.dataSlots≤10∧1≤c.fieldSlots∧c.fieldSlots≤10) (hm:c.most=32768) (hf:f={room:=1048576,fuse:=-1,off:=false,nodes:=[],pend:=[]}) (e:createR f [106] (blankF c 0).b i j q=(r,f')) (hn:(f'.nodes.map (·.id)).Nodup) :
    r=0∧NmM ⟨f',{fs:=b,name:=[106],most:=c.most,d:=blankF c 0,waiting:=0,archived:=false}⟩ 0 false true:=by
  subst hf;obtain⟨A,D,F⟩:=Live.start (t:=0) ok ⟨h.1,by omega,h.2.2.1,by omega⟩ (by omega) (by omega);have E:=A.sim.agr.1;obtain⟨B,C⟩:=NmI.start e hn (by omega);exact⟨B,newMk c 0,(blankF c 0).b,A,rfl,hm,hm,rfl,D,by omega,C,Nat.le_refl _,fun _=>rfl,Nat.le_refl _⟩
theorem NmM.turn {x y z:WrS} {i r1 r2:Nat} {s:Bool} (h:NmM x i false s) (e1:y.wr={x.wr with name:=if r1=0 then[107]else x.wr.name}∧renameR x.fs x.wr.name [107]=(r1,y.fs)):r1=0∧((z.wr=y.wr∧∃i j,makeR y.fs [106] i j=(r2,z.fs))→r2=0∧NmM z i true s):=by
  obtain⟨m,B,L,G,J,H,K,D,I,F,E,M,N⟩:=h;obtain⟨e1,C⟩:=e1;have hn':x.wr.name=[106]:=K;rw[hn']at C;have A:=fun i j=>F.turn (r2:=r2) (f2:=z.fs) (i:=i) (j:=j) C;refine⟨(A 0 0).1,fun⟨e3,a,b,e4⟩=>?_⟩;obtain⟨O,P⟩:=(A a b).2 e4;rw[(A 0 0).1,if_pos rfl]at e1;rw[e1]at e3;exact⟨O,m,B,by rw[e3];exact L,by rw[e3];exact G,by rw[e3];exact J,H,by rw[e3];rfl,D,I,P,by rw[e3];exact E,fun h=>by rw[e3];exact M h,by rw[e3];exact N⟩
theorem len_step {a b c:Nat} (h1:a≤b+2420) (h2:b≤640+2420*c):a≤640+2420*(c+1):=by
  rw[Nat.mul_succ,← Nat.add_assoc];exact lv h1 (Nat.add_le_add_right h2 _)
theorem NmM.put {x:WrS} {i n:Nat} {c s:Bool} (h:NmM x i c s) (hi:i<8) (q:Sq) (u:Bool):x.wr.okApp (q.record n).1.fields (q.record n).1.real (q.record n).1.mono (q.record n).1.boot ∧
    ∀(r0 r1:Nat) (y:WrS),y.fs=x.fs∧x.wr.append (q.record n).1.fields (q.record n).1.real (q.record n).1.mono (q.record n).1.boot=(r0,r1,y.wr)→r1=0∧NmM y (i+1) c false:=by
  obtain⟨m,B,L,E,G,F,W,S,V,U,T,k,X⟩:=h;obtain⟨N,O,P⟩:=record_few q n;obtain⟨_,Q,R,_⟩:=record_all q n;obtain⟨Y,z,d,Z,a,e,f,g,j⟩:=Live.put L E (G.trans F.symm) Q R N (by omega) O P (by omega) (by omega);refine⟨Y,fun r0 r1 y ⟨e1,e2⟩=>?_⟩;rw[Z]at e2;obtain⟨_,H⟩:=Prod.mk.inj e2;obtain⟨I,A⟩:=Prod.mk.inj H;have D:y.wr.d=d:=(by rw[← A]);have J:B.length≤d.b.length:=lv T j;have M:z.num 9=i+1:=(by rw[e,S]);have K:z.b.length≤640+2420*(i+1):=len_step g V;have C:y.wr.waiting≤i+1:=(by rw[← A];exact Nat.succ_le_succ X);exact⟨I.symm,z,B,by rw[D];exact a,by rw[← A];exact E,by rw[← A];exact G,by rw[f];exact F,by rw[← A];exact W,M,K,by rw[e1];exact U,by rw[D];exact J,fun h=>(by cases h),C⟩
theorem NmM.commit {x y:WrS} {i r:Nat} {c s:Bool} (h:NmM x i c s) (hi:i≤9) (nd:(x.fs.nodes.map (·.id)).Nodup) (e:y.wr={x.wr with waiting:=if r=0 then 0 else x.wr.waiting}∧∃i j,saveR x.wr.archived x.fs x.wr.name x.wr.d.b i j=(r,y.fs)):r=0∧NmM y i c true:=by
  have A:=h.len hi;obtain⟨m,B,L,E,N,K,F,H,M,J,I,P,Q⟩:=h;obtain⟨C,a,b,D⟩:=e;rw[E,F]at D;obtain⟨G,O⟩:=J.save nd D ⟨A.1,A.2.1⟩ I;exact⟨G,m,x.wr.d.b,by rw[C];exact L,by rw[C];exact E,by rw[C];exact N,K,by rw[C];exact F,H,M,O,by rw[C];exact Nat.le_refl _,fun _=>by rw[C],by rw[C,G,if_pos rfl];exact Nat.zero_le _⟩
theorem NmM.fs {x:WrS} {i:Nat} {c:Bool} (h:NmM x i c true):NmI x.fs c x.wr.d.b:=by
  obtain⟨m,B,_,_,_,_,_,_,_,A,_,C,_⟩:=h;rw[← C rfl];exact A
theorem config_most (s:Sq):s.config.1.most=32768:=by
  rcases h1:s.num 5 with⟨a,A⟩;rcases h2:A.num 5 with⟨b,B⟩;rcases h3:B.num 5 with⟨c,C⟩;rcases h4:C.num 7 with⟨d,D⟩;rcases h5:D.num 4 with⟨e,E⟩;rcases h6:E.num 2 with⟨f,F⟩;simp only[Sq.config,h1,h2,h3,h4,h5,h6]
theorem config_all (s:Sq):(1≤s.config.1.dataSlots∧s.config.1.dataSlots≤10∧1≤s.config.1.fieldSlots∧s.config.1.fieldSlots≤10)∧s.config.1.most=32768:=by
  have:=config_ok s;exact⟨⟨this.2.1.1,this.1.1,this.2.1.2,this.1.2⟩,config_most s⟩
theorem config_of {s s':Sq} {c:Cfg} (h:s.config=(c,s')):(1≤c.dataSlots∧c.dataSlots≤10∧1≤c.fieldSlots∧c.fieldSlots≤10)∧c.most=32768:=by
  have:=config_all s;rw[h]at this;exact this
theorem nmN_len (c:Bool):(nmN c).length≤1000000:=by cases c<;>decide
theorem NmM.nml {x:WrS} {i:Nat} {c s:Bool} (h:NmM x i c s):x.wr.name.length≤1000000:=by
  obtain⟨m,B,_,_,_,_,A,_⟩:=h;rw[A];exact nmN_len c
theorem NmM.ren0 {x y:WrS} {i r:Nat} {c s:Bool} (h:NmM x i c s) (e:y.wr={x.wr with name:=if r=0 then[]else x.wr.name}∧renameR x.fs x.wr.name []=(r,y.fs)):r=1∧NmM y i c s:=by
  have h':=h;obtain⟨m,B,L,K,O,M,G,I,N,F,J,P,Q⟩:=h;obtain⟨A,C⟩:=e;have H:mayF x.fs.off [x.wr.name,[]]=1:=(by rw[F.off,G];cases c<;>decide);rw[ren_c H (by decide)]at C;obtain⟨D,E⟩:=Prod.mk.inj C;rw[← D,if_neg (by decide)]at A
  have:y=x:=by
    cases y;cases x
    simp only at A E;rw[A,← E]
  exact⟨D.symm,by rw[this];exact h'⟩
/-- Behind a drop of its file. -/
def Gone (x:WrS) (c:Bool):Prop:=x.fs.off=false∧findN x.fs.nodes (nmN c)=none∧x.wr.archived=false∧x.wr.name=nmN c∧1≤x.wr.d.b.length∧x.wr.d.b.length≤32768
theorem NmM.drop {x y:WrS} {i r:Nat} {c:Bool} (h:NmM x i c true) (hi:i≤9) (nd:(x.fs.nodes.map (·.id)).Nodup) (e:y.wr=x.wr∧dropR x.fs (nmN c)=(r,y.fs)):r=0∧Gone y c:=by
  have A:=h.len hi;obtain⟨B,C,D⟩:=h.fs.drop nd e.2;exact⟨B,C,D,by rw[e.1];exact A.2.2.2.2,by rw[e.1];exact A.2.2.2.1,by rw[e.1];exact A.1,by rw[e.1];exact A.2.1⟩
theorem Gone.commit {x y:WrS} {r:Nat} {c:Bool} (h:Gone x c) (e:y.wr={x.wr with waiting:=if r=0 then 0 else x.wr.waiting}∧∃i j,saveR x.wr.archived x.fs x.wr.name x.wr.d.b i j=(r,y.fs)):r=16∧Gone y c:=by
  obtain⟨C,D,E,F,H,I⟩:=h;obtain⟨A,a,b,B⟩:=e;rw[E,F]at B;obtain⟨J,G⟩:=gone_save C (nmN_ok c) D B;exact⟨J,by rw[G];exact C,by rw[G];exact D,by rw[A];exact E,by rw[A];exact F,by rw[A];exact H,by rw[A];exact I⟩
theorem Gone.ren {x y:WrS} {r:Nat} {c:Bool} (h:Gone x c) (e:y.wr={x.wr with name:=if r=0 then[122]else x.wr.name}∧renameR x.fs x.wr.name [122]=(r,y.fs)):r=16:=by
  obtain⟨A,B,D,C,_⟩:=h;rw[C]at e;exact gone_ren A (by cases c<;>decide) B e.2
theorem NmM.put1 {x:WrS} {i n:Nat} {c s:Bool} (h:NmM x i c s) (hi:i<8) {q q':Sq} {r:Rec} (e:q.record n=(r,q')):x.wr.okApp r.fields r.real r.mono r.boot ∧
    (∀(r0 r1:Nat) (y:WrS),y.fs=x.fs∧x.wr.append r.fields r.real r.mono r.boot=(r0,r1,y.wr)→r1=0∧NmM y (i+1) c false)∧r.fields.length≤4:=by
  have A:=h.put (n:=n) hi q true;have B:=record_few q n;rw[e]at A B;exact⟨A.1,A.2,B.2.1.2⟩

theorem fn22:isFn Tryz.prog 22=true:=by kernel_rfl
theorem fn23:isFn Tryz.prog 23=true:=by kernel_rfl
theorem fn24:isFn Tryz.prog 24=true:=by kernel_rfl
theorem fn28:isFn Tryz.prog 28=true:=by kernel_rfl
theorem fn29:isFn Tryz.prog 29=true:=by kernel_rfl
theorem fn31:isFn Tryz.prog 31=true:=by kernel_rfl
theorem fn33:isFn Tryz.prog 33=true:=by kernel_rfl
theorem fn8:isFn Tryz.prog 8=true:=by kernel_rfl
theorem off63_1:fieldOff Tryz.prog 63 1=some 1:=by kernel_rfl
theorem off63_2:fieldOff Tryz.prog 63 2=some 2:=by kernel_rfl
theorem off63_3:fieldOff Tryz.prog 63 3=some 3:=by kernel_rfl
theorem off63_4:fieldOff Tryz.prog 63 4=some 19:=by kernel_rfl
theorem one47:isOne Tryz.prog 47=true:=by kernel_rfl

theorem kSameB_any {w:World} {Q:Nat→Prop} (uQ:Up w Q) {v0:Value} {a:Ly} (h0:Ls tB8 w Q v0 a) {v1:Value} {b:Ly} (h1:Ls tB8 w Q v1 b) :
    Calls Tryz.prog 23 #[v0,v1] w fun en w'=>∃r0:Bool,en = .returned (.bool r0)∧Md [] w w'∧decide (a=b)=r0:=by
  have C:=h0.len63;have D:=h1.len63;have M:=Md.refl [] w;have A:=uQ;refine enter (n:=10) Tryz.func23 rfl rfl rfl ?_;intro B;refine ns (asg rfl (nt (ns (mv rfl (st _ (r_convBS (s:=a) u45 u5 u9 rfl h0.by) (mv rfl (st _ (r_convBS (s:=b) u45 u5 u9 rfl h1.by) (st _ (r_eqlS (a:=a) (b:=b) rfl rfl) (asg rfl (nt (c_ret ?_)))))))))));exact ret1L (v:=(.bool ((decide (a=b))))) trivial rfl ⟨rfl,tV⟩ ⟨(decide (a=b)),rfl,M,(by simp(disch:=first|omega|assumption|(simp;done)|fail) only [SS,reduceIte])⟩
set_option maxHeartbeats 16000000 in
set_option maxRecDepth 100000 in
theorem writerNames_any {w:World} {Q:Nat→Prop} (uQ:Up w Q) {v0:Value} {l:List Int} (h0:Ls tInt w Q v0 l) (cut:Int) (a1:(-9223372036854775808≤cut∧cut<9223372036854775808)) :
    Calls Tryz.prog 4 #[v0,(.int .i64 (cut:Int))] w fun en w'=>∃r0:Bool,en = .returned (.bool r0)∧Md [] w w'∧true=r0:=by
  have L0:=h0.len63;have M:=Md.refl [] w;have Lm:=uQ;have tQ:∀b,Q b→Q b:=fun _ h=>h;have Af:∀b,Q b→b<w.heap.size→Q b:=fun _ h _=>h;refine enter (n:=155) Tryz.func4 rfl rfl rfl ?_;intro B;refine ns (asg rfl (nt (ns (st_call fn8 rfl (fFirst_any uQ) ?_))));rintro en w1 ⟨J8,rfl,F,Ho⟩;refine⟨_,rfl,?_⟩;replace h0:=h0.md0 F;replace uQ:=uQ.md F;replace M:=M.step0 F;have Hr:=Ho;subst Hr;refine asg rfl (nt (c_seq (ns (mv rfl (st _ (r_not rfl) (nt (c_if_f rfl rfl (c_skip (c_then (c_seq (ns (mv rfl (sL rfl u22 h0.shp ?_)))))))))))));refine st _ (r_gtN (a:=l.length) (b:=80) rfl rfl) (nt ?_);refine c_if rfl (fun Dw=>?_) (fun Dw=>?_)
  · (have Fd:=dq Dw);refine ns (mv rfl (asg rfl (nt (c_ret (r_then ?_)))));exact ret1L (v:=(.bool true)) trivial rfl ⟨rfl,tV⟩ ⟨true,rfl,M,(by rfl)⟩
  · (have Fd:=dF Dw);refine c_skip (c_then (ns (st_call fn11 rfl (oNew uQ (1048576) (by omega) (by omega) (by omega)) ?_)));rintro en w2 ⟨Cb,Bj,Q3,rfl,F,⟨P,V,N⟩,Gw,C⟩;refine⟨_,rfl,?_⟩;have E:∀x∈Bj,Fsh [] w x:=fun x y=>Fsh.new M x (Gw x y);replace h0:=h0.sub P;replace tQ:=fun b W=>tQ b (V b W);replace Af:=fun b W hl=>P b (Af b W hl) (ly hl M.size);replace h0:=h0.md0 F;replace uQ:=uQ.md F;replace M:=M.step0 F;replace uQ:=N;clear N P V;refine mv rfl (se rfl rfl (se rfl rfl (asg rfl (asg rfl (nt (c_seq (ns (mv rfl (st _ (r_eqlPN rfl u35) (nt (c_if_f rfl rfl (c_skip (c_then ?_)))))))))))));refine ns (mv rfl (st _ (r_buildG (us:=[[v0]]) (cs:=(Sq.cells (({l:=l,pos:=0}:Sq)) v0)) [(0,0,1)] z33 pl33 rfl rfl ⟨(cells_one h0.oneCell),tV⟩ ⟨rfl,tV⟩ rfl rfl) (st_box (cs:=(Sq.cells (({l:=l,pos:=0}:Sq)) v0)) rfl rfl ?_)));intro S w4 Cg Gy F H;have A:S∉Bj:=fun y=>by have:=(C.lt _ y).1;omega
    obtain⟨Q5,P,V,I,N⟩:=exQ uQ Cg Gy F;replace h0:=h0.sub P;replace C:=C.sub P V;replace tQ:=fun b W=>tQ b (V b W);replace Af:=fun b W hl=>P b (Af b W hl) (ly hl M.size);replace Cg:=lv M.size Cg;replace h0:=h0.md0 F;replace C:=C.md0 F;replace uQ:=uQ.md F;replace M:=M.step0 F;replace uQ:=N;clear N P V;have Ba:Fsh [] w S:=.inr Cg;refine asg rfl (nt (ns (mv rfl (mv rfl (st_call fn9 rfl (kConfig_any uQ (({l:=l,pos:=0}:Sq)) H I (by exact(show(({l:=l,pos:=0}:Sq)).pos<9223372036854775808 from(by(simp<;>omega)))) h0) ?_)))));rintro en w6 ⟨Co,Gz,Dj,rfl,F,A8,Dg,Dh,Di,Ag,Hp⟩;refine⟨_,rfl,?_⟩;have hP:∀i∈[S],Fsh [] w i:=(all_cons Ba all_nil);have O:∀i∈[S],¬Q5 i:=(all_cons I all_nil);have Au:∀x∈Bj,x∉[S]:=fun x y=>nin_cons (fun e=>A (e ▸ y)) (by simp);replace h0:=h0.md F O;replace C:=C.md F Au O;replace M:=M.step F hP;replace uQ:=uQ.md F;clear hP O H I;have H:=Dg;have I:=Dh;clear Dg Dh;obtain⟨Fa,Fb⟩:=config_of Hp;refine st_call fn13 rfl (lConf_any uQ Co A8) ?_;rintro en w7 ⟨J9,rfl,F,G1,Hq⟩;refine⟨_,rfl,?_⟩;replace h0:=h0.md0 F;replace C:=C.md0 F;replace H:=H.md0 F;replace Ag:=Ag.md0 F;replace uQ:=uQ.md F;replace M:=M.step0 F;have Ht:=Hq;subst Ht;refine st_call fn12 rfl (wCreate_any uQ C (([106]:Ly)) Co A8 0 (by omega) (by omega) (by decide) (by omega) (by have Kb:=(blank_image (t:=0) A8 ⟨by omega,by omega,by omega,by omega⟩).2;omega)) ?_;rintro en w8 ⟨r8,f8,C6,Q9,F,⟨P,V,N⟩,K,Kk,⟨Kd,Ke,Kf,Fk⟩,hD⟩;have Fc:=H.lt;have Ki:=F.size;have Kj:=M.size;have O:∀b∈Bj,¬Q9 b:=fun b W hq=>(C.lt b W).2 (V b hq);replace h0:=(h0.sub P).md F O;have L:S∉C6:=fun h=>(K _ h).elim A (fun h=>by have:=H.lt;omega);replace I:=fun hh=>I (V _ hh);replace H:=H.md F A;replace A:=L;clear L
    replace Ag:=(Ag.sub P).md F O;have r:∀x∈C6,Fsh [] w x:=fun x y=>(K x y).elim (E x) (Fsh.new M x);replace tQ:=fun b W=>tQ b (V b W);replace Af:=fun b W hl=>P b (Af b W hl) (ly hl M.size);have Lo:=uQ;have Ll:=V;have f:=F.size;replace M:=M.step F E;clear uQ E;have uQ:=N;have E:=r;clear N r P V O K F;clear C;rcases hD with⟨D3,rfl,C⟩|⟨D3,Aa,Kl,rfl,C⟩
    · refine⟨_,rfl,?_⟩
      replace C:FsO (3) _ _ _ _ _:=C;exfalso;exact D3 (NmM.start (b:=0) A8 Fa Fb rfl Fk C.wf.nd).1
    · refine⟨_,rfl,?_⟩
      replace C:WrO Aa (3) _ _ _ _ _:=C;subst D3;obtain⟨x8,Ds⟩:∃x,x=({fs:=f8,wr:={fs:=Cb,name:=(([106]:Ly)),most:=Co.most,d:=blankF Co 0,waiting:=0,archived:=false}}:WrS):=⟨_,rfl⟩;rw[← Ds]at C;have A:S∉Aa :: C6:=nin_cons (by omega) A;replace E:∀x∈Aa :: C6,Fsh [] w x:=fun x y=>(List.mem_cons.1 y).elim (fun e=>.inr (by rw[e];omega)) (E x);have G0:=C.wf.nd;rw[Ds]at G0;have hN:=(NmM.start (b:=Cb) A8 Fa Fb rfl Fk G0).2;rw[← Ds]at hN;refine mv rfl (se rfl rfl (se rfl rfl (asg rfl (asg rfl (nt (c_seq (ns (mv rfl (st _ (r_neN (a:=0) (b:=0) rfl rfl) (mv rfl ?_))))))))));refine part_n (t:=48) rfl (fun Cq=>?_) (fun Cq=>?_)
      · (have Fe:=dq Cq);exfalso;omega
      · (have Fe:=dF Cq);refine sg Cq (r_move rfl) (sg Cq (r_eqlPN rfl u38) (st _ (r_pick_f rfl Cq rfl) (nt (c_if_f rfl rfl (c_skip (c_then (ns (mv rfl (st_call fn10 rfl (kNumber_any uQ (cut) (by omega) 9 (by omega) (by omega)) ?_)))))))));rintro en Lp ⟨Av,rfl,F,H3,Fl⟩;refine⟨_,rfl,?_⟩;replace C:=C.md0 F;replace H:=H.md0 F;replace Ag:=Ag.md0 F;replace uQ:=uQ.md F;replace M:=M.step0 F;have Cv:=numF_lt cut 9;rw[Fl]at Cv;try simp only[LL,Nat.reduceAdd,Nat.reduceMul]at Cv
        refine asg rfl (nt (c_seq (ns (asg rfl (nt (c_block ?_))))));refine loop5 (fun(Ah:List Nat) (xx:WrS) (q:Sq) (Bp:Value) (i:Nat)=>[(11,(.int .i64 i)),(1,(.int .i64 Av)),(5,(.bool true)),(6,(.pointer (some ⟨Cb,0,none⟩))),(8,(.pointer (some ⟨S,0,none⟩))),(9,(.pointer (some ⟨Aa,0,none⟩)))]) (fun(Ah:List Nat) (xx:WrS) (q:Sq) (Bp:Value) (i:Nat) w'=>∃Q':Nat→Prop,(∀b,Q' b→Q b)∧(∀b,Q b→b<w.heap.size→Q' b)∧Up w' Q'∧Md [] w w'∧WrO Aa (10*i+10) Ah w' Q' Cb xx∧(∀x∈Ah,Fsh [] w x)∧Blk w' S (Sq.cells q Bp) 33∧Ls tInt w' Q' Bp q.l∧Sq.ok q∧¬Q' S∧S∉Ah∧NmM xx i (decide (Av<i)) true∧i≤8) (fun(Ah:List Nat) (xx:WrS) (q:Sq) (Bp:Value) (i:Nat)=>8-i) (x0:=(Aa :: C6)) (x1:=x8) (x2:=Gz) (x3:=Dj) (x4:=0) ?_ ?_ ?_
        · exact⟨rfl,rfl,rfl,rfl,rfl,rfl,tV⟩
        · exact⟨Q9,tQ,Af,uQ,M,(C.up (by omega)),E,H,Ag,Di,I,A,(by simp only[Nat.not_lt_zero,decide_false];exact hN),(by omega)⟩
        · clear M uQ tQ Af I h0 C H Ag E
          rintro Ah xx q Bp i B Lq ⟨E6,tQ,Af,uQ,M,C,E,H,G,Gx,I,A,p,J7⟩;refine c_seq (ns (mv rfl (st _ (r_ltN (a:=i) (b:=8) rfl rfl) (mv rfl ?_))));refine part_n (t:=56) rfl (fun Bk=>?_) (fun Bk=>?_)
          · (have Ff:=dq Bk);refine sg Bk (r_move rfl) (st_call_g rfl rfl rfl Bk fn28 rfl (kMore_any uQ q H I Gx G) ?_);rintro en Lr ⟨Jj,Df,E4,rfl,F,Ch,Ck,Bi,D,J1⟩;refine⟨_,rfl,?_⟩;have hP:∀i∈[S],Fsh [] w i:=(all_cons Ba all_nil);have O:∀i∈[S],¬E6 i:=(all_cons I all_nil);have Au:∀x∈Ah,x∉[S]:=fun x y=>nin_cons (fun e=>A (e ▸ y)) (by simp);replace C:=C.md F Au O;replace G:=G.md F O;replace M:=M.step F hP;replace uQ:=uQ.md F;clear hP O H I;have H:=Ch;have I:=Ck;clear Ch Ck;refine st _ (r_pick_t rfl Bk rfl) (nt ?_);refine c_if rfl (fun Dx=>?_) (fun Dx=>?_)
            · (have Fg:=Dx);refine c_skip (c_then (c_seq (c_block (c_seq (ns (mv rfl (mv rfl (st _ (r_eqN (a:=i) (b:=Av) rfl rfl) (mv rfl ?_)))))))));refine part_n (t:=65) rfl (fun A4=>?_) (fun A4=>?_)
              · (have Fh:=dq A4);refine sg A4 (r_move rfl) (st_call_g rfl rfl rfl A4 fn29 rfl (xRenW uQ C (([107]:Ly)) (by omega) (by exact p.nml) (by decide)) ?_);rintro en Lt ⟨D9,rfl,H4,Ko,Cw,G2,F,⟨P,V,N⟩,K,J,Fm⟩;refine⟨_,rfl,?_⟩;have O:∀b∈Ah,¬G2 b:=fun b W hq=>(C.lt b W).2 (V b hq);replace G:=(G.sub P).md F O;have L:S∉Cw:=fun h=>(K _ h).elim A (fun h=>by have:=H.lt;omega);replace I:=fun hh=>I (V _ hh);replace H:=H.md F A;replace A:=L;clear L;replace D:=(D.sub P).md F O;have r:∀x∈Cw,Fsh [] w x:=fun x y=>(K x y).elim (E x) (Fsh.new M x);replace tQ:=fun b W=>tQ b (V b W);replace Af:=fun b W hl=>P b (Af b W hl) (ly hl M.size);replace M:=M.step F E;clear uQ E C;have uQ:=N;have E:=r;have C:=J;have f:=F;clear N r J P V O K F;clear f;replace C:WrO Aa (10*i+11) _ _ _ _ _:=C;have c9:decide (Av<i)=false:=decide_eq_false (by omega);rw[c9]at p;have Gv:=Fm;have Lk:=(NmM.turn (z:=xx) (r2:=0) p Gv).1;refine sg A4 (r_neN (a:=D9) (b:=0) rfl rfl) (sg A4 (r_move rfl) ?_);refine part_n (t:=69) rfl (fun Bu=>?_) (fun Bu=>?_)
                · (have Fi:=dq Bu);exfalso;omega
                · (have Fi:=dF Bu);refine sg Bu (r_move rfl) (st_call_g rfl rfl rfl Bu fn30 rfl (xMake uQ C (([106]:Ly)) (by(simp<;>omega)) (by omega)) ?_);rintro en Lu ⟨Ea,rfl,H5,Kp,Bn,E7,F,⟨P,V,N⟩,K,J,Fn⟩;refine⟨_,rfl,?_⟩;have O:∀b∈Cw,¬E7 b:=fun b W hq=>(C.lt b W).2 (V b hq);replace G:=(G.sub P).md F O;have L:S∉Bn:=fun h=>(K _ h).elim A (fun h=>by have:=H.lt;omega);replace I:=fun hh=>I (V _ hh);replace H:=H.md F A;replace A:=L;clear L;replace D:=(D.sub P).md F O;have r:∀x∈Bn,Fsh [] w x:=fun x y=>(K x y).elim (E x) (Fsh.new M x);replace tQ:=fun b W=>tQ b (V b W);replace Af:=fun b W hl=>P b (Af b W hl) (ly hl M.size);replace M:=M.step F E;clear uQ E C;have uQ:=N;have E:=r;have C:=J;have f:=F;clear N r J P V O K F;clear f;replace C:WrO Aa (10*i+12) _ _ _ _ _:=C;obtain⟨Lj,Gu⟩:=(NmM.turn p Gv).2 Fn;refine sg Bu (r_neN (a:=Ea) (b:=0) rfl rfl) (sg A4 (r_pick_f rfl Bu rfl) (st _ (r_pick_t rfl A4 rfl) (nt ?_)));refine c_if rfl (fun Dy=>?_) (fun Dy=>?_)
                  · (have Fj:=dq Dy);refine ns (asg rfl (nt (c_ret (r_then (r_block (r_then (r_then (r_block (r_then ?_)))))))));exact ret1L (v:=(.bool false)) trivial rfl ⟨rfl,tV⟩ ⟨false,rfl,M,(by simp_all)⟩
                  · (have Fj:=dF Dy);refine c_skip (c_then (ns (mv rfl (mv rfl (st _ (r_addN (a:=i) (b:=1) 9223372036854775808 rfl rfl rfl (by omega)) (st _ (r_convN (a:=i+1) 18446744073709551616 rfl (by rw[u3];rfl) u23 rfl (by omega)) (st_call fn31 rfl (kRecord_any uQ Df H I Bi D (i+1) (by omega)) ?_)))))));rintro en Lv ⟨Bg,Ao,D5,Ct,rfl,F,Be,k,Ci,Cl,Cr,g,Fo⟩;refine⟨_,rfl,?_⟩;have hP:∀i∈[S],Fsh [] w i:=(all_cons Ba all_nil);have O:∀i∈[S],¬E7 i:=(all_cons I all_nil);have Au:∀x∈Bn,x∉[S]:=fun x y=>nin_cons (fun e=>A (e ▸ y)) (by simp);replace C:=C.md F Au O;replace G:=G.md F O;replace D:=D.md F O;replace M:=M.step F hP;replace uQ:=uQ.md F;clear hP O H I;have H:=Ci;have I:=Cl;clear Ci Cl;refine st_alloc z63 ?_;intro Ar Lw A7 De F U;have R:Ar∉Bn:=fun y=>by have:=(C.lt _ y).1;omega
                    have Cp:S≠Ar:=(by have:=H.lt;omega);obtain⟨G3,P,V,Bl,N⟩:=exQ uQ A7 De F;replace C:=C.sub P V;replace G:=G.sub P;replace I:=fun hh=>I (V _ hh);replace D:=D.sub P;replace g:=g.sub P;replace k:=k.sub P;replace tQ:=fun b W=>tQ b (V b W);replace Af:=fun b W hl=>P b (Af b W hl) (ly hl M.size);replace A7:=lv M.size A7;replace C:=C.md0 F;replace G:=G.md0 F;replace H:=H.md0 F;replace D:=D.md0 F;replace g:=g.md0 F;replace k:=k.md0 F;replace uQ:=uQ.md F;replace M:=M.step0 F;replace uQ:=N;clear N P V;have Bm:Fsh [] w Ar:=.inr A7;replace U:Blk _ _ (Rec.cells (({seq:=0,real:=0,mono:=0,boot:=idZ,fields:=[]}:Rec)) (.slice none 0 0)) _:=U;have Hy:Rec.ok (({seq:=0,real:=0,mono:=0,boot:=idZ,fields:=[]}:Rec)):=(by exact⟨(by decide),(by decide),(by decide),rfl⟩);refine st_storeAgg (us:=(Rec.cells Ao Bg)) rfl rfl (by exact agg63) (by exact fun u hu=>one_cells (Rec.one k.oneCell) u hu) U (lq rfl) ?_;have B0:=U;clear U;intro Lx F U;have O:∀b∈[Ar],¬G3 b:=(by intro b W;simp at W;subst W;exact Bl);replace C:=C.md F (fun x y=>by rw[List.mem_singleton];rintro rfl;exact R y) O;replace G:=G.md F O;replace H:=H.md F (by intro W;simp at W;omega);replace D:=D.md F O;replace g:=g.md F O;replace k:=k.md F O;replace uQ:=uQ.md F;replace M:=M.step F (all_cons Bm all_nil);clear B0 O;replace U:Blk _ _ (Rec.cells Ao Bg) _:=U;refine nt (ns (mv rfl (sf rfl off63_4 (sl (u:=Bg) rfl one47 U rfl (sf rfl off63_1 (sl (u:=(.int .u64 Ao.real)) rfl one23 U rfl ?_))))))
                    have Ld:Ao.real<18446744073709551616:=Be.2.1;refine sf rfl off63_2 (sl (u:=(.int .u64 Ao.mono)) rfl one23 U rfl ?_);have Le:Ao.mono<18446744073709551616:=Be.2.2.1;refine sf rfl off63_3 (st _ (r_loadPart (idc Ao.boot) rfl (by exact agg27) U rfl) ?_);have Lf:Ao.boot.length=16:=Be.2.2.2;have B4:=NmM.put1 Gu (by omega) Fo;have Ji:=Gu.len (by omega);refine st_call fn17 rfl (xAppend uQ C k Ao.real (by omega) Ao.mono (by omega) Ao.boot (by assumption) (by have e9:=B4.2.2;omega) (by omega) (by exact B4.1) (by omega)) ?_;rintro en L7 ⟨Jk,Eb,rfl,H6,H7,Kq,Cc,G4,F,⟨P,V,N⟩,K,J,Fp⟩;refine⟨_,rfl,?_⟩;have O:∀b∈Bn,¬G4 b:=fun b W hq=>(C.lt b W).2 (V b hq);replace G:=(G.sub P).md F O;have L:S∉Cc:=fun h=>(K _ h).elim A (fun h=>by have:=H.lt;omega);replace I:=fun hh=>I (V _ hh);replace H:=H.md F A;replace A:=L;clear L;replace D:=(D.sub P).md F O;replace g:=(g.sub P).md F O;replace k:=(k.sub P).md F O;have L:Ar∉Cc:=fun h=>(K _ h).elim R (fun h=>by have:=U.lt;omega);replace U:=U.md F R;replace R:=L;clear L;have r:∀x∈Cc,Fsh [] w x:=fun x y=>(K x y).elim (E x) (Fsh.new M x);replace tQ:=fun b W=>tQ b (V b W);replace Af:=fun b W hl=>P b (Af b W hl) (ly hl M.size);replace M:=M.step F E;clear uQ E C;have uQ:=N;have E:=r;have C:=J;have f:=F;clear N r J P V O K F;clear f;replace C:WrO Aa (10*i+12) _ _ _ _ _:=C;obtain⟨I7,Bx⟩:=B4.2.1 _ _ _ Fp;refine mv rfl (se rfl rfl (se rfl rfl (asg rfl (asg rfl (nt (ns (mv rfl (st _ (r_neN (a:=Eb) (b:=0) rfl rfl) (mv rfl ?_)))))))));refine part_n (t:=95) rfl (fun A6=>?_) (fun A6=>?_)
                    · (have Da:=dq A6);exfalso;omega
                    · (have Da:=dF A6);refine sg A6 (r_move rfl) ?_;have D7:=C.wf.nd;have Jh:=Bx.len (by omega);refine st_call_g rfl rfl rfl A6 fn20 rfl (xCommit uQ C (by omega) (by exact Bx.nml) (by omega)) ?_;rintro en L8 ⟨Ec,rfl,H8,Hv,Cd,E8,F,⟨P,V,N⟩,K,J,Fq⟩;refine⟨_,rfl,?_⟩;have O:∀b∈Cc,¬E8 b:=fun b W hq=>(C.lt b W).2 (V b hq);replace G:=(G.sub P).md F O;have L:S∉Cd:=fun h=>(K _ h).elim A (fun h=>by have:=H.lt;omega);replace I:=fun hh=>I (V _ hh);replace H:=H.md F A;replace A:=L;clear L;replace D:=(D.sub P).md F O;replace g:=(g.sub P).md F O;replace k:=(k.sub P).md F O;have L:Ar∉Cd:=fun h=>(K _ h).elim R (fun h=>by have:=U.lt;omega);replace R:=L;clear L;have r:∀x∈Cd,Fsh [] w x:=fun x y=>(K x y).elim (E x) (Fsh.new M x);replace tQ:=fun b W=>tQ b (V b W);replace Af:=fun b W hl=>P b (Af b W hl) (ly hl M.size);replace M:=M.step F E;clear uQ E C;have uQ:=N;have E:=r;have C:=J;have f:=F;clear N r J P V O K F;clear f;replace C:WrO Aa (10*i+16) _ _ _ _ _:=C;obtain⟨I8,Dz⟩:=NmM.commit Bx (by omega) D7 Fq;refine sg A6 (r_neN (a:=Ec) (b:=0) rfl rfl) (st _ (r_pick_f rfl A6 rfl) (nt ?_));refine c_if rfl (fun Bv=>?_) (fun Bv=>?_)
                      · (have Db:=dq Bv);exfalso;omega
                      · (have Db:=dF Bv);refine c_skip (n_block (c_then (c_region (mv rfl (st _ (r_addN (a:=i) (b:=1) 9223372036854775808 rfl rfl rfl (by omega)) (asg rfl (nt ?_)))))));refine next5 (x0:=Cd) (x1:=Hv) (x2:=D5) (x3:=Ct) (x4:=(i+1)) (by omega) ⟨(fitI rfl (by omega)),rfl,rfl,rfl,rfl,rfl,tV⟩ ⟨E8,tQ,Af,uQ,M,(C.up (by omega)),E,H,g,Cr,I,A,(by(rw[decide_eq_true (show Av<i+1 by omega)];exact Dz)),(by omega)⟩
              · (have Fh:=dF A4);refine sk A4 (sk A4 (sk A4 (sk A4 (st_skipU rfl rfl rfl (st_skipU rfl rfl rfl (st_skipU rfl rfl rfl (sk A4 (st _ (r_pick_f rfl A4 rfl) (nt (c_if_f rfl rfl (c_skip (c_then (ns ?_)))))))))))));refine mv rfl (mv rfl (st _ (r_addN (a:=i) (b:=1) 9223372036854775808 rfl rfl rfl (by omega)) (st _ (r_convN (a:=i+1) 18446744073709551616 rfl (by rw[u3];rfl) u23 rfl (by omega)) (st_call fn31 rfl (kRecord_any uQ Df H I Bi D (i+1) (by omega)) ?_))));rintro en L9 ⟨Bh,Ap,D6,Cu,rfl,F,Bf,o,Cj,Cm,Cs,j,Fs⟩;refine⟨_,rfl,?_⟩;have hP:∀i∈[S],Fsh [] w i:=(all_cons Ba all_nil);have O:∀i∈[S],¬E6 i:=(all_cons I all_nil);have Au:∀x∈Ah,x∉[S]:=fun x y=>nin_cons (fun e=>A (e ▸ y)) (by simp);replace C:=C.md F Au O;replace G:=G.md F O;replace D:=D.md F O;replace M:=M.step F hP;replace uQ:=uQ.md F;clear hP O H I;have H:=Cj;have I:=Cm;clear Cj Cm;refine st_alloc z63 ?_;intro Ar Ma A7 De F U;have R:Ar∉Ah:=fun y=>by have:=(C.lt _ y).1;omega
                have Cp:S≠Ar:=(by have:=H.lt;omega);obtain⟨G6,P,V,Bl,N⟩:=exQ uQ A7 De F;replace C:=C.sub P V;replace G:=G.sub P;replace I:=fun hh=>I (V _ hh);replace D:=D.sub P;replace j:=j.sub P;replace o:=o.sub P;replace tQ:=fun b W=>tQ b (V b W);replace Af:=fun b W hl=>P b (Af b W hl) (ly hl M.size);replace A7:=lv M.size A7;replace C:=C.md0 F;replace G:=G.md0 F;replace H:=H.md0 F;replace D:=D.md0 F;replace j:=j.md0 F;replace o:=o.md0 F;replace uQ:=uQ.md F;replace M:=M.step0 F;replace uQ:=N;clear N P V;have Bm:Fsh [] w Ar:=.inr A7;replace U:Blk _ _ (Rec.cells (({seq:=0,real:=0,mono:=0,boot:=idZ,fields:=[]}:Rec)) (.slice none 0 0)) _:=U;have Hz:Rec.ok (({seq:=0,real:=0,mono:=0,boot:=idZ,fields:=[]}:Rec)):=(by exact⟨(by decide),(by decide),(by decide),rfl⟩);refine st_storeAgg (us:=(Rec.cells Ap Bh)) rfl rfl (by exact agg63) (by exact fun u hu=>one_cells (Rec.one o.oneCell) u hu) U (lq rfl) ?_;have B0:=U;clear U;intro Mb F U;have O:∀b∈[Ar],¬G6 b:=(by intro b W;simp at W;subst W;exact Bl);replace C:=C.md F (fun x y=>by rw[List.mem_singleton];rintro rfl;exact R y) O;replace G:=G.md F O;replace H:=H.md F (by intro W;simp at W;omega);replace D:=D.md F O;replace j:=j.md F O;replace o:=o.md F O;replace uQ:=uQ.md F;replace M:=M.step F (all_cons Bm all_nil);clear B0 O;replace U:Blk _ _ (Rec.cells Ap Bh) _:=U;refine nt (ns (mv rfl (sf rfl off63_4 (sl (u:=Bh) rfl one47 U rfl (sf rfl off63_1 (sl (u:=(.int .u64 Ap.real)) rfl one23 U rfl ?_))))))
                have Lg:Ap.real<18446744073709551616:=Bf.2.1;refine sf rfl off63_2 (sl (u:=(.int .u64 Ap.mono)) rfl one23 U rfl ?_);have Lh:Ap.mono<18446744073709551616:=Bf.2.2.1;refine sf rfl off63_3 (st _ (r_loadPart (idc Ap.boot) rfl (by exact agg27) U rfl) ?_);have Li:Ap.boot.length=16:=Bf.2.2.2;have B4:=NmM.put1 p (by omega) Fs;have Ji:=p.len (by omega);refine st_call fn17 rfl (xAppend uQ C o Ap.real (by omega) Ap.mono (by omega) Ap.boot (by assumption) (by have e9:=B4.2.2;omega) (by omega) (by exact B4.1) (by omega)) ?_;rintro en Mc ⟨Jl,Ed,rfl,H9,Ia,Kr,Ce,G7,F,⟨P,V,N⟩,K,J,Ft⟩;refine⟨_,rfl,?_⟩;have O:∀b∈Ah,¬G7 b:=fun b W hq=>(C.lt b W).2 (V b hq);replace G:=(G.sub P).md F O;have L:S∉Ce:=fun h=>(K _ h).elim A (fun h=>by have:=H.lt;omega);replace I:=fun hh=>I (V _ hh);replace H:=H.md F A;replace A:=L;clear L;replace D:=(D.sub P).md F O;replace j:=(j.sub P).md F O;replace o:=(o.sub P).md F O;have L:Ar∉Ce:=fun h=>(K _ h).elim R (fun h=>by have:=U.lt;omega);replace U:=U.md F R;replace R:=L;clear L;have r:∀x∈Ce,Fsh [] w x:=fun x y=>(K x y).elim (E x) (Fsh.new M x);replace tQ:=fun b W=>tQ b (V b W);replace Af:=fun b W hl=>P b (Af b W hl) (ly hl M.size);replace M:=M.step F E;clear uQ E C;have uQ:=N;have E:=r;have C:=J;have f:=F;clear N r J P V O K F;clear f;replace C:WrO Aa (10*i+10) _ _ _ _ _:=C;obtain⟨I7,Bx⟩:=B4.2.1 _ _ _ Ft;refine mv rfl (se rfl rfl (se rfl rfl (asg rfl (asg rfl (nt (ns (mv rfl (st _ (r_neN (a:=Ed) (b:=0) rfl rfl) (mv rfl ?_)))))))));refine part_n (t:=95) rfl (fun A6=>?_) (fun A6=>?_)
                · (have Da:=dq A6);exfalso;omega
                · (have Da:=dF A6);refine sg A6 (r_move rfl) ?_;have D7:=C.wf.nd;have Jh:=Bx.len (by omega);refine st_call_g rfl rfl rfl A6 fn20 rfl (xCommit uQ C (by omega) (by exact Bx.nml) (by omega)) ?_;rintro en Me ⟨Ee,rfl,Ib,Hw,Cf,E9,F,⟨P,V,N⟩,K,J,Fu⟩;refine⟨_,rfl,?_⟩;have O:∀b∈Ce,¬E9 b:=fun b W hq=>(C.lt b W).2 (V b hq);replace G:=(G.sub P).md F O;have L:S∉Cf:=fun h=>(K _ h).elim A (fun h=>by have:=H.lt;omega);replace I:=fun hh=>I (V _ hh);replace H:=H.md F A;replace A:=L;clear L;replace D:=(D.sub P).md F O;replace j:=(j.sub P).md F O;replace o:=(o.sub P).md F O;have L:Ar∉Cf:=fun h=>(K _ h).elim R (fun h=>by have:=U.lt;omega);replace R:=L;clear L;have r:∀x∈Cf,Fsh [] w x:=fun x y=>(K x y).elim (E x) (Fsh.new M x);replace tQ:=fun b W=>tQ b (V b W);replace Af:=fun b W hl=>P b (Af b W hl) (ly hl M.size);replace M:=M.step F E;clear uQ E C;have uQ:=N;have E:=r;have C:=J;have f:=F;clear N r J P V O K F;clear f;replace C:WrO Aa (10*i+14) _ _ _ _ _:=C;obtain⟨I8,Dz⟩:=NmM.commit Bx (by omega) D7 Fu;refine sg A6 (r_neN (a:=Ee) (b:=0) rfl rfl) (st _ (r_pick_f rfl A6 rfl) (nt ?_));refine c_if rfl (fun Bv=>?_) (fun Bv=>?_)
                  · (have Db:=dq Bv);exfalso;omega
                  · (have Db:=dF Bv);refine c_skip (n_block (c_then (c_region (mv rfl (st _ (r_addN (a:=i) (b:=1) 9223372036854775808 rfl rfl rfl (by omega)) (asg rfl (nt ?_)))))));refine next5 (x0:=Cf) (x1:=Hw) (x2:=D6) (x3:=Cu) (x4:=(i+1)) (by omega) ⟨(fitI rfl (by omega)),rfl,rfl,rfl,rfl,rfl,tV⟩ ⟨E9,tQ,Af,uQ,M,(C.up (by omega)),E,H,j,Cs,I,A,(by(rw[show decide (Av<i+1)=decide (Av<i)from decide_eq_decide.2 (by omega)];exact Dz)),(by omega)⟩
            · (have Fg:=Dx);refine c_exit (x_then (x_then (x_hit (c_then (ns ?_)))));obtain⟨c,D0⟩:∃c,decide (Av<i)=c:=⟨_,rfl⟩;rw[D0]at p;have hE:=p.fs;refine asg rfl (nt (c_seq (ns (mv rfl (st_call fn32 rfl (xLen uQ C (([107]:Ly)) (by(simp<;>omega))) ?_)))));rintro en Mf ⟨Jm,Ef,rfl,F,Ic,Id,Fv⟩;refine⟨_,rfl,?_⟩;replace C:=C.md0 F;replace G:=G.md0 F;replace H:=H.md0 F;replace D:=D.md0 F;replace uQ:=uQ.md F;replace M:=M.step0 F;have Dc:=hE.len.1.symm.trans Fv;refine mv rfl (se rfl rfl (se rfl rfl (asg rfl (asg rfl (nt (ns (mv rfl (st _ (r_eqN (a:=Ef) (b:=0) rfl rfl) (nt ?_)))))))));refine c_if rfl (fun Bb=>?_) (fun Bb=>?_)
              · (have Br:=dq Bb)
                obtain rfl:c=true:=by
                  cases c
                  · (obtain⟨_,q9⟩:=Prod.mk.inj Dc;omega)
                  · rfl
                refine ns (asg rfl (nt (ns (mv rfl (st_call fn32 rfl (xLen uQ C (([106]:Ly)) (by(simp<;>omega))) ?_)))));rintro en Mg ⟨Eg,Eh,rfl,F,Ie,If,Fw⟩;refine⟨_,rfl,?_⟩;replace C:=C.md0 F;replace G:=G.md0 F;replace H:=H.md0 F;replace D:=D.md0 F;replace uQ:=uQ.md F;replace M:=M.step0 F;obtain⟨l1,l2⟩:=Prod.mk.inj ((hE.len.2.1 rfl).symm.trans Fw);refine mv rfl (se rfl rfl (se rfl rfl (asg rfl (asg rfl (nt (ns (mv rfl (st _ (r_neN (a:=Eh) (b:=0) rfl rfl) (mv rfl ?_)))))))));refine part_n (t:=114) rfl (fun As=>?_) (fun As=>?_)
                · (have Bs:=dq As);exfalso;omega
                · (have Bs:=dF As);refine sg As (r_move rfl) (sg As (r_neN (a:=Eg) (b:=0) rfl rfl) (st _ (r_pick_f rfl As rfl) (nt ?_)));refine c_if rfl (fun Bc=>?_) (fun Bc=>?_)
                  · (have Bt:=dq Bc);exfalso;omega
                  · (have Bt:=dF Bc);refine c_skip (c_then (ns (mv rfl (mv rfl (st_call fn22 rfl (xAll uQ C (([107]:Ly)) (by(simp<;>omega)) (by omega)) ?_)))));rintro en Mh ⟨I9,Jn,Ei,rfl,F,Ab,Ig,Fx⟩;refine⟨_,rfl,?_⟩;replace C:=C.md0 F;replace G:=G.md0 F;replace H:=H.md0 F;replace D:=D.md0 F;replace uQ:=uQ.md F;replace M:=M.step0 F;obtain⟨Bq,Dq⟩:=Prod.mk.inj (hE.len.2.2.symm.trans Fx);refine mv rfl (se rfl rfl (se rfl rfl (asg rfl (asg rfl (nt (c_seq (ns (mv rfl (st _ (r_neN (a:=Ei) (b:=0) rfl rfl) (mv rfl ?_))))))))));refine part_n (t:=126) rfl (fun T=>?_) (fun T=>?_)
                    · (have Ax:=dq T);exfalso;omega
                    · (have Ax:=dF T);refine sg T (r_move rfl) (sg T (r_move rfl) (st_call_g rfl rfl rfl T fn24 rfl (xImage uQ C (by have e9:=p.len (by omega);omega)) ?_));rintro en Mi ⟨Ja,Jo,rfl,F,Aj,Fy⟩;refine⟨_,rfl,?_⟩;replace C:=C.md0 F;replace G:=G.md0 F;replace H:=H.md0 F;replace D:=D.md0 F;replace Ab:=Ab.md0 F;replace uQ:=uQ.md F;replace M:=M.step0 F;have D4:=Bq.symm.trans Fy;refine st_call_g rfl rfl rfl T fn23 rfl (kSameB_any uQ Ab Aj) ?_;rintro en Mj ⟨Jp,rfl,F,J2⟩;refine⟨_,rfl,?_⟩;replace C:=C.md0 F;replace G:=G.md0 F;replace H:=H.md0 F;replace D:=D.md0 F;replace Ab:=Ab.md0 F;replace Aj:=Aj.md0 F;replace uQ:=uQ.md F;replace M:=M.step0 F;refine sg T (r_not rfl) (st _ (r_pick_f rfl T rfl) (mv rfl ?_));refine part_n (t:=133) rfl (fun X=>?_) (fun X=>?_)
                      · (have Ay:=bnt X);exfalso;simp_all
                      · (have Ay:=bnf X);refine sg X (r_move rfl) (st_call_g rfl rfl rfl X fn29 rfl (xRenW uQ C (([]:Ly)) (by omega) (by exact p.nml) (by decide)) ?_);rintro en Ml ⟨Ej,rfl,Ih,Ks,Cx,G8,F,⟨P,V,N⟩,K,J,Fz⟩;refine⟨_,rfl,?_⟩;have O:∀b∈Ah,¬G8 b:=fun b W hq=>(C.lt b W).2 (V b hq);replace G:=(G.sub P).md F O;have L:S∉Cx:=fun h=>(K _ h).elim A (fun h=>by have:=H.lt;omega);replace H:=H.md F A;replace A:=L;clear L;replace D:=(D.sub P).md F O;replace Ab:=(Ab.sub P).md F O;replace Aj:=(Aj.sub P).md F O;have r:∀x∈Cx,Fsh [] w x:=fun x y=>(K x y).elim (E x) (Fsh.new M x);replace M:=M.step F E;clear uQ E C;have uQ:=N;have E:=r;have C:=J;have f:=F;clear N r J P V O K F;clear f;replace C:WrO Aa (10*i+11) _ _ _ _ _:=C;obtain⟨D8,Bz⟩:=NmM.ren0 p Fz;refine sg X (r_neN (a:=Ej) (b:=1) rfl rfl) (st _ (r_pick_f rfl X rfl) (nt ?_));refine c_if rfl (fun Ai=>?_) (fun Ai=>?_)
                        · (have Az:=dq Ai);exfalso;omega
                        · (have Az:=dF Ai);refine c_skip (c_then (ns (mv rfl (mv rfl (sg rfl (r_move rfl) (sg rfl (r_move rfl) ?_))))));have B3:=C.wf.nd;refine st_call_g rfl rfl rfl rfl fn33 rfl (xDrop uQ C (([107]:Ly)) (by(simp<;>omega)) (by omega)) ?_;rintro en Mm ⟨Ek,rfl,Ii,Kt,Cy,G9,F,⟨P,V,N⟩,K,J,F0⟩;refine⟨_,rfl,?_⟩;have O:∀b∈Cx,¬G9 b:=fun b W hq=>(C.lt b W).2 (V b hq);replace G:=(G.sub P).md F O;have L:S∉Cy:=fun h=>(K _ h).elim A (fun h=>by have:=H.lt;omega);replace H:=H.md F A;replace A:=L;clear L;replace D:=(D.sub P).md F O;replace Ab:=(Ab.sub P).md F O;replace Aj:=(Aj.sub P).md F O;have r:∀x∈Cy,Fsh [] w x:=fun x y=>(K x y).elim (E x) (Fsh.new M x);replace M:=M.step F E;clear uQ E C;have uQ:=N;have E:=r;have C:=J;have f:=F;clear N r J P V O K F;clear f;replace C:WrO Aa (10*i+12) _ _ _ _ _:=C;obtain⟨Dr,hG⟩:=NmM.drop Bz (by omega) B3 F0;refine sg rfl (r_eqN (a:=Ek) (b:=0) rfl rfl) (st _ (r_pick_t rfl rfl rfl) (mv rfl ?_));refine part_n (t:=145) rfl (fun Y=>?_) (fun Y=>?_)
                          · (have A0:=dq Y);refine sg Y (r_move rfl) (st_call_g rfl rfl rfl Y fn20 rfl (xCommit uQ C (by omega) (by rw[hG.2.2.2.1];exact nmN_len _) (by have e9:=hG.2.2.2.2;omega)) ?_);rintro en Mn ⟨El,rfl,Ij,Ku,Cz,Ha,F,⟨P,V,N⟩,K,J,F1⟩;refine⟨_,rfl,?_⟩;have O:∀b∈Cy,¬Ha b:=fun b W hq=>(C.lt b W).2 (V b hq);replace G:=(G.sub P).md F O;have L:S∉Cz:=fun h=>(K _ h).elim A (fun h=>by have:=H.lt;omega);replace H:=H.md F A;replace A:=L;clear L;replace D:=(D.sub P).md F O;replace Ab:=(Ab.sub P).md F O;replace Aj:=(Aj.sub P).md F O;have r:∀x∈Cz,Fsh [] w x:=fun x y=>(K x y).elim (E x) (Fsh.new M x);replace M:=M.step F E;clear uQ E C;have uQ:=N;have E:=r;have C:=J;have f:=F;clear N r J P V O K F;clear f;replace C:WrO Aa (10*i+16) _ _ _ _ _:=C;obtain⟨Du,Bd⟩:=hG.commit F1;refine sg Y (r_eqN (a:=El) (b:=16) rfl rfl) (st _ (r_pick_t rfl Y rfl) (mv rfl ?_));refine part_n (t:=150) rfl (fun Z=>?_) (fun Z=>?_)
                            · (have A3:=dq Z);refine sg Z (r_move rfl) (st_call_g rfl rfl rfl Z fn29 rfl (xRenW uQ C (([122]:Ly)) (by omega) (by rw[Bd.2.2.2.1];exact nmN_len _) (by decide)) ?_);rintro en Mo ⟨B6,rfl,Ik,Kv,Dm,Hb,F,⟨P,V,N⟩,K,J,F2⟩;refine⟨_,rfl,?_⟩;have O:∀b∈Cz,¬Hb b:=fun b W hq=>(C.lt b W).2 (V b hq);replace G:=(G.sub P).md F O;have L:S∉Dm:=fun h=>(K _ h).elim A (fun h=>by have:=H.lt;omega);replace A:=L;clear L;replace D:=(D.sub P).md F O;replace Ab:=(Ab.sub P).md F O;replace Aj:=(Aj.sub P).md F O;have r:∀x∈Dm,Fsh [] w x:=fun x y=>(K x y).elim (E x) (Fsh.new M x);replace M:=M.step F E;clear uQ E C;have uQ:=N;have E:=r;have C:=J;have f:=F;clear N r J P V O K F;clear f;replace C:WrO Aa (10*i+17) _ _ _ _ _:=C;have Dv:=Bd.ren F2;refine sg Z (r_eqN (a:=B6) (b:=16) rfl rfl) (st _ (r_pick_t rfl Z rfl) (asg rfl (nt (c_ret ?_))));exact ret1L (v:=(.bool ((decide (B6=16))))) trivial rfl ⟨rfl,tV⟩ ⟨(decide (B6=16)),rfl,M,(by exact(decide_eq_true (by omega)).symm)⟩
                            · (have A3:=dF Z);exfalso;omega
                          · (have A0:=dF Y);exfalso;omega
              · (have Br:=dF Bb)
                obtain rfl:c=false:=by
                  cases c
                  · rfl
                  · (obtain⟨_,q9⟩:=Prod.mk.inj Dc;omega)
                refine c_skip (c_then (ns (mv rfl (mv rfl (st_call fn22 rfl (xAll uQ C (([106]:Ly)) (by(simp<;>omega)) (by omega)) ?_)))));rintro en Mp ⟨Jb,Jq,Em,rfl,F,Ac,Il,F3⟩;refine⟨_,rfl,?_⟩;replace C:=C.md0 F;replace G:=G.md0 F;replace H:=H.md0 F;replace D:=D.md0 F;replace uQ:=uQ.md F;replace M:=M.step0 F;obtain⟨Bq,Dq⟩:=Prod.mk.inj (hE.len.2.2.symm.trans F3);refine mv rfl (se rfl rfl (se rfl rfl (asg rfl (asg rfl (nt (c_seq (ns (mv rfl (st _ (r_neN (a:=Em) (b:=0) rfl rfl) (mv rfl ?_))))))))));refine part_n (t:=126) rfl (fun T=>?_) (fun T=>?_)
                · (have Ax:=dq T);exfalso;omega
                · (have Ax:=dF T);refine sg T (r_move rfl) (sg T (r_move rfl) (st_call_g rfl rfl rfl T fn24 rfl (xImage uQ C (by have e9:=p.len (by omega);omega)) ?_));rintro en Mq ⟨Jc,Jr,rfl,F,Ak,F4⟩;refine⟨_,rfl,?_⟩;replace C:=C.md0 F;replace G:=G.md0 F;replace H:=H.md0 F;replace D:=D.md0 F;replace Ac:=Ac.md0 F;replace uQ:=uQ.md F;replace M:=M.step0 F;have D4:=Bq.symm.trans F4;refine st_call_g rfl rfl rfl T fn23 rfl (kSameB_any uQ Ac Ak) ?_;rintro en Mr ⟨Js,rfl,F,J3⟩;refine⟨_,rfl,?_⟩;replace C:=C.md0 F;replace G:=G.md0 F;replace H:=H.md0 F;replace D:=D.md0 F;replace Ac:=Ac.md0 F;replace Ak:=Ak.md0 F;replace uQ:=uQ.md F;replace M:=M.step0 F;refine sg T (r_not rfl) (st _ (r_pick_f rfl T rfl) (mv rfl ?_));refine part_n (t:=133) rfl (fun X=>?_) (fun X=>?_)
                  · (have Ay:=bnt X);exfalso;simp_all
                  · (have Ay:=bnf X);refine sg X (r_move rfl) (st_call_g rfl rfl rfl X fn29 rfl (xRenW uQ C (([]:Ly)) (by omega) (by exact p.nml) (by decide)) ?_);rintro en Ms ⟨En,rfl,Im,Kw,C0,Hc,F,⟨P,V,N⟩,K,J,Ga⟩;refine⟨_,rfl,?_⟩;have O:∀b∈Ah,¬Hc b:=fun b W hq=>(C.lt b W).2 (V b hq);replace G:=(G.sub P).md F O;have L:S∉C0:=fun h=>(K _ h).elim A (fun h=>by have:=H.lt;omega);replace H:=H.md F A;replace A:=L;clear L;replace D:=(D.sub P).md F O;replace Ac:=(Ac.sub P).md F O;replace Ak:=(Ak.sub P).md F O;have r:∀x∈C0,Fsh [] w x:=fun x y=>(K x y).elim (E x) (Fsh.new M x);replace M:=M.step F E;clear uQ E C;have uQ:=N;have E:=r;have C:=J;have f:=F;clear N r J P V O K F;clear f;replace C:WrO Aa (10*i+11) _ _ _ _ _:=C;obtain⟨D8,Bz⟩:=NmM.ren0 p Ga;refine sg X (r_neN (a:=En) (b:=1) rfl rfl) (st _ (r_pick_f rfl X rfl) (nt ?_));refine c_if rfl (fun Ai=>?_) (fun Ai=>?_)
                    · (have Az:=dq Ai);exfalso;omega
                    · (have Az:=dF Ai);refine c_skip (c_then (ns (mv rfl (mv rfl (sg rfl (r_move rfl) (sg rfl (r_move rfl) ?_))))));have B3:=C.wf.nd;refine st_call_g rfl rfl rfl rfl fn33 rfl (xDrop uQ C (([106]:Ly)) (by(simp<;>omega)) (by omega)) ?_;rintro en Mt ⟨Eo,rfl,In,Kx,C1,Hd,F,⟨P,V,N⟩,K,J,Gb⟩;refine⟨_,rfl,?_⟩;have O:∀b∈C0,¬Hd b:=fun b W hq=>(C.lt b W).2 (V b hq);replace G:=(G.sub P).md F O;have L:S∉C1:=fun h=>(K _ h).elim A (fun h=>by have:=H.lt;omega);replace H:=H.md F A;replace A:=L;clear L;replace D:=(D.sub P).md F O;replace Ac:=(Ac.sub P).md F O;replace Ak:=(Ak.sub P).md F O;have r:∀x∈C1,Fsh [] w x:=fun x y=>(K x y).elim (E x) (Fsh.new M x);replace M:=M.step F E;clear uQ E C;have uQ:=N;have E:=r;have C:=J;have f:=F;clear N r J P V O K F;clear f;replace C:WrO Aa (10*i+12) _ _ _ _ _:=C;obtain⟨Dr,hG⟩:=NmM.drop Bz (by omega) B3 Gb;refine sg rfl (r_eqN (a:=Eo) (b:=0) rfl rfl) (st _ (r_pick_t rfl rfl rfl) (mv rfl ?_));refine part_n (t:=145) rfl (fun Y=>?_) (fun Y=>?_)
                      · (have A0:=dq Y);refine sg Y (r_move rfl) (st_call_g rfl rfl rfl Y fn20 rfl (xCommit uQ C (by omega) (by rw[hG.2.2.2.1];exact nmN_len _) (by have e9:=hG.2.2.2.2;omega)) ?_);rintro en Mu ⟨Ep,rfl,Io,Ky,C2,He,F,⟨P,V,N⟩,K,J,Gc⟩;refine⟨_,rfl,?_⟩;have O:∀b∈C1,¬He b:=fun b W hq=>(C.lt b W).2 (V b hq);replace G:=(G.sub P).md F O;have L:S∉C2:=fun h=>(K _ h).elim A (fun h=>by have:=H.lt;omega);replace H:=H.md F A;replace A:=L;clear L;replace D:=(D.sub P).md F O;replace Ac:=(Ac.sub P).md F O;replace Ak:=(Ak.sub P).md F O;have r:∀x∈C2,Fsh [] w x:=fun x y=>(K x y).elim (E x) (Fsh.new M x);replace M:=M.step F E;clear uQ E C;have uQ:=N;have E:=r;have C:=J;have f:=F;clear N r J P V O K F;clear f;replace C:WrO Aa (10*i+16) _ _ _ _ _:=C;obtain⟨Du,Bd⟩:=hG.commit Gc;refine sg Y (r_eqN (a:=Ep) (b:=16) rfl rfl) (st _ (r_pick_t rfl Y rfl) (mv rfl ?_));refine part_n (t:=150) rfl (fun Z=>?_) (fun Z=>?_)
                        · (have A3:=dq Z);refine sg Z (r_move rfl) (st_call_g rfl rfl rfl Z fn29 rfl (xRenW uQ C (([122]:Ly)) (by omega) (by rw[Bd.2.2.2.1];exact nmN_len _) (by decide)) ?_);rintro en w64 ⟨B8,rfl,Ip,Kz,Dn,Hf,F,⟨P,V,N⟩,K,J,Gd⟩;refine⟨_,rfl,?_⟩;have O:∀b∈C2,¬Hf b:=fun b W hq=>(C.lt b W).2 (V b hq);replace G:=(G.sub P).md F O;have L:S∉Dn:=fun h=>(K _ h).elim A (fun h=>by have:=H.lt;omega);replace A:=L;clear L;replace D:=(D.sub P).md F O;replace Ac:=(Ac.sub P).md F O;replace Ak:=(Ak.sub P).md F O;have r:∀x∈Dn,Fsh [] w x:=fun x y=>(K x y).elim (E x) (Fsh.new M x);replace M:=M.step F E;clear uQ E C;have uQ:=N;have E:=r;have C:=J;have f:=F;clear N r J P V O K F;clear f;replace C:WrO Aa (10*i+17) _ _ _ _ _:=C;have Dv:=Bd.ren Gd;refine sg Z (r_eqN (a:=B8) (b:=16) rfl rfl) (st _ (r_pick_t rfl Z rfl) (asg rfl (nt (c_ret ?_))));exact ret1L (v:=(.bool ((decide (B8=16))))) trivial rfl ⟨rfl,tV⟩ ⟨(decide (B8=16)),rfl,M,(by exact(decide_eq_true (by omega)).symm)⟩
                        · (have A3:=dF Z);exfalso;omega
                      · (have A0:=dF Y);exfalso;omega
          · (have Ff:=dF Bk);refine sk Bk (sk Bk (st _ (r_pick_f rfl Bk rfl) (nt (c_if_f rfl rfl (c_exit (x_then (x_then (x_hit (c_then (ns ?_))))))))));obtain⟨c,D0⟩:∃c,decide (Av<i)=c:=⟨_,rfl⟩;rw[D0]at p;have hE:=p.fs;refine asg rfl (nt (c_seq (ns (mv rfl (st_call fn32 rfl (xLen uQ C (([107]:Ly)) (by(simp<;>omega))) ?_)))));rintro en Mv ⟨Jt,Er,rfl,F,Iq,Ir,Ge⟩;refine⟨_,rfl,?_⟩;replace C:=C.md0 F;replace G:=G.md0 F;replace H:=H.md0 F;replace uQ:=uQ.md F;replace M:=M.step0 F;have Dc:=hE.len.1.symm.trans Ge;refine mv rfl (se rfl rfl (se rfl rfl (asg rfl (asg rfl (nt (ns (mv rfl (st _ (r_eqN (a:=Er) (b:=0) rfl rfl) (nt ?_)))))))));refine c_if rfl (fun Bb=>?_) (fun Bb=>?_)
            · (have Br:=dq Bb)
              obtain rfl:c=true:=by
                cases c
                · (obtain⟨_,q9⟩:=Prod.mk.inj Dc;omega)
                · rfl
              refine ns (asg rfl (nt (ns (mv rfl (st_call fn32 rfl (xLen uQ C (([106]:Ly)) (by(simp<;>omega))) ?_)))));rintro en Mw ⟨Es,Et,rfl,F,Is,It,Gf⟩;refine⟨_,rfl,?_⟩;replace C:=C.md0 F;replace G:=G.md0 F;replace H:=H.md0 F;replace uQ:=uQ.md F;replace M:=M.step0 F;obtain⟨l1,l2⟩:=Prod.mk.inj ((hE.len.2.1 rfl).symm.trans Gf);refine mv rfl (se rfl rfl (se rfl rfl (asg rfl (asg rfl (nt (ns (mv rfl (st _ (r_neN (a:=Et) (b:=0) rfl rfl) (mv rfl ?_)))))))));refine part_n (t:=114) rfl (fun As=>?_) (fun As=>?_)
              · (have Bs:=dq As);exfalso;omega
              · (have Bs:=dF As);refine sg As (r_move rfl) (sg As (r_neN (a:=Es) (b:=0) rfl rfl) (st _ (r_pick_f rfl As rfl) (nt ?_)));refine c_if rfl (fun Bc=>?_) (fun Bc=>?_)
                · (have Bt:=dq Bc);exfalso;omega
                · (have Bt:=dF Bc);refine c_skip (c_then (ns (mv rfl (mv rfl (st_call fn22 rfl (xAll uQ C (([107]:Ly)) (by(simp<;>omega)) (by omega)) ?_)))));rintro en Mx ⟨Jd,Ju,Eu,rfl,F,Ad,Iu,Gg⟩;refine⟨_,rfl,?_⟩;replace C:=C.md0 F;replace G:=G.md0 F;replace H:=H.md0 F;replace uQ:=uQ.md F;replace M:=M.step0 F;obtain⟨Bq,Dq⟩:=Prod.mk.inj (hE.len.2.2.symm.trans Gg);refine mv rfl (se rfl rfl (se rfl rfl (asg rfl (asg rfl (nt (c_seq (ns (mv rfl (st _ (r_neN (a:=Eu) (b:=0) rfl rfl) (mv rfl ?_))))))))));refine part_n (t:=126) rfl (fun T=>?_) (fun T=>?_)
                  · (have Ax:=dq T);exfalso;omega
                  · (have Ax:=dF T);refine sg T (r_move rfl) (sg T (r_move rfl) (st_call_g rfl rfl rfl T fn24 rfl (xImage uQ C (by have e9:=p.len (by omega);omega)) ?_));rintro en My ⟨Je,Jv,rfl,F,Al,Gh⟩;refine⟨_,rfl,?_⟩;replace C:=C.md0 F;replace G:=G.md0 F;replace H:=H.md0 F;replace Ad:=Ad.md0 F;replace uQ:=uQ.md F;replace M:=M.step0 F;have D4:=Bq.symm.trans Gh;refine st_call_g rfl rfl rfl T fn23 rfl (kSameB_any uQ Ad Al) ?_;rintro en Mz ⟨Jw,rfl,F,J4⟩;refine⟨_,rfl,?_⟩;replace C:=C.md0 F;replace G:=G.md0 F;replace H:=H.md0 F;replace Ad:=Ad.md0 F;replace Al:=Al.md0 F;replace uQ:=uQ.md F;replace M:=M.step0 F;refine sg T (r_not rfl) (st _ (r_pick_f rfl T rfl) (mv rfl ?_));refine part_n (t:=133) rfl (fun X=>?_) (fun X=>?_)
                    · (have Ay:=bnt X);exfalso;simp_all
                    · (have Ay:=bnf X);refine sg X (r_move rfl) (st_call_g rfl rfl rfl X fn29 rfl (xRenW uQ C (([]:Ly)) (by omega) (by exact p.nml) (by decide)) ?_);rintro en M5 ⟨Ev,rfl,Iv,K0,C3,Hg,F,⟨P,V,N⟩,K,J,Gi⟩;refine⟨_,rfl,?_⟩;have O:∀b∈Ah,¬Hg b:=fun b W hq=>(C.lt b W).2 (V b hq);replace G:=(G.sub P).md F O;have L:S∉C3:=fun h=>(K _ h).elim A (fun h=>by have:=H.lt;omega);replace H:=H.md F A;replace A:=L;clear L;replace Ad:=(Ad.sub P).md F O;replace Al:=(Al.sub P).md F O;have r:∀x∈C3,Fsh [] w x:=fun x y=>(K x y).elim (E x) (Fsh.new M x);replace M:=M.step F E;clear uQ E C;have uQ:=N;have E:=r;have C:=J;have f:=F;clear N r J P V O K F;clear f;replace C:WrO Aa (10*i+11) _ _ _ _ _:=C;obtain⟨D8,Bz⟩:=NmM.ren0 p Gi;refine sg X (r_neN (a:=Ev) (b:=1) rfl rfl) (st _ (r_pick_f rfl X rfl) (nt ?_));refine c_if rfl (fun Ai=>?_) (fun Ai=>?_)
                      · (have Az:=dq Ai);exfalso;omega
                      · (have Az:=dF Ai);refine c_skip (c_then (ns (mv rfl (mv rfl (sg rfl (r_move rfl) (sg rfl (r_move rfl) ?_))))));have B3:=C.wf.nd;refine st_call_g rfl rfl rfl rfl fn33 rfl (xDrop uQ C (([107]:Ly)) (by(simp<;>omega)) (by omega)) ?_;rintro en M6 ⟨Ew,rfl,Iw,K6,C4,Hh,F,⟨P,V,N⟩,K,J,Gj⟩;refine⟨_,rfl,?_⟩;have O:∀b∈C3,¬Hh b:=fun b W hq=>(C.lt b W).2 (V b hq);replace G:=(G.sub P).md F O;have L:S∉C4:=fun h=>(K _ h).elim A (fun h=>by have:=H.lt;omega);replace H:=H.md F A;replace A:=L;clear L;replace Ad:=(Ad.sub P).md F O;replace Al:=(Al.sub P).md F O;have r:∀x∈C4,Fsh [] w x:=fun x y=>(K x y).elim (E x) (Fsh.new M x);replace M:=M.step F E;clear uQ E C;have uQ:=N;have E:=r;have C:=J;have f:=F;clear N r J P V O K F;clear f;replace C:WrO Aa (10*i+12) _ _ _ _ _:=C;obtain⟨Dr,hG⟩:=NmM.drop Bz (by omega) B3 Gj;refine sg rfl (r_eqN (a:=Ew) (b:=0) rfl rfl) (st _ (r_pick_t rfl rfl rfl) (mv rfl ?_));refine part_n (t:=145) rfl (fun Y=>?_) (fun Y=>?_)
                        · (have A0:=dq Y);refine sg Y (r_move rfl) (st_call_g rfl rfl rfl Y fn20 rfl (xCommit uQ C (by omega) (by rw[hG.2.2.2.1];exact nmN_len _) (by have e9:=hG.2.2.2.2;omega)) ?_);rintro en M7 ⟨Ex,rfl,Ix,K7,C5,Hi,F,⟨P,V,N⟩,K,J,Gk⟩;refine⟨_,rfl,?_⟩;have O:∀b∈C4,¬Hi b:=fun b W hq=>(C.lt b W).2 (V b hq);replace G:=(G.sub P).md F O;have L:S∉C5:=fun h=>(K _ h).elim A (fun h=>by have:=H.lt;omega);replace H:=H.md F A;replace A:=L;clear L;replace Ad:=(Ad.sub P).md F O;replace Al:=(Al.sub P).md F O;have r:∀x∈C5,Fsh [] w x:=fun x y=>(K x y).elim (E x) (Fsh.new M x);replace M:=M.step F E;clear uQ E C;have uQ:=N;have E:=r;have C:=J;have f:=F;clear N r J P V O K F;clear f;replace C:WrO Aa (10*i+16) _ _ _ _ _:=C;obtain⟨Du,Bd⟩:=hG.commit Gk;refine sg Y (r_eqN (a:=Ex) (b:=16) rfl rfl) (st _ (r_pick_t rfl Y rfl) (mv rfl ?_));refine part_n (t:=150) rfl (fun Z=>?_) (fun Z=>?_)
                          · (have A3:=dq Z);refine sg Z (r_move rfl) (st_call_g rfl rfl rfl Z fn29 rfl (xRenW uQ C (([122]:Ly)) (by omega) (by rw[Bd.2.2.2.1];exact nmN_len _) (by decide)) ?_);rintro en M8 ⟨B9,rfl,Iy,K8,Do,Hj,F,⟨P,V,N⟩,K,J,Gl⟩;refine⟨_,rfl,?_⟩;have O:∀b∈C5,¬Hj b:=fun b W hq=>(C.lt b W).2 (V b hq);replace G:=(G.sub P).md F O;have L:S∉Do:=fun h=>(K _ h).elim A (fun h=>by have:=H.lt;omega);replace A:=L;clear L;replace Ad:=(Ad.sub P).md F O;replace Al:=(Al.sub P).md F O;have r:∀x∈Do,Fsh [] w x:=fun x y=>(K x y).elim (E x) (Fsh.new M x);replace M:=M.step F E;clear uQ E C;have uQ:=N;have E:=r;have C:=J;have f:=F;clear N r J P V O K F;clear f;replace C:WrO Aa (10*i+17) _ _ _ _ _:=C;have Dv:=Bd.ren Gl;refine sg Z (r_eqN (a:=B9) (b:=16) rfl rfl) (st _ (r_pick_t rfl Z rfl) (asg rfl (nt (c_ret ?_))));exact ret1L (v:=(.bool ((decide (B9=16))))) trivial rfl ⟨rfl,tV⟩ ⟨(decide (B9=16)),rfl,M,(by exact(decide_eq_true (by omega)).symm)⟩
                          · (have A3:=dF Z);exfalso;omega
                        · (have A0:=dF Y);exfalso;omega
            · (have Br:=dF Bb)
              obtain rfl:c=false:=by
                cases c
                · rfl
                · (obtain⟨_,q9⟩:=Prod.mk.inj Dc;omega)
              refine c_skip (c_then (ns (mv rfl (mv rfl (st_call fn22 rfl (xAll uQ C (([106]:Ly)) (by(simp<;>omega)) (by omega)) ?_)))));rintro en M9 ⟨Jf,Jx,Ey,rfl,F,Ae,Iz,Gm⟩;refine⟨_,rfl,?_⟩;replace C:=C.md0 F;replace G:=G.md0 F;replace H:=H.md0 F;replace uQ:=uQ.md F;replace M:=M.step0 F;obtain⟨Bq,Dq⟩:=Prod.mk.inj (hE.len.2.2.symm.trans Gm);refine mv rfl (se rfl rfl (se rfl rfl (asg rfl (asg rfl (nt (c_seq (ns (mv rfl (st _ (r_neN (a:=Ey) (b:=0) rfl rfl) (mv rfl ?_))))))))));refine part_n (t:=126) rfl (fun T=>?_) (fun T=>?_)
              · (have Ax:=dq T);exfalso;omega
              · (have Ax:=dF T);refine sg T (r_move rfl) (sg T (r_move rfl) (st_call_g rfl rfl rfl T fn24 rfl (xImage uQ C (by have e9:=p.len (by omega);omega)) ?_));rintro en Na ⟨Jg,Jy,rfl,F,Am,Gn⟩;refine⟨_,rfl,?_⟩;replace C:=C.md0 F;replace G:=G.md0 F;replace H:=H.md0 F;replace Ae:=Ae.md0 F;replace uQ:=uQ.md F;replace M:=M.step0 F;have D4:=Bq.symm.trans Gn;refine st_call_g rfl rfl rfl T fn23 rfl (kSameB_any uQ Ae Am) ?_;rintro en Nb ⟨Jz,rfl,F,J5⟩;refine⟨_,rfl,?_⟩;replace C:=C.md0 F;replace G:=G.md0 F;replace H:=H.md0 F;replace Ae:=Ae.md0 F;replace Am:=Am.md0 F;replace uQ:=uQ.md F;replace M:=M.step0 F;refine sg T (r_not rfl) (st _ (r_pick_f rfl T rfl) (mv rfl ?_));refine part_n (t:=133) rfl (fun X=>?_) (fun X=>?_)
                · (have Ay:=bnt X);exfalso;simp_all
                · (have Ay:=bnf X);refine sg X (r_move rfl) (st_call_g rfl rfl rfl X fn29 rfl (xRenW uQ C (([]:Ly)) (by omega) (by exact p.nml) (by decide)) ?_);rintro en Nc ⟨Ez,rfl,I0,K9,C7,Hk,F,⟨P,V,N⟩,K,J,Gp⟩;refine⟨_,rfl,?_⟩;have O:∀b∈Ah,¬Hk b:=fun b W hq=>(C.lt b W).2 (V b hq);replace G:=(G.sub P).md F O;have L:S∉C7:=fun h=>(K _ h).elim A (fun h=>by have:=H.lt;omega);replace H:=H.md F A;replace A:=L;clear L;replace Ae:=(Ae.sub P).md F O;replace Am:=(Am.sub P).md F O;have r:∀x∈C7,Fsh [] w x:=fun x y=>(K x y).elim (E x) (Fsh.new M x);replace M:=M.step F E;clear uQ E C;have uQ:=N;have E:=r;have C:=J;have f:=F;clear N r J P V O K F;clear f;replace C:WrO Aa (10*i+11) _ _ _ _ _:=C;obtain⟨D8,Bz⟩:=NmM.ren0 p Gp;refine sg X (r_neN (a:=Ez) (b:=1) rfl rfl) (st _ (r_pick_f rfl X rfl) (nt ?_));refine c_if rfl (fun Ai=>?_) (fun Ai=>?_)
                  · (have Az:=dq Ai);exfalso;omega
                  · (have Az:=dF Ai);refine c_skip (c_then (ns (mv rfl (mv rfl (sg rfl (r_move rfl) (sg rfl (r_move rfl) ?_))))));have B3:=C.wf.nd;refine st_call_g rfl rfl rfl rfl fn33 rfl (xDrop uQ C (([106]:Ly)) (by(simp<;>omega)) (by omega)) ?_;rintro en Nd ⟨E0,rfl,I1,La,C8,Hl,F,⟨P,V,N⟩,K,J,Gq⟩;refine⟨_,rfl,?_⟩;have O:∀b∈C7,¬Hl b:=fun b W hq=>(C.lt b W).2 (V b hq);replace G:=(G.sub P).md F O;have L:S∉C8:=fun h=>(K _ h).elim A (fun h=>by have:=H.lt;omega);replace H:=H.md F A;replace A:=L;clear L;replace Ae:=(Ae.sub P).md F O;replace Am:=(Am.sub P).md F O;have r:∀x∈C8,Fsh [] w x:=fun x y=>(K x y).elim (E x) (Fsh.new M x);replace M:=M.step F E;clear uQ E C;have uQ:=N;have E:=r;have C:=J;have f:=F;clear N r J P V O K F;clear f;replace C:WrO Aa (10*i+12) _ _ _ _ _:=C;obtain⟨Dr,hG⟩:=NmM.drop Bz (by omega) B3 Gq;refine sg rfl (r_eqN (a:=E0) (b:=0) rfl rfl) (st _ (r_pick_t rfl rfl rfl) (mv rfl ?_));refine part_n (t:=145) rfl (fun Y=>?_) (fun Y=>?_)
                    · (have A0:=dq Y);refine sg Y (r_move rfl) (st_call_g rfl rfl rfl Y fn20 rfl (xCommit uQ C (by omega) (by rw[hG.2.2.2.1];exact nmN_len _) (by have e9:=hG.2.2.2.2;omega)) ?_);rintro en Nf ⟨E3,rfl,I4,Lb,C9,Hm,F,⟨P,V,N⟩,K,J,Gs⟩;refine⟨_,rfl,?_⟩;have O:∀b∈C8,¬Hm b:=fun b W hq=>(C.lt b W).2 (V b hq);replace G:=(G.sub P).md F O;have L:S∉C9:=fun h=>(K _ h).elim A (fun h=>by have:=H.lt;omega);replace H:=H.md F A;replace A:=L;clear L;replace Ae:=(Ae.sub P).md F O;replace Am:=(Am.sub P).md F O;have r:∀x∈C9,Fsh [] w x:=fun x y=>(K x y).elim (E x) (Fsh.new M x);replace M:=M.step F E;clear uQ E C;have uQ:=N;have E:=r;have C:=J;have f:=F;clear N r J P V O K F;clear f;replace C:WrO Aa (10*i+16) _ _ _ _ _:=C;obtain⟨Du,Bd⟩:=hG.commit Gs;refine sg Y (r_eqN (a:=E3) (b:=16) rfl rfl) (st _ (r_pick_t rfl Y rfl) (mv rfl ?_));refine part_n (t:=150) rfl (fun Z=>?_) (fun Z=>?_)
                      · (have A3:=dq Z);refine sg Z (r_move rfl) (st_call_g rfl rfl rfl Z fn29 rfl (xRenW uQ C (([122]:Ly)) (by omega) (by rw[Bd.2.2.2.1];exact nmN_len _) (by decide)) ?_);rintro en Ng ⟨Ca,rfl,I5,Lc,Dp,Hn,F,⟨P,V,N⟩,K,J,Gt⟩;refine⟨_,rfl,?_⟩;have O:∀b∈C9,¬Hn b:=fun b W hq=>(C.lt b W).2 (V b hq);replace G:=(G.sub P).md F O;have L:S∉Dp:=fun h=>(K _ h).elim A (fun h=>by have:=H.lt;omega);replace A:=L;clear L;replace Ae:=(Ae.sub P).md F O;replace Am:=(Am.sub P).md F O;have r:∀x∈Dp,Fsh [] w x:=fun x y=>(K x y).elim (E x) (Fsh.new M x);replace M:=M.step F E;clear uQ E C;have uQ:=N;have E:=r;have C:=J;have f:=F;clear N r J P V O K F;clear f;replace C:WrO Aa (10*i+17) _ _ _ _ _:=C;have Dv:=Bd.ren Gt;refine sg Z (r_eqN (a:=Ca) (b:=16) rfl rfl) (st _ (r_pick_t rfl Z rfl) (asg rfl (nt (c_ret ?_))));exact ret1L (v:=(.bool ((decide (Ca=16))))) trivial rfl ⟨rfl,tV⟩ ⟨(decide (Ca=16)),rfl,M,(by exact(decide_eq_true (by omega)).symm)⟩
                      · (have A3:=dF Z);exfalso;omega
                    · (have A0:=dF Y);exfalso;omega
end Go.Proofs.YtfadcpfgenjbeaaGreat
namespace Go.Wk
open Go Go.RowKit Go.ChangeShapes Go.WideShapes Go.ChangeAt Go.Deep

section
variable {H:Type} {enc:TypeId × Value→H} {P:Program} {w:World} {t f:TypeId} {v:Value} {d:DataW H} {ps:List MemPlace}
/-- []int and its like. -/
theorem open_intl {spare:Nat→Bool} {base:Nat} {held:Bool} {r:Reach} {b0:Nat} {e:TypeId} {k:IntKind} (ht:P.underlying t=some (.slice e)) (he:P.underlying e=some (.int k)) (hc:P.cellsOf e=1) (hv:Value.okWide P w r b0 t v)
    (h:DataW.Trod enc P w base spare held t v d ps):∃l:List Int,Sl w v (l.map (Value.int k))∧∀z∈l,(Lit.int k z).wf=true:=by
  obtain⟨S,A,D,rfl⟩:=okWide_slice ht hv
  obtain⟨L,N⟩:=h
  rcases open_ints ht he hc N with⟨E,_⟩|⟨a,R,M,K,E,_,T,O,J,_,B,I⟩
  · simp[Value.cells]at E
    obtain⟨rfl,rfl,rfl⟩:=E
    exact⟨[],Sl.nil w,by simp⟩
  · simp[Value.cells]at E
    obtain⟨rfl,rfl,rfl⟩:=E
    have G:A≤K.length:=by rw[J];split <;> omega
    refine⟨K.take A,⟨some a,D,by simp[Nat.min_eq_left G],by simp;omega,O,by simp,fun p Q j u F=>?_⟩,fun z J=>I z (List.mem_of_mem_take J)⟩
    cases Q
    have hj':=(List.getElem?_eq_some_iff.1 F).1
    simp only[List.length_map,List.length_take]at hj'
    have H:j<A:=by omega
    have C:j<K.length:=by omega
    rw[B j C]
    rw[List.getElem?_map,List.getElem?_take]at F
    rw[if_pos H]at F
    simp[C]at F
    simp[List.getD,C,F]
end
end Go.Wk
namespace Go.Wk
open Go Go.RowKit Go.ChangeShapes Go.WideShapes Go.ChangeAt Go.Deep
section
variable {H:Type} {enc:TypeId × Value→H} {P:Program} {w:World} {t e f:TypeId} {v:Value} {d:DataW H} {ps:List MemPlace} {spare:Nat→Bool} {base:Nat} {held:Bool}
theorem ints_ls {l:List Int} (h:Sl w v (l.map (Value.int .i64))) (hw:∀z∈l,(Lit.int .i64 z).wf=true):Ls tInt w (fun _=>True) v l :=
  Ls.of_sl h (fun x hx=>by
    have:=hw x hx
    simp[Lit.wf,IntKind.min,IntKind.max,IntKind.signed,IntKind.bits]at this
    show -9223372036854775808≤x∧x<9223372036854775808
    omega) (fun _ _ _=>trivial)
end
theorem int_bd {z:Int} (h:(Lit.int .i64 z).wf=true):-9223372036854775808≤z∧z<9223372036854775808:=by
  simp[Lit.wf,IntKind.min,IntKind.max,IntKind.signed,IntKind.bits]at h
  omega
end Go.Wk
namespace Go.Wk
open Go Go.RowKit Go.ChangeShapes Go.WideShapes Go.ChangeAt Go.Deep
section
variable {H:Type} {enc:TypeId × Value→H} {P:Program} {w:World} {spare:Nat→Bool} {base:Nat} {held:Bool} {t e:TypeId} {α β:Type}
end
end Go.Wk
