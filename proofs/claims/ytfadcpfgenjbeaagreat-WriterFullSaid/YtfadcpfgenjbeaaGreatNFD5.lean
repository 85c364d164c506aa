/- Part 5 of what the walk of a law stands on: VSs, VSt, VSu, VSv, SimQ, VSx, VSy, VSz, VTa, VTb, VTc, VTd, VTe, VTf, VTh, VTi, VXg, VXh, VXi, VXj, Laid, SortR, VComp, WCmp, VSo3. No statement is proved here. -/
import Derived.Test.YtfadcpfgenjbeaaGreatNFD4
import Derived.Test.YtfadcpfgenjbeaaGreatRows
set_option linter.unusedSimpArgs false
namespace Go.Proofs.YtfadcpfgenjbeaaGreat
open Go Go.Wk Go.RowKit
set_option linter.unusedVariables false
set_option linter.unusedSimpArgs false
attribute [local irreducible] wpList wpQuiet wpStill wpMix Code.wp Calls bodyPost
theorem fn70:isFn Tryz.prog 70=true:=by kernel_rfl
theorem fn71:isFn Tryz.prog 71=true:=by kernel_rfl
theorem fn73:isFn Tryz.prog 73=true:=by kernel_rfl
theorem off97_0:fieldOff Tryz.prog 97 0=some 0:=by kernel_rfl

theorem fFree_any {w:World} {Q:Nat→Prop} (uQ:Up w Q) {b0:Nat} {v0_0:Value} {v0_1:Value} (f:SFs) (h0:Blk w b0 (SFs.cells f v0_0 v0_1) 97) (n0:¬Q b0) (a0_0:SFs.ok f) (a0_1:Ow tNd 143 (fun _=>True) w Q v0_0 f.nodes) (a0_2:Ow tSCh 153 (fun _=>True) w Q v0_1 f.pend) (p0:Nds 148 203 (fun _=>True) w Q f.nodes) (p1:(totF f.nodes).2≤1000000000000) (p2:0≤f.room) :
    Calls Tryz.prog 44 #[.pointer (some ⟨b0,0,none⟩)] w fun en w'=>∃r0:Int,en = .returned (.int .i64 (r0:Int))∧Md [] w w'∧(-9223372036854775808≤r0∧r0<9223372036854775808)∧freeF f=r0:=by
  have K:=p0;have O:=a0_1.read.len63;have F:=n0;have M:=Md.refl [] w;have N:=uQ;refine enter (n:=21) Tryz.func44 rfl rfl rfl ?_;intro B;refine ns (asg rfl (nt (c_seq (ns (mv rfl (sn rfl (sf rfl off97_2 (sl (u:=(.bool f.off)) rfl one4 h0 rfl (nt ?_)))))))));refine c_if rfl (fun D=>?_) (fun D=>?_)
  · (first|(have C:=dq D)|(have C:=dF (bnt D))|(have C:=bnt D)|(have C:=D));refine ns (asg rfl (nt (c_ret (r_then ?_))));exact ret1L (v:=(.int .i64 (((0:Nat):Int):Int))) trivial rfl ⟨rfl,tV⟩ ⟨((0:Nat):Int),rfl,M,(by first|assumption|omega|simp_all),(freeF_off (by simp_all))⟩
  · (first|(have C:=dF D)|(have C:=dq (bnf D))|(have C:=bnf D)|(have C:=D));refine c_skip (c_then (ns (mv rfl (st_call fn73 rfl (fTotal_any uQ f h0 F a0_0 (a0_1.reP (fun _ _=>trivial)) (a0_2.reP (fun _ _=>trivial)) (by exact K.reP (fun _ _=>trivial)) (by omega)) ?_))));rintro en R ⟨J,A,rfl,G,H,I,E⟩;refine⟨_,rfl,?_⟩;replace h0:=h0.md0 G;replace M:=M.step0 G;refine mv rfl (se rfl rfl (se rfl rfl (asg rfl (asg rfl (nt (ns ?_))))));have L:=congrArg Prod.snd E;simp only at L;refine mv rfl (sn rfl (sf rfl off97_0 (sl (u:=(.int .i64 (f.room:Int))) rfl one3 h0 rfl ?_)));have P:(-9223372036854775808≤f.room∧f.room<9223372036854775808):=a0_0.1;refine mv rfl (st _ (r_subI (a:=f.room) (b:=((A:Nat):Int)) rfl rfl (by omega)) (st _ (r_maxZ (a:=f.room-((A:Nat):Int)) (b:=0) rfl rfl) (asg rfl (nt (c_ret ?_)))));exact ret1L (v:=(.int .i64 ((if f.room-((A:Nat):Int)<0 then 0 else f.room-((A:Nat):Int)):Int))) trivial rfl ⟨rfl,tV⟩ ⟨(if f.room-((A:Nat):Int)<0 then 0 else f.room-((A:Nat):Int)),rfl,M,(by first|assumption|omega|simp_all),(freeF_on (by simp_all) E)⟩
theorem fAll_any {w:World} {Q:Nat→Prop} (uQ:Up w Q) {b0:Nat} {v0_0:Value} {v0_1:Value} (f:SFs) (h0:Blk w b0 (SFs.cells f v0_0 v0_1) 97) (n0:¬Q b0) (a0_0:SFs.ok f) (a0_1:Ow tNd 143 (fun _=>True) w Q v0_0 f.nodes) (a0_2:Ow tSCh 153 (fun _=>True) w Q v0_1 f.pend) (s:Ly) (p0:Nds 148 203 (fun _=>True) w Q f.nodes) (p1:s.length≤1000000) (p2:∀x∈f.nodes,x.fl.b.length≤1000000) :
    Calls Tryz.prog 22 #[.pointer (some ⟨b0,0,none⟩),(str s)] w fun en w'=>∃u0:Value,∃r0:List UInt8,∃r1:Nat,en = .returned (.tuple #[u0,(.int .i64 r1)])∧Md [] w w'∧Ls tB8 w' Q u0 r0∧r1<9223372036854775808∧allF f.off f.nodes s=(r0,r1):=by
  have L:=p0;have g:=a0_1.read.len63;have P:=n0;have M:=Md.refl [] w;have e:=uQ;have d:∀b,Q b→Q b:=fun _ h=>h;refine enter (n:=22) Tryz.func22 rfl rfl rfl ?_;intro B;refine ns (asg rfl (asg rfl (nt (ns (mv rfl (mv rfl (st_call fn70 rfl (fGet_any uQ f h0 P a0_0 (a0_1.reP (fun _ _=>trivial)) (a0_2.reP (fun _ _=>trivial)) s (by exact L.reP (fun _ _=>trivial)) (by omega)) ?_)))))));rintro en j ⟨X,F,rfl,O,W,K⟩;refine⟨_,rfl,?_⟩;replace L:=L.md0 O;replace uQ:=uQ.md O;replace M:=M.step0 O;refine mv rfl (se rfl rfl (se rfl rfl (asg rfl (asg rfl (nt (c_seq (ns (mv rfl (st _ (r_neN (a:=F) (b:=0) rfl rfl) (nt ?_))))))))));refine c_if rfl (fun C=>?_) (fun C=>?_)
  · (first|(have A:=dq C)|(have A:=dF (bnt C))|(have A:=bnt C)|(have A:=C));refine ns (mv rfl (asg rfl (asg rfl (nt (c_ret (r_then ?_))))));exact retL (vs:=[(.slice none 0 0),(.int .i64 F)]) trivial rfl ⟨rfl,rfl,tV⟩ rfl ⟨_,[],F,rfl,M,(Ls.nil _ _ _),(by first|assumption|omega|simp_all),(allF_no K (by omega))⟩
  · (first|(have A:=dF C)|(have A:=dq (bnf C))|(have A:=bnf C)|(have A:=C));refine c_skip (c_then (ns ?_));obtain⟨R,D,S,H⟩:=gtF_some K (by omega);subst S;refine mv rfl (sn rfl (sf rfl off148_2 ?_));obtain⟨Y,Z,N,E,G,I⟩:=L.file D;refine st _ ((r_loadBlk rfl one146 (L.get D).1 rfl).to (b:=(.pointer (some ⟨R.no.fid,0,none⟩))) rfl) ?_;have i:=p2 _ D;refine st_call fn71 rfl (sAll_any uQ R.fl N E G I (by first|omega|(simp<;>omega)|(simp at *<;>omega))) ?_;rintro en k ⟨T,U,rfl,O,J,V⟩;refine⟨_,rfl,?_⟩;replace M:=M.step0 O;refine asg rfl (asg rfl (st_nil ?_));clear N E G I;refine c_then (c_ret ?_);exact retL (vs:=[T,(.int .i64 ((0:Nat):Int))]) trivial rfl ⟨rfl,rfl,tV⟩ rfl ⟨_,U,0,rfl,M,(J.sub (fun b c _=>d b c)),(by first|assumption|omega|simp_all),(allF_in H V)⟩
theorem fLen_any {w:World} {Q:Nat→Prop} (uQ:Up w Q) {b0:Nat} {v0_0:Value} {v0_1:Value} (f:SFs) (h0:Blk w b0 (SFs.cells f v0_0 v0_1) 97) (n0:¬Q b0) (a0_0:SFs.ok f) (a0_1:Ow tNd 143 (fun _=>True) w Q v0_0 f.nodes) (a0_2:Ow tSCh 153 (fun _=>True) w Q v0_1 f.pend) (s:Ly) (p0:Nds 148 203 (fun _=>True) w Q f.nodes) (p1:s.length≤1000000) :
    Calls Tryz.prog 32 #[.pointer (some ⟨b0,0,none⟩),(str s)] w fun en w'=>∃r0:Nat,∃r1:Nat,en = .returned (.tuple #[(.int .i64 r0),(.int .i64 r1)])∧Md [] w w'∧r0<9223372036854775808∧r1<9223372036854775808∧lenF f.off f.nodes s=(r0,r1):=by
  have L:=p0;have c:=a0_1.read.len63;have P:=n0;have M:=Md.refl [] w;have Z:=uQ;refine enter (n:=22) Tryz.func32 rfl rfl rfl ?_;intro B;refine ns (asg rfl (asg rfl (nt (ns (mv rfl (mv rfl (st_call fn70 rfl (fGet_any uQ f h0 P a0_0 (a0_1.reP (fun _ _=>trivial)) (a0_2.reP (fun _ _=>trivial)) s (by exact L.reP (fun _ _=>trivial)) (by omega)) ?_)))))));rintro en d ⟨W,E,rfl,O,U,K⟩;refine⟨_,rfl,?_⟩;replace L:=L.md0 O;replace uQ:=uQ.md O;replace M:=M.step0 O;refine mv rfl (se rfl rfl (se rfl rfl (asg rfl (asg rfl (nt (c_seq (ns (mv rfl (st _ (r_neN (a:=E) (b:=0) rfl rfl) (nt ?_))))))))));refine c_if rfl (fun C=>?_) (fun C=>?_)
  · (first|(have A:=dq C)|(have A:=dF (bnt C))|(have A:=bnt C)|(have A:=C));refine ns (mv rfl (asg rfl (asg rfl (nt (c_ret (r_then ?_))))));exact retL (vs:=[(.int .i64 ((0:Nat):Int)),(.int .i64 E)]) trivial rfl ⟨rfl,rfl,tV⟩ rfl ⟨0,E,rfl,M,(by first|assumption|omega|simp_all),(by first|assumption|omega|simp_all),(lenF_no K (by omega))⟩
  · (first|(have A:=dF C)|(have A:=dq (bnf C))|(have A:=bnf C)|(have A:=C));refine c_skip (c_then (ns ?_));obtain⟨R,F,S,I⟩:=gtF_some K (by omega);subst S;refine mv rfl (sn rfl (sf rfl off148_2 ?_));obtain⟨X,Y,N,D,H,J⟩:=L.file F;refine st _ ((r_loadBlk rfl one146 (L.get F).1 rfl).to (b:=(.pointer (some ⟨R.no.fid,0,none⟩))) rfl) (st_call fn76 rfl (sLen_any uQ R.fl N D H J) ?_);rintro en e ⟨G,rfl,O,V,T⟩;refine⟨_,rfl,?_⟩;replace M:=M.step0 O;refine asg rfl (asg rfl (st_nil ?_));clear N D H J;refine c_then (c_ret ?_);exact retL (vs:=[(.int .i64 G),(.int .i64 ((0:Nat):Int))]) trivial rfl ⟨rfl,rfl,tV⟩ rfl ⟨G,0,rfl,M,(by first|assumption|omega|simp_all),(by first|assumption|omega|simp_all),(lenF_in I T)⟩

/-- All blocks of nodes and of their files. -/
def ndB (l:List SNd):List Nat:=l.map (·.id) ++ l.map (·.no.fid)
theorem mem_ndB {l:List SNd} {b:Nat}:b∈ndB l↔∃x∈l,x.id=b∨x.no.fid=b:=by
  simp only[ndB,List.mem_append,List.mem_map]
  constructor
  · rintro(⟨x,h,e⟩|⟨x,h,e⟩)
    · exact⟨x,h,.inl e⟩
    · exact⟨x,h,.inr e⟩
  · rintro⟨x,h,e|e⟩
    · exact .inl ⟨x,h,e⟩
    · exact .inr ⟨x,h,e⟩
theorem blk_ne_ty {w:World} {b b':Nat} {cs cs':List Value} {t t':TypeId} (h:Blk w b cs t) (h':Blk w b' cs' t') (ht:Nat.beq t t'=false):b≠b':=by
  rintro rfl;rw[blk_ty h h']at ht;simp at ht
theorem nodup_inj {α:Type} {f:α→Nat}:∀{l:List α},(l.map f).Nodup→∀{x y:α},x∈l→y∈l→f x=f y→x=y
  | [],_,_,_,h,_,_=>by cases h
  | a :: l,hn,x,y,hx,hy,e=>by
    rw[List.map_cons,List.nodup_cons]at hn;rcases List.mem_cons.1 hx with rfl|hx'
    · rcases List.mem_cons.1 hy with rfl|hy'
      · rfl
      · exact absurd (List.mem_map.2 ⟨y,hy',e.symm⟩) hn.1
    · rcases List.mem_cons.1 hy with rfl|hy'
      · exact absurd (List.mem_map.2 ⟨x,hx',e⟩) hn.1
      · exact nodup_inj hn.2 hx' hy' e
/-- A node by its block, made anew. -/
def updN (l:List SNd) (i:Nat) (g:SNd→SNd):List SNd:=l.map fun z=>if z.id=i then g z else z
theorem updN_ids {l:List SNd} {i:Nat} {g:SNd→SNd} (hg:∀z,(g z).id=z.id):(updN l i g).map (·.id)=l.map (·.id):=by
  unfold updN;rw[List.map_map];refine List.map_congr_left fun z _=>?_;show(if z.id=i then g z else z).id=z.id
  split
  · exact hg z
  · rfl
theorem updN_mem {l:List SNd} {i:Nat} {g:SNd→SNd} {y:SNd} (h:y∈l) (hne:y.id≠i):y∈updN l i g:=List.mem_map.2 ⟨y,h,if_neg hne⟩
theorem mem_updN {l:List SNd} {i:Nat} {g:SNd→SNd} {y:SNd} (h:y∈updN l i g):(∃x∈l,x.id=i∧y=g x)∨(y∈l∧y.id≠i):=by
  obtain⟨z,A,e⟩:=List.mem_map.1 h;by_cases hi:z.id=i
  · rw[if_pos hi]at e;exact .inl ⟨z,A,hi,e.symm⟩
  · rw[if_neg hi]at e;subst e;exact .inr ⟨A,hi⟩
theorem ow_ids {e:TypeId} {lo:Nat→Prop} {w:World} {Q:Nat→Prop} {v:Value} {l l':List SNd} (h:Ow tNd e lo w Q v l) (hi:l'.map (·.id)=l.map (·.id)):Ow tNd e lo w Q v l':=by
  obtain⟨⟨A,B,C⟩,D⟩:=h;have E:l'.length=l.length:=(by simpa using congrArg List.length hi);refine⟨⟨A,by rw[E];exact B,?_⟩,D⟩;obtain⟨rfl,_⟩:=els_one_eq C
  have e:l.map (fun x:SNd=>Value.pointer (some ⟨x.id,0,none⟩))=l'.map (fun x:SNd=>Value.pointer (some ⟨x.id,0,none⟩)):=by
    have:=congrArg (List.map fun i:Nat=>Value.pointer (some ⟨i,0,none⟩)) hi;simpa [List.map_map,Function.comp_def]using this.symm
  rw[e];exact els_one fun _ _=>trivial
section
variable {nd fd:TypeId} {lo lo' lo1:Nat→Prop} {w w':World} {Q Q' Q1:Nat→Prop} {l:List SNd} {x:SNd} {S:List Nat} {α:Type} {T:Dt α}
theorem Nds.loB (h:Nds nd fd lo w Q l):∀b∈ndB l,lo b:=by
  intro b B;obtain⟨x,A,rfl|rfl⟩:=mem_ndB.1 B
  · exact(h.all x A).2.2.2.2.1
  · exact(h.all x A).2.2.2.2.2
theorem Nds.nQB (h:Nds nd fd lo w Q l):∀b∈ndB l,¬Q b:=by
  intro b B;obtain⟨x,A,rfl|rfl⟩:=mem_ndB.1 B
  · exact(h.all x A).2.2.1
  · exact(h.all x A).2.2.2.1
theorem Nds.ltB (h:Nds nd fd lo w Q l):∀b∈ndB l,b<w.heap.size:=by
  intro b B;obtain⟨x,A,rfl|rfl⟩:=mem_ndB.1 B
  · exact(h.all x A).1.lt
  · obtain⟨C,D,g,_⟩:=(h.all x A).2.1;exact g.lt
theorem Nds.reB (h:Nds nd fd lo w Q l) (t:∀b∈ndB l,lo' b):Nds nd fd lo' w Q l :=
  ⟨fun x hx=>by obtain⟨h1,h2,h5,h6,h7,h8⟩:=h.all x hx;exact⟨h1,h2,h5,h6,t _ (mem_ndB.2 ⟨x,hx,.inl rfl⟩),t _ (mem_ndB.2 ⟨x,hx,.inr rfl⟩)⟩,h.ids,h.fids⟩
theorem Nds.apB (h:Nds nd fd lo w Q l) (hS:∀b∈ndB l,b∉S):∀x∈l,x.id∉S∧x.no.fid∉S:=fun x hx=>⟨hS _ (mem_ndB.2 ⟨x,hx,.inl rfl⟩),hS _ (mem_ndB.2 ⟨x,hx,.inr rfl⟩)⟩
theorem Nds.nil (nd fd:TypeId) (lo:Nat→Prop) (w:World) (Q:Nat→Prop):Nds nd fd lo w Q []:=⟨fun _ hx=>absurd hx List.not_mem_nil,List.nodup_nil,List.nodup_nil⟩
theorem Nds.inj (h:Nds nd fd lo w Q l) {y:SNd} (hx:x∈l) (hy:y∈l) (e:x.id=y.id):x=y:=nodup_inj h.ids hx hy e
theorem Nds.fne (h:Nds nd fd lo w Q l) (hne:Nat.beq nd fd=false) {y:SNd} (hx:x∈l) (hy:y∈l):x.id≠y.no.fid:=by
  obtain⟨A,B,g,_⟩:=(h.all y hy).2.1;exact blk_ne_ty (h.all x hx).1 g hne
theorem Nds.upd (h:Nds nd fd lo w Q l) (hx:x∈l) {g:SNd→SNd} (hid:(g x).id=x.id) (hnew:NdR nd fd lo w' Q (g x)) (hold:∀z∈l,z.id≠x.id→NdR nd fd lo w' Q z) (hf:(g x).no.fid=x.no.fid∨(g x).no.fid∉l.map (·.no.fid)):Nds nd fd lo w' Q (updN l x.id g):=by
  have C:∀z∈l,z.id=x.id→z=x:=fun z B e=>h.inj B hx e;refine⟨fun z B=>?_,?_,?_⟩
  · rcases mem_updN B with⟨y,K,e,rfl⟩|⟨I,H⟩
    · rw[C y K e];exact hnew
    · exact hold z I H
  · have:(updN l x.id g).map (·.id)=l.map (·.id):=by
      unfold updN;rw[List.map_map];refine List.map_congr_left fun z B=>?_;show(if z.id=x.id then g z else z).id=z.id
      split
      · rename_i e;rw[C z B e];exact hid
      · rfl
    rw[this];exact h.ids
  · rcases hf with hf|hf
    · have:(updN l x.id g).map (·.no.fid)=l.map (·.no.fid):=by
        unfold updN;rw[List.map_map];refine List.map_congr_left fun z B=>?_;show(if z.id=x.id then g z else z).no.fid=z.no.fid
        split
        · rename_i e;rw[C z B e];exact hf
        · rfl
      rw[this];exact h.fids
    · have F:=h.fids
      have E:=h.ids;clear C hnew hold h;unfold updN
      induction l with
      | nil=>exact List.nodup_nil
      | cons a l ih =>
        rw[List.map_cons,List.map_cons,List.nodup_cons];rw[List.map_cons,List.nodup_cons]at F E;rw[List.map_cons,List.mem_cons,not_or]at hf;by_cases ha:a.id=x.id
        · rw[if_pos ha]
          have D:l.map (fun z=>if z.id=x.id then g z else z)=l:=by
            have:∀z∈l,(if z.id=x.id then g z else z)=z:=fun z B=>if_neg fun e=>E.1 (List.mem_map.2 ⟨z,B,e.trans ha.symm⟩);exact(List.map_congr_left this).trans (List.map_id' l)
          rw[D]
          have G:a=x:=by
            rcases List.mem_cons.1 hx with rfl|A
            · rfl
            · exact absurd (List.mem_map.2 ⟨x,A,ha.symm⟩) E.1
          subst G;exact⟨hf.2,F.2⟩
        · rw[if_neg ha]
          have A:x∈l:=by
            rcases List.mem_cons.1 hx with rfl|A
            · exact absurd rfl ha
            · exact A
          refine⟨fun J=>?_,ih A hf.2 F.2 E.2⟩;rw[List.map_map]at J;obtain⟨z,B,e⟩:=List.mem_map.1 J;simp only[Function.comp_apply]at e
          split at e
          · rename_i hzx
            have:z=x:=nodup_inj E.2 B A hzx;subst this;exact hf.1 e
          · exact F.1 (List.mem_map.2 ⟨z,B,e⟩)
theorem Nds.olds (h:Nds nd fd lo w Q l) (hx:x∈l) (hne:Nat.beq nd fd=false) (m:Md [x.id] w w'):∀z∈l,z.id≠x.id→NdR nd fd lo w' Q z:=fun z hz hi =>
  (h.all z hz).md m ⟨by simpa using hi,by simpa using (h.fne hne hx hz).symm⟩ (by intro b hb;rw[List.mem_singleton]at hb;subst hb;exact(h.all x hx).2.2.1)
/-- A node's own block is written. -/
theorem Nds.setNo (h:Nds nd fd lo w Q l) (hx:x∈l) (hne:Nat.beq nd fd=false) (m:Md [x.id] w w') {g:SNo→SNo} (hb:Blk w' x.id (g x.no).cells nd) (hf:(g x.no).fid=x.no.fid):Nds nd fd lo w' Q (updN l x.id fun z=>{z with no:=g z.no}):=by
  refine h.upd (g:=fun z=>{z with no:=g z.no}) hx rfl ?_ (h.olds hx hne m) (.inl hf);obtain⟨L,⟨J,K,D,E,F⟩,B,G,H,I⟩:=h.all x hx;have C:∀b∈[x.id],¬Q b:=(by intro b hb;rw[List.mem_singleton]at hb;subst hb;exact B);refine⟨hb,⟨J,K,?_,E.md m C,F.md m C⟩,B,?_,H,?_⟩
  · show Blk w' (g x.no).fid _ _;rw[hf];exact D.md m (by simpa using (h.fne hne hx hx).symm)
  · show ¬Q (g x.no).fid;rw[hf];exact G
  · show lo (g x.no).fid;rw[hf];exact I
/-- A node's file is written. -/
theorem Nds.setFl (h:Nds nd fd lo w Q l) (hx:x∈l) (hne:Nat.beq nd fd=false) (m:Md [x.no.fid] w w') {fl:SFl} {v0 v1:Value} (hb:Blk w' x.no.fid (fl.cells v0 v1) fd) (h0:Ls tB8 w' Q v0 fl.b) (h1:Ls tB8 w' Q v1 fl.safe):Nds nd fd lo w' Q (updN l x.id fun z=>{z with fl:=fl}):=by
  obtain⟨D,⟨M,N,J,K,L⟩,E,C,F,G⟩:=h.all x hx;have I:∀b∈[x.no.fid],¬Q b:=(by intro b hb;rw[List.mem_singleton]at hb;subst hb;exact C);refine h.upd (g:=fun z=>{z with fl:=fl}) hx rfl ⟨?_,⟨v0,v1,hb,h0,h1⟩,E,C,F,G⟩ (fun z B H=>?_) (.inl rfl)
  · exact D.md m (by simpa using h.fne hne hx hx)
  · refine(h.all z B).md m ⟨by simpa using h.fne hne B hx,?_⟩ I
    rw[List.mem_singleton];intro e;exact H (congrArg (·.id) (nodup_inj h.fids B hx e))
/-- A node has another file now. -/
theorem Nds.setFile (h:Nds nd fd lo w Q l) (hx:x∈l) (hne:Nat.beq nd fd=false) (m:Md [x.id] w w') {fl:SFl} {v0 v1:Value} {j:Nat} (hb:Blk w' x.id ({x.no with fid:=j}:SNo).cells nd) (hj:Blk w' j (fl.cells v0 v1) fd) (h0:Ls tB8 w' Q v0 fl.b) (h1:Ls tB8 w' Q v1 fl.safe) (hq:¬Q j) (hl:lo j) (hn:j∉ndB l):Nds nd fd lo w' Q (updN l x.id fun z=>{z with no:={z.no with fid:=j},fl:=fl}):=by
  obtain⟨E,_,B,F,C,G⟩:=h.all x hx;exact h.upd (g:=fun z=>{z with no:={z.no with fid:=j},fl:=fl}) hx rfl ⟨hb,⟨v0,v1,hj,h0,h1⟩,B,hq,C,hl⟩ (h.olds hx hne m) (.inr fun D=>hn (List.mem_append.2 (.inr D)))
/-- A node more. -/
theorem Nds.snoc (h:Nds nd fd lo w Q l) {i:Nat} {no:SNo} {fl:SFl} {v0 v1:Value} (hi:Blk w i no.cells nd) (hj:Blk w no.fid (fl.cells v0 v1) fd) (h0:Ls tB8 w Q v0 fl.b) (h1:Ls tB8 w Q v1 fl.safe) (q1:¬Q i) (q2:¬Q no.fid) (l1:lo i) (l2:lo no.fid) (n1:i∉ndB l) (n2:no.fid∉ndB l):Nds nd fd lo w Q (l ++ [⟨i,no,fl⟩]):=by
  refine⟨fun z A=>?_,?_,?_⟩
  · rcases List.mem_append.1 A with A|A
    · exact h.all z A
    · rw[List.mem_singleton]at A;subst A
      exact⟨hi,⟨v0,v1,hj,h0,h1⟩,q1,q2,l1,l2⟩
  · rw[List.map_append,List.nodup_append]
    refine⟨h.ids,by simp,fun a C b B=>?_⟩;simp only[List.map_cons,List.map_nil,List.mem_singleton]at B;subst B;rintro rfl;exact n1 (List.mem_append.2 (.inl C))
  · rw[List.map_append,List.nodup_append]
    refine⟨h.fids,by simp,fun a C b B=>?_⟩;simp only[List.map_cons,List.map_nil,List.mem_singleton]at B;subst B;rintro rfl;exact n2 (List.mem_append.2 (.inr C))
end
/-- The last node's block, and its file's. -/
def lastI (f:SFs):Nat:=(f.nodes.getLast?.map (·.id)).getD 0
def lastJ (f:SFs):Nat:=(f.nodes.getLast?.map (·.no.fid)).getD 0
def makeR (f:SFs) (s:Ly) (i j:Nat):Nat × SFs :=
  if(gtF f.off f.nodes s).2=0 then(17,f)else if(gtF f.off f.nodes s).2≠16 then((gtF f.off f.nodes s).2,f)else if 24≤(totF f.nodes).1 then(15,f)
  else if(burnF f).1≠0 then burnF f else(0,{(burnF f).2 with nodes:=f.nodes ++ [⟨i,⟨s,true,j⟩,⟨[],[]⟩⟩],pend:=f.pend ++ [⟨0,i,[],none⟩]})
theorem make_17 {f:SFs} {s:Ly} {i j c:Nat} {o:Option Nat} (h:gtF f.off f.nodes s=(o,c)) (hc:c=0):makeR f s i j=(17,f):=by unfold makeR;rw[h];rw[if_pos hc]
theorem make_c {f:SFs} {s:Ly} {i j c:Nat} {o:Option Nat} (h:gtF f.off f.nodes s=(o,c)) (hc:c≠0) (h2:c≠16):makeR f s i j=(c,f):=by unfold makeR;rw[h];rw[if_neg hc,if_pos h2]
theorem make_15 {f:SFs} {s:Ly} {i j c a z:Nat} {o:Option Nat} (h:gtF f.off f.nodes s=(o,c)) (hc:c=16) (ht:totF f.nodes=(a,z)) (h2:24≤a):makeR f s i j=(15,f):=by
  subst hc;unfold makeR;rw[h,ht];rw[if_neg (by simp),if_neg (by simp),if_pos h2]
theorem make_b {f m:SFs} {s:Ly} {i j c a z e:Nat} {o:Option Nat} (h:gtF f.off f.nodes s=(o,c)) (hc:c=16) (ht:totF f.nodes=(a,z)) (h2:¬24≤a) (hb:burnF f=(e,m)) (he:e≠0):makeR f s i j=(e,m):=by
  subst hc;unfold makeR;rw[h,ht];rw[if_neg (by simp),if_neg (by simp),if_neg h2,hb];rw[if_pos he]
theorem make_0 {f m:SFs} {s:Ly} {i j c a z e:Nat} {o:Option Nat} (h:gtF f.off f.nodes s=(o,c)) (hc:c=16) (ht:totF f.nodes=(a,z)) (h2:¬24≤a) (hb:burnF f=(e,m)) (he:e=0):makeR f s i j=(0,{m with nodes:=f.nodes ++ [⟨i,⟨s,true,j⟩,⟨[],[]⟩⟩],pend:=f.pend ++ [⟨0,i,[],none⟩]}):=by
  subst hc;unfold makeR;rw[h,ht];rw[if_neg (by simp),if_neg (by simp),if_neg h2,hb];rw[if_neg (by simpa using he)]
theorem burn_same (f:SFs):(burnF f).2.nodes=f.nodes∧(burnF f).2.pend=f.pend∧(burnF f).2.room=f.room:=by
  unfold burnF;split
  · exact⟨rfl,rfl,rfl⟩
  · split <;> exact⟨rfl,rfl,rfl⟩
theorem burn_eq {f m:SFs} {e:Nat} (h:burnF f=(e,m)):m.nodes=f.nodes∧m.pend=f.pend∧m.room=f.room:=by have:=burn_same f;rw[h]at this;exact this
def writeR (f:SFs) (s:Ly) (p:Int) (b:Ly) (j:Nat):Nat × SFs :=
  if(gtF f.off f.nodes s).2≠0 then((gtF f.off f.nodes s).2,f)else match findN f.nodes s with
  | none=>(0,f)
  | some x=>if(wrF x.fl p b).1≠0 then((wrF x.fl p b).1,f)else if x.fl.b.length<(wrF x.fl p b).2.b.length∧f.room<((totF f.nodes).2:Int)+(((wrF x.fl p b).2.b.length:Int)-(x.fl.b.length:Int))then(15,f)
    else if(burnF f).1≠0 then burnF f else(0,{(burnF f).2 with nodes:=updN f.nodes x.id fun z=>{z with no:={z.no with fid:=j},fl:=(wrF x.fl p b).2}})
section
variable {f m:SFs} {s:Ly} {p:Int} {b:Ly} {j c a z e:Nat} {o:Option Nat} {x:SNd} {y:SFl}
theorem write_c (h:gtF f.off f.nodes s=(o,c)) (hc:c≠0):writeR f s p b j=(c,f):=by unfold writeR;rw[h];rw[if_pos hc]
theorem write_w (h:mayF f.off [s]=0∧findN f.nodes s=some x) (hw:wrF x.fl p b=(e,y)) (he:e≠0):writeR f s p b j=(e,f):=by
  unfold writeR;rw[gtF_0 h,h.2];simp only[hw,ne_eq,not_true_eq_false,if_false];rw[if_pos he]
theorem write_15 (h:mayF f.off [s]=0∧findN f.nodes s=some x) (hw:wrF x.fl p b=(e,y)) (he:e=0) (ht:totF f.nodes=(a,z)) (h1:0<(y.b.length:Int)-(x.fl.b.length:Int)) (h2:f.room<(z:Int)+((y.b.length:Int)-(x.fl.b.length:Int))):writeR f s p b j=(15,f):=by
  subst he;unfold writeR;rw[gtF_0 h,h.2,ht];simp only[hw,ne_eq,not_true_eq_false,if_false];rw[if_pos ⟨by omega,h2⟩]
theorem write_b (h:mayF f.off [s]=0∧findN f.nodes s=some x) (hw:wrF x.fl p b=(e,y)) (he:e=0) (ht:totF f.nodes=(a,z)) (h1:¬(0<(y.b.length:Int)-(x.fl.b.length:Int)∧f.room<(z:Int)+((y.b.length:Int)-(x.fl.b.length:Int)))) (hb:burnF f=(c,m)) (hc:c≠0):writeR f s p b j=(c,m):=by
  subst he;unfold writeR;rw[gtF_0 h,h.2,ht,hb];simp only[hw,ne_eq,not_true_eq_false,if_false];rw[if_neg (by omega),if_pos hc]
theorem write_0 (h:mayF f.off [s]=0∧findN f.nodes s=some x) (hw:wrF x.fl p b=(e,y)) (he:e=0) (ht:totF f.nodes=(a,z)) (h1:¬(0<(y.b.length:Int)-(x.fl.b.length:Int)∧f.room<(z:Int)+((y.b.length:Int)-(x.fl.b.length:Int)))) (hb:burnF f=(c,m)) (hc:c=0):writeR f s p b j=(0,{m with nodes:=updN f.nodes x.id fun q=>{q with no:={q.no with fid:=j},fl:=y}}):=by
  subst he;subst hc;unfold writeR;rw[gtF_0 h,h.2,ht,hb];simp only[hw,ne_eq,not_true_eq_false,if_false];rw[if_neg (by omega)]
end
theorem writeF_len (b x:Ly) (p:Nat):(writeF b p x).length=max b.length (p+x.length):=by
  unfold writeF;simp only[List.length_append,List.length_take,List.length_drop,List.length_replicate];omega
theorem wr_len {f y:SFl} {p:Int} {x:Ly} {e:Nat} (h:wrF f p x=(e,y)):y.b.length≤max f.b.length 32768∧y.safe=f.safe:=by
  unfold wrF at h
  split at h
  · cases h;exact⟨Nat.le_max_left _ _,rfl⟩
  · split at h
    · cases h;exact⟨Nat.le_max_left _ _,rfl⟩
    · split at h
      · cases h;exact⟨Nat.le_max_left _ _,rfl⟩
      · cases h
        refine⟨?_,rfl⟩;show(writeF _ _ _).length≤_;rw[writeF_len];omega

theorem elT143:elT Tryz.prog 143 1 8=true:=by kernel_rfl
theorem elT153:elT Tryz.prog 153 4 40=true:=by kernel_rfl
theorem fn74:isFn Tryz.prog 74=true:=by kernel_rfl
theorem fn75:isFn Tryz.prog 75=true:=by kernel_rfl
theorem off97_4:fieldOff Tryz.prog 97 4=some 4:=by kernel_rfl
theorem one95:isOne Tryz.prog 95=true:=by kernel_rfl
theorem pl148:bplace Tryz.prog 148=some [(0,1),(1,1),(2,1)]:=by kernel_rfl
theorem pl153:bplace Tryz.prog 153=some [(0,1),(1,1),(2,1),(3,1)]:=by kernel_rfl
theorem u95:Tryz.prog.underlying 95=some (.slice 153):=by kernel_rfl
theorem z148:zcells Tryz.prog 148=some [.string ByteArray.empty,.bool false,.pointer none]:=by kernel_rfl
theorem z153:zcells Tryz.prog 153=some [.int .i64 0,.pointer none,.string ByteArray.empty,.pointer none]:=by kernel_rfl

theorem fMake_any {w:World} {Q:Nat→Prop} (uQ:Up w Q) {b0:Nat} {v0_0:Value} {v0_1:Value} (f:SFs) (h0:Blk w b0 (SFs.cells f v0_0 v0_1) 97) (n0:¬Q b0) (a0_0:SFs.ok f) (a0_1:Ow tNd 143 (fun _=>True) w Q v0_0 f.nodes) (a0_2:Ow tSCh 153 (fun _=>True) w Q v0_1 f.pend) (hN0:Nds 148 203 (fun _=>True) w Q f.nodes) (s:Ly) (p0:s.length≤1000000) (p1:(totF f.nodes).2≤1000000000000) (p2:f.nodes.length≤1000000) (p3:f.pend.length≤1000000) :
    Calls Tryz.prog 30 #[.pointer (some ⟨b0,0,none⟩),(str s)] w fun en w'=>∃r0:Nat,∃m0:SFs,∃u50_0:Value,∃u50_1:Value,∃Q':Nat→Prop,en = .returned (.int .i64 r0)∧Md (b0 :: (vblock v0_0).toList ++ ((vblock v0_1).toList ++ (ndB f.nodes))) w w'∧NewQ w w' Q Q'∧r0<9223372036854775808∧Blk w' b0 (SFs.cells m0 u50_0 u50_1) 97∧¬Q' b0∧SFs.ok m0∧Ow tNd 143 (Fsh (b0 :: (vblock v0_0).toList ++ ((vblock v0_1).toList ++ (ndB f.nodes))) w) w' Q' u50_0 m0.nodes∧Ow tSCh 153 (Fsh (b0 :: (vblock v0_0).toList ++ ((vblock v0_1).toList ++ (ndB f.nodes))) w) w' Q' u50_1 m0.pend∧Nds 148 203 (Fsh (b0 :: (vblock v0_0).toList ++ ((vblock v0_1).toList ++ (ndB f.nodes))) w) w' Q' m0.nodes∧makeR f s (lastI m0) (lastJ m0)=(r0,m0):=by
  have H:=n0;have Ax:Fsh (b0 :: (vblock v0_0).toList ++ ((vblock v0_1).toList ++ (ndB f.nodes))) w b0:=.inl (by simp);replace a0_1:=a0_1.reP (lo':=Fsh (b0 :: (vblock v0_0).toList ++ ((vblock v0_1).toList ++ (ndB f.nodes))) w) (fun b U=>.inl (by simp[U]));replace a0_2:=a0_2.reP (lo':=Fsh (b0 :: (vblock v0_0).toList ++ ((vblock v0_1).toList ++ (ndB f.nodes))) w) (fun b U=>.inl (by simp[U]));have L:=hN0.reB (lo':=Fsh (b0 :: (vblock v0_0).toList ++ ((vblock v0_1).toList ++ (ndB f.nodes))) w) (fun b U=>.inl (by simp[U]));clear hN0;have M:=Md.refl (b0 :: (vblock v0_0).toList ++ ((vblock v0_1).toList ++ (ndB f.nodes))) w;have Cj:=uQ;have tQ:∀b,Q b→Q b:=fun _ h=>h;have Y:∀b,Q b→b<w.heap.size→Q b:=fun _ h _=>h;refine enter (n:=62) Tryz.func30 rfl rfl rfl ?_;intro B;refine ns ?_;have Bh:=L.ltB;refine asg rfl (nt (ns (mv rfl (mv rfl (st_call fn70 rfl (fGet_any uQ f h0 H a0_0 (a0_1.reP (fun _ _=>trivial)) (a0_2.reP (fun _ _=>trivial)) s (by exact L.reP (fun _ _=>trivial)) (by omega)) ?_)))));rintro en w1 ⟨Ca,Ao,rfl,F,B3,Ap⟩;refine⟨_,rfl,?_⟩;replace a0_1:=a0_1.md0 F;replace a0_2:=a0_2.md0 F;replace h0:=h0.md0 F;replace L:=L.md0 F;replace uQ:=uQ.md F;replace M:=M.step0 F;refine mv rfl (se rfl rfl (se rfl rfl (asg rfl (asg rfl (nt (ns (mv rfl (st_call fn73 rfl (fTotal_any uQ f h0 H a0_0 (a0_1.reP (fun _ _=>trivial)) (a0_2.reP (fun _ _=>trivial)) (by exact L.reP (fun _ _=>trivial)) (by omega)) ?_))))))));rintro en w2 ⟨Bl,Cb,rfl,F,B4,B6,A7⟩;refine⟨_,rfl,?_⟩;replace a0_1:=a0_1.md0 F;replace a0_2:=a0_2.md0 F;replace h0:=h0.md0 F;replace L:=L.md0 F;replace uQ:=uQ.md F;replace M:=M.step0 F;refine mv rfl (se rfl rfl (se rfl rfl (asg rfl (asg rfl (nt (c_seq (c_block (ns (mv rfl (st _ (r_eqN (a:=Ao) (b:=0) rfl rfl) (asg rfl ?_)))))))))))
  refine nt ?_;refine c_if rfl (fun Ab=>?_) (fun Ab=>?_)
  · (first|(have g:=dq Ab)|(have g:=dF (bnt Ab))|(have g:=bnt Ab)|(have g:=Ab));refine ns (asg rfl (nt (c_ret (r_block (r_then ?_)))));exact ret1L (v:=(.int .i64 ((17:Nat):Int))) trivial rfl ⟨rfl,tV⟩ ⟨17,f,_,_,Q,rfl,M,⟨Y,tQ,uQ⟩,(by first|assumption|omega|simp_all),h0,H,a0_0,a0_1,a0_2,L,(make_17 Ap (by omega))⟩
  · (first|(have g:=dF Ab)|(have g:=dq (bnf Ab))|(have g:=bnf Ab)|(have g:=Ab));refine ns (mv rfl (st _ (r_neN (a:=Ao) (b:=16) rfl rfl) (asg rfl (nt ?_))));refine c_if rfl (fun Ac=>?_) (fun Ac=>?_)
    · (first|(have j:=dq Ac)|(have j:=dF (bnt Ac))|(have j:=bnt Ac)|(have j:=Ac));refine ns (mv rfl (asg rfl (nt (c_ret (r_block (r_then ?_))))));exact ret1L (v:=(.int .i64 Ao)) trivial rfl ⟨rfl,tV⟩ ⟨Ao,f,_,_,Q,rfl,M,⟨Y,tQ,uQ⟩,(by first|assumption|omega|simp_all),h0,H,a0_0,a0_1,a0_2,L,(make_c Ap (by omega) (by omega))⟩
    · (first|(have j:=dF Ac)|(have j:=dq (bnf Ac))|(have j:=bnf Ac)|(have j:=Ac));refine ns (mv rfl (st _ (r_geN (a:=Bl) (b:=24) rfl rfl) (asg rfl (nt ?_))));refine c_if rfl (fun Ad=>?_) (fun Ad=>?_)
      · (first|(have k:=dq Ad)|(have k:=dF (bnt Ad))|(have k:=bnt Ad)|(have k:=Ad));refine ns (asg rfl (nt (c_ret (r_block (r_then ?_)))));exact ret1L (v:=(.int .i64 ((15:Nat):Int))) trivial rfl ⟨rfl,tV⟩ ⟨15,f,_,_,Q,rfl,M,⟨Y,tQ,uQ⟩,(by first|assumption|omega|simp_all),h0,H,a0_0,a0_1,a0_2,L,(make_15 Ap (by omega) A7 (by omega))⟩
      · (first|(have k:=dF Ad)|(have k:=dq (bnf Ad))|(have k:=bnf Ad)|(have k:=Ad));refine c_skip (n_block (c_then (c_seq (ns (mv rfl (st_call fn74 rfl (fBurn_any uQ f h0 H a0_0 (a0_1.reP (fun _ _=>trivial)) (a0_2.reP (fun _ _=>trivial))) ?_))))));rintro en w3 ⟨Az,W,Av,Ag,Q4,rfl,F,⟨X,V,d⟩,B8,As,Au,o,E,A,A8⟩;refine⟨_,rfl,?_⟩;have hP:∀i∈(b0 :: (vblock v0_0).toList ++ ((vblock v0_1).toList)),Fsh (b0 :: (vblock v0_0).toList ++ ((vblock v0_1).toList ++ (ndB f.nodes))) w i:=(all_cons Ax (all_app (all_row (fun x hx=>(a0_1.2 x hx).1)) (all_row (fun x hx=>(a0_2.2 x hx).1))));have Z:∀i∈(b0 :: (vblock v0_0).toList ++ ((vblock v0_1).toList)),¬Q i:=(all_cons H (all_app (all_row (fun x hx=>(a0_1.2 x hx).2)) (all_row (fun x hx=>(a0_2.2 x hx).2))));have Ba:=(L.apF h0 a0_1 a0_2 (by decide) (by decide) (by decide) (by decide) (by decide) (by decide));replace E:=E.reP (fun x hx=>(E.2 x hx).1);replace E:=E.reP (fun x hx=>(E.2 x hx).1.elim (hP x) (Fsh.new M x));replace A:=A.reP (fun x hx=>(A.2 x hx).1);replace A:=A.reP (fun x hx=>(A.2 x hx).1.elim (hP x) (Fsh.new M x));replace L:=L.sub X V;replace tQ:=fun b U=>tQ b (V b U);replace Y:=fun b U hl=>X b (Y b U hl) (ly hl M.size);replace Z:=fun i hi hq=>Z i hi (V i hq);replace L:=L.md F Ba Z;replace M:=M.step F hP;replace uQ:=d;clear d X V;clear hP Z h0 H;have h0:=As;have H:=Au;clear As Au;clear a0_2;clear a0_1;have be:=burn_eq A8;replace L:Nds 148 203 (Fsh (b0 :: (vblock v0_0).toList ++ ((vblock v0_1).toList ++ (ndB f.nodes))) w) w3 Q4 W.nodes:=(by rw[be.1];exact L);refine asg rfl (nt (ns (mv rfl (st _ (r_neN (a:=Az) (b:=0) rfl rfl) (nt ?_)))));refine c_if rfl (fun Ae=>?_) (fun Ae=>?_)
        · (first|(have l:=dq Ae)|(have l:=dF (bnt Ae))|(have l:=bnt Ae)|(have l:=Ae));refine ns (mv rfl (asg rfl (nt (c_ret (r_then ?_)))));exact ret1L (v:=(.int .i64 Az)) trivial rfl ⟨rfl,tV⟩ ⟨Az,W,_,_,Q4,rfl,M,⟨Y,tQ,uQ⟩,(by first|assumption|omega|simp_all),h0,H,o,E,A,L,(make_b Ap (by omega) A7 (by omega) A8 (by omega))⟩
        · (first|(have l:=dF Ae)|(have l:=dq (bnf Ae))|(have l:=bnf Ae)|(have l:=Ae));refine c_skip (c_then (ns (mv rfl (st_call fn75 rfl (sNew_any uQ) ?_))));rintro en w5 ⟨J,Bi,Bj,Ai,Q6,rfl,F,⟨X,V,d⟩,G,S,z,C,D,Bq⟩;refine⟨_,rfl,?_⟩;have Bc:b0≠J:=(by have:=h0.lt;omega);have Ay:Fsh [] w J:=Fsh.new M _ z;replace z:=lv M.size z;replace H:=fun hh=>H (V _ hh);replace L:=L.sub X V;replace E:=E.sub X V;replace A:=A.sub X V;replace tQ:=fun b U=>tQ b (V b U);replace Y:=fun b U hl=>X b (Y b U hl) (ly hl M.size);replace h0:=h0.md0 F;replace L:=L.md0 F;replace E:=E.md0 F;replace A:=A.md0 F;replace uQ:=uQ.md F;replace M:=M.step0 F;replace uQ:=d;clear d X V;refine st _ (r_buildG (us:=[[(str s)],[(.bool true)],[(.pointer (some ⟨J,0,none⟩))]]) (cs:=(SNo.cells (({nm:=s,there:=true,fid:=J}:SNo)))) [(0,0,1),(1,1,1),(2,2,1)] z148 pl148 rfl rfl ⟨rfl,rfl,rfl,tV⟩ ⟨rfl,rfl,rfl,tV⟩ rfl rfl) (st_box (cs:=(SNo.cells (({nm:=s,there:=true,fid:=J}:SNo)))) rfl rfl ?_);intro I w7 Al Bg F P;have Bo:b0≠I:=(by have:=h0.lt;omega);have A6:J≠I:=(by have:=G.lt;omega);obtain⟨Q8,X,V,c,d⟩:=exQ uQ Al Bg F;replace H:=fun hh=>H (V _ hh);replace L:=L.sub X V;replace E:=E.sub X V;replace A:=A.sub X V;replace C:=C.sub X;replace D:=D.sub X;replace S:=fun hh=>S (V _ hh);replace tQ:=fun b U=>tQ b (V b U);replace Y:=fun b U hl=>X b (Y b U hl) (ly hl M.size);replace Al:=lv M.size Al;replace h0:=h0.md0 F;replace L:=L.md0 F;replace E:=E.md0 F;replace A:=A.md0 F;replace C:=C.md0 F;replace D:=D.md0 F;replace G:=G.md0 F;replace uQ:=uQ.md F;replace M:=M.step0 F;replace uQ:=d;clear d X V;have A0:Fsh [] w I:=.inr Al;refine asg rfl (nt ?_)
          refine ns (mv rfl (mv rfl (sn rfl (sf rfl off97_3 (sl (u:=Av) rfl one94 h0 rfl (mv rfl ?_))))));have ml:W.nodes.length=f.nodes.length:=(by rw[be.1]);have mp:W.pend.length=f.pend.length:=(by rw[be.2.1]);refine st_buildSliceG [[(.pointer (some ⟨I,0,none⟩))]] u94 elT143 (by decide) (by decide) rfl rfl ⟨rfl,tV⟩ ⟨rfl,tV⟩ rfl (by decide) ?_;intro Bw w9 Be Bz F Aq;have Bm:=uQ _ Be;replace h0:=h0.md0 F;replace L:=L.md0 F;replace E:=E.md0 F;replace A:=A.md0 F;replace C:=C.md0 F;replace D:=D.md0 F;replace G:=G.md0 F;replace P:=P.md0 F;replace uQ:=uQ.md F;replace M:=M.step0 F;replace Aq:=Ls.of_blk (m:=1) (R:=Q8) (T:=tNd) (xs:=[({id:=I,no:=({nm:=s,there:=true,fid:=J}:SNo),fl:=Ai}:SNd)]) Aq ⟨_,_,rfl,⟨rfl,tV⟩,rfl⟩ rfl (by decide) Bm;refine st_ap (sz:=1) (by rfl) u94 elT143 rfl rfl E Aq (fun _ h _=>h) uQ (Fsh.new M) (by first|omega|(simp<;>omega)|(simp at *<;>omega)) (by first|omega|(simp<;>omega)|(simp at *<;>omega)) ?_;intro Bk Ck Bd X V d K F Z _ A9;have N:=E;clear E;replace H:=fun hh=>H (V _ hh);replace L:=L.sub X V;replace A:=A.sub X V;replace C:=C.sub X;replace D:=D.sub X;replace S:=fun hh=>S (V _ hh);replace c:=fun hh=>c (V _ hh);replace tQ:=fun b U=>tQ b (V b U);replace Y:=fun b U hl=>X b (Y b U hl) (ly hl M.size);replace h0:=h0.md F (apart_ow N h0 (by decide));replace L:=L.md F (L.apO N (by decide) (by decide)) Z;replace A:=A.md F (apart_oo N A (by decide)) Z;replace C:=C.md F Z;replace D:=D.md F Z;replace G:=G.md F (apart_ow N G (by decide));replace P:=P.md F (apart_ow N P (by decide));replace uQ:=uQ.md F;replace M:=M.stepO F (fun b U=>(N.2 b U).1);replace uQ:=d;clear d X V Z A9;refine sn rfl (sf rfl off97_3 (st_store rfl rfl one94 K.oneCell h0 (lq rfl) ?_))
          have Aa:=h0;clear h0;intro Cl F h0;have Z:∀b∈[b0],¬Bd b:=(by intro b U;simp at U;subst U;exact H);replace L:=L.md F (L.ap1 Aa (by decide) (by decide)) Z;replace A:=A.md F (apart_bo Aa A (by decide)) Z;replace C:=C.md F Z;replace D:=D.md F Z;replace G:=G.md F (by intro U;simp at U;omega);replace P:=P.md F (by intro U;simp at U;omega);replace K:=K.md F (apart_bo Aa K (by decide)) Z;replace uQ:=uQ.md F;replace M:=M.step F (all_cons Ax all_nil);clear Aa Z;obtain⟨p,e⟩:∃y,y=({W with nodes:=W.nodes ++ ([({id:=I,no:=({nm:=s,there:=true,fid:=J}:SNo),fl:=Ai}:SNd)])}:SFs):=⟨_,rfl⟩;replace h0:Blk _ _ (SFs.cells ({W with nodes:=W.nodes ++ ([({id:=I,no:=({nm:=s,there:=true,fid:=J}:SNo),fl:=Ai}:SNd)])}) Bk Ag) _:=h0;rw[← e]at h0;have Aw:SFs.ok p:=(by rw[e];exact⟨o.1,o.2⟩);rw[show W.nodes ++ ([({id:=I,no:=({nm:=s,there:=true,fid:=J}:SNo),fl:=Ai}:SNd)])=p.nodes by rw[e]]at K;rw[show W.pend=p.pend by rw[e]]at A;refine nt (ns (mv rfl (mv rfl (sn rfl (sf rfl off97_4 (sl (u:=Ag) rfl one95 h0 rfl (mv rfl (st _ (r_buildG (us:=[[(.int .i64 ((0:Nat):Int))],[(.pointer (some ⟨I,0,none⟩))]]) (cs:=(SCh.cells (({kind:=0,n:=I,old:=[],over:=none}:SCh)))) [(0,0,1),(1,1,1)] z153 pl153 rfl rfl ⟨rfl,rfl,tV⟩ ⟨rfl,rfl,tV⟩ rfl rfl) (st_buildSliceG [(SCh.cells (({kind:=0,n:=I,old:=[],over:=none}:SCh)))] u95 elT153 (by decide) (by decide) rfl rfl ⟨rfl,tV⟩ ⟨rfl,tV⟩ rfl (by decide) ?_)))))))));intro Bx Cm Bf B0 F Ar;have Bn:=uQ _ Bf;replace L:=L.md0 F;replace A:=A.md0 F;replace C:=C.md0 F;replace D:=D.md0 F;replace G:=G.md0 F;replace P:=P.md0 F;replace K:=K.md0 F;replace h0:=h0.md0 F;replace uQ:=uQ.md F;replace M:=M.step0 F;replace Ar:=Ls.of_blk (m:=1) (R:=Bd) (T:=tSCh) (xs:=[({kind:=0,n:=I,old:=[],over:=none}:SCh)]) Ar ⟨_,_,rfl,(tSCh_mk (by first|assumption|exact(show(({kind:=0,n:=I,old:=[],over:=none}:SCh)).kind<9223372036854775808 from(by first|omega|(simp<;>omega)|simp_all)))),rfl⟩ rfl (by decide) Bn
          have Ci:p.pend.length=f.pend.length:=(by rw[e];exact mp);refine st_ap (sz:=4) (by rfl) u95 elT153 rfl rfl A Ar (fun _ h _=>h) uQ (Fsh.new M) (by first|omega|(simp<;>omega)|(simp at *<;>omega)) (by first|omega|(simp<;>omega)|(simp at *<;>omega)) ?_;intro Bt Co A3 X V d t F Z _ A9;have O:=A;clear A;replace L:=L.sub X V;replace C:=C.sub X;replace D:=D.sub X;replace S:=fun hh=>S (V _ hh);replace c:=fun hh=>c (V _ hh);replace K:=K.sub X V;replace H:=fun hh=>H (V _ hh);replace tQ:=fun b U=>tQ b (V b U);replace Y:=fun b U hl=>X b (Y b U hl) (ly hl M.size);replace L:=L.md F (L.apO O (by decide) (by decide)) Z;replace C:=C.md F Z;replace D:=D.md F Z;replace G:=G.md F (apart_ow O G (by decide));replace P:=P.md F (apart_ow O P (by decide));replace K:=K.md F (apart_oo O K (by decide)) Z;replace h0:=h0.md F (apart_ow O h0 (by decide));replace uQ:=uQ.md F;replace M:=M.stepO F (fun b U=>(O.2 b U).1);replace uQ:=d;clear d X V Z A9;refine sn rfl (sf rfl off97_4 (st_store rfl rfl one95 t.oneCell h0 (lq rfl) ?_));have Aa:=h0;clear h0;intro Bu F h0;have Z:∀b∈[b0],¬A3 b:=(by intro b U;simp at U;subst U;exact H);replace L:=L.md F (L.ap1 Aa (by decide) (by decide)) Z;replace C:=C.md F Z;replace D:=D.md F Z;replace G:=G.md F (by intro U;simp at U;omega);replace P:=P.md F (by intro U;simp at U;omega);replace K:=K.md F (apart_bo Aa K (by decide)) Z;replace t:=t.md F (apart_bo Aa t (by decide)) Z;replace uQ:=uQ.md F;replace M:=M.step F (all_cons Ax all_nil);clear Aa Z;obtain⟨Ah,r⟩:∃y,y=({p with pend:=p.pend ++ ([({kind:=0,n:=I,old:=[],over:=none}:SCh)])}:SFs):=⟨_,rfl⟩;replace h0:Blk _ _ (SFs.cells ({p with pend:=p.pend ++ ([({kind:=0,n:=I,old:=[],over:=none}:SCh)])}) Bk Bt) _:=h0
          rw[← r]at h0;have Bb:SFs.ok Ah:=(by rw[r];exact⟨Aw.1,Aw.2⟩);rw[show p.nodes=Ah.nodes by rw[r]]at K;rw[show p.pend ++ ([({kind:=0,n:=I,old:=[],over:=none}:SCh)])=Ah.pend by rw[r]]at t;refine st_nil ?_;have nS:Ah.nodes=f.nodes ++ [({id:=I,no:=({nm:=s,there:=true,fid:=J}:SNo),fl:=Ai}:SNd)]:=(by rw[r];show p.nodes=_;rw[e];show _ ++ _=_;rw[be.1])
          replace L:Nds 148 203 (Fsh (b0 :: (vblock v0_0).toList ++ ((vblock v0_1).toList ++ (ndB f.nodes))) w) Bu A3 Ah.nodes:=by
            rw[nS];rw[be.1]at L;exact L.snoc P G C D c S (Fsh.wid A0) (Fsh.wid Ay) (fun F=>by have:=Bh _ F;omega) (fun F=>by have Br:J∈ndB f.nodes:=F;have:=Bh _ Br;omega)
          have lI:lastI Ah=I:=(by unfold lastI;rw[nS];simp);have lJ:lastJ Ah=J:=(by unfold lastJ;rw[nS];simp);refine c_then (ns (asg rfl (nt (c_ret ?_))));exact ret1L (v:=(.int .i64 ((0:Nat):Int))) trivial rfl ⟨rfl,tV⟩ ⟨0,Ah,_,_,A3,rfl,M,⟨Y,tQ,uQ⟩,(by first|assumption|omega|simp_all),h0,H,Bb,K,t,L,(by rw[lI,lJ,make_0 Ap (by omega) A7 (by omega) A8 (by omega)];rw[r,e];simp[be.1,be.2.1,← Bq])⟩
theorem fn77:isFn Tryz.prog 77=true:=by kernel_rfl
theorem fn78:isFn Tryz.prog 78=true:=by kernel_rfl

set_option maxHeartbeats 4000000 in
theorem fWrite_any {w:World} {Q:Nat→Prop} (uQ:Up w Q) {b0:Nat} {v0_0:Value} {v0_1:Value} (f:SFs) (h0:Blk w b0 (SFs.cells f v0_0 v0_1) 97) (n0:¬Q b0) (a0_0:SFs.ok f) (a0_1:Ow tNd 143 (fun _=>True) w Q v0_0 f.nodes) (a0_2:Ow tSCh 153 (fun _=>True) w Q v0_1 f.pend) (hN0:Nds 148 203 (fun _=>True) w Q f.nodes) (s:Ly) (p:Int) (a2:(-9223372036854775808≤p∧p<9223372036854775808)) {v3:Value} {b:Ly} (h3:Ls tB8 w Q v3 b) (p0:s.length≤1000000) (p1:(totF f.nodes).2≤1000000000000) (p2:f.nodes.length≤1000000) (p3:f.pend.length≤1000000) (p4:∀x∈f.nodes,x.fl.b.length≤1000000) (p5:∀x∈f.nodes,x.fl.safe.length≤1000000) :
    Calls Tryz.prog 34 #[.pointer (some ⟨b0,0,none⟩),(str s),(.int .i64 (p:Int)),v3] w fun en w'=>∃r0:Nat,∃m0:SFs,∃u50_0:Value,∃u50_1:Value,∃Q':Nat→Prop,en = .returned (.int .i64 r0)∧Md (b0 :: (vblock v0_0).toList ++ ((vblock v0_1).toList ++ (ndB f.nodes))) w w'∧NewQ w w' Q Q'∧r0<9223372036854775808∧Blk w' b0 (SFs.cells m0 u50_0 u50_1) 97∧¬Q' b0∧SFs.ok m0∧Ow tNd 143 (Fsh (b0 :: (vblock v0_0).toList ++ ((vblock v0_1).toList ++ (ndB f.nodes))) w) w' Q' u50_0 m0.nodes∧Ow tSCh 153 (Fsh (b0 :: (vblock v0_0).toList ++ ((vblock v0_1).toList ++ (ndB f.nodes))) w) w' Q' u50_1 m0.pend∧Nds 148 203 (Fsh (b0 :: (vblock v0_0).toList ++ ((vblock v0_1).toList ++ (ndB f.nodes))) w) w' Q' m0.nodes∧(∃j,writeR f s p b j=(r0,m0)):=by
  have L3:=h3.len63;have L:=n0;have Cd:Fsh (b0 :: (vblock v0_0).toList ++ ((vblock v0_1).toList ++ (ndB f.nodes))) w b0:=.inl (by simp);replace a0_1:=a0_1.reP (lo':=Fsh (b0 :: (vblock v0_0).toList ++ ((vblock v0_1).toList ++ (ndB f.nodes))) w) (fun b R=>.inl (by simp[R]));replace a0_2:=a0_2.reP (lo':=Fsh (b0 :: (vblock v0_0).toList ++ ((vblock v0_1).toList ++ (ndB f.nodes))) w) (fun b R=>.inl (by simp[R]));have P:=hN0.reB (lo':=Fsh (b0 :: (vblock v0_0).toList ++ ((vblock v0_1).toList ++ (ndB f.nodes))) w) (fun b R=>.inl (by simp[R]));clear hN0;have M:=Md.refl (b0 :: (vblock v0_0).toList ++ ((vblock v0_1).toList ++ (ndB f.nodes))) w;have C9:=uQ;have tQ:∀b,Q b→Q b:=fun _ h=>h;have e:∀b,Q b→b<w.heap.size→Q b:=fun _ h _=>h;refine enter (n:=72) Tryz.func34 rfl rfl rfl ?_;intro B;refine ns ?_;have Ca:=P.ltB;refine asg rfl (nt (ns (mv rfl (mv rfl (st_call fn70 rfl (fGet_any uQ f h0 L a0_0 (a0_1.reP (fun _ _=>trivial)) (a0_2.reP (fun _ _=>trivial)) s (by exact P.reP (fun _ _=>trivial)) (by omega)) ?_)))));rintro en w1 ⟨Di,B4,rfl,G,Df,Cq⟩;refine⟨_,rfl,?_⟩;replace a0_1:=a0_1.md0 G;replace a0_2:=a0_2.md0 G;replace h0:=h0.md0 G;replace h3:=h3.md0 G;replace P:=P.md0 G;replace uQ:=uQ.md G;replace M:=M.step0 G;refine mv rfl (se rfl rfl (se rfl rfl (asg rfl (asg rfl (nt (c_seq (ns (mv rfl (st _ (r_neN (a:=B4) (b:=0) rfl rfl) (nt ?_))))))))));refine c_if rfl (fun Ax=>?_) (fun Ax=>?_)
  · (first|(have u:=dq Ax)|(have u:=dF (bnt Ax))|(have u:=bnt Ax)|(have u:=Ax));refine ns (mv rfl (asg rfl (nt (c_ret (r_then ?_)))));exact ret1L (v:=(.int .i64 B4)) trivial rfl ⟨rfl,tV⟩ ⟨B4,f,_,_,Q,rfl,M,⟨e,tQ,uQ⟩,(by first|assumption|omega|simp_all),h0,L,a0_0,a0_1,a0_2,P,⟨0,write_c Cq (by omega)⟩⟩
  · (first|(have u:=dF Ax)|(have u:=dq (bnf Ax))|(have u:=bnf Ax)|(have u:=Ax));refine c_skip (c_then (ns ?_));obtain⟨l,O,Cw,Am⟩:=gtF_some Cq (by omega);subst Cw;have bl:=p4 _ O;have Dm:=p5 _ O;refine mv rfl (sn rfl (sf rfl off148_2 ?_));obtain⟨Do,Dp,Ci,Bx,Co,Cp⟩:=P.file O;refine st _ ((r_loadBlk rfl one146 (P.get O).1 rfl).to (b:=(.pointer (some ⟨l.no.fid,0,none⟩))) rfl) (st_call fn77 rfl (sCopy_any uQ l.fl Ci Bx Co Cp (by first|omega|(simp<;>omega)|(simp at *<;>omega)) (by first|omega|(simp<;>omega)|(simp at *<;>omega))) ?_);rintro en w4 ⟨K,X,Cv,Ce,Q5,rfl,G,⟨r,o,Ai⟩,D,H,Aw,N,B0,Cr⟩;refine⟨_,rfl,?_⟩;have Cm:b0≠K:=(by have:=h0.lt;omega);have Cf:l.no.fid≠K:=(by have:=Ci.lt;omega);have Ah:Fsh [] w K:=Fsh.new M _ Aw;replace Aw:=lv M.size Aw;replace a0_1:=a0_1.sub r o;replace a0_2:=a0_2.sub r o;replace L:=fun hh=>L (o _ hh);replace h3:=h3.sub r;replace P:=P.sub r o;replace tQ:=fun b R=>tQ b (o b R);replace e:=fun b R hl=>r b (e b R hl) (ly hl M.size);replace N:=N.lower (Fsh.lift (S':=[]) M);replace a0_1:=a0_1.md0 G;replace a0_2:=a0_2.md0 G;replace h0:=h0.md0 G;replace h3:=h3.md0 G;replace P:=P.md0 G;replace uQ:=uQ.md G;replace M:=M.step0 G;replace uQ:=Ai;clear Ai r o;have Dn:Ce.b.length≤1000000:=(by rw[← Cr];exact bl);refine asg rfl (st_nil ?_);clear Ci Bx Co Cp;refine c_then (c_seq (ns (mv rfl (mv rfl (mv rfl (st_call fn78 rfl (sWrite_any uQ Ce D H (N.reP (fun _ _=>trivial)) B0 (p) (by omega) h3 (by first|omega|(simp<;>omega)|(simp at *<;>omega))) ?_))))));rintro en w6 ⟨B6,Bu,Ct,Cu,Q7,rfl,G,⟨r,o,Ai⟩,Dg,Bv,Bw,A,C,C1⟩;refine⟨_,rfl,?_⟩
    have hP:∀i∈(K :: (vblock X).toList),Fsh [] w i:=(all_cons Ah (all_row (fun x Z=>(N.2 x Z).1)));have g:∀i∈(K :: (vblock X).toList),¬Q5 i:=(all_cons H (all_row (fun x Z=>(N.2 x Z).2)));have A4:∀b,vblock v0_0=some b→b∉(K :: (vblock X).toList):=fun b R=>(nin_cons (a0_1.blk_ne D (by decide) b R) ((apart_oo N a0_1 (by decide)) b R));have A6:∀b,vblock v0_1=some b→b∉(K :: (vblock X).toList):=fun b R=>(nin_cons (a0_2.blk_ne D (by decide) b R) ((apart_oo N a0_2 (by decide)) b R));have Bz:b0∉(K :: (vblock X).toList):=(nin_cons (by omega) (apart_ow N h0 (by decide)));have Ag:=P.apB (S:=(K :: (vblock X).toList)) (fun b R=>nin_cons (by have:=Ca b R;omega) (fun G=>by have h2:=Ca b R;have h3:=(N.2 b (by simpa using G)).1.elim (fun h=>by simp at h) id;omega));replace A:=A.reP (fun x Z=>(A.2 x Z).1);replace A:=A.reP (fun x Z=>(A.2 x Z).1.elim (hP x) (Fsh.new M x));replace a0_1:=a0_1.sub r o;replace a0_2:=a0_2.sub r o;replace L:=fun hh=>L (o _ hh);replace P:=P.sub r o;replace tQ:=fun b R=>tQ b (o b R);replace e:=fun b R hl=>r b (e b R hl) (ly hl M.size);replace g:=fun i hi hq=>g i hi (o i hq);replace a0_1:=a0_1.md G A4 g;clear A4;replace a0_2:=a0_2.md G A6 g;clear A6;replace h0:=h0.md G Bz;clear Bz;replace P:=P.md G Ag g;replace M:=M.step G (fun i hi=>Fsh.wid (hP i hi));replace uQ:=Ai;clear Ai r o;clear hP g D H;have D:=Bv;have H:=Bw;clear Bv Bw;clear N;have fw:=C1;rw[← Cr]at fw;refine asg rfl (nt (ns (mv rfl (st _ (r_neN (a:=B6) (b:=0) rfl rfl) (nt ?_)))));refine c_if rfl (fun Ay=>?_) (fun Ay=>?_)
    · (first|(have Aa:=dq Ay)|(have Aa:=dF (bnt Ay))|(have Aa:=bnt Ay)|(have Aa:=Ay));refine ns (mv rfl (asg rfl (nt (c_ret (r_then ?_)))));exact ret1L (v:=(.int .i64 B6)) trivial rfl ⟨rfl,tV⟩ ⟨B6,f,_,_,Q7,rfl,M,⟨e,tQ,uQ⟩,(by first|assumption|omega|simp_all),h0,L,a0_0,a0_1,a0_2,P,⟨0,write_w Am fw (by omega)⟩⟩
    · (first|(have Aa:=dF Ay)|(have Aa:=dq (bnf Ay))|(have Aa:=bnf Ay)|(have Aa:=Ay));refine c_skip (c_then (c_seq ?_));obtain⟨Q8,fQ,fT,As⟩:=A.freeze;replace a0_1:=a0_1.subF fQ fT (apart_oo A a0_1 (by decide));replace a0_2:=a0_2.subF fQ fT (apart_oo A a0_2 (by decide));replace L:=fun hh=>(fT _ hh).elim L (nfz (apart_ow A h0 (by decide)));replace P:=P.subF fQ fT (P.apO A (by decide) (by decide));replace H:=fun hh=>(fT _ hh).elim H (nfz (apart_ow A D (by decide)));replace C:=C.sub (fun b R _=>fQ b R);replace tQ:=fun b R=>(fT b R).elim (tQ b) (fun hv=>Fsh.up C9 b (A.2 b hv).1);replace e:=fun b R hl=>fQ b (e b R hl);replace uQ:Up w6 Q8:=fun b R=>fQ b (uQ b R);clear A fQ fT;have A:=As;clear As;have Cc:=P;refine c_mixT [(0,true),(2,true),(3,true),(4,true),(5,true),(1,false)] [6,7,8] (fun w'=>Md [] w6 w') mixed (by kernel_rfl) ?_;intro w9 k;refine⟨k.mono (by simp),?_⟩;have MC:=k.mono (T:=[]) (by simp);refine mo rfl (mo rfl (mz (fun w' hc=>r_nil rfl) (mz (fun w' hc=>r_field rfl off148_2) ?_)));obtain⟨Dd,De,Ar,Be,Al,Ao⟩:=P.file O;refine mz (fun w' hc=>(r_loadBlk rfl one146 ((Cc.md0 hc).get O).1 rfl).to (b:=(.pointer (some ⟨l.no.fid,0,none⟩))) rfl) ?_;replace a0_1:=a0_1.md0 k;replace a0_2:=a0_2.md0 k;replace h0:=h0.md0 k;replace P:=P.md0 k;replace D:=D.md0 k;replace A:=A.md0 k;replace C:=C.md0 k;replace Al:=Al.md0 k;replace Ao:=Ao.md0 k;replace Ar:=Ar.md0 k;replace uQ:=uQ.md k;replace M:=M.step0 k;refine m_e ?_ rfl;refine st_call fn76 rfl (sLen_any uQ Bu D H A C) ?_;rintro en Du ⟨A0,rfl,G,C3,Ad⟩;refine⟨_,rfl,?_⟩;replace a0_1:=a0_1.md0 G;replace a0_2:=a0_2.md0 G
      replace h0:=h0.md0 G;replace P:=P.md0 G;replace D:=D.md0 G;replace A:=A.md0 G;replace C:=C.md0 G;replace Al:=Al.md0 G;replace Ao:=Ao.md0 G;replace Ar:=Ar.md0 G;replace uQ:=uQ.md G;replace M:=M.step0 G;replace MC:=MC.step0 G;refine st_nil ⟨rfl,MC,?_⟩;refine m_nil ?_;clear Cc;clear MC;refine st_call fn76 rfl (sLen_any uQ l.fl Ar Be Al Ao) ?_;rintro en Dv ⟨A3,rfl,G,C4,Ap⟩;refine⟨_,rfl,?_⟩;replace a0_1:=a0_1.md0 G;replace a0_2:=a0_2.md0 G;replace h0:=h0.md0 G;replace P:=P.md0 G;replace D:=D.md0 G;replace A:=A.md0 G;replace C:=C.md0 G;replace uQ:=uQ.md G;replace M:=M.step0 G;refine st _ (r_subI (a:=((A0:Nat):Int)) (b:=((A3:Nat):Int)) rfl rfl (by omega)) (asg rfl (st_nil ?_));clear Ar Be Al Ao;refine c_then (c_seq (ns (mv rfl (st_call fn73 rfl (fTotal_any uQ f h0 L a0_0 (a0_1.reP (fun _ _=>trivial)) (a0_2.reP (fun _ _=>trivial)) (by exact P.reP (fun _ _=>trivial)) (by omega)) ?_))));rintro en Dw ⟨Dc,B3,rfl,G,C5,C6,Aq⟩;refine⟨_,rfl,?_⟩;replace a0_1:=a0_1.md0 G;replace a0_2:=a0_2.md0 G;replace h0:=h0.md0 G;replace P:=P.md0 G;replace D:=D.md0 G;replace A:=A.md0 G;replace C:=C.md0 G;replace uQ:=uQ.md G;replace M:=M.step0 G;have tz:=congrArg Prod.snd Aq;simp only at tz;have yl:=(wr_len fw).1;rw[Ad]at yl;refine mv rfl (se rfl rfl (se rfl rfl (asg rfl (asg rfl (nt (ns (mv rfl (st _ (r_gt (a:=((A0:Nat):Int)-((A3:Nat):Int)) (b:=0) rfl rfl) (mv rfl ?_)))))))));refine part_n (t:=53) rfl (fun U=>?_) (fun U=>?_)
      · (first|(have Ab:=dq U)|(have Ab:=dF (bnt U))|(have Ab:=bnt U)|(have Ab:=U));refine sg U (r_move rfl) (sg U (r_move rfl) (sg U (r_addI (a:=((B3:Nat):Int)) (b:=(((A0:Nat):Int)-((A3:Nat):Int))) rfl rfl (by omega)) (sg U (r_move rfl) (sg U (r_nil rfl) (sg U (r_field rfl off97_0) (sg U ((r_loadBlk rfl one3 h0 rfl).to (b:=(.int .i64 (f.room:Int))) rfl) ?_))))));have Dr:(-9223372036854775808≤f.room∧f.room<9223372036854775808):=a0_0.1;refine sg U (r_gt (a:=((B3:Nat):Int)+(((A0:Nat):Int)-((A3:Nat):Int))) (b:=f.room) rfl rfl) (st _ (r_pick_t rfl U rfl) (nt ?_));refine c_if rfl (fun Az=>?_) (fun Az=>?_)
        · (first|(have Ac:=dq Az)|(have Ac:=dF (bnt Az))|(have Ac:=bnt Az)|(have Ac:=Az));refine ns (asg rfl (nt (c_ret (r_then ?_))));exact ret1L (v:=(.int .i64 ((15:Nat):Int))) trivial rfl ⟨rfl,tV⟩ ⟨15,f,_,_,Q8,rfl,M,⟨e,tQ,uQ⟩,(by first|assumption|omega|simp_all),h0,L,a0_0,a0_1,a0_2,P,⟨0,write_15 Am fw (by omega) Aq (by rw[Ad,Ap];omega) (by rw[Ad,Ap];omega)⟩⟩
        · (first|(have Ac:=dF Az)|(have Ac:=dq (bnf Az))|(have Ac:=bnf Az)|(have Ac:=Az));refine c_skip (c_then (c_seq (ns (mv rfl (st_call fn74 rfl (fBurn_any uQ f h0 L a0_0 (a0_1.reP (fun _ _=>trivial)) (a0_2.reP (fun _ _=>trivial))) ?_)))));rintro en Da ⟨A8,c,Bh,Bi,Bn,rfl,G,⟨r,o,Ai⟩,C7,Ba,Bc,Au,E,I,Bp⟩;refine⟨_,rfl,?_⟩;have hP:∀i∈(b0 :: (vblock v0_0).toList ++ ((vblock v0_1).toList)),Fsh (b0 :: (vblock v0_0).toList ++ ((vblock v0_1).toList ++ (ndB f.nodes))) w i:=(all_cons Cd (all_app (all_row (fun x Z=>(a0_1.2 x Z).1)) (all_row (fun x Z=>(a0_2.2 x Z).1))));have g:∀i∈(b0 :: (vblock v0_0).toList ++ ((vblock v0_1).toList)),¬Q8 i:=(all_cons L (all_app (all_row (fun x Z=>(a0_1.2 x Z).2)) (all_row (fun x Z=>(a0_2.2 x Z).2))));have Ag:=(P.apF h0 a0_1 a0_2 (by decide) (by decide) (by decide) (by decide) (by decide) (by decide));have W:K∉(b0 :: (vblock v0_0).toList ++ ((vblock v0_1).toList)):=(nin_cons (by omega) (nin_app (apart_ow a0_1 D (by decide)) (apart_ow a0_2 D (by decide))));replace E:=E.reP (fun x Z=>(E.2 x Z).1);replace E:=E.reP (fun x Z=>(E.2 x Z).1.elim (hP x) (Fsh.new M x));replace I:=I.reP (fun x Z=>(I.2 x Z).1);replace I:=I.reP (fun x Z=>(I.2 x Z).1.elim (hP x) (Fsh.new M x));replace P:=P.sub r o;replace H:=fun hh=>H (o _ hh);replace A:=A.sub r;replace C:=C.sub r;replace tQ:=fun b R=>tQ b (o b R);replace e:=fun b R hl=>r b (e b R hl) (ly hl M.size);replace g:=fun i hi hq=>g i hi (o i hq);replace P:=P.md G Ag g;replace D:=D.md G W;clear W;replace A:=A.md G g;replace C:=C.md G g;replace M:=M.step G hP;replace uQ:=Ai;clear Ai r o;clear hP g h0 L;have h0:=Ba;have L:=Bc;clear Ba Bc;clear a0_1;clear a0_2;have be:=burn_eq Bp;replace P:Nds 148 203 (Fsh (b0 :: (vblock v0_0).toList ++ ((vblock v0_1).toList ++ (ndB f.nodes))) w) Da Bn c.nodes:=(by rw[be.1];exact P)
          replace O:l∈c.nodes:=(by rw[be.1];exact O);refine asg rfl (nt (ns (mv rfl (st _ (r_neN (a:=A8) (b:=0) rfl rfl) (nt ?_)))));refine c_if rfl (fun Y=>?_) (fun Y=>?_)
          · (first|(have V:=dq Y)|(have V:=dF (bnt Y))|(have V:=bnt Y)|(have V:=Y));refine ns (mv rfl (asg rfl (nt (c_ret (r_then ?_)))));exact ret1L (v:=(.int .i64 A8)) trivial rfl ⟨rfl,tV⟩ ⟨A8,c,_,_,Bn,rfl,M,⟨e,tQ,uQ⟩,(by first|assumption|omega|simp_all),h0,L,Au,E,I,P,⟨0,write_b Am fw (by omega) Aq (by rw[Ad,Ap];omega) Bp (by omega)⟩⟩
          · (first|(have V:=dF Y)|(have V:=dq (bnf Y))|(have V:=bnf Y)|(have V:=Y));refine c_skip (c_then (ns (mv rfl (mv rfl (sn rfl (sf rfl off148_2 (st_store rfl rfl one146 rfl (P.get O).1 (lq rfl) ?_)))))));intro Cx G R;have Af:=P;clear P;have Ae:=(Af.get O).1;have Bt:=(show K∉ndB c.nodes from fun G=>by rw[be.1]at G;have:=Ca _ G;omega);have g:∀b∈[l.id],¬Bn b:=(by intro b R;rw[List.mem_singleton]at R;subst R;exact(Af.get O).2.2);replace h0:=h0.md G (by rw[List.mem_singleton];exact blk_ne_ty h0 Ae (by decide));replace D:=D.md G (by rw[List.mem_singleton];exact blk_ne_ty D Ae (by decide));replace A:=A.md G g;replace C:=C.md G g;replace E:=E.md G (fun b R=>by rw[List.mem_singleton];exact E.blk_ne Ae (by decide) b R) g;replace I:=I.md G (fun b R=>by rw[List.mem_singleton];exact I.blk_ne Ae (by decide) b R) g;replace uQ:=uQ.md G;replace M:=M.step G (all_cons (Af.all _ O).2.2.2.2.1 all_nil);clear g;have Br:=Af.setFile (j:=K) O (by decide) G (show Blk _ _ (SNo.cells {l.no with fid:=K}) _ from R) D A C H (Fsh.wid Ah) Bt;clear Af Ae R Bt;clear D H;obtain⟨Bl,Aj⟩:∃y,y=({c with nodes:=updN c.nodes l.id (fun z=>{z with no:={z.no with fid:=K},fl:=Bu})}:SFs):=⟨_,rfl⟩;replace h0:Blk Cx b0 (SFs.cells Bl Bh Bi) 97:=(by rw[Aj];exact h0);have Ck:SFs.ok Bl:=(by rw[Aj];exact Au);replace E:=ow_ids E (show Bl.nodes.map (·.id)=c.nodes.map (·.id)from by rw[Aj];exact updN_ids (fun _=>rfl));rw[show c.pend=Bl.pend by rw[Aj]]at I;have P:Nds 148 203 (Fsh (b0 :: (vblock v0_0).toList ++ ((vblock v0_1).toList ++ (ndB f.nodes))) w) Cx Bn Bl.nodes:=(by rw[Aj];exact Br);clear Br;refine nt (ns (asg rfl (nt (c_ret ?_))));exact ret1L (v:=(.int .i64 ((0:Nat):Int))) trivial rfl ⟨rfl,tV⟩ ⟨0,Bl,_,_,Bn,rfl,M,⟨e,tQ,uQ⟩,(by first|assumption|omega|simp_all),h0,L,Ck,E,I,P,⟨K,(by rw[write_0 Am fw (by omega) Aq (by rw[Ad,Ap];omega) Bp (by omega)];rw[Aj,be.1])⟩⟩
      · (first|(have Ab:=dF U)|(have Ab:=dq (bnf U))|(have Ab:=bnf U)|(have Ab:=U));refine sk U (sk U (sk U (sk U (sk U (sk U (sk U (sk U (st _ (r_pick_f rfl U rfl) (nt (c_if_f rfl rfl (c_skip (c_then (c_seq ?_)))))))))))));refine ns (mv rfl (st_call fn74 rfl (fBurn_any uQ f h0 L a0_0 (a0_1.reP (fun _ _=>trivial)) (a0_2.reP (fun _ _=>trivial))) ?_));rintro en Db ⟨A9,d,Bj,Bk,Bo,rfl,G,⟨r,o,Ai⟩,C8,Bb,Bd,Av,F,J,Bq⟩;refine⟨_,rfl,?_⟩;have hP:∀i∈(b0 :: (vblock v0_0).toList ++ ((vblock v0_1).toList)),Fsh (b0 :: (vblock v0_0).toList ++ ((vblock v0_1).toList ++ (ndB f.nodes))) w i:=(all_cons Cd (all_app (all_row (fun x Z=>(a0_1.2 x Z).1)) (all_row (fun x Z=>(a0_2.2 x Z).1))));have g:∀i∈(b0 :: (vblock v0_0).toList ++ ((vblock v0_1).toList)),¬Q8 i:=(all_cons L (all_app (all_row (fun x Z=>(a0_1.2 x Z).2)) (all_row (fun x Z=>(a0_2.2 x Z).2))));have Ag:=(P.apF h0 a0_1 a0_2 (by decide) (by decide) (by decide) (by decide) (by decide) (by decide));have W:K∉(b0 :: (vblock v0_0).toList ++ ((vblock v0_1).toList)):=(nin_cons (by omega) (nin_app (apart_ow a0_1 D (by decide)) (apart_ow a0_2 D (by decide))));replace F:=F.reP (fun x Z=>(F.2 x Z).1);replace F:=F.reP (fun x Z=>(F.2 x Z).1.elim (hP x) (Fsh.new M x));replace J:=J.reP (fun x Z=>(J.2 x Z).1);replace J:=J.reP (fun x Z=>(J.2 x Z).1.elim (hP x) (Fsh.new M x));replace P:=P.sub r o;replace H:=fun hh=>H (o _ hh);replace A:=A.sub r;replace C:=C.sub r;replace tQ:=fun b R=>tQ b (o b R);replace e:=fun b R hl=>r b (e b R hl) (ly hl M.size);replace g:=fun i hi hq=>g i hi (o i hq);replace P:=P.md G Ag g;replace D:=D.md G W;clear W
        replace A:=A.md G g;replace C:=C.md G g;replace M:=M.step G hP;replace uQ:=Ai;clear Ai r o;clear hP g h0 L;have h0:=Bb;have L:=Bd;clear Bb Bd;clear a0_1;clear a0_2;have be:=burn_eq Bq;replace P:Nds 148 203 (Fsh (b0 :: (vblock v0_0).toList ++ ((vblock v0_1).toList ++ (ndB f.nodes))) w) Db Bo d.nodes:=(by rw[be.1];exact P);replace O:l∈d.nodes:=(by rw[be.1];exact O);refine asg rfl (nt (ns (mv rfl (st _ (r_neN (a:=A9) (b:=0) rfl rfl) (nt ?_)))));refine c_if rfl (fun Y=>?_) (fun Y=>?_)
        · (first|(have V:=dq Y)|(have V:=dF (bnt Y))|(have V:=bnt Y)|(have V:=Y));refine ns (mv rfl (asg rfl (nt (c_ret (r_then ?_)))));exact ret1L (v:=(.int .i64 A9)) trivial rfl ⟨rfl,tV⟩ ⟨A9,d,_,_,Bo,rfl,M,⟨e,tQ,uQ⟩,(by first|assumption|omega|simp_all),h0,L,Av,F,J,P,⟨0,write_b Am fw (by omega) Aq (by rw[Ad,Ap];omega) Bq (by omega)⟩⟩
        · (first|(have V:=dF Y)|(have V:=dq (bnf Y))|(have V:=bnf Y)|(have V:=Y));refine c_skip (c_then (ns (mv rfl (mv rfl (sn rfl (sf rfl off148_2 (st_store rfl rfl one146 rfl (P.get O).1 (lq rfl) ?_)))))));intro Cy G R;have Af:=P;clear P;have Ae:=(Af.get O).1;have Bt:=(show K∉ndB d.nodes from fun G=>by rw[be.1]at G;have:=Ca _ G;omega);have g:∀b∈[l.id],¬Bo b:=(by intro b R;rw[List.mem_singleton]at R;subst R;exact(Af.get O).2.2);replace h0:=h0.md G (by rw[List.mem_singleton];exact blk_ne_ty h0 Ae (by decide));replace D:=D.md G (by rw[List.mem_singleton];exact blk_ne_ty D Ae (by decide));replace A:=A.md G g;replace C:=C.md G g;replace F:=F.md G (fun b R=>by rw[List.mem_singleton];exact F.blk_ne Ae (by decide) b R) g;replace J:=J.md G (fun b R=>by rw[List.mem_singleton];exact J.blk_ne Ae (by decide) b R) g;replace uQ:=uQ.md G;replace M:=M.step G (all_cons (Af.all _ O).2.2.2.2.1 all_nil);clear g;have Br:=Af.setFile (j:=K) O (by decide) G (show Blk _ _ (SNo.cells {l.no with fid:=K}) _ from R) D A C H (Fsh.wid Ah) Bt;clear Af Ae R Bt;clear D H;obtain⟨Bm,Ak⟩:∃y,y=({d with nodes:=updN d.nodes l.id (fun z=>{z with no:={z.no with fid:=K},fl:=Bu})}:SFs):=⟨_,rfl⟩;replace h0:Blk Cy b0 (SFs.cells Bm Bj Bk) 97:=(by rw[Ak];exact h0);have Cl:SFs.ok Bm:=(by rw[Ak];exact Av);replace F:=ow_ids F (show Bm.nodes.map (·.id)=d.nodes.map (·.id)from by rw[Ak];exact updN_ids (fun _=>rfl));rw[show d.pend=Bm.pend by rw[Ak]]at J;have P:Nds 148 203 (Fsh (b0 :: (vblock v0_0).toList ++ ((vblock v0_1).toList ++ (ndB f.nodes))) w) Cy Bo Bm.nodes:=(by rw[Ak];exact Br);clear Br;refine nt (ns (asg rfl (nt (c_ret ?_))));exact ret1L (v:=(.int .i64 ((0:Nat):Int))) trivial rfl ⟨rfl,tV⟩ ⟨0,Bm,_,_,Bo,rfl,M,⟨e,tQ,uQ⟩,(by first|assumption|omega|simp_all),h0,L,Cl,F,J,P,⟨K,(by rw[write_0 Am fw (by omega) Aq (by rw[Ad,Ap];omega) Bq (by omega)];rw[Ak,be.1])⟩⟩
end Go.Proofs.YtfadcpfgenjbeaaGreat
namespace Go.Wk
open Go Go.RowKit
section
variable {P:Program} {n:Nat} {A:Fr n} {D:List Deferred} {l:List (Nat × Value)} {w:World} {d:Option Tmp} {ty:TypeId} {ps:String} {af:Array Edge} {g:Option (Nat × Bool)}
theorem r_eqlPP {x y:Operand} {t u e:TypeId} {o1 o2:Option Nat} {sz:Nat} (hx:ev n l x=some (nptr o1)) (hy:ev n l y=some (nptr o2)) (hT:P.underlying t=some (.pointer e)) (hE:elemIs P e (sz+1)=true)
    (h1:∀b,o1=some b→∃cs ty,Blk w b cs ty) (h2:∀b,o2=some b→∃cs ty,Blk w b cs ty) :
    RunV P ⟨d,.binOp .eql t x y u,ty,ps,af,g⟩ (over A D l).eval w (.bool (decide (o1=o2))):=by
  unfold elemIs at hE
  split at hE
  case h_2=>cases hE
  rename_i inf hinf
  have H:inf.size=sz+1:=by simpa using hE
  have G:P.underlying t=some (.pointer (P.pointee t)):=by rw[hT];simp[Program.pointee,hT]
  have B:(binOp .eql t (nptr o1) (nptr o2)).run P w = .ok (.bool (decide (o1=o2))) w:=by
    cases o1 with
    | none =>
      have h:∀(d:Nat) (b:Option Addr),(Op.equalIn (d+1) t (.pointer none) (.pointer b)).run P w = .ok b.isNone w:=fun d b=>by simp[Op.equalIn,run_underlying hT]
      cases o2 <;> (simp only[nptr,binOp];simp[Op.equal,Op.maxDepth,h 9999])
    | some a =>
      cases o2 with
      | none=>simp only[nptr];rw[run_eql_pointer_nil w t _ G];rfl
      | some b =>
        by_cases h:a=b
        · subst h
          simp only[nptr,decide_true]
          exact run_eql_ptr_same w _ hT hinf
        · obtain⟨I,K,C⟩:=h1 a rfl
          obtain⟨J,L,E⟩:=h2 b rfl
          have:=run_eql_ptr_other (P:=P) w (a:=⟨a,0,none⟩) (b:=⟨b,0,none⟩) hT hinf (by omega) (by simp[h]) C E
          simp only[nptr]
          rw[this]
          simp[h]
  have F:(eqGuard .eql t x y (nptr o1) (nptr o2)).run P w = .ok () w:=by cases o1 <;> cases o2 <;> (unfold eqGuard;simp[nptr])
  simp[RunV,execOp,ev_eval hx,ev_eval hy,F,B]
end
section
variable {P:Program} {n:Nat} {A:Fr n} {D:List Deferred} {l:List (Nat × Value)} {w:World} {d:Option Tmp} {ty:TypeId} {ps:String} {af:Array Edge} {g:Option (Nat × Bool)}
end
section
variable {P:Program} {n:Nat} {A:Fr n} {D:List Deferred} {l:List (Nat × Value)} {w:World} {d:Option Tmp} {ty:TypeId} {ps:String} {af:Array Edge} {g:Option (Nat × Bool)}
theorem r_neqBool {x y:Operand} {t u:TypeId} {a b:Bool} (hT:P.underlying t=some .bool) (hx:ev n l x=some (.bool a)) (hy:ev n l y=some (.bool b)) :
    RunV P ⟨d,.binOp .neq t x y u,ty,ps,af,g⟩ (over A D l).eval w (.bool (a != b)):=by
  have B:(binOp .neq t (.bool a) (.bool b)).run P w = .ok (.bool (a != b)) w:=by
    simp only[binOp,Op.equal,Op.maxDepth,Sem.run_bind,run_equalIn_bool' w 9999 t a b hT,Result.andThen_ok,Sem.run_pure]
    rfl
  have C:(eqGuard .neq t x y (.bool a) (.bool b)).run P w = .ok () w:=by unfold eqGuard;simp
  simp[RunV,execOp,ev_eval hx,ev_eval hy,C,B]
end
section
variable {P:Program} {ops:Array Oper} {Q:Exit→Act→World→Prop} {rest:List Oper}
variable {n:Nat} {A:Fr n} {D:List Deferred} {l:List (Nat × Value)} {w:World}
variable {d:Tmp} {ty:TypeId} {ps:String} {af:Array Edge}
end
end Go.Wk
namespace Go.Proofs.YtfadcpfgenjbeaaGreat
open Go Go.Wk Go.RowKit
set_option linter.unusedVariables false
set_option linter.unusedSimpArgs false
attribute [local irreducible] wpList wpQuiet wpStill wpMix Code.wp Calls bodyPost

def syncR (f:SFs) (s:Ly):Nat × SFs :=
  if(gtF f.off f.nodes s).2≠0 then((gtF f.off f.nodes s).2,f)else match findN f.nodes s with
  | none=>(0,f)
  | some x=>if(burnF f).1≠0 then burnF f else(0,{(burnF f).2 with nodes:=updN f.nodes x.id fun z=>{z with fl:={b:=x.fl.b,safe:=x.fl.b}}})
def dropR (f:SFs) (s:Ly):Nat × SFs :=
  if(gtF f.off f.nodes s).2≠0 then((gtF f.off f.nodes s).2,f)else match findN f.nodes s with
  | none=>(0,f)
  | some x=>if(burnF f).1≠0 then burnF f else(0,{(burnF f).2 with nodes:=updN f.nodes x.id fun z=>{z with no:={z.no with there:=false}},pend:=f.pend ++ [⟨2,x.id,[],none⟩]})
def renameR (f:SFs) (s t:Ly):Nat × SFs :=
  if mayF f.off [s,t]≠0 then(mayF f.off [s,t],f)else match findN f.nodes s with
  | none=>(16,f)
  | some x=>if(burnF f).1≠0 then burnF f else if(findN f.nodes t).map (·.id)=some x.id then(0,(burnF f).2)else
    (0,{(burnF f).2 with nodes:=updN (match findN f.nodes t with|none=>f.nodes|some y=>updN f.nodes y.id fun z=>{z with no:={z.no with there:=false}}) x.id (fun z=>{z with no:={z.no with nm:=t}}),pend:=f.pend ++ [⟨1,x.id,s,(findN f.nodes t).map (·.id)⟩]})
section
variable {f m:SFs} {s t:Ly} {c e:Nat} {o:Option Nat} {x y:SNd}
theorem sync_c (h:gtF f.off f.nodes s=(o,c)) (hc:c≠0):syncR f s=(c,f):=by unfold syncR;rw[h];rw[if_pos hc]
theorem sync_b (h:mayF f.off [s]=0∧findN f.nodes s=some x) (hb:burnF f=(c,m)) (hc:c≠0):syncR f s=(c,m):=by
  unfold syncR;rw[gtF_0 h,h.2,hb];simp only[ne_eq,not_true_eq_false,if_false];rw[if_pos hc]
theorem sync_0 (h:mayF f.off [s]=0∧findN f.nodes s=some x) (hb:burnF f=(c,m)) (hc:c=0):syncR f s=(0,{m with nodes:=updN f.nodes x.id fun z=>{z with fl:={b:=x.fl.b,safe:=x.fl.b}}}):=by
  subst hc;unfold syncR;rw[gtF_0 h,h.2,hb];simp only[ne_eq,not_true_eq_false,if_false]
theorem drop_c (h:gtF f.off f.nodes s=(o,c)) (hc:c≠0):dropR f s=(c,f):=by unfold dropR;rw[h];rw[if_pos hc]
theorem drop_b (h:mayF f.off [s]=0∧findN f.nodes s=some x) (hb:burnF f=(c,m)) (hc:c≠0):dropR f s=(c,m):=by
  unfold dropR;rw[gtF_0 h,h.2,hb];simp only[ne_eq,not_true_eq_false,if_false];rw[if_pos hc]
theorem drop_0 (h:mayF f.off [s]=0∧findN f.nodes s=some x) (hb:burnF f=(c,m)) (hc:c=0):dropR f s=(0,{m with nodes:=updN f.nodes x.id fun z=>{z with no:={z.no with there:=false}},pend:=f.pend ++ [⟨2,x.id,[],none⟩]}):=by
  subst hc;unfold dropR;rw[gtF_0 h,h.2,hb];simp only[ne_eq,not_true_eq_false,if_false]
theorem ren_c (h:mayF f.off [s,t]=c) (hc:c≠0):renameR f s t=(c,f):=by subst h;unfold renameR;rw[if_pos hc]
theorem ren_16 (h:mayF f.off [s,t]=c) (hc:c=0) (hf:(findN f.nodes s).map (·.id)=none):renameR f s t=(16,f):=by
  subst hc;unfold renameR;rw[h];simp only[ne_eq,not_true_eq_false,if_false]
  cases hq:findN f.nodes s with
  | none=>rfl
  | some x=>rw[hq]at hf;cases hf
theorem ren_b (h:mayF f.off [s,t]=c) (hc:c=0) (hf:findN f.nodes s=some x) (hb:burnF f=(e,m)) (he:e≠0):renameR f s t=(e,m):=by
  subst hc;unfold renameR;rw[h,hf,hb];simp only[ne_eq,not_true_eq_false,if_false];rw[if_pos he]
theorem ren_same (h:mayF f.off [s,t]=c) (hc:c=0) (hf:findN f.nodes s=some x) (hb:burnF f=(e,m)) (he:e=0) (hg:(findN f.nodes t).map (·.id)=o) (ho:some x.id=o):renameR f s t=(0,m):=by
  subst hc;subst he;unfold renameR;rw[h,hf,hb];simp only[ne_eq,not_true_eq_false,if_false];rw[if_pos (by rw[hg,ho])]
theorem ren_0 (h:mayF f.off [s,t]=c) (hc:c=0) (hf:findN f.nodes s=some x) (hb:burnF f=(e,m)) (he:e=0) (hg:(findN f.nodes t).map (·.id)=o) (ho:¬some x.id=o) (hn:o=none) :
    renameR f s t=(0,{m with nodes:=updN f.nodes x.id fun z=>{z with no:={z.no with nm:=t}},pend:=f.pend ++ [⟨1,x.id,s,none⟩]}):=by
  subst hc;subst he;subst hn;unfold renameR;rw[h,hf,hb];simp only[ne_eq,not_true_eq_false,if_false]; 
  cases hq:findN f.nodes t with
  | none=>rw[if_neg (by simp)];rfl
  | some x=>rw[hq]at hg;cases hg
theorem ren_1 (h:mayF f.off [s,t]=c) (hc:c=0) (hf:findN f.nodes s=some x) (hb:burnF f=(e,m)) (he:e=0) (hg:findN f.nodes t=some y) (ho:¬x.id=y.id) :
    renameR f s t=(0,{m with nodes:=updN (updN f.nodes y.id fun z=>{z with no:={z.no with there:=false}}) x.id fun z=>{z with no:={z.no with nm:=t}},pend:=f.pend ++ [⟨1,x.id,s,some y.id⟩]}):=by
  subst hc;subst he;unfold renameR;rw[h,hf,hb,hg];simp only[ne_eq,not_true_eq_false,if_false];rw[if_neg (by simp;exact fun e=>ho e.symm)];rfl
theorem find_some {l:List SNd} (h:(findN l s).map (·.id)=o) (ho:o.isSome=true):∃x,x∈l∧o=some x.id∧findN l s=some x:=by
  cases hq:findN l s with
  | none=>rw[hq]at h;subst h;cases ho
  | some x=>rw[hq]at h;exact⟨x,(findN_mem hq).1,h.symm,rfl⟩
theorem find_blk {nd fd:TypeId} {lo:Nat→Prop} {w:World} {Q:Nat→Prop} {l:List SNd} (hN:Nds nd fd lo w Q l) (h:(findN l s).map (·.id)=o):∀b,o=some b→∃cs ty,Blk w b cs ty:=by
  rintro b rfl;obtain⟨x,B,A,_⟩:=find_some h rfl
  cases A
  exact⟨_,_,(hN.get B).1⟩
end


theorem fSync_any {w:World} {Q:Nat→Prop} (uQ:Up w Q) {b0:Nat} {v0_0:Value} {v0_1:Value} (f:SFs) (h0:Blk w b0 (SFs.cells f v0_0 v0_1) 97) (n0:¬Q b0) (a0_0:SFs.ok f) (a0_1:Ow tNd 143 (fun _=>True) w Q v0_0 f.nodes) (a0_2:Ow tSCh 153 (fun _=>True) w Q v0_1 f.pend) (hN0:Nds 148 203 (fun _=>True) w Q f.nodes) (s:Ly) (p0:s.length≤1000000) (p1:True) (p2:f.nodes.length≤1000000) (p3:f.pend.length≤1000000) (p4:∀x∈f.nodes,x.fl.b.length≤1000000) :
    Calls Tryz.prog 52 #[.pointer (some ⟨b0,0,none⟩),(str s)] w fun en w'=>∃r0:Nat,∃m0:SFs,∃u50_0:Value,∃u50_1:Value,∃Q':Nat→Prop,en = .returned (.int .i64 r0)∧Md (b0 :: (vblock v0_0).toList ++ ((vblock v0_1).toList ++ (ndB f.nodes))) w w'∧NewQ w w' Q Q'∧r0<9223372036854775808∧Blk w' b0 (SFs.cells m0 u50_0 u50_1) 97∧¬Q' b0∧SFs.ok m0∧Ow tNd 143 (Fsh (b0 :: (vblock v0_0).toList ++ ((vblock v0_1).toList ++ (ndB f.nodes))) w) w' Q' u50_0 m0.nodes∧Ow tSCh 153 (Fsh (b0 :: (vblock v0_0).toList ++ ((vblock v0_1).toList ++ (ndB f.nodes))) w) w' Q' u50_1 m0.pend∧Nds 148 203 (Fsh (b0 :: (vblock v0_0).toList ++ ((vblock v0_1).toList ++ (ndB f.nodes))) w) w' Q' m0.nodes∧syncR f s=(r0,m0):=by
  have F:=n0;have Ag:Fsh (b0 :: (vblock v0_0).toList ++ ((vblock v0_1).toList ++ (ndB f.nodes))) w b0:=.inl (by simp);replace a0_1:=a0_1.reP (lo':=Fsh (b0 :: (vblock v0_0).toList ++ ((vblock v0_1).toList ++ (ndB f.nodes))) w) (fun b L=>.inl (by simp[L]));replace a0_2:=a0_2.reP (lo':=Fsh (b0 :: (vblock v0_0).toList ++ ((vblock v0_1).toList ++ (ndB f.nodes))) w) (fun b L=>.inl (by simp[L]));have K:=hN0.reB (lo':=Fsh (b0 :: (vblock v0_0).toList ++ ((vblock v0_1).toList ++ (ndB f.nodes))) w) (fun b L=>.inl (by simp[L]));clear hN0;have M:=Md.refl (b0 :: (vblock v0_0).toList ++ ((vblock v0_1).toList ++ (ndB f.nodes))) w;have A3:=uQ;have tQ:∀b,Q b→Q b:=fun _ h=>h;have Z:∀b,Q b→b<w.heap.size→Q b:=fun _ h _=>h;refine enter (n:=25) Tryz.func52 rfl rfl rfl ?_;intro B;refine ns ?_;have A0:=K.ltB;refine asg rfl (nt (ns (mv rfl (mv rfl (st_call fn70 rfl (fGet_any uQ f h0 F a0_0 (a0_1.reP (fun _ _=>trivial)) (a0_2.reP (fun _ _=>trivial)) s (by exact K.reP (fun _ _=>trivial)) (by omega)) ?_)))));rintro en w1 ⟨Av,T,rfl,O,Ar,Aa⟩;refine⟨_,rfl,?_⟩;replace a0_1:=a0_1.md0 O;replace a0_2:=a0_2.md0 O;replace h0:=h0.md0 O;replace K:=K.md0 O;replace uQ:=uQ.md O;replace M:=M.step0 O;refine mv rfl (se rfl rfl (se rfl rfl (asg rfl (asg rfl (nt (c_seq (ns (mv rfl (st _ (r_eqN (a:=T) (b:=0) rfl rfl) (nt ?_))))))))));refine c_if rfl (fun J=>?_) (fun J=>?_)
  · (first|(have G:=dq J)|(have G:=dF (bnt J))|(have G:=bnt J)|(have G:=J));refine c_region ?_;obtain⟨S,I,Ah,e⟩:=gtF_some Aa (by omega);subst Ah;have bl:=p4 _ I;refine mv rfl (st_call fn74 rfl (fBurn_any uQ f h0 F a0_0 (a0_1.reP (fun _ _=>trivial)) (a0_2.reP (fun _ _=>trivial))) ?_);rintro en w3 ⟨c,H,X,Y,r,rfl,O,⟨sQ,sT,Aj⟩,As,V,W,N,A,C,j⟩;refine⟨_,rfl,?_⟩;have hP:∀i∈(b0 :: (vblock v0_0).toList ++ ((vblock v0_1).toList)),Fsh (b0 :: (vblock v0_0).toList ++ ((vblock v0_1).toList ++ (ndB f.nodes))) w i:=(all_cons Ag (all_app (all_row (fun x P=>(a0_1.2 x P).1)) (all_row (fun x P=>(a0_2.2 x P).1))));have g:∀i∈(b0 :: (vblock v0_0).toList ++ ((vblock v0_1).toList)),¬Q i:=(all_cons F (all_app (all_row (fun x P=>(a0_1.2 x P).2)) (all_row (fun x P=>(a0_2.2 x P).2))));have o:=(K.apF h0 a0_1 a0_2 (by decide) (by decide) (by decide) (by decide) (by decide) (by decide));replace A:=A.reP (fun x P=>(A.2 x P).1);replace A:=A.reP (fun x P=>(A.2 x P).1.elim (hP x) (Fsh.new M x));replace C:=C.reP (fun x P=>(C.2 x P).1);replace C:=C.reP (fun x P=>(C.2 x P).1.elim (hP x) (Fsh.new M x));replace K:=K.sub sQ sT;replace tQ:=fun b L=>tQ b (sT b L);replace Z:=fun b L hl=>sQ b (Z b L hl) (ly hl M.size);replace g:=fun i hi hq=>g i hi (sT i hq);replace K:=K.md O o g;replace M:=M.step O hP;replace uQ:=Aj;clear Aj sQ sT;clear hP g h0 F;have h0:=V;have F:=W;clear V W;clear a0_1;clear a0_2;have be:=burn_eq j;replace K:Nds 148 203 (Fsh (b0 :: (vblock v0_0).toList ++ ((vblock v0_1).toList ++ (ndB f.nodes))) w) w3 r H.nodes:=(by rw[be.1];exact K);replace I:S∈H.nodes:=(by rw[be.1];exact I);refine asg rfl (nt (c_seq (ns (mv rfl (st _ (r_neN (a:=c) (b:=0) rfl rfl) (nt ?_))))));refine c_if rfl (fun E=>?_) (fun E=>?_)
    · (first|(have D:=dq E)|(have D:=dF (bnt E))|(have D:=bnt E)|(have D:=E));refine ns (mv rfl (asg rfl (nt (c_ret (r_then ?_)))));exact ret1L (v:=(.int .i64 c)) trivial rfl ⟨rfl,tV⟩ ⟨c,H,_,_,r,rfl,M,⟨Z,tQ,uQ⟩,(by first|assumption|omega|simp_all),h0,F,N,A,C,K,(sync_b e j (by omega))⟩
    · (first|(have D:=dF E)|(have D:=dq (bnf E))|(have D:=bnf E)|(have D:=E));refine c_skip (c_then (ns (mv rfl (sn rfl (sf rfl off148_2 ?_)))));obtain⟨Aw,Ax,l,R,t,u⟩:=K.file I;refine st _ ((r_loadBlk rfl one146 (K.get I).1 rfl).to (b:=(.pointer (some ⟨S.no.fid,0,none⟩))) rfl) (st_call fn96 rfl (sSync_any uQ S.fl l R t u (by omega)) ?_);rintro en w6 ⟨m6,u6,z6,rfl,O,L,_,Ac,Ad,Ao⟩;refine⟨_,rfl,?_⟩;subst Ao;have k:=K;clear K;have d:=l;have Ae:=R;clear l R t u;have g:∀b∈[S.no.fid],¬r b:=(by intro b L;rw[List.mem_singleton]at L;subst L;exact Ae);replace h0:=h0.md O (by rw[List.mem_singleton];exact blk_ne_ty h0 d (by decide));replace A:=A.md O (fun b L=>by rw[List.mem_singleton];exact A.blk_ne d (by decide) b L) g;replace C:=C.md O (fun b L=>by rw[List.mem_singleton];exact C.blk_ne d (by decide) b L) g;replace uQ:=uQ.md O;replace M:=M.step O (all_cons (k.all _ I).2.2.2.2.2 all_nil);clear g;have Ab:=k.setFl I (by decide) O L Ac Ad;clear k d L Ae Ac Ad;obtain⟨p,U⟩:∃y,y=({H with nodes:=updN H.nodes S.id (fun z=>{z with fl:={b:=S.fl.b,safe:=S.fl.b}})}:SFs):=⟨_,rfl⟩;replace h0:Blk w6 b0 (SFs.cells p X Y) 97:=(by rw[U];exact h0);have Af:SFs.ok p:=(by rw[U];exact N);replace A:=ow_ids A (show p.nodes.map (·.id)=H.nodes.map (·.id)from by rw[U];exact updN_ids (fun _=>rfl));rw[show H.pend=p.pend by rw[U]]at C;have K:Nds 148 203 (Fsh (b0 :: (vblock v0_0).toList ++ ((vblock v0_1).toList ++ (ndB f.nodes))) w) w6 r p.nodes:=(by rw[U];exact Ab);clear Ab;refine nt (ns (asg rfl (nt (c_ret ?_))));exact ret1L (v:=(.int .i64 ((0:Nat):Int))) trivial rfl ⟨rfl,tV⟩ ⟨0,p,_,_,r,rfl,M,⟨Z,tQ,uQ⟩,(by first|assumption|omega|simp_all),h0,F,Af,A,C,K,(by rw[sync_0 e j (by omega)];rw[U,be.1])⟩
  · (first|(have G:=dF J)|(have G:=dq (bnf J))|(have G:=bnf J)|(have G:=J));refine c_skip (c_then (c_seq (ns (mv rfl (st _ (r_neN (a:=T) (b:=0) rfl rfl) (nt ?_))))));refine c_if rfl (fun E=>?_) (fun E=>?_)
    · (first|(have D:=dq E)|(have D:=dF (bnt E))|(have D:=bnt E)|(have D:=E));refine ns (mv rfl (asg rfl (nt (c_ret (r_then ?_)))));exact ret1L (v:=(.int .i64 T)) trivial rfl ⟨rfl,tV⟩ ⟨T,f,_,_,Q,rfl,M,⟨Z,tQ,uQ⟩,(by first|assumption|omega|simp_all),h0,F,a0_0,a0_1,a0_2,K,(sync_c Aa (by omega))⟩
    · (first|(have D:=dF E)|(have D:=dq (bnf E))|(have D:=bnf E)|(have D:=E));exfalso;omega
theorem fDrop_any {w:World} {Q:Nat→Prop} (uQ:Up w Q) {b0:Nat} {v0_0:Value} {v0_1:Value} (f:SFs) (h0:Blk w b0 (SFs.cells f v0_0 v0_1) 97) (n0:¬Q b0) (a0_0:SFs.ok f) (a0_1:Ow tNd 143 (fun _=>True) w Q v0_0 f.nodes) (a0_2:Ow tSCh 153 (fun _=>True) w Q v0_1 f.pend) (hN0:Nds 148 203 (fun _=>True) w Q f.nodes) (s:Ly) (p0:s.length≤1000000) (p1:True) (p2:f.nodes.length≤1000000) (p3:f.pend.length≤1000000) (p4:∀x∈f.nodes,x.fl.b.length≤1000000) :
    Calls Tryz.prog 33 #[.pointer (some ⟨b0,0,none⟩),(str s)] w fun en w'=>∃r0:Nat,∃m0:SFs,∃u50_0:Value,∃u50_1:Value,∃Q':Nat→Prop,en = .returned (.int .i64 r0)∧Md (b0 :: (vblock v0_0).toList ++ ((vblock v0_1).toList ++ (ndB f.nodes))) w w'∧NewQ w w' Q Q'∧r0<9223372036854775808∧Blk w' b0 (SFs.cells m0 u50_0 u50_1) 97∧¬Q' b0∧SFs.ok m0∧Ow tNd 143 (Fsh (b0 :: (vblock v0_0).toList ++ ((vblock v0_1).toList ++ (ndB f.nodes))) w) w' Q' u50_0 m0.nodes∧Ow tSCh 153 (Fsh (b0 :: (vblock v0_0).toList ++ ((vblock v0_1).toList ++ (ndB f.nodes))) w) w' Q' u50_1 m0.pend∧Nds 148 203 (Fsh (b0 :: (vblock v0_0).toList ++ ((vblock v0_1).toList ++ (ndB f.nodes))) w) w' Q' m0.nodes∧dropR f s=(r0,m0):=by
  have G:=n0;have Ag:Fsh (b0 :: (vblock v0_0).toList ++ ((vblock v0_1).toList ++ (ndB f.nodes))) w b0:=.inl (by simp);replace a0_1:=a0_1.reP (lo':=Fsh (b0 :: (vblock v0_0).toList ++ ((vblock v0_1).toList ++ (ndB f.nodes))) w) (fun b J=>.inl (by simp[J]));replace a0_2:=a0_2.reP (lo':=Fsh (b0 :: (vblock v0_0).toList ++ ((vblock v0_1).toList ++ (ndB f.nodes))) w) (fun b J=>.inl (by simp[J]));have I:=hN0.reB (lo':=Fsh (b0 :: (vblock v0_0).toList ++ ((vblock v0_1).toList ++ (ndB f.nodes))) w) (fun b J=>.inl (by simp[J]));clear hN0;have M:=Md.refl (b0 :: (vblock v0_0).toList ++ ((vblock v0_1).toList ++ (ndB f.nodes))) w;have Be:=uQ;have tQ:∀b,Q b→Q b:=fun _ h=>h;have c:∀b,Q b→b<w.heap.size→Q b:=fun _ h _=>h;refine enter (n:=34) Tryz.func33 rfl rfl rfl ?_;intro B;refine ns ?_;have Bc:=I.ltB;refine asg rfl (nt (ns (mv rfl (mv rfl (st_call fn70 rfl (fGet_any uQ f h0 G a0_0 (a0_1.reP (fun _ _=>trivial)) (a0_2.reP (fun _ _=>trivial)) s (by exact I.reP (fun _ _=>trivial)) (by omega)) ?_)))));rintro en w1 ⟨A8,d,rfl,F,A4,Ar⟩;refine⟨_,rfl,?_⟩;replace a0_1:=a0_1.md0 F;replace a0_2:=a0_2.md0 F;replace h0:=h0.md0 F;replace I:=I.md0 F;replace uQ:=uQ.md F;replace M:=M.step0 F;refine mv rfl (se rfl rfl (se rfl rfl (asg rfl (asg rfl (nt (c_seq (ns (mv rfl (st _ (r_eqN (a:=d) (b:=0) rfl rfl) (nt ?_))))))))));refine c_if rfl (fun S=>?_) (fun S=>?_)
  · (first|(have N:=dq S)|(have N:=dF (bnt S))|(have N:=bnt S)|(have N:=S));refine c_region ?_;obtain⟨L,K,Av,Ae⟩:=gtF_some Ar (by omega);subst Av;have bl:=p4 _ K;refine mv rfl (st_call fn74 rfl (fBurn_any uQ f h0 G a0_0 (a0_1.reP (fun _ _=>trivial)) (a0_2.reP (fun _ _=>trivial))) ?_);rintro en w3 ⟨Aa,O,W,X,Q4,rfl,F,⟨sQ,sT,t⟩,A6,o,p,V,A,C,Aj⟩;refine⟨_,rfl,?_⟩;have hP:∀i∈(b0 :: (vblock v0_0).toList ++ ((vblock v0_1).toList)),Fsh (b0 :: (vblock v0_0).toList ++ ((vblock v0_1).toList ++ (ndB f.nodes))) w i:=(all_cons Ag (all_app (all_row (fun x Z=>(a0_1.2 x Z).1)) (all_row (fun x Z=>(a0_2.2 x Z).1))));have U:∀i∈(b0 :: (vblock v0_0).toList ++ ((vblock v0_1).toList)),¬Q i:=(all_cons G (all_app (all_row (fun x Z=>(a0_1.2 x Z).2)) (all_row (fun x Z=>(a0_2.2 x Z).2))));have Ak:=(I.apF h0 a0_1 a0_2 (by decide) (by decide) (by decide) (by decide) (by decide) (by decide));replace A:=A.reP (fun x Z=>(A.2 x Z).1);replace A:=A.reP (fun x Z=>(A.2 x Z).1.elim (hP x) (Fsh.new M x));replace C:=C.reP (fun x Z=>(C.2 x Z).1);replace C:=C.reP (fun x Z=>(C.2 x Z).1.elim (hP x) (Fsh.new M x));replace I:=I.sub sQ sT;replace tQ:=fun b J=>tQ b (sT b J);replace c:=fun b J hl=>sQ b (c b J hl) (ly hl M.size);replace U:=fun i hi hq=>U i hi (sT i hq);replace I:=I.md F Ak U;replace M:=M.step F hP;replace uQ:=t;clear t sQ sT;clear hP U h0 G;have h0:=o;have G:=p;clear o p;clear a0_1;clear a0_2;have be:=burn_eq Aj;replace I:Nds 148 203 (Fsh (b0 :: (vblock v0_0).toList ++ ((vblock v0_1).toList ++ (ndB f.nodes))) w) w3 Q4 O.nodes:=(by rw[be.1];exact I);replace K:L∈O.nodes:=(by rw[be.1];exact K);refine asg rfl (nt (c_seq (ns (mv rfl (st _ (r_neN (a:=Aa) (b:=0) rfl rfl) (nt ?_))))));refine c_if rfl (fun E=>?_) (fun E=>?_)
    · (first|(have D:=dq E)|(have D:=dF (bnt E))|(have D:=bnt E)|(have D:=E));refine ns (mv rfl (asg rfl (nt (c_ret (r_then ?_)))));exact ret1L (v:=(.int .i64 Aa)) trivial rfl ⟨rfl,tV⟩ ⟨Aa,O,_,_,Q4,rfl,M,⟨c,tQ,uQ⟩,(by first|assumption|omega|simp_all),h0,G,V,A,C,I,(drop_b Ae Aj (by omega))⟩
    · (first|(have D:=dF E)|(have D:=dq (bnf E))|(have D:=bnf E)|(have D:=E));refine c_skip (c_then (ns (mv rfl (sn rfl (sf rfl off148_1 (st_store rfl rfl one4 rfl (I.get K).1 (lq rfl) ?_))))));intro w5 F J;have k:=I;clear I;have Ad:=(k.get K).1;have U:∀b∈[L.id],¬Q4 b:=(by intro b J;rw[List.mem_singleton]at J;subst J;exact(k.get K).2.2);replace h0:=h0.md F (by rw[List.mem_singleton];exact blk_ne_ty h0 Ad (by decide));replace A:=A.md F (fun b J=>by rw[List.mem_singleton];exact A.blk_ne Ad (by decide) b J) U;replace C:=C.md F (fun b J=>by rw[List.mem_singleton];exact C.blk_ne Ad (by decide) b J) U;replace uQ:=uQ.md F;replace M:=M.step F (all_cons (k.all _ K).2.2.2.2.1 all_nil);clear U;have As:=k.setNo K (by decide) F (g:=fun z=>{z with there:=false}) (show Blk _ _ (SNo.cells {L.no with there:=false}) _ from J) rfl;clear k Ad J;obtain⟨j,Y⟩:∃y,y=({O with nodes:=updN O.nodes L.id (fun z=>{z with no:={z.no with there:=false}})}:SFs):=⟨_,rfl⟩;replace h0:Blk w5 b0 (SFs.cells j W X) 97:=(by rw[Y];exact h0);have Af:SFs.ok j:=(by rw[Y];exact V);replace A:=ow_ids A (show j.nodes.map (·.id)=O.nodes.map (·.id)from by rw[Y];exact updN_ids (fun _=>rfl));rw[show O.pend=j.pend by rw[Y]]at C;have I:Nds 148 203 (Fsh (b0 :: (vblock v0_0).toList ++ ((vblock v0_1).toList ++ (ndB f.nodes))) w) w5 Q4 j.nodes:=(by rw[Y];exact As);clear As;refine nt (ns (mv rfl (mv rfl (sn rfl (sf rfl off97_4 (sl (u:=X) rfl one95 h0 rfl (mv rfl (st _ (r_buildG (us:=[[(.int .i64 ((2:Nat):Int))],[(.pointer (some ⟨L.id,0,none⟩))]]) (cs:=(SCh.cells (({kind:=2,n:=L.id,old:=[],over:=none}:SCh)))) [(0,0,1),(1,1,1)] z153 pl153 rfl rfl ⟨rfl,rfl,tV⟩ ⟨rfl,rfl,tV⟩ rfl rfl) ?_))))))));have Bd:j.pend.length=f.pend.length:=(by rw[Y];show _=_;rw[be.2.1]);refine st_buildSliceG [(SCh.cells (({kind:=2,n:=L.id,old:=[],over:=none}:SCh)))] u95 elT153 (by decide) (by decide) rfl rfl ⟨rfl,tV⟩ ⟨rfl,tV⟩ rfl (by decide) ?_
      intro A0 w7 Aq A3 F l;have Aw:=uQ _ Aq;replace h0:=h0.md0 F;replace A:=A.md0 F;replace C:=C.md0 F;replace I:=I.md0 F;replace uQ:=uQ.md F;replace M:=M.step0 F;replace l:=Ls.of_blk (m:=1) (R:=Q4) (T:=tSCh) (xs:=[({kind:=2,n:=L.id,old:=[],over:=none}:SCh)]) l ⟨_,_,rfl,(tSCh_mk (by first|assumption|exact(show(({kind:=2,n:=L.id,old:=[],over:=none}:SCh)).kind<9223372036854775808 from(by first|omega|(simp<;>omega)|simp_all)))),rfl⟩ rfl (by decide) Aw;refine st_ap (sz:=4) (by rfl) u95 elT153 rfl rfl C l (fun _ h _=>h) uQ (Fsh.new M) (by first|omega|(simp<;>omega)|(simp at *<;>omega)) (by first|omega|(simp<;>omega)|(simp at *<;>omega)) ?_;intro v9 Bg Ai sQ sT t e F U _ Ay;have H:=C;clear C;replace G:=fun hh=>G (sT _ hh);replace A:=A.sub sQ sT;replace I:=I.sub sQ sT;replace tQ:=fun b J=>tQ b (sT b J);replace c:=fun b J hl=>sQ b (c b J hl) (ly hl M.size);replace h0:=h0.md F (apart_ow H h0 (by decide));replace A:=A.md F (apart_oo H A (by decide)) U;replace I:=I.md F (I.apO H (by decide) (by decide)) U;replace uQ:=uQ.md F;replace M:=M.stepO F (fun b J=>(H.2 b J).1);replace uQ:=t;clear t sQ sT U Ay;refine sn rfl (sf rfl off97_4 (st_store rfl rfl one95 e.oneCell h0 (lq rfl) ?_));have Ac:=h0;clear h0;intro Az F h0;have U:∀b∈[b0],¬Ai b:=(by intro b J;simp at J;subst J;exact G);replace A:=A.md F (apart_bo Ac A (by decide)) U;replace I:=I.md F (I.ap1 Ac (by decide) (by decide)) U;replace e:=e.md F (apart_bo Ac e (by decide)) U;replace uQ:=uQ.md F;replace M:=M.step F (all_cons Ag all_nil);clear Ac U;obtain⟨r,P⟩:∃y,y=({j with pend:=j.pend ++ ([({kind:=2,n:=L.id,old:=[],over:=none}:SCh)])}:SFs):=⟨_,rfl⟩;replace h0:Blk _ _ (SFs.cells ({j with pend:=j.pend ++ ([({kind:=2,n:=L.id,old:=[],over:=none}:SCh)])}) W v9) _:=h0;rw[← P]at h0;have Al:SFs.ok r:=(by rw[P];exact⟨Af.1,Af.2⟩);replace I:Nds 148 203 (Fsh (b0 :: (vblock v0_0).toList ++ ((vblock v0_1).toList ++ (ndB f.nodes))) w) Az Ai r.nodes:=(by rw[P];exact I)
      rw[show j.nodes=r.nodes by rw[P]]at A;rw[show j.pend ++ ([({kind:=2,n:=L.id,old:=[],over:=none}:SCh)])=r.pend by rw[P]]at e;refine nt (ns (asg rfl (nt (c_ret ?_))));exact ret1L (v:=(.int .i64 ((0:Nat):Int))) trivial rfl ⟨rfl,tV⟩ ⟨0,r,_,_,Ai,rfl,M,⟨c,tQ,uQ⟩,(by first|assumption|omega|simp_all),h0,G,Al,A,e,I,(by rw[drop_0 Ae Aj (by omega)];rw[P,Y,be.1,be.2.1])⟩
  · (first|(have N:=dF S)|(have N:=dq (bnf S))|(have N:=bnf S)|(have N:=S));refine c_skip (c_then (c_seq (ns (mv rfl (st _ (r_neN (a:=d) (b:=0) rfl rfl) (nt ?_))))));refine c_if rfl (fun E=>?_) (fun E=>?_)
    · (first|(have D:=dq E)|(have D:=dF (bnt E))|(have D:=bnt E)|(have D:=E));refine ns (mv rfl (asg rfl (nt (c_ret (r_then ?_)))));exact ret1L (v:=(.int .i64 d)) trivial rfl ⟨rfl,tV⟩ ⟨d,f,_,_,Q,rfl,M,⟨c,tQ,uQ⟩,(by first|assumption|omega|simp_all),h0,G,a0_0,a0_1,a0_2,I,(drop_c Ar (by omega))⟩
    · (first|(have D:=dF E)|(have D:=dq (bnf E))|(have D:=bnf E)|(have D:=E));exfalso;omega
section
variable {e:TypeId} {w w':World} {b cap:Nat} {xs:List SNd}
end
theorem el148:elemIs Tryz.prog 148 3=true:=by kernel_rfl

set_option maxHeartbeats 4000000 in
theorem fRename_any {w:World} {Q:Nat→Prop} (uQ:Up w Q) {b0:Nat} {v0_0:Value} {v0_1:Value} (f:SFs) (h0:Blk w b0 (SFs.cells f v0_0 v0_1) 97) (n0:¬Q b0) (a0_0:SFs.ok f) (a0_1:Ow tNd 143 (fun _=>True) w Q v0_0 f.nodes) (a0_2:Ow tSCh 153 (fun _=>True) w Q v0_1 f.pend) (hN0:Nds 148 203 (fun _=>True) w Q f.nodes) (s:Ly) (t:Ly) (p0:s.length≤1000000) (p1:t.length≤1000000) (p2:f.nodes.length≤1000000) (p3:f.pend.length≤1000000) :
    Calls Tryz.prog 45 #[.pointer (some ⟨b0,0,none⟩),(str s),(str t)] w fun en w'=>∃r0:Nat,∃m0:SFs,∃u50_0:Value,∃u50_1:Value,∃Q':Nat→Prop,en = .returned (.int .i64 r0)∧Md (b0 :: (vblock v0_0).toList ++ ((vblock v0_1).toList ++ (ndB f.nodes))) w w'∧NewQ w w' Q Q'∧r0<9223372036854775808∧Blk w' b0 (SFs.cells m0 u50_0 u50_1) 97∧¬Q' b0∧SFs.ok m0∧Ow tNd 143 (Fsh (b0 :: (vblock v0_0).toList ++ ((vblock v0_1).toList ++ (ndB f.nodes))) w) w' Q' u50_0 m0.nodes∧Ow tSCh 153 (Fsh (b0 :: (vblock v0_0).toList ++ ((vblock v0_1).toList ++ (ndB f.nodes))) w) w' Q' u50_1 m0.pend∧Nds 148 203 (Fsh (b0 :: (vblock v0_0).toList ++ ((vblock v0_1).toList ++ (ndB f.nodes))) w) w' Q' m0.nodes∧renameR f s t=(r0,m0):=by
  have H:=n0;have Ba:Fsh (b0 :: (vblock v0_0).toList ++ ((vblock v0_1).toList ++ (ndB f.nodes))) w b0:=.inl (by simp);replace a0_1:=a0_1.reP (lo':=Fsh (b0 :: (vblock v0_0).toList ++ ((vblock v0_1).toList ++ (ndB f.nodes))) w) (fun b G=>.inl (by simp[G]));replace a0_2:=a0_2.reP (lo':=Fsh (b0 :: (vblock v0_0).toList ++ ((vblock v0_1).toList ++ (ndB f.nodes))) w) (fun b G=>.inl (by simp[G]));have F:=hN0.reB (lo':=Fsh (b0 :: (vblock v0_0).toList ++ ((vblock v0_1).toList ++ (ndB f.nodes))) w) (fun b G=>.inl (by simp[G]));clear hN0;have M:=Md.refl (b0 :: (vblock v0_0).toList ++ ((vblock v0_1).toList ++ (ndB f.nodes))) w;have Cp:=uQ;have tQ:∀b,Q b→Q b:=fun _ h=>h;have k:∀b,Q b→b<w.heap.size→Q b:=fun _ h _=>h;refine enter (n:=59) Tryz.func45 rfl rfl rfl ?_;intro B;refine ns (asg rfl (nt (ns (mv rfl (mv rfl (mv rfl (st_buildSliceG [[(str s)],[(str t)]] u88 elT9 (by decide) (by decide) rfl rfl ⟨rfl,rfl,tV⟩ ⟨rfl,rfl,tV⟩ rfl (by decide) ?_)))))));intro Cg w1 Br Cj D A4;have B3:=uQ _ Br;replace a0_1:=a0_1.md0 D;replace a0_2:=a0_2.md0 D;replace h0:=h0.md0 D;replace F:=F.md0 D;replace uQ:=uQ.md D;replace M:=M.step0 D;replace A4:=Ls.of_blk (m:=2) (R:=Q) (T:=tStr) (xs:=[s,t]) A4 ⟨_,_,rfl,⟨rfl,tV⟩,⟨_,_,rfl,⟨rfl,tV⟩,rfl⟩⟩ rfl (by decide) B3;refine st_call fn79 rfl (fMay_any uQ f h0 H a0_0 (a0_1.reP (fun _ _=>trivial)) (a0_2.reP (fun _ _=>trivial)) A4 (by intro q hq;simp at hq;rcases hq with rfl|rfl<;>assumption)) ?_;rintro en w2 ⟨Bd,rfl,D,Ck,Aw⟩;refine⟨_,rfl,?_⟩;replace a0_1:=a0_1.md0 D;replace a0_2:=a0_2.md0 D;replace h0:=h0.md0 D;replace F:=F.md0 D;replace uQ:=uQ.md D;replace M:=M.step0 D;refine asg rfl (nt (c_seq (ns (mv rfl (st _ (r_neN (a:=Bd) (b:=0) rfl rfl) (nt ?_))))));refine c_if rfl (fun Am=>?_) (fun Am=>?_)
  · (first|(have r:=dq Am)|(have r:=dF (bnt Am))|(have r:=bnt Am)|(have r:=Am));refine ns (mv rfl (asg rfl (nt (c_ret (r_then ?_)))));exact ret1L (v:=(.int .i64 Bd)) trivial rfl ⟨rfl,tV⟩ ⟨Bd,f,_,_,Q,rfl,M,⟨k,tQ,uQ⟩,(by first|assumption|omega|simp_all),h0,H,a0_0,a0_1,a0_2,F,(ren_c Aw (by omega))⟩
  · (first|(have r:=dF Am)|(have r:=dq (bnf Am))|(have r:=bnf Am)|(have r:=Am));refine c_skip (c_then (ns (mv rfl (mv rfl (st_call fn92 rfl (fFind_any uQ f h0 H a0_0 (a0_1.reP (fun _ _=>trivial)) (a0_2.reP (fun _ _=>trivial)) s (by exact F.reP (fun _ _=>trivial))) ?_)))));rintro en w3 ⟨B0,rfl,D,Bs⟩;refine⟨_,rfl,?_⟩;replace a0_1:=a0_1.md0 D;replace a0_2:=a0_2.md0 D;replace h0:=h0.md0 D;replace F:=F.md0 D;replace uQ:=uQ.md D;replace M:=M.step0 D;refine mv rfl (mv rfl (st_call fn92 rfl (fFind_any uQ f h0 H a0_0 (a0_1.reP (fun _ _=>trivial)) (a0_2.reP (fun _ _=>trivial)) t (by exact F.reP (fun _ _=>trivial))) ?_));rintro en w4 ⟨V,rfl,D,Bg⟩;refine⟨_,rfl,?_⟩;replace a0_1:=a0_1.md0 D;replace a0_2:=a0_2.md0 D;replace h0:=h0.md0 D;replace F:=F.md0 D;replace uQ:=uQ.md D;replace M:=M.step0 D;refine asg rfl (asg rfl (nt (c_seq (ns (mv rfl (st _ (r_eqlNp (o:=B0) rfl u143) (nt ?_)))))));refine c_if rfl (fun Aa=>?_) (fun Aa=>?_)
    · (first|(have Ab:=dq Aa)|(have Ab:=dF (bnt Aa))|(have Ab:=bnt Aa)|(have Ab:=Aa));refine ns (asg rfl (nt (c_ret (r_then ?_))));exact ret1L (v:=(.int .i64 ((16:Nat):Int))) trivial rfl ⟨rfl,tV⟩ ⟨16,f,_,_,Q,rfl,M,⟨k,tQ,uQ⟩,(by first|assumption|omega|simp_all),h0,H,a0_0,a0_1,a0_2,F,(ren_16 Aw (by omega) (Bs.trans (Option.isNone_iff_eq_none.1 Aa)))⟩
    · (first|(have Ab:=dF Aa)|(have Ab:=dq (bnf Aa))|(have Ab:=bnf Aa)|(have Ab:=Aa));refine c_skip (c_then (c_seq (ns ?_)));obtain⟨I,J,Bv,Av⟩:=find_some Bs (by rw[← Option.not_isNone,Aa];rfl);subst Bv;refine mv rfl (st_call fn74 rfl (fBurn_any uQ f h0 H a0_0 (a0_1.reP (fun _ _=>trivial)) (a0_2.reP (fun _ _=>trivial))) ?_);rintro en w6 ⟨Ar,K,O,P,Q7,rfl,D,⟨sQ,sT,Aq⟩,Cl,A6,A7,X,A,C,A3⟩;refine⟨_,rfl,?_⟩;have hP:∀i∈(b0 :: (vblock v0_0).toList ++ ((vblock v0_1).toList)),Fsh (b0 :: (vblock v0_0).toList ++ ((vblock v0_1).toList ++ (ndB f.nodes))) w i:=(all_cons Ba (all_app (all_row (fun x hx=>(a0_1.2 x hx).1)) (all_row (fun x hx=>(a0_2.2 x hx).1))));have S:∀i∈(b0 :: (vblock v0_0).toList ++ ((vblock v0_1).toList)),¬Q i:=(all_cons H (all_app (all_row (fun x hx=>(a0_1.2 x hx).2)) (all_row (fun x hx=>(a0_2.2 x hx).2))));have Bl:=(F.apF h0 a0_1 a0_2 (by decide) (by decide) (by decide) (by decide) (by decide) (by decide));replace A:=A.reP (fun x hx=>(A.2 x hx).1);replace A:=A.reP (fun x hx=>(A.2 x hx).1.elim (hP x) (Fsh.new M x));replace C:=C.reP (fun x hx=>(C.2 x hx).1);replace C:=C.reP (fun x hx=>(C.2 x hx).1.elim (hP x) (Fsh.new M x));replace F:=F.sub sQ sT;replace tQ:=fun b G=>tQ b (sT b G);replace k:=fun b G hl=>sQ b (k b G hl) (ly hl M.size);replace S:=fun i hi hq=>S i hi (sT i hq);replace F:=F.md D Bl S;replace M:=M.step D hP;replace uQ:=Aq;clear Aq sQ sT;clear hP S h0 H;have h0:=A6;have H:=A7;clear A6 A7;clear a0_2;clear a0_1;have be:=burn_eq A3;replace F:Nds 148 203 (Fsh (b0 :: (vblock v0_0).toList ++ ((vblock v0_1).toList ++ (ndB f.nodes))) w) w6 Q7 K.nodes:=(by rw[be.1];exact F);replace J:I∈K.nodes:=(by rw[be.1];exact J);refine asg rfl (nt (ns (mv rfl (st _ (r_neN (a:=Ar) (b:=0) rfl rfl) (mv rfl ?_)))));refine part_n (t:=31) rfl (fun L=>?_) (fun L=>?_)
      · (first|(have c:=dq L)|(have c:=dF (bnt L))|(have c:=bnt L)|(have c:=L));refine sk L (sk L (sk L (st _ (r_pick_t rfl L rfl) (nt (c_if_t rfl rfl (ns (mv rfl (asg rfl (nt (c_ret (r_then ?_)))))))))));exact ret1L (v:=(.int .i64 Ar)) trivial rfl ⟨rfl,tV⟩ ⟨Ar,K,_,_,Q7,rfl,M,⟨k,tQ,uQ⟩,(by first|assumption|omega|simp_all),h0,H,X,A,C,F,(ren_b Aw (by omega) Av A3 (by omega))⟩
      · (first|(have c:=dF L)|(have c:=dq (bnf L))|(have c:=bnf L)|(have c:=L));refine sg L (r_move rfl) (sg L (r_move rfl) (sg L (r_eqlPP (o1:=(some I.id)) (o2:=V) rfl rfl u143 el148 (fun b G=>by cases G;exact⟨_,_,(F.get J).1⟩) (find_blk (s:=t) (by rw[be.1]at F;exact F) Bg)) (st _ (r_pick_f rfl L rfl) (nt ?_))));refine c_if rfl (fun Ao=>?_) (fun Ao=>?_)
        · (first|(have U:=dq Ao)|(have U:=dF (bnt Ao))|(have U:=bnt Ao)|(have U:=Ao));refine ns (mv rfl (asg rfl (nt (c_ret (r_then ?_)))));exact ret1L (v:=(.int .i64 Ar)) trivial rfl ⟨rfl,tV⟩ ⟨Ar,K,_,_,Q7,rfl,M,⟨k,tQ,uQ⟩,(by first|assumption|omega|simp_all),h0,H,X,A,C,F,(by have e0:_=0:=Decidable.not_not.1 c;rw[ren_same Aw (by omega) Av A3 e0 Bg U,e0])⟩
        · (first|(have U:=dF Ao)|(have U:=dq (bnf Ao))|(have U:=bnf Ao)|(have U:=Ao));refine c_skip (c_then (c_seq (ns (mv rfl (st _ (r_neqNp (o:=V) rfl u143) (nt ?_))))));refine c_if rfl (fun Ac=>?_) (fun Ac=>?_)
          · (first|(have Ad:=dq Ac)|(have Ad:=dF (bnt Ac))|(have Ad:=bnt Ac)|(have Ad:=Ac));refine c_region ?_;obtain⟨Y,Af,Bw,Bq⟩:=find_some Bg (by exact Ac);subst Bw;have Ca:I.id≠Y.id:=fun e=>U (by rw[e]);have Bu:Y∈K.nodes:=(by rw[be.1];exact Af);replace Af:=Bu;clear Bu;refine mv rfl (sn rfl (sf rfl off148_1 (st_store rfl rfl one4 rfl (F.get Af).1 (lq rfl) ?_)));intro w9 D G;have N:=F;clear F;have W:=(N.get Af).1;have S:∀b∈[Y.id],¬Q7 b:=(by intro b G;rw[List.mem_singleton]at G;subst G;exact(N.get Af).2.2);replace h0:=h0.md D (by rw[List.mem_singleton];exact blk_ne_ty h0 W (by decide));replace A:=A.md D (fun b G=>by rw[List.mem_singleton];exact A.blk_ne W (by decide) b G) S;replace C:=C.md D (fun b G=>by rw[List.mem_singleton];exact C.blk_ne W (by decide) b G) S;replace uQ:=uQ.md D;replace M:=M.step D (all_cons (N.all _ Af).2.2.2.2.1 all_nil);clear S;have Ap:=N.setNo Af (by decide) D (g:=fun z=>{z with there:=false}) (show Blk _ _ (SNo.cells {Y.no with there:=false}) _ from G) rfl;clear N W G;obtain⟨Ag,Z⟩:∃y,y=({K with nodes:=updN K.nodes Y.id (fun z=>{z with no:={z.no with there:=false}})}:SFs):=⟨_,rfl⟩;replace h0:Blk w9 b0 (SFs.cells Ag O P) 97:=(by rw[Z];exact h0);have Bm:SFs.ok Ag:=(by rw[Z];exact X);replace A:=ow_ids A (show Ag.nodes.map (·.id)=K.nodes.map (·.id)from by rw[Z];exact updN_ids (fun _=>rfl));rw[show K.pend=Ag.pend by rw[Z]]at C;have F:Nds 148 203 (Fsh (b0 :: (vblock v0_0).toList ++ ((vblock v0_1).toList ++ (ndB f.nodes))) w) w9 Q7 Ag.nodes:=(by rw[Z];exact Ap);clear Ap;replace J:I∈Ag.nodes:=(by rw[Z];exact updN_mem J (by assumption));refine nt (ns (mv rfl (mv rfl (sn rfl (sf rfl off148_0 (st_store rfl rfl one9 rfl (F.get J).1 (lq rfl) ?_))))));intro Bx D G;have N:=F;clear F;have W:=(N.get J).1
            have S:∀b∈[I.id],¬Q7 b:=(by intro b G;rw[List.mem_singleton]at G;subst G;exact(N.get J).2.2);replace h0:=h0.md D (by rw[List.mem_singleton];exact blk_ne_ty h0 W (by decide));replace A:=A.md D (fun b G=>by rw[List.mem_singleton];exact A.blk_ne W (by decide) b G) S;replace C:=C.md D (fun b G=>by rw[List.mem_singleton];exact C.blk_ne W (by decide) b G) S;replace uQ:=uQ.md D;replace M:=M.step D (all_cons (N.all _ J).2.2.2.2.1 all_nil);clear S;have Ap:=N.setNo J (by decide) D (g:=fun z=>{z with nm:=t}) (show Blk _ _ (SNo.cells {I.no with nm:=t}) _ from G) rfl;clear N W G;obtain⟨d,l⟩:∃y,y=({Ag with nodes:=updN Ag.nodes I.id (fun z=>{z with no:={z.no with nm:=t}})}:SFs):=⟨_,rfl⟩;replace h0:Blk Bx b0 (SFs.cells d O P) 97:=(by rw[l];exact h0);have A8:SFs.ok d:=(by rw[l];exact Bm);replace A:=ow_ids A (show d.nodes.map (·.id)=Ag.nodes.map (·.id)from by rw[l];exact updN_ids (fun _=>rfl));rw[show Ag.pend=d.pend by rw[l]]at C;have F:Nds 148 203 (Fsh (b0 :: (vblock v0_0).toList ++ ((vblock v0_1).toList ++ (ndB f.nodes))) w) Bx Q7 d.nodes:=(by rw[l];exact Ap);clear Ap;refine nt (ns (mv rfl (mv rfl (sn rfl (sf rfl off97_4 (sl (u:=P) rfl one95 h0 rfl (mv rfl (mv rfl (mv rfl (st _ (r_buildG (us:=[[(.int .i64 ((1:Nat):Int))],[(.pointer (some ⟨I.id,0,none⟩))],[(str s)],[(.pointer (some ⟨Y.id,0,none⟩))]]) (cs:=(SCh.cells (({kind:=1,n:=I.id,old:=s,over:=(some Y.id)}:SCh)))) [(0,0,1),(1,1,1),(2,2,1),(3,3,1)] z153 pl153 rfl rfl ⟨rfl,rfl,rfl,rfl,tV⟩ ⟨rfl,rfl,rfl,rfl,tV⟩ rfl rfl) ?_))))))))));have Cb:d.pend.length=f.pend.length:=(by simp[Z,l,be.2.1]);refine st_buildSliceG [(SCh.cells (({kind:=1,n:=I.id,old:=s,over:=(some Y.id)}:SCh)))] u95 elT153 (by decide) (by decide) rfl rfl ⟨rfl,tV⟩ ⟨rfl,tV⟩ rfl (by decide) ?_;intro Bp Cq A0 Bt D Ae;have Be:=uQ _ A0;replace h0:=h0.md0 D
            replace A:=A.md0 D;replace C:=C.md0 D;replace F:=F.md0 D;replace uQ:=uQ.md D;replace M:=M.step0 D;replace Ae:=Ls.of_blk (m:=1) (R:=Q7) (T:=tSCh) (xs:=[({kind:=1,n:=I.id,old:=s,over:=(some Y.id)}:SCh)]) Ae ⟨_,_,rfl,(tSCh_mk (by first|assumption|exact(show(({kind:=1,n:=I.id,old:=s,over:=(some Y.id)}:SCh)).kind<9223372036854775808 from(by first|omega|(simp<;>omega)|simp_all)))),rfl⟩ rfl (by decide) Be;refine st_ap (sz:=4) (by rfl) u95 elT153 rfl rfl C Ae (fun _ h _=>h) uQ (Fsh.new M) (by first|omega|(simp<;>omega)|(simp at *<;>omega)) (by first|omega|(simp<;>omega)|(simp at *<;>omega)) ?_;intro Cc Cr Bi sQ sT Aq Aj D S _ Bk;have E:=C;clear C;replace H:=fun hh=>H (sT _ hh);replace A:=A.sub sQ sT;replace F:=F.sub sQ sT;replace tQ:=fun b G=>tQ b (sT b G);replace k:=fun b G hl=>sQ b (k b G hl) (ly hl M.size);replace h0:=h0.md D (apart_ow E h0 (by decide));replace A:=A.md D (apart_oo E A (by decide)) S;replace F:=F.md D (F.apO E (by decide) (by decide)) S;replace uQ:=uQ.md D;replace M:=M.stepO D (fun b G=>(E.2 b G).1);replace uQ:=Aq;clear Aq sQ sT S Bk;refine sn rfl (sf rfl off97_4 (st_store rfl rfl one95 Aj.oneCell h0 (lq rfl) ?_));have Al:=h0;clear h0;intro Ce D h0;have S:∀b∈[b0],¬Bi b:=(by intro b G;simp at G;subst G;exact H);replace A:=A.md D (apart_bo Al A (by decide)) S;replace F:=F.md D (F.ap1 Al (by decide) (by decide)) S;replace Aj:=Aj.md D (apart_bo Al Aj (by decide)) S;replace uQ:=uQ.md D;replace M:=M.step D (all_cons Ba all_nil);clear Al S;obtain⟨Bb,Ah⟩:∃y,y=({d with pend:=d.pend ++ ([({kind:=1,n:=I.id,old:=s,over:=(some Y.id)}:SCh)])}:SFs):=⟨_,rfl⟩;replace h0:Blk _ _ (SFs.cells ({d with pend:=d.pend ++ ([({kind:=1,n:=I.id,old:=s,over:=(some Y.id)}:SCh)])}) O Cc) _:=h0;rw[← Ah]at h0;have Bn:SFs.ok Bb:=(by rw[Ah];exact⟨A8.1,A8.2⟩)
            replace F:Nds 148 203 (Fsh (b0 :: (vblock v0_0).toList ++ ((vblock v0_1).toList ++ (ndB f.nodes))) w) Ce Bi Bb.nodes:=(by rw[Ah];exact F);rw[show d.nodes=Bb.nodes by rw[Ah]]at A;rw[show d.pend ++ ([({kind:=1,n:=I.id,old:=s,over:=(some Y.id)}:SCh)])=Bb.pend by rw[Ah]]at Aj;refine nt (ns (asg rfl (nt (c_ret ?_))));exact ret1L (v:=(.int .i64 ((0:Nat):Int))) trivial rfl ⟨rfl,tV⟩ ⟨0,Bb,_,_,Bi,rfl,M,⟨k,tQ,uQ⟩,(by first|assumption|omega|simp_all),h0,H,Bn,A,Aj,F,(by rw[ren_1 Aw (by omega) Av A3 (by omega) Bq Ca];rw[Ah,l,Z,be.1,be.2.1])⟩
          · (first|(have Ad:=dF Ac)|(have Ad:=dq (bnf Ac))|(have Ad:=bnf Ac)|(have Ad:=Ac));refine c_skip (c_then (ns (mv rfl (mv rfl (sn rfl (sf rfl off148_0 (st_store rfl rfl one9 rfl (F.get J).1 (lq rfl) ?_)))))));intro Bz D G;have N:=F;clear F;have W:=(N.get J).1;have S:∀b∈[I.id],¬Q7 b:=(by intro b G;rw[List.mem_singleton]at G;subst G;exact(N.get J).2.2);replace h0:=h0.md D (by rw[List.mem_singleton];exact blk_ne_ty h0 W (by decide));replace A:=A.md D (fun b G=>by rw[List.mem_singleton];exact A.blk_ne W (by decide) b G) S;replace C:=C.md D (fun b G=>by rw[List.mem_singleton];exact C.blk_ne W (by decide) b G) S;replace uQ:=uQ.md D;replace M:=M.step D (all_cons (N.all _ J).2.2.2.2.1 all_nil);clear S;have Ap:=N.setNo J (by decide) D (g:=fun z=>{z with nm:=t}) (show Blk _ _ (SNo.cells {I.no with nm:=t}) _ from G) rfl;clear N W G;obtain⟨j,p⟩:∃y,y=({K with nodes:=updN K.nodes I.id (fun z=>{z with no:={z.no with nm:=t}})}:SFs):=⟨_,rfl⟩;replace h0:Blk Bz b0 (SFs.cells j O P) 97:=(by rw[p];exact h0);have A9:SFs.ok j:=(by rw[p];exact X);replace A:=ow_ids A (show j.nodes.map (·.id)=K.nodes.map (·.id)from by rw[p];exact updN_ids (fun _=>rfl));rw[show K.pend=j.pend by rw[p]]at C;have F:Nds 148 203 (Fsh (b0 :: (vblock v0_0).toList ++ ((vblock v0_1).toList ++ (ndB f.nodes))) w) Bz Q7 j.nodes:=(by rw[p];exact Ap);clear Ap;refine nt (ns (mv rfl (mv rfl (sn rfl (sf rfl off97_4 (sl (u:=P) rfl one95 h0 rfl (mv rfl (mv rfl (mv rfl (st _ (r_buildG (us:=[[(.int .i64 ((1:Nat):Int))],[(.pointer (some ⟨I.id,0,none⟩))],[(str s)],[(nptr V)]]) (cs:=(SCh.cells (({kind:=1,n:=I.id,old:=s,over:=V}:SCh)))) [(0,0,1),(1,1,1),(2,2,1),(3,3,1)] z153 pl153 rfl rfl ⟨rfl,rfl,rfl,(cells_one (nptr_one _)),tV⟩ ⟨rfl,rfl,rfl,rfl,tV⟩ rfl rfl) ?_))))))))))
            have Cb:j.pend.length=f.pend.length:=(by simp[p,be.2.1]);refine st_buildSliceG [(SCh.cells (({kind:=1,n:=I.id,old:=s,over:=V}:SCh)))] u95 elT153 (by decide) (by decide) rfl rfl ⟨rfl,tV⟩ ⟨rfl,tV⟩ rfl (by decide) ?_;intro Bp Cs A0 Bt D Ae;have Be:=uQ _ A0;replace h0:=h0.md0 D;replace A:=A.md0 D;replace C:=C.md0 D;replace F:=F.md0 D;replace uQ:=uQ.md D;replace M:=M.step0 D;replace Ae:=Ls.of_blk (m:=1) (R:=Q7) (T:=tSCh) (xs:=[({kind:=1,n:=I.id,old:=s,over:=V}:SCh)]) Ae ⟨_,_,rfl,(tSCh_mk (by first|assumption|exact(show(({kind:=1,n:=I.id,old:=s,over:=V}:SCh)).kind<9223372036854775808 from(by first|omega|(simp<;>omega)|simp_all)))),rfl⟩ rfl (by decide) Be;refine st_ap (sz:=4) (by rfl) u95 elT153 rfl rfl C Ae (fun _ h _=>h) uQ (Fsh.new M) (by first|omega|(simp<;>omega)|(simp at *<;>omega)) (by first|omega|(simp<;>omega)|(simp at *<;>omega)) ?_;intro Cd Ct Bj sQ sT Aq Ak D S _ Bk;have E:=C;clear C;replace H:=fun hh=>H (sT _ hh);replace A:=A.sub sQ sT;replace F:=F.sub sQ sT;replace tQ:=fun b G=>tQ b (sT b G);replace k:=fun b G hl=>sQ b (k b G hl) (ly hl M.size);replace h0:=h0.md D (apart_ow E h0 (by decide));replace A:=A.md D (apart_oo E A (by decide)) S;replace F:=F.md D (F.apO E (by decide) (by decide)) S;replace uQ:=uQ.md D;replace M:=M.stepO D (fun b G=>(E.2 b G).1);replace uQ:=Aq;clear Aq sQ sT S Bk;refine sn rfl (sf rfl off97_4 (st_store rfl rfl one95 Ak.oneCell h0 (lq rfl) ?_));have Al:=h0;clear h0;intro Cf D h0;have S:∀b∈[b0],¬Bj b:=(by intro b G;simp at G;subst G;exact H);replace A:=A.md D (apart_bo Al A (by decide)) S;replace F:=F.md D (F.ap1 Al (by decide) (by decide)) S;replace Ak:=Ak.md D (apart_bo Al Ak (by decide)) S;replace uQ:=uQ.md D;replace M:=M.step D (all_cons Ba all_nil);clear Al S
            obtain⟨Bc,Ai⟩:∃y,y=({j with pend:=j.pend ++ ([({kind:=1,n:=I.id,old:=s,over:=V}:SCh)])}:SFs):=⟨_,rfl⟩;replace h0:Blk _ _ (SFs.cells ({j with pend:=j.pend ++ ([({kind:=1,n:=I.id,old:=s,over:=V}:SCh)])}) O Cd) _:=h0;rw[← Ai]at h0;have Bo:SFs.ok Bc:=(by rw[Ai];exact⟨A9.1,A9.2⟩);replace F:Nds 148 203 (Fsh (b0 :: (vblock v0_0).toList ++ ((vblock v0_1).toList ++ (ndB f.nodes))) w) Cf Bj Bc.nodes:=(by rw[Ai];exact F);rw[show j.nodes=Bc.nodes by rw[Ai]]at A;rw[show j.pend ++ ([({kind:=1,n:=I.id,old:=s,over:=V}:SCh)])=Bc.pend by rw[Ai]]at Ak;refine nt (ns (asg rfl (nt (c_ret ?_))));exact ret1L (v:=(.int .i64 ((0:Nat):Int))) trivial rfl ⟨rfl,tV⟩ ⟨0,Bc,_,_,Bj,rfl,M,⟨k,tQ,uQ⟩,(by first|assumption|omega|simp_all),h0,H,Bo,A,Ak,F,(by have e9:_=none:=Option.isSome_eq_false_iff.1 Ac |> Option.isNone_iff_eq_none.1;rw[ren_0 Aw (by omega) Av A3 (by omega) Bg U e9];rw[Ai,p,be.1,be.2.1,e9])⟩
theorem pl97:bplace Tryz.prog 97=some [(0,1),(1,1),(2,1),(3,1),(4,1)]:=by kernel_rfl
theorem z97:zcells Tryz.prog 97=some [.int .i64 0,.int .i64 0,.bool false,.slice none 0 0,.slice none 0 0]:=by kernel_rfl

theorem fNew_any {w:World} {Q:Nat→Prop} (uQ:Up w Q) (r:Int) (a0:(-9223372036854775808≤r∧r<9223372036854775808)) (p0:4096≤r) (p1:r≤1048576) :
    Calls Tryz.prog 11 #[(.int .i64 (r:Int))] w fun en w'=>∃o0:Nat,∃u0_0:Value,∃u0_1:Value,∃r0:SFs,∃r1:Nat,∃Q':Nat→Prop,en = .returned (.tuple #[.pointer (some ⟨o0,0,none⟩),(.int .i64 r1)])∧Md [] w w'∧NewQ w w' Q Q'∧Blk w' o0 (SFs.cells r0 u0_0 u0_1) 97∧¬Q' o0∧w.heap.size≤o0∧SFs.ok r0∧Ow tNd 143 (Fsh [] w) w' Q' u0_0 r0.nodes∧Ow tSCh 153 (Fsh [] w) w' Q' u0_1 r0.pend∧r1<9223372036854775808∧(({room:=r,fuse:=-1,off:=false,nodes:=[],pend:=[]}:SFs),(0:Nat))=(r0,r1):=by
  have M:=Md.refl [] w;have W:=uQ;have R:∀b,Q b→Q b:=fun _ h=>h;have J:∀b,Q b→b<w.heap.size→Q b:=fun _ h _=>h;refine enter (n:=13) Tryz.func11 rfl rfl rfl ?_;intro B;refine ns (asg rfl (asg rfl (nt (c_seq (ns (mv rfl (st _ (r_lt (a:=r) (b:=4096) rfl rfl) (mv rfl ?_))))))));refine part_n (t:=6) rfl (fun F=>?_) (fun F=>?_)
  · (first|(have C:=dq F)|(have C:=dF (bnt F))|(have C:=bnt F)|(have C:=F));exfalso;omega
  · (first|(have C:=dF F)|(have C:=dq (bnf F))|(have C:=bnf F)|(have C:=F));refine sg F (r_move rfl) (sg F (r_gt (a:=r) (b:=1048576) rfl rfl) (st _ (r_pick_f rfl F rfl) (nt ?_)));refine c_if rfl (fun G=>?_) (fun G=>?_)
    · (first|(have D:=dq G)|(have D:=dF (bnt G))|(have D:=bnt G)|(have D:=G));exfalso;omega
    · (first|(have D:=dF G)|(have D:=dq (bnf G))|(have D:=bnf G)|(have D:=G));refine c_skip (c_then (ns (mv rfl (st _ (r_buildG (us:=[[(.int .i64 (r:Int))],[(.int .i64 ((-1):Int))]]) (cs:=(SFs.cells (({room:=r,fuse:=(-1),off:=false,nodes:=[],pend:=[]}:SFs)) (.slice none 0 0) (.slice none 0 0))) [(0,0,1),(1,1,1)] z97 pl97 rfl rfl ⟨rfl,rfl,tV⟩ ⟨rfl,rfl,tV⟩ rfl rfl) (st_box (cs:=(SFs.cells (({room:=r,fuse:=(-1),off:=false,nodes:=[],pend:=[]}:SFs)) (.slice none 0 0) (.slice none 0 0))) rfl rfl ?_)))));intro I X E L P K;obtain⟨V,T,U,H,N⟩:=exQ uQ E L P;replace R:=fun b O=>R b (U b O);replace J:=fun b O S=>T b (J b O S) (ly S M.size);replace E:=lv M.size E;replace uQ:=uQ.md P;replace M:=M.step0 P;replace uQ:=N;clear N T U;refine asg rfl (asg rfl (nt (c_ret ?_)));exact retL (vs:=[(.pointer (some ⟨I,0,none⟩)),(.int .i64 ((0:Nat):Int))]) trivial rfl ⟨rfl,rfl,tV⟩ rfl ⟨I,_,_,(({room:=r,fuse:=(-1),off:=false,nodes:=[],pend:=[]}:SFs)),0,V,rfl,M,⟨J,R,uQ⟩,K,H,E,(by first|assumption|exact⟨(by first|omega|(simp<;>omega)|simp_all),(by first|omega|(simp<;>omega)|simp_all)⟩),(by first|exact Ow.nil _ _ _ _ _|(simp only[];exact Ow.nil _ _ _ _ _)),(by first|exact Ow.nil _ _ _ _ _|(simp only[];exact Ow.nil _ _ _ _ _)),(by first|assumption|omega|simp_all),rfl⟩

/-- A directory that may be: so many nodes and changes at most, no file greater than it may be, changes of its own nodes alone. -/
def cIn (l:List SNd) (c:SCh):Prop:=c.n∈l.map (·.id)∧∀o,c.over=some o→o∈l.map (·.id)
structure fWf (k:Nat) (f:SFs):Prop where
  n:f.nodes.length≤k
  p:f.pend.length≤k
  fl:∀x∈f.nodes,x.fl.b.length≤32768∧x.fl.safe.length≤32768
  ch:∀c∈f.pend,cIn f.nodes c
  room:0≤f.room
  nd:(f.nodes.map (·.id)).Nodup
theorem tot_le {k:Nat}:∀{l:List SNd},(∀x∈l,x.fl.b.length≤32768∧x.fl.safe.length≤32768)→l.length≤k→(totF l).2≤k*32768
  | [],_,_=>Nat.zero_le _
  | x :: l,h,hl=>by
    obtain⟨k,rfl⟩:∃j,k=j+1:=⟨k-1,by simp at hl;omega⟩;have:=tot_le (k:=k) (l:=l) (fun y hy=>h y (List.mem_cons_of_mem _ hy)) (by simpa using hl);have h0:=(h x List.mem_cons_self).1;rw[totF,Nat.succ_mul]
    split
    · exact Nat.add_le_add this h0
    · exact lv this (Nat.le_add_right _ _)
theorem fWf.up {k k':Nat} {f:SFs} (h:fWf k f) (hk:k≤k'):fWf k' f:=⟨lv h.n hk,lv h.p hk,h.fl,h.ch,h.room,h.nd⟩
theorem cIn.of {l l':List SNd} {c:SCh} (h:cIn l c) (hi:∀b∈l.map (·.id),b∈l'.map (·.id)):cIn l' c:=⟨hi _ h.1,fun o ho=>hi _ (h.2 o ho)⟩
theorem wf_burn {k:Nat} {f m:SFs} {r:Nat} (h:fWf k f) (e:burnF f=(r,m)):fWf k m:=by
  have b:=burn_eq e;exact⟨by rw[b.1];exact h.n,by rw[b.2.1];exact h.p,by rw[b.1];exact h.fl,by rw[b.1,b.2.1];exact h.ch,by rw[b.2.2];exact h.room,by rw[b.1];exact h.nd⟩
theorem wf_burn' {k:Nat} {f:SFs} (h:fWf k f):fWf k (burnF f).2:=wf_burn (r:=(burnF f).1) h rfl
theorem wf_upd {k:Nat} {f:SFs} {i:Nat} {g:SNd→SNd} {p:List SCh} (h:fWf k f) (hg:∀z,(g z).id=z.id) (hs:∀z∈f.nodes,(g z).fl.b.length≤32768∧(g z).fl.safe.length≤32768) (hp:∀c∈p,c∈f.pend∨cIn f.nodes c) (hpl:p.length≤k+1):fWf (k+1) {f with nodes:=updN f.nodes i g,pend:=p}:=by
  have A:=updN_ids (l:=f.nodes) (i:=i) hg;refine⟨?_,hpl,fun x E=>?_,fun c D=>?_,h.room,?_⟩
  · have:=congrArg List.length A;simp only[List.length_map]at this;show(updN f.nodes i g).length≤_;have:=h.n;omega
  · rcases mem_updN E with⟨z,B,_,rfl⟩|⟨B,_⟩
    · exact hs z B
    · exact h.fl x B
  · have:cIn f.nodes c:=(hp c D).elim (h.ch c) id
    exact this.of fun b C=>by show b∈(updN f.nodes i g).map _;rw[A];exact C
  · show((updN f.nodes i g).map _).Nodup;rw[A];exact h.nd
theorem wf_make {k:Nat} {f m:SFs} {s:Ly} {i j r:Nat} (h:fWf k f) (hn:i∉f.nodes.map (·.id)∨r≠0) (e:makeR f s i j=(r,m)):fWf (k+1) m:=by
  unfold makeR at e
  split at e
  · cases e;exact h.up (Nat.le_succ _)
  · split at e
    · cases e;exact h.up (Nat.le_succ _)
    · split at e
      · cases e;exact h.up (Nat.le_succ _)
      · split at e
        · exact(wf_burn h e).up (Nat.le_succ _)
        · cases e
          have D:=burn_same f;refine⟨?_,?_,fun x B=>?_,fun c A=>?_,by show 0≤(burnF f).2.room;rw[D.2.2];exact h.room,?_⟩
          · simp;exact h.n
          · simp;exact h.p
          · rcases List.mem_append.1 B with B|B
            · exact h.fl x B
            · rw[List.mem_singleton]at B;subst B;simp
          · rcases List.mem_append.1 A with A|A
            · exact(h.ch c A).of fun b D=>by rw[List.map_append];exact List.mem_append.2 (.inl D)
            · rw[List.mem_singleton]at A;subst A
              exact⟨by simp,fun o F=>by cases F⟩
          · rw[List.map_append,List.nodup_append]
            refine⟨h.nd,by simp,fun a E b C=>?_⟩;simp only[List.map_cons,List.map_nil,List.mem_singleton]at C;subst C;rintro rfl;exact hn.elim (fun h=>h E) (fun h=>h rfl)
theorem wf_burnp {k:Nat} {f:SFs} {i:Nat} {g:SNd→SNd} {p:List SCh} (h:fWf k f) (hg:∀z,(g z).id=z.id) (hs:∀z∈f.nodes,(g z).fl.b.length≤32768∧(g z).fl.safe.length≤32768) (hp:∀c∈p,c∈f.pend∨cIn f.nodes c) (hpl:p.length≤k+1):fWf (k+1) {(burnF f).2 with nodes:=updN f.nodes i g,pend:=p}:=by
  have A:=burn_same f;have:=wf_upd (i:=i) (g:=g) (p:=p) (wf_burn' h) hg (by rw[A.1];exact hs) (by rw[A.1,A.2.1];exact hp) hpl;rw[A.1]at this;exact this
theorem wf_write {k:Nat} {f m:SFs} {s:Ly} {p:Int} {b:Ly} {j r:Nat} (h:fWf k f) (e:writeR f s p b j=(r,m)):fWf (k+1) m:=by
  unfold writeR at e
  split at e
  · cases e;exact h.up (Nat.le_succ _)
  · split at e
    · cases e;exact h.up (Nat.le_succ _)
    · rename_i x hx
      have E:=(findN_mem hx).1
      split at e
      · cases e;exact h.up (Nat.le_succ _)
      · split at e
        · cases e;exact h.up (Nat.le_succ _)
        · split at e
          · exact(wf_burn h e).up (Nat.le_succ _)
          · cases e
            have A:=wr_len (f:=x.fl) (p:=p) (x:=b) (e:=(wrF x.fl p b).1) (y:=(wrF x.fl p b).2) rfl;have D:=h.fl x E;have B:=burn_same f;have:=wf_burnp (i:=x.id) (g:=fun z=>{z with no:={z.no with fid:=j},fl:=(wrF x.fl p b).2}) (p:=f.pend) h (fun _=>rfl) (fun z F=>⟨by have:=A.1;show(wrF x.fl p b).2.b.length≤_;omega,by show(wrF x.fl p b).2.safe.length≤_;rw[A.2];exact D.2⟩) (fun c C=>.inl C) (Nat.le_succ_of_le h.p);rw[← B.2.1]at this;exact this
theorem wf_sync {k:Nat} {f m:SFs} {s:Ly} {r:Nat} (h:fWf k f) (e:syncR f s=(r,m)):fWf (k+1) m:=by
  unfold syncR at e
  split at e
  · cases e;exact h.up (Nat.le_succ _)
  · split at e
    · cases e;exact h.up (Nat.le_succ _)
    · rename_i x hx
      have D:=(findN_mem hx).1
      split at e
      · exact(wf_burn h e).up (Nat.le_succ _)
      · cases e
        have A:=h.fl x D;have B:=burn_same f;have:=wf_burnp (i:=x.id) (g:=fun z=>{z with fl:={b:=x.fl.b,safe:=x.fl.b}}) (p:=f.pend) h (fun _=>rfl) (fun z E=>⟨A.1,A.1⟩) (fun c C=>.inl C) (Nat.le_succ_of_le h.p);rw[← B.2.1]at this;exact this
theorem wf_drop {k:Nat} {f m:SFs} {s:Ly} {r:Nat} (h:fWf k f) (e:dropR f s=(r,m)):fWf (k+1) m:=by
  unfold dropR at e
  split at e
  · cases e;exact h.up (Nat.le_succ _)
  · split at e
    · cases e;exact h.up (Nat.le_succ _)
    · rename_i x hx
      have B:=(findN_mem hx).1
      split at e
      · exact(wf_burn h e).up (Nat.le_succ _)
      · cases e
        refine wf_burnp (i:=x.id) h (fun _=>rfl) (fun z D=>h.fl z D) (fun c A=>?_) (by simp;exact h.p);rcases List.mem_append.1 A with A|A
        · exact .inl A
        · rw[List.mem_singleton]at A;subst A
          exact .inr ⟨List.mem_map.2 ⟨x,B,rfl⟩,fun o C=>by cases C⟩
theorem wf_ren {k:Nat} {f m:SFs} {s t:Ly} {r:Nat} (h:fWf k f) (e:renameR f s t=(r,m)):fWf (k+1) m:=by
  unfold renameR at e
  split at e
  · cases e;exact h.up (Nat.le_succ _)
  · split at e
    · cases e;exact h.up (Nat.le_succ _)
    · rename_i x hx
      have J:=(findN_mem hx).1
      split at e
      · exact(wf_burn h e).up (Nat.le_succ _)
      · split at e
        · cases e;exact(wf_burn' h).up (Nat.le_succ _)
        · cases e
          have E:=burn_same f
          have A:∀c∈f.pend ++ [(⟨1,x.id,s,(findN f.nodes t).map (·.id)⟩:SCh)],c∈f.pend∨cIn f.nodes c:=by
            intro c A;rcases List.mem_append.1 A with A|A
            · exact .inl A
            · rw[List.mem_singleton]at A;subst A
              refine .inr ⟨List.mem_map.2 ⟨x,J,rfl⟩,fun o K=>?_⟩;obtain⟨y,L,rfl⟩:=Option.map_eq_some_iff.1 K;exact List.mem_map.2 ⟨y,(findN_mem L).1,rfl⟩
          cases C:findN f.nodes t with
          | none =>
            rw[C]at A;exact wf_burnp (i:=x.id) h (fun _=>rfl) (fun z D=>h.fl z D) A (by simp;exact h.p)
          | some y =>
            rw[C]at A;have I:=wf_upd (k:=k) (f:=f) (i:=y.id) (g:=fun z=>{z with no:={z.no with there:=false}}) (p:=f.pend) h (fun _=>rfl) (fun z D=>h.fl z D) (fun c A=>.inl A) (Nat.le_succ_of_le h.p);have G:=updN_ids (l:=f.nodes) (i:=y.id) (g:=fun z=>{z with no:={z.no with there:=false}}) fun _=>rfl;have B:=updN_ids (l:=updN f.nodes y.id fun z=>{z with no:={z.no with there:=false}}) (i:=x.id) (g:=fun z=>{z with no:={z.no with nm:=t}}) fun _=>rfl;refine⟨?_,by simp;exact h.p,fun z D=>?_,fun c F=>?_,by show 0≤(burnF f).2.room;rw[E.2.2];exact h.room,?_⟩
            · have H:=congrArg List.length (B.trans G);simp only[List.length_map]at H;exact lv (Nat.le_of_eq H) (Nat.le_succ_of_le h.n)
            · rcases mem_updN D with⟨q,C,_,rfl⟩|⟨C,_⟩
              · exact I.fl q C
              · exact I.fl z C
            · have:cIn f.nodes c:=(A c F).elim (h.ch c) id
              exact this.of fun b E=>by show b∈(updN (updN _ _ _) _ _).map _;rw[B,G];exact E
            · show((updN (updN _ _ _) _ _).map _).Nodup;rw[B,G];exact h.nd
/-- The blocks of a directory. -/
def fBl (b:Nat) (v0 v1:Value) (l:List SNd):List Nat:=b :: (vblock v0).toList ++ ((vblock v1).toList ++ ndB l)
/-- A directory in memory, in the blocks of fp alone. -/
def FsO (k:Nat) (fp:List Nat) (w:World) (Q:Nat→Prop) (b:Nat) (f:SFs):Prop :=
  ∃v0 v1,fp=fBl b v0 v1 f.nodes∧Blk w b (SFs.cells f v0 v1) 97∧¬Q b∧SFs.ok f∧Ow tNd 143 (fun _=>True) w Q v0 f.nodes∧Ow tSCh 153 (fun _=>True) w Q v1 f.pend∧Nds 148 203 (fun _=>True) w Q f.nodes∧fWf k f
section
variable {k:Nat} {fp S:List Nat} {w w':World} {Q Q':Nat→Prop} {b:Nat} {f:SFs}
theorem FsO.wf (h:FsO k fp w Q b f):fWf k f:=by obtain⟨_,_,_,_,_,_,_,_,_,h⟩:=h;exact h
theorem FsO.up {k':Nat} (h:FsO k fp w Q b f) (hk:k≤k'):FsO k' fp w Q b f:=by obtain⟨I,J,A,B,C,D,E,F,G,H⟩:=h;exact⟨I,J,A,B,C,D,E,F,G,H.up hk⟩
theorem FsO.lt (h:FsO k fp w Q b f):∀x∈fp,x<w.heap.size∧¬Q x:=by
  obtain⟨I,J,rfl,E,F,G,B,C,D,H⟩:=h;intro x A;unfold fBl at A;simp only[List.mem_append,List.mem_cons,Option.mem_toList]at A;rcases A with(rfl|A)|A|A
  · exact⟨E.lt,F⟩
  · exact⟨B.lt x A,(B.2 x A).2⟩
  · exact⟨C.lt x A,(C.2 x A).2⟩
  · exact⟨D.ltB x A,D.nQB x A⟩
theorem FsO.md (h:FsO k fp w Q b f) (m:Md S w w') (ha:∀x∈fp,x∉S) (hs:∀b∈S,¬Q b):FsO k fp w' Q b f:=by
  obtain⟨I,J,rfl,C,D,E,F,G,B,H⟩:=h;refine⟨I,J,rfl,C.md m (ha _ (by simp[fBl])),D,E,F.md m (fun x A=>ha _ (by simp[fBl,A])) hs,G.md m (fun x A=>ha _ (by simp[fBl,A])) hs,B.md m (B.apB fun x A=>ha _ (by simp[fBl,A])) hs,H⟩
theorem FsO.md0 (h:FsO k fp w Q b f) (m:Md [] w w'):FsO k fp w' Q b f:=h.md m (fun _ _=>List.not_mem_nil) (fun _ hb=>absurd hb List.not_mem_nil)
theorem FsO.sub (h:FsO k fp w Q b f) (s:∀b,Q b→b<w.heap.size→Q' b) (t:∀b,Q' b→Q b):FsO k fp w Q' b f:=by
  obtain⟨J,K,A,B,C,D,E,F,G,H⟩:=h;exact⟨J,K,A,B,fun I=>C (t _ I),D,E.sub s t,F.sub s t,G.sub s t,H⟩
theorem FsO.subF {v:Value} (h:FsO k fp w Q b f) (fQ:∀b,Q b→Q' b) (fT:∀b,Q' b→Q b∨vblock v=some b) (ap:∀x,vblock v=some x→x∉fp):FsO k fp w Q' b f:=by
  obtain⟨L,M,rfl,D,E,F,G,H,C,I⟩:=h;refine⟨L,M,rfl,D,fun J=>(fT _ J).elim E (fun K=>ap _ K (by simp[fBl])),F,G.subF fQ fT (fun x B A=>ap x (by simpa using A) (by simp[fBl,B])),H.subF fQ fT (fun x B A=>ap x (by simpa using A) (by simp[fBl,B])),C.subF fQ fT (C.apB fun x B A=>ap x (by simpa using A) (by simp[fBl,B])),I⟩
theorem fBl_in {b:Nat} {v0 v1:Value} {l:List SNd} {S:List Nat} {w:World} (hb:b∈S) (h0:∀x,vblock v0=some x→Fsh S w x) (h1:∀x,vblock v1=some x→Fsh S w x) (h2:∀x∈ndB l,Fsh S w x):∀x∈fBl b v0 v1 l,x∈S∨w.heap.size≤x:=by
  intro x A;unfold fBl at A;simp only[List.mem_append,List.mem_cons,Option.mem_toList]at A;rcases A with(rfl|A)|A|A
  · exact .inl hb
  · exact h0 x A
  · exact h1 x A
  · exact h2 x A
theorem FsO.back {v0 v1:Value} {m:SFs} (g0:Blk w' b (SFs.cells m v0 v1) 97) (gn:¬Q' b) (gk:SFs.ok m) (o1:Ow tNd 143 (Fsh S w) w' Q' v0 m.nodes) (o2:Ow tSCh 153 (Fsh S w) w' Q' v1 m.pend) (hN:Nds 148 203 (Fsh S w) w' Q' m.nodes) (hb:b∈S) (wf:fWf k m) :
    FsO k (fBl b v0 v1 m.nodes) w' Q' b m∧∀x∈fBl b v0 v1 m.nodes,x∈S∨w.heap.size≤x :=
  ⟨⟨v0,v1,rfl,g0,gn,gk,o1.reP fun _ _=>trivial,o2.reP fun _ _=>trivial,hN.reP fun _ _=>trivial,wf⟩,fBl_in hb (fun x hx=>(o1.2 x hx).1) (fun x hx=>(o2.2 x hx).1) hN.loB⟩
end


/-- What a call leaves that changes a directory. -/
def FsPost (k:Nat) (fp:List Nat) (w:World) (Q:Nat→Prop) (b:Nat) (w':World) (G:SFs→Prop):Prop :=
  ∃m fp' Q',Md fp w w'∧NewQ w w' Q Q'∧(∀x∈fp',x∈fp∨w.heap.size≤x)∧FsO k fp' w' Q' b m∧G m
section
variable {k:Nat} {fp:List Nat} {w:World} {Q:Nat→Prop} {b:Nat} {f:SFs}
theorem fBl_mem (b:Nat) (v0 v1:Value) (l:List SNd):b∈fBl b v0 v1 l:=by simp[fBl]
theorem FsO.tot (h:fWf k f) (hk:k≤100000):(totF f.nodes).2≤1000000000000∧f.nodes.length≤1000000∧f.pend.length≤1000000∧(∀x∈f.nodes,x.fl.b.length≤1000000)∧(∀x∈f.nodes,x.fl.safe.length≤1000000)∧(∀x∈f.nodes,x.fl.b.length≤1000000∧x.fl.safe.length≤1000000):=by
  have B:=tot_le h.fl h.n;have C:k*32768≤100000*32768:=Nat.mul_le_mul_right _ hk;have D:=h.n;have E:=h.p;exact⟨by omega,by omega,by omega,fun x A=>by have:=(h.fl x A).1;omega,fun x A=>by have:=(h.fl x A).2;omega,fun x A=>by have:=h.fl x A;omega⟩
theorem make_new {m:SFs} {s:Ly} {i j r:Nat} (e:makeR f s i j=(r,m)) (hn:(m.nodes.map (·.id)).Nodup):i∉f.nodes.map (·.id)∨r≠0:=by
  unfold makeR at e
  split at e
  · cases e;exact .inr (by decide)
  · split at e
    · rename_i h _;cases e;exact .inr h
    · split at e
      · cases e;exact .inr (by decide)
      · split at e
        · rename_i h;rw[e]at h;exact .inr h
        · cases e
          refine .inl fun A=>?_;rw[List.map_append,List.nodup_append]at hn;exact hn.2.2 i A i (by simp) rfl
theorem oMake (uQ:Up w Q) (hF:FsO k fp w Q b f) (s:Ly) (p0:s.length≤1000000) (hk:k≤100000) :
    Calls Tryz.prog 30 #[.pointer (some ⟨b,0,none⟩),str s] w fun en w'=>∃r:Nat,en = .returned (.int .i64 r)∧r<9223372036854775808∧FsPost (k+1) fp w Q b w' fun m=>∃i j,makeR f s i j=(r,m):=by
  obtain⟨W,X,rfl,J,O,S,P,R,K,E⟩:=hF;obtain⟨T,U,V,Y,Z,a⟩:=FsO.tot E hk;refine(fMake_any uQ f J O S P R K s p0 T U V).mono ?_;rintro en w' ⟨r,m,c,d,F,rfl,L,M,N,G,I,H,A,B,D,C⟩;have:=FsO.back (k:=k+1) G I H A B D (fBl_mem b W X f.nodes) (wf_make E (make_new C D.ids) C);exact⟨r,rfl,N,m,_,F,L,M,this.2,this.1,_,_,C⟩
theorem oWrite (uQ:Up w Q) (hF:FsO k fp w Q b f) (s:Ly) (p:Int) (a2:-9223372036854775808≤p∧p<9223372036854775808) {v3:Value} {x:Ly} (h3:Ls tB8 w Q v3 x) (p0:s.length≤1000000) (hk:k≤100000) :
    Calls Tryz.prog 34 #[.pointer (some ⟨b,0,none⟩),str s,.int .i64 (p:Int),v3] w fun en w'=>∃r:Nat,en = .returned (.int .i64 r)∧r<9223372036854775808∧FsPost (k+1) fp w Q b w' fun m=>∃j,writeR f s p x j=(r,m):=by
  obtain⟨Y,Z,rfl,J,O,S,P,R,K,D⟩:=hF;obtain⟨T,U,V,W,X,a⟩:=FsO.tot D hk;refine(fWrite_any uQ f J O S P R K s p a2 h3 p0 T U V W X).mono ?_;rintro en w' ⟨r,m,c,d,E,rfl,L,M,N,F,I,H,A,B,G,j,C⟩;have:=FsO.back (k:=k+1) F I H A B G (fBl_mem b Y Z f.nodes) (wf_write D C);exact⟨r,rfl,N,m,_,E,L,M,this.2,this.1,_,C⟩
theorem oSync (uQ:Up w Q) (hF:FsO k fp w Q b f) (s:Ly) (p0:s.length≤1000000) (hk:k≤100000) :
    Calls Tryz.prog 52 #[.pointer (some ⟨b,0,none⟩),str s] w fun en w'=>∃r:Nat,en = .returned (.int .i64 r)∧r<9223372036854775808∧FsPost (k+1) fp w Q b w' fun m=>syncR f s=(r,m):=by
  obtain⟨W,X,rfl,J,O,S,P,R,K,D⟩:=hF;obtain⟨Y,T,U,V,Z,a⟩:=FsO.tot D hk;refine(fSync_any uQ f J O S P R K s p0 trivial T U V).mono ?_;rintro en w' ⟨r,m,c,d,E,rfl,L,M,N,F,I,H,A,B,G,C⟩;have:=FsO.back (k:=k+1) F I H A B G (fBl_mem b W X f.nodes) (wf_sync D C);exact⟨r,rfl,N,m,_,E,L,M,this.2,this.1,C⟩
theorem oDrop (uQ:Up w Q) (hF:FsO k fp w Q b f) (s:Ly) (p0:s.length≤1000000) (hk:k≤100000) :
    Calls Tryz.prog 33 #[.pointer (some ⟨b,0,none⟩),str s] w fun en w'=>∃r:Nat,en = .returned (.int .i64 r)∧r<9223372036854775808∧FsPost (k+1) fp w Q b w' fun m=>dropR f s=(r,m):=by
  obtain⟨W,X,rfl,J,O,S,P,R,K,D⟩:=hF;obtain⟨Y,T,U,V,Z,a⟩:=FsO.tot D hk;refine(fDrop_any uQ f J O S P R K s p0 trivial T U V).mono ?_;rintro en w' ⟨r,m,c,d,E,rfl,L,M,N,F,I,H,A,B,G,C⟩;have:=FsO.back (k:=k+1) F I H A B G (fBl_mem b W X f.nodes) (wf_drop D C);exact⟨r,rfl,N,m,_,E,L,M,this.2,this.1,C⟩
theorem oRename (uQ:Up w Q) (hF:FsO k fp w Q b f) (s t:Ly) (p0:s.length≤1000000) (p1:t.length≤1000000) (hk:k≤100000) :
    Calls Tryz.prog 45 #[.pointer (some ⟨b,0,none⟩),str s,str t] w fun en w'=>∃r:Nat,en = .returned (.int .i64 r)∧r<9223372036854775808∧FsPost (k+1) fp w Q b w' fun m=>renameR f s t=(r,m):=by
  obtain⟨V,W,rfl,J,O,S,P,R,K,D⟩:=hF;obtain⟨X,T,U,Y,Z,a⟩:=FsO.tot D hk;refine(fRename_any uQ f J O S P R K s t p0 p1 T U).mono ?_;rintro en w' ⟨r,m,c,d,E,rfl,L,M,N,F,I,H,A,B,G,C⟩;have:=FsO.back (k:=k+1) F I H A B G (fBl_mem b V W f.nodes) (wf_ren D C);exact⟨r,rfl,N,m,_,E,L,M,this.2,this.1,C⟩
theorem oAll (uQ:Up w Q) (hF:FsO k fp w Q b f) (s:Ly) (p0:s.length≤1000000) (hk:k≤100000) :
    Calls Tryz.prog 22 #[.pointer (some ⟨b,0,none⟩),str s] w fun en w'=>∃u0:Value,∃r0:List UInt8,∃r1:Nat,en = .returned (.tuple #[u0,(.int .i64 r1)])∧Md [] w w'∧Ls tB8 w' Q u0 r0∧r1<9223372036854775808∧allF f.off f.nodes s=(r0,r1):=by
  obtain⟨H,I,rfl,A,C,F,D,E,B,G⟩:=hF;exact fAll_any uQ f A C F D E s B p0 (FsO.tot G hk).2.2.2.1
theorem oLen (uQ:Up w Q) (hF:FsO k fp w Q b f) (s:Ly) (p0:s.length≤1000000) :
    Calls Tryz.prog 32 #[.pointer (some ⟨b,0,none⟩),str s] w fun en w'=>∃r0:Nat,∃r1:Nat,en = .returned (.tuple #[(.int .i64 r0),(.int .i64 r1)])∧Md [] w w'∧r0<9223372036854775808∧r1<9223372036854775808∧lenF f.off f.nodes s=(r0,r1):=by
  obtain⟨G,H,rfl,A,C,F,D,E,B,I⟩:=hF;exact fLen_any uQ f A C F D E s B p0
theorem oFree (uQ:Up w Q) (hF:FsO k fp w Q b f) (hk:k≤100000) :
    Calls Tryz.prog 44 #[.pointer (some ⟨b,0,none⟩)] w fun en w'=>∃r0:Int,en = .returned (.int .i64 (r0:Int))∧Md [] w w'∧(-9223372036854775808≤r0∧r0<9223372036854775808)∧freeF f=r0:=by
  obtain⟨H,I,rfl,B,D,G,E,F,C,A⟩:=hF;exact fFree_any uQ f B D G E F C (FsO.tot A hk).1 A.room
theorem oOff (uQ:Up w Q) (hF:FsO k fp w Q b f) :
    Calls Tryz.prog 51 #[.pointer (some ⟨b,0,none⟩)] w fun en w'=>∃r0:Bool,en = .returned (.bool r0)∧Md [] w w'∧f.off=r0:=by
  obtain⟨G,H,rfl,A,B,E,C,D,F,I⟩:=hF;exact fOff_any uQ f A B E C D
theorem oNew (uQ:Up w Q) (r:Int) (a0:-9223372036854775808≤r∧r<9223372036854775808) (p0:4096≤r) (p1:r≤1048576) :
    Calls Tryz.prog 11 #[.int .i64 (r:Int)] w fun en w'=>∃o fp Q',en = .returned (.tuple #[.pointer (some ⟨o,0,none⟩),(.int .i64 ((0:Nat):Int))])∧Md [] w w'∧NewQ w w' Q Q'∧(∀x∈fp,w.heap.size≤x)∧FsO 0 fp w' Q' o {room:=r,fuse:=-1,off:=false,nodes:=[],pend:=[]}:=by
  refine(fNew_any uQ r a0 p0 p1).mono ?_;rintro en w' ⟨o,D,E,M,N,Q',rfl,K,L,F,I,H,G,B,C,_,J⟩
  cases J
  refine⟨o,fBl o D E [],Q',rfl,K,L,?_,⟨D,E,rfl,F,I,G,B.reP fun _ _=>trivial,C.reP fun _ _=>trivial,Nds.nil _ _ _ _ _,⟨Nat.le_refl _,Nat.le_refl _,fun x A=>absurd A List.not_mem_nil,fun x A=>absurd A List.not_mem_nil,by show 0≤r;omega,List.nodup_nil⟩⟩⟩;intro x A;unfold fBl at A;simp only[List.mem_append,List.mem_cons,Option.mem_toList]at A;rcases A with(rfl|A)|A|A
  · exact H
  · exact(B.2 x A).1.elim (fun h=>absurd h List.not_mem_nil) id
  · exact(C.2 x A).1.elim (fun h=>absurd h List.not_mem_nil) id
  · exact absurd A (by simp[ndB])
end


/-- A directory, and a writer into one of its files. -/
structure WrS where
  fs:SFs
  wr:Wri
/-- Both in memory, in the blocks of fp alone; the writer's own is wb. -/
def WrO (wb k:Nat) (fp:List Nat) (w:World) (Q:Nat→Prop) (b:Nat) (x:WrS):Prop :=
  ∃fq v,fp=wb :: fq∧FsO k fq w Q b x.fs∧wb∉fq∧Blk w wb (x.wr.cells v) 102∧¬Q wb∧x.wr.fs=b∧Wri.ok x.wr∧Pt tDrf 107 w Q v x.wr.d
/-- What a call leaves that changes a writer or its directory. -/
def WrPost (wb k:Nat) (fp:List Nat) (w:World) (Q:Nat→Prop) (b:Nat) (w':World) (G:WrS→Prop):Prop :=
  ∃m fp' Q',Md fp w w'∧NewQ w w' Q Q'∧(∀x∈fp',x∈fp∨w.heap.size≤x)∧WrO wb k fp' w' Q' b m∧G m
section
variable {wb k:Nat} {fp S:List Nat} {w w':World} {Q Q':Nat→Prop} {b:Nat} {x:WrS}
theorem WrO.wf (h:WrO wb k fp w Q b x):fWf k x.fs:=by obtain⟨_,_,_,h,_⟩:=h;exact h.wf
theorem WrO.up {k':Nat} (h:WrO wb k fp w Q b x) (hk:k≤k'):WrO wb k' fp w Q b x:=by
  obtain⟨A,v,B,C,D⟩:=h;exact⟨A,v,B,C.up hk,D⟩
theorem WrO.lt (h:WrO wb k fp w Q b x):∀y∈fp,y<w.heap.size∧¬Q y:=by
  obtain⟨E,v,rfl,B,F,C,D,_⟩:=h;intro y A;rcases List.mem_cons.1 A with rfl|A
  · exact⟨C.lt,D⟩
  · exact B.lt y A
theorem WrO.md (h:WrO wb k fp w Q b x) (m:Md S w w') (ha:∀y∈fp,y∉S) (hs:∀b∈S,¬Q b):WrO wb k fp w' Q b x:=by
  obtain⟨A,v,rfl,B,C,D,E,F,G,H⟩:=h;exact⟨A,v,rfl,B.md m (fun y I=>ha y (by simp[I])) hs,C,D.md m (ha wb (by simp)),E,F,G,H.md m hs⟩
theorem WrO.md0 (h:WrO wb k fp w Q b x) (m:Md [] w w'):WrO wb k fp w' Q b x:=h.md m (fun _ _=>List.not_mem_nil) (fun _ hb=>absurd hb List.not_mem_nil)
theorem WrO.sub (h:WrO wb k fp w Q b x) (s:∀b,Q b→b<w.heap.size→Q' b) (t:∀b,Q' b→Q b):WrO wb k fp w Q' b x:=by
  obtain⟨A,v,rfl,B,C,D,E,F,G,H⟩:=h;exact⟨A,v,rfl,B.sub s t,C,D,fun I=>E (t _ I),F,G,H.sub s⟩
theorem WrO.subF {v:Value} (h:WrO wb k fp w Q b x) (fQ:∀b,Q b→Q' b) (fT:∀b,Q' b→Q b∨vblock v=some b) (ap:∀x,vblock v=some x→x∉fp):WrO wb k fp w Q' b x:=by
  obtain⟨B,u,rfl,C,D,E,F,G,H,I⟩:=h;exact⟨B,u,rfl,C.subF fQ fT (fun y N K=>ap y N (by simp[K])),D,E,fun L=>(fT _ L).elim F (fun M=>ap _ M (by simp)),G,H,I.sub fun b J _=>fQ b J⟩
/-- A call of the directory's leaves the writer as it is. -/
theorem WrO.put {fq:List Nat} {v:Value} {k':Nat} {w':World} {G:SFs→Prop} (h2:FsO k fq w Q b x.fs) (h3:wb∉fq∧Blk w wb (x.wr.cells v) 102∧¬Q wb∧x.wr.fs=b∧Wri.ok x.wr∧Pt tDrf 107 w Q v x.wr.d) (H:FsPost k' fq w Q b w' G):WrPost wb k' (wb :: fq) w Q b w' fun y=>y.wr=x.wr∧G y.fs:=by
  obtain⟨h3,I,L,M,N,O⟩:=h3;obtain⟨m,C,K,F,D,J,R,P⟩:=H;have S:∀b∈fq,¬Q b:=fun y B=>(h2.lt y B).2;have T:=I.lt;refine⟨⟨m,x.wr⟩,wb :: C,K,F.mono fun y B _=>by simp[B],D,fun y B=>?_,⟨C,v,rfl,R,?_,I.md F h3,fun A=>L (D.2.1 _ A),M,N,(O.sub D.1).md F fun b E A=>S b E (D.2.1 b A)⟩,rfl,P⟩
  · rcases List.mem_cons.1 B with rfl|B
    · exact .inl (by simp)
    · exact(J y B).imp (fun h=>by simp[h]) id
  · intro E;exact(J wb E).elim h3 (fun h=>by omega)
end
section
variable {wb k:Nat} {fp:List Nat} {w:World} {Q:Nat→Prop} {b:Nat} {x:WrS}
theorem xMake (uQ:Up w Q) (hW:WrO wb k fp w Q b x) (s:Ly) (p0:s.length≤1000000) (hk:k≤100000) :
    Calls Tryz.prog 30 #[.pointer (some ⟨b,0,none⟩),str s] w fun en w'=>∃r:Nat,en = .returned (.int .i64 r)∧r<9223372036854775808∧WrPost wb (k+1) fp w Q b w' fun m=>m.wr=x.wr∧(∃i j,makeR x.fs s i j=(r,m.fs)):=by
  obtain⟨E,v,rfl,A,B⟩:=hW;refine(oMake uQ A s p0 hk).mono ?_;rintro en w' ⟨r,rfl,D,C⟩;exact⟨r,rfl,D,WrO.put A B C⟩
theorem xWrite (uQ:Up w Q) (hW:WrO wb k fp w Q b x) (s:Ly) (p:Int) (a2:-9223372036854775808≤p∧p<9223372036854775808) {v3:Value} {y:Ly} (h9:Ls tB8 w Q v3 y) (p0:s.length≤1000000) (hk:k≤100000) :
    Calls Tryz.prog 34 #[.pointer (some ⟨b,0,none⟩),str s,.int .i64 (p:Int),v3] w fun en w'=>∃r:Nat,en = .returned (.int .i64 r)∧r<9223372036854775808∧WrPost wb (k+1) fp w Q b w' fun m=>m.wr=x.wr∧(∃j,writeR x.fs s p y j=(r,m.fs)):=by
  obtain⟨E,v,rfl,A,B⟩:=hW;refine(oWrite uQ A s p a2 h9 p0 hk).mono ?_;rintro en w' ⟨r,rfl,D,C⟩;exact⟨r,rfl,D,WrO.put A B C⟩
theorem xDrop (uQ:Up w Q) (hW:WrO wb k fp w Q b x) (s:Ly) (p0:s.length≤1000000) (hk:k≤100000) :
    Calls Tryz.prog 33 #[.pointer (some ⟨b,0,none⟩),str s] w fun en w'=>∃r:Nat,en = .returned (.int .i64 r)∧r<9223372036854775808∧WrPost wb (k+1) fp w Q b w' fun m=>m.wr=x.wr∧(dropR x.fs s=(r,m.fs)):=by
  obtain⟨E,v,rfl,A,B⟩:=hW;refine(oDrop uQ A s p0 hk).mono ?_;rintro en w' ⟨r,rfl,D,C⟩;exact⟨r,rfl,D,WrO.put A B C⟩
theorem xRename (uQ:Up w Q) (hW:WrO wb k fp w Q b x) (s t:Ly) (p0:s.length≤1000000) (p1:t.length≤1000000) (hk:k≤100000) :
    Calls Tryz.prog 45 #[.pointer (some ⟨b,0,none⟩),str s,str t] w fun en w'=>∃r:Nat,en = .returned (.int .i64 r)∧r<9223372036854775808∧WrPost wb (k+1) fp w Q b w' fun m=>m.wr=x.wr∧(renameR x.fs s t=(r,m.fs)):=by
  obtain⟨E,v,rfl,A,B⟩:=hW;refine(oRename uQ A s t p0 p1 hk).mono ?_;rintro en w' ⟨r,rfl,D,C⟩;exact⟨r,rfl,D,WrO.put A B C⟩
theorem xAll (uQ:Up w Q) (hW:WrO wb k fp w Q b x) (s:Ly) (p0:s.length≤1000000) (hk:k≤100000) :
    Calls Tryz.prog 22 #[.pointer (some ⟨b,0,none⟩),str s] w fun en w'=>∃u0:Value,∃r0:List UInt8,∃r1:Nat,en = .returned (.tuple #[u0,(.int .i64 r1)])∧Md [] w w'∧Ls tB8 w' Q u0 r0∧r1<9223372036854775808∧allF x.fs.off x.fs.nodes s=(r0,r1):=by
  obtain⟨B,v,rfl,A,C⟩:=hW;exact oAll uQ A s p0 hk
theorem xLen (uQ:Up w Q) (hW:WrO wb k fp w Q b x) (s:Ly) (p0:s.length≤1000000) :
    Calls Tryz.prog 32 #[.pointer (some ⟨b,0,none⟩),str s] w fun en w'=>∃r0:Nat,∃r1:Nat,en = .returned (.tuple #[(.int .i64 r0),(.int .i64 r1)])∧Md [] w w'∧r0<9223372036854775808∧r1<9223372036854775808∧lenF x.fs.off x.fs.nodes s=(r0,r1):=by
  obtain⟨B,v,rfl,A,C⟩:=hW;exact oLen uQ A s p0
theorem xFree (uQ:Up w Q) (hW:WrO wb k fp w Q b x) (hk:k≤100000) :
    Calls Tryz.prog 44 #[.pointer (some ⟨b,0,none⟩)] w fun en w'=>∃r0:Int,en = .returned (.int .i64 (r0:Int))∧Md [] w w'∧(-9223372036854775808≤r0∧r0<9223372036854775808)∧freeF x.fs=r0:=by
  obtain⟨B,v,rfl,A,C⟩:=hW;exact oFree uQ A hk
end

theorem fn32:isFn Tryz.prog 32=true:=by kernel_rfl
theorem fn34:isFn Tryz.prog 34=true:=by kernel_rfl
theorem fn44:isFn Tryz.prog 44=true:=by kernel_rfl
theorem fn52:isFn Tryz.prog 52=true:=by kernel_rfl
theorem off102_0:fieldOff Tryz.prog 102 0=some 0:=by kernel_rfl
theorem off102_1:fieldOff Tryz.prog 102 1=some 1:=by kernel_rfl
theorem off102_5:fieldOff Tryz.prog 102 5=some 5:=by kernel_rfl
theorem one35:isOne Tryz.prog 35=true:=by kernel_rfl

def stepW (p:Nat × SFs) (g:SFs→Nat × SFs):Nat × SFs:=if p.1≠0 then p else g p.2
theorem stepW_0 {p:Nat × SFs} {g:SFs→Nat × SFs} {f:SFs} (h:p=(0,f)):stepW p g=g f:=by subst h;rfl
theorem stepW_c {p:Nat × SFs} {g:SFs→Nat × SFs} {c:Nat} {f:SFs} (h:p=(c,f)) (hc:c≠0):stepW p g=(c,f):=by subst h;exact if_pos hc
/-- One part written and made safe. -/
def partW (f:SFs) (s:Ly) (p:Nat) (x:Ly) (i:Nat):Nat × SFs:=stepW (writeR f s (p:Nat) x i) fun m=>syncR m s
def saveW (f:SFs) (s:Ly) (x:Ly) (i j:Nat):Nat × SFs :=
  stepW (partW f s (min 512 x.length) (x.drop (min 512 x.length)) i) fun m=>partW m s 0 (x.take (min 512 x.length)) j
def saveR (a:Bool) (f:SFs) (s:Ly) (x:Ly) (i j:Nat):Nat × SFs :=
  if a=true then(8,f)else if(lenF f.off f.nodes s).2≠0 then((lenF f.off f.nodes s).2,f)else if freeF f<(x.length:Int)-((lenF f.off f.nodes s).1:Nat)then(15,f)else saveW f s x i j
/-- How far it is, ahead of part i. -/
def SavI (f0:SFs) (s:Ly) (x:Ly) (i:Nat) (f:SFs):Prop :=
  (i=0→f=f0)∧(i=1→∃j,partW f0 s (min 512 x.length) (x.drop (min 512 x.length)) j=(0,f))∧(2≤i→∃j q,saveW f0 s x j q=(0,f))
theorem two_get {α:Type} {a b p:α} {i:Nat} (h:[a,b][i]? = some p):(i=0∧p=a)∨(i=1∧p=b):=by
  match i,h with
  | 0,h=>exact .inl ⟨rfl,by simpa using h.symm⟩
  | 1,h=>exact .inr ⟨rfl,by simpa using h.symm⟩
  | i+2,h=>simp at h
theorem SavI.next {f0 f1 ff:SFs} {s x part:Ly} {i p j c:Nat} (h:SavI f0 s x i f1) (hp:(i=0∧p=min 512 x.length∧part=x.drop (min 512 x.length))∨(i=1∧p=0∧part=x.take (min 512 x.length))) (hw:partW f1 s p part j=(c,ff)) :
    (c=0→SavI f0 s x (i+1) ff)∧(c≠0→∃j q,saveW f0 s x j q=(c,ff)):=by
  obtain⟨C,D,F⟩:=h;rcases hp with⟨rfl,rfl,rfl⟩|⟨rfl,rfl,rfl⟩
  · have e:=C rfl
    subst e;exact⟨fun A=>by subst A;exact⟨fun h=>by omega,fun _=>⟨j,hw⟩,fun h=>by omega⟩,fun A=>⟨j,0,stepW_c hw A⟩⟩
  · obtain⟨q,E⟩:=D rfl
    have B:saveW f0 s x q j=(c,ff):=(stepW_0 E).trans hw;exact⟨fun A=>by subst A;exact⟨fun h=>by omega,fun h=>by omega,fun _=>⟨q,j,B⟩⟩,fun A=>⟨q,j,B⟩⟩
set_option maxHeartbeats 4000000 in
theorem wSave_any {w:World} {Q:Nat→Prop} (uQ:Up w Q) {b0:Nat} {v0_0:Value} {fp:List Nat} {k:Nat} {f:SFs} (m:Wri) (FO1:FsO k fp w Q m.fs f) (h0:Blk w b0 (m.cells v0_0) 102) (n0:¬Q b0) (nf:b0∉fp) (a0_0:m.ok) (a0_1:Pt tDrf 107 w Q v0_0 m.d) {v1:Value} {x:Ly} (h1:Ls tB8 w Q v1 x) (p0:k≤90000) (p1:m.name.length≤1000000) (p2:1≤x.length∧x.length≤1000000) :
    Calls Tryz.prog 68 #[.pointer (some ⟨b0,0,none⟩),v1] w fun en w'=>∃r:Nat,∃f':SFs,∃fp':List Nat,∃Q':Nat→Prop,∃m':Wri,en = .returned (.int .i64 r)∧r<9223372036854775808∧Md (b0 :: fp) w w'∧NewQ w w' Q Q'∧(∀y∈fp',y∈b0 :: fp∨w.heap.size≤y)∧FsO (k+4) fp' w' Q' m.fs f'∧Blk w' b0 (m'.cells v0_0) 102∧¬Q' b0∧b0∉fp'∧m'.ok∧Pt tDrf 107 w' Q' v0_0 m'.d∧m'={m with waiting:=if r=0 then 0 else m.waiting}∧∃i j,saveR m.archived f m.name x i j=(r,f'):=by
  have L1:=h1.len63;have A:=nf;have C:∀x∈fp,Fsh (b0 :: fp) w x:=fun x hx=>.inl (by simp[hx]);have F:=n0;have B3:Fsh (b0 :: fp) w b0:=.inl (by simp);have M:=Md.refl (b0 :: fp) w;have Ct:=uQ;have g:∀b,Q b→Q b:=fun _ h=>h;have I:∀b,Q b→b<w.heap.size→Q b:=fun _ h _=>h;refine enter (n:=90) Tryz.func68 rfl rfl rfl ?_;intro B;refine ns (asg rfl (nt (c_seq (ns (mv rfl (sn rfl (sf rfl off102_5 (sl (u:=(.bool m.archived)) rfl one4 h0 rfl (nt ?_)))))))));refine c_if rfl (fun A7=>?_) (fun A7=>?_)
  · (have P:=A7);refine ns (asg rfl (nt (c_ret (r_then ?_))));exact ret1L (v:=.int .i64 ((8:Nat):Int)) trivial rfl ⟨rfl,tV⟩ ⟨8,f,_,_,m,rfl,(by omega),M,⟨I,g,uQ⟩,C,FO1.up (by omega),h0,F,A,a0_0,a0_1,(by rw[if_neg (by omega)]),⟨0,0,by unfold saveR;rw[if_pos P]⟩⟩
  · (have P:=A7);refine c_skip (c_then (c_seq ?_));have H:=h0;refine c_mixT [(0,true),(1,true),(2,true),(3,true),(4,true),(5,true),(6,true),(7,true),(8,false),(9,true),(10,true),(11,true),(12,true)] [13] (fun w'=>Md [] w w') mixed (by kernel_rfl) ?_;intro w1 D;refine⟨D.mono (by simp),?_⟩;have MC:=D.mono (T:=[]) (by simp);refine mo rfl (mz (fun w' J=>r_nil rfl) (mz (fun w' J=>r_field rfl off102_0) (mz (fun w' J=>(r_loadBlk rfl one35 (H.md0 J) rfl).to (b:=(.pointer (some ⟨m.fs,0,none⟩))) rfl) (mo rfl (mz (fun w' J=>r_nil rfl) (mz (fun w' J=>r_field rfl off102_1) (mz (fun w' J=>(r_loadBlk rfl one9 (H.md0 J) rfl).to (b:=(str m.name)) rfl) ?_)))))));replace a0_1:=a0_1.md0 D;replace h0:=h0.md0 D;replace h1:=h1.md0 D;replace FO1:=FO1.md0 D;replace uQ:=uQ.md D;replace M:=M.step0 D;refine m_e ?_ rfl;refine st_call fn32 rfl (oLen uQ FO1 m.name (by omega)) ?_;rintro en w2 ⟨A4,Aw,rfl,G,Cl,Cm,Af⟩;refine⟨_,rfl,?_⟩;replace a0_1:=a0_1.md0 G;replace h0:=h0.md0 G;replace h1:=h1.md0 G;replace FO1:=FO1.md0 G;replace uQ:=uQ.md G;replace M:=M.step0 G;replace MC:=MC.step0 G;refine st_nil ⟨rfl,MC,?_⟩;refine mo rfl (mz (fun w' J=>r_extract rfl rfl) (mz (fun w' J=>r_extract rfl rfl) (mz (fun w' J=>r_assign rfl) (m_nil ?_))));clear H;clear MC;refine asg rfl (nt (c_seq (c_block (ns (mv rfl (st _ (r_neN (a:=Aw) (b:=0) rfl rfl) (asg rfl (nt ?_))))))));refine c_if rfl (fun A8=>?_) (fun A8=>?_)
    · (have Bq:=dq A8);refine ns (mv rfl (asg rfl (nt (c_ret (r_block (r_then ?_))))));exact ret1L (v:=.int .i64 Aw) trivial rfl ⟨rfl,tV⟩ ⟨Aw,f,_,_,m,rfl,(by omega),M,⟨I,g,uQ⟩,C,FO1.up (by omega),h0,F,A,a0_0,a0_1,(by rw[if_neg (by omega)]),⟨0,0,by unfold saveR;rw[if_neg (by simp[P]),Af];simp only;rw[if_pos (by omega)]⟩⟩
    · (have Bq:=dF A8);refine ns (mv rfl (sn rfl (sf rfl off102_0 (sl (u:=(.pointer (some ⟨m.fs,0,none⟩))) rfl one35 h0 rfl (st_call fn44 rfl (oFree uQ FO1 (by omega)) ?_)))));rintro en w3 ⟨B4,rfl,G,Co,Aj⟩;refine⟨_,rfl,?_⟩;replace a0_1:=a0_1.md0 G;replace h0:=h0.md0 G;replace h1:=h1.md0 G;replace FO1:=FO1.md0 G;replace uQ:=uQ.md G;replace M:=M.step0 G;refine mv rfl (sL rfl u45 h1.shp (mv rfl (st _ (r_subI (a:=((x.length:Nat):Int)) (b:=((A4:Nat):Int)) rfl rfl (by omega)) (st _ (r_lt (a:=B4) (b:=((x.length:Nat):Int)-((A4:Nat):Int)) rfl rfl) (asg rfl (nt ?_))))));refine c_if rfl (fun A9=>?_) (fun A9=>?_)
      · (have Br:=dq A9);refine ns (asg rfl (nt (c_ret (r_block (r_then ?_)))));exact ret1L (v:=.int .i64 ((15:Nat):Int)) trivial rfl ⟨rfl,tV⟩ ⟨15,f,_,_,m,rfl,(by omega),M,⟨I,g,uQ⟩,C,FO1.up (by omega),h0,F,A,a0_0,a0_1,(by rw[if_neg (by omega)]),⟨0,0,by unfold saveR;rw[if_neg (by simp[P]),Af];simp only;rw[if_neg (by omega),Aj,if_pos (by omega)]⟩⟩
      · (have Br:=dF A9);refine c_skip (n_block (c_then (ns (mv rfl (sL rfl u45 h1.shp (st _ (r_minN (a:=512) (b:=x.length) rfl rfl) (asg rfl (nt (c_seq (ns (mv rfl (st_buildSliceG [[(.int .i64 ((min 512 x.length:Nat):Int))],[(.int .i64 ((0:Nat):Int))]] u22 elT3 (by decide) (by decide) rfl rfl ⟨rfl,rfl,tV⟩ ⟨rfl,rfl,tV⟩ rfl (by decide) ?_))))))))))));intro Am w4 Bp Ck G E;have B8:=uQ _ Bp;replace a0_1:=a0_1.md0 G;replace h0:=h0.md0 G;replace h1:=h1.md0 G;replace FO1:=FO1.md0 G;replace uQ:=uQ.md G;replace M:=M.step0 G;replace E:=Ls.of_blk (m:=2) (R:=Q) (T:=tNat) (xs:=[min 512 x.length,0]) E ⟨_,_,rfl,⟨rfl,(by omega)⟩,⟨_,_,rfl,⟨rfl,(by omega)⟩,rfl⟩⟩ rfl (by decide) B8;refine sL rfl u22 E.shp (mv rfl (nt (c_block ?_)));refine loop3 (fun(Y:List Nat) (f1:SFs) (i:Nat)=>[(49,(.int .i64 i)),(0,(.pointer (some ⟨b0,0,none⟩))),(1,v1),(7,(.int .i64 ((min 512 x.length:Nat):Int))),(47,(.slice (some ⟨Am,0,none⟩) 2 2)),(48,(.int .i64 ((([min 512 x.length,0]).length:Nat):Int)))]) (fun(Y:List Nat) (f1:SFs) (i:Nat) w'=>∃Q':Nat→Prop,(∀b,Q' b→Q b)∧(∀b,Q b→b<w.heap.size→Q' b)∧Up w' Q'∧Md (b0 :: fp) w w'∧FsO (k+2*i) Y w' Q' m.fs f1∧(∀x∈Y,Fsh (b0 :: fp) w x)∧Blk w' b0 (Wri.cells m v0_0) 102∧Ls tB8 w' Q' v1 x∧Ls tNat w' Q' (.slice (some ⟨Am,0,none⟩) 2 2) ([min 512 x.length,0])∧Pt tDrf 107 w' Q' v0_0 m.d∧¬Q' b0∧b0∉Y∧SavI f m.name x i f1∧i≤2) (fun(Y:List Nat) (f1:SFs) (i:Nat)=>2-i) (x0:=fp) (x1:=f) (x2:=0) ?_ ?_ ?_
        · exact⟨rfl,rfl,rfl,rfl,rfl,rfl,tV⟩
        · exact⟨Q,g,I,uQ,M,(FO1.up (by omega)),C,h0,h1,E,a0_1,F,A,⟨fun _=>rfl,fun h=>by omega,fun h=>by omega⟩,(by omega)⟩
        · clear M uQ g I F a0_1 h0 h1 FO1 E C
          rintro Y f1 i B w5 ⟨Q6,g,I,uQ,M,FO1,C,h0,h1,E,a0_1,F,A,Ac,Cj⟩;refine ns (st _ (r_ltN (a:=i) (b:=(([min 512 x.length,0]).length)) rfl rfl) (nt (c_seq ?_)));refine c_if rfl (fun Ba=>?_) (fun Ba=>?_)
          · (have Bs:=dq Ba);refine c_skip (c_then (c_seq (c_block (ns (st _ (r_indexN (i:=i) 1 rfl rfl u22 el3 E.shp (by omega)) ?_)))));obtain⟨x7,Bz⟩:=getE (l:=[min 512 x.length,0]) (i:=i) (by omega);obtain⟨c8,Cb,Ay⟩:=E.get Bz;obtain⟨rfl,Ci⟩:=Cb;replace Ay:At _ (.slice (some ⟨Am,0,none⟩) 2 2) (i*1) [(.int .i64 x7)]:=Ay;refine st _ ((r_loadE (kk:=i*1) 0 rfl rfl one3 Ay rfl).to (b:=(.int .i64 x7)) rfl) (asg rfl (st_nil ?_));clear Ay;refine c_then (ns ?_);have xi:=two_get Bz;refine mv rfl (mv rfl (st _ (r_sliceZ 1 x7 x.length u45 el5 rfl h1.shp (by omega) (by omega) ⟨_,rfl⟩ rfl) ?_));have L:=h1.tail (lo:=x7) (by omega);refine asg rfl (nt (c_seq (ns (mv rfl (st _ (r_eqN (a:=x7) (b:=0) rfl rfl) (nt ?_))))));refine c_if rfl (fun Bb=>?_) (fun Bb=>?_)
            · (have Bt:=dq Bb)
              have xp:(i=0∧x7=min 512 x.length∧x.take (min 512 x.length)=x.drop (min 512 x.length))∨(i=1∧x7=0∧x.take (min 512 x.length)=x.take (min 512 x.length)):=by
                rcases xi with⟨e1,e2⟩|⟨e1,e2⟩
                · exfalso;omega
                · exact .inr ⟨e1,e2,rfl⟩
              refine c_region (mv rfl (mv rfl (st _ (r_sliceZ 1 0 (min 512 x.length) u45 el5 rfl h1.shp (by omega) (by omega) rfl ⟨_,rfl⟩) ?_)));have U:=h1.head (hi:=min 512 x.length) (by omega);refine asg rfl (nt (c_seq ?_));have H:=h0;refine c_mixT (ml 10) [10,11] (fun w'=>Md [] w5 w') mixed (by kernel_rfl) ?_;intro Cu D;refine⟨D.mono (by simp),?_⟩;have MC:=D.mono (T:=[]) (by simp);refine mo rfl (mz (fun w' J=>r_nil rfl) (mz (fun w' J=>r_field rfl off102_0) (mz (fun w' J=>(r_loadBlk rfl one35 (H.md0 J) rfl).to (b:=(.pointer (some ⟨m.fs,0,none⟩))) rfl) (mo rfl (mz (fun w' J=>r_nil rfl) (mz (fun w' J=>r_field rfl off102_1) (mz (fun w' J=>(r_loadBlk rfl one9 (H.md0 J) rfl).to (b:=(str m.name)) rfl) (mo rfl (mo rfl (m_nil ?_))))))))));replace FO1:=FO1.md0 D;replace h0:=h0.md0 D;replace h1:=h1.md0 D;replace E:=E.md0 D;replace a0_1:=a0_1.md0 D;replace L:=L.md0 D;replace U:=U.md0 D;replace uQ:=uQ.md D;replace M:=M.step0 D;clear H;clear MC;refine st_call fn34 rfl (oWrite uQ FO1 m.name (((x7:Nat):Int)) (by omega) U (by omega) (by omega)) ?_;rintro en Cg ⟨W,rfl,Cc,Be,Ah,Bk,G,⟨V,p,o⟩,O,K,Bu⟩;refine⟨_,rfl,?_⟩;have S:∀b∈Y,¬Bk b:=fun b Z hq=>(FO1.lt b Z).2 (p b hq);have e:b0∉Ah:=fun h=>(O _ h).elim A (fun h=>by have:=h0.lt;omega);replace F:=fun hh=>F (p _ hh);replace h0:=h0.md G A;replace A:=e;clear e;replace h1:=(h1.sub V).md G S;replace E:=(E.sub V).md G S;replace a0_1:=(a0_1.sub V).md G S;replace L:=(L.sub V).md G S;replace U:=(U.sub V).md G S;have r9:∀x∈Ah,Fsh (b0 :: fp) w x:=fun x hx=>(O x hx).elim (C x) (Fsh.new M x)
              replace g:=fun b Z=>g b (p b Z);replace I:=fun b Z hl=>V b (I b Z hl) (ly hl M.size);replace M:=M.step G C;clear uQ C FO1;have uQ:=o;have C:=r9;have FO1:=K;have Ag:=G;clear o r9 K V p S O G;clear Ag;replace FO1:FsO ((k+2*i)+1) _ _ _ _ _:=FO1;obtain⟨jw,As⟩:=Bu;refine asg rfl (nt (c_seq (ns (mv rfl (st _ (r_eqN (a:=W) (b:=0) rfl rfl) (nt ?_))))));refine c_if rfl (fun Ae=>?_) (fun Ae=>?_)
              · (have Aq:=dq Ae);have H:=h0;refine c_mixT (ml 8) [8,9] (fun w'=>Md [] Cg w') mixed (by kernel_rfl) ?_;intro Cv D;refine⟨D.mono (by simp),?_⟩;have MC:=D.mono (T:=[]) (by simp);refine mo rfl (mz (fun w' J=>r_nil rfl) (mz (fun w' J=>r_field rfl off102_0) (mz (fun w' J=>(r_loadBlk rfl one35 (H.md0 J) rfl).to (b:=(.pointer (some ⟨m.fs,0,none⟩))) rfl) (mo rfl (mz (fun w' J=>r_nil rfl) (mz (fun w' J=>r_field rfl off102_1) (mz (fun w' J=>(r_loadBlk rfl one9 (H.md0 J) rfl).to (b:=(str m.name)) rfl) (m_nil ?_))))))));replace FO1:=FO1.md0 D;replace h0:=h0.md0 D;replace h1:=h1.md0 D;replace E:=E.md0 D;replace a0_1:=a0_1.md0 D;replace L:=L.md0 D;replace U:=U.md0 D;replace uQ:=uQ.md D;replace M:=M.step0 D;clear H;clear MC;refine st_call fn52 rfl (oSync uQ FO1 m.name (by omega) (by omega)) ?_;rintro en Cw ⟨t,rfl,Cd,Bf,Ao,Bl,G,⟨V,p,o⟩,O,K,Bv⟩;refine⟨_,rfl,?_⟩;have S:∀b∈Ah,¬Bl b:=fun b Z hq=>(FO1.lt b Z).2 (p b hq);have e:b0∉Ao:=fun h=>(O _ h).elim A (fun h=>by have:=h0.lt;omega);replace F:=fun hh=>F (p _ hh);replace h0:=h0.md G A;replace A:=e;clear e;replace h1:=(h1.sub V).md G S;replace E:=(E.sub V).md G S;replace a0_1:=(a0_1.sub V).md G S;replace L:=(L.sub V).md G S;replace U:=(U.sub V).md G S;have r9:∀x∈Ao,Fsh (b0 :: fp) w x:=fun x hx=>(O x hx).elim (C x) (Fsh.new M x);replace g:=fun b Z=>g b (p b Z);replace I:=fun b Z hl=>V b (I b Z hl) (ly hl M.size);replace M:=M.step G C;clear uQ C FO1;have uQ:=o;have C:=r9;have FO1:=K;have Ag:=G;clear o r9 K V p S O G;clear Ag
                replace FO1:FsO ((k+2*i)+2) _ _ _ _ _:=FO1;refine asg rfl (nt (ns ?_));have PW:partW f1 m.name x7 (x.take (min 512 x.length)) jw=(t,Bf):=(by unfold partW;rw[stepW_0 (As.trans (by rw[show W=0 by omega]))];exact Bv);have PX:=SavI.next Ac xp PW;refine mv rfl (st _ (r_neN (a:=t) (b:=0) rfl rfl) (nt ?_));refine c_if rfl (fun N=>?_) (fun N=>?_)
                · (have c:=dq N);have Ad:=PX.2 (by omega);refine ns (mv rfl (asg rfl (nt (c_ret (r_block (r_then (r_then (r_block (r_then ?_)))))))));exact ret1L (v:=.int .i64 t) trivial rfl ⟨rfl,tV⟩ ⟨t,Bf,_,_,m,rfl,(by omega),M,⟨I,g,uQ⟩,C,FO1.up (by omega),h0,F,A,a0_0,a0_1,(by rw[if_neg (by omega)]),(by obtain⟨sj,sq,sk⟩:=Ad;exact⟨sj,sq,by unfold saveR;rw[if_neg (by simp[P]),Af];simp only;rw[if_neg (by omega),Aj,if_neg (by omega)];exact sk⟩)⟩
                · (have c:=dF N);refine c_skip (n_block (c_then (c_region (st _ (r_addN (a:=i) (b:=1) 9223372036854775808 rfl rfl rfl (by omega)) (mv rfl (nt ?_))))));refine next3 (x0:=Ao) (x1:=Bf) (x2:=(i+1)) (by omega) ⟨(fitI rfl (by omega)),rfl,rfl,rfl,rfl,rfl,tV⟩ ⟨Bl,g,I,uQ,M,(FO1.up (by omega)),C,h0,h1,E,a0_1,F,A,(PX.1 (by omega)),(by omega)⟩
              · (have Aq:=dF Ae);refine c_skip (c_then (ns ?_));have PW:partW f1 m.name x7 (x.take (min 512 x.length)) jw=(W,Be):=(by unfold partW;exact stepW_c As (by omega));have PX:=SavI.next Ac xp PW;refine mv rfl (st _ (r_neN (a:=W) (b:=0) rfl rfl) (nt ?_));refine c_if rfl (fun N=>?_) (fun N=>?_)
                · (have c:=dq N);have Ad:=PX.2 (by omega);refine ns (mv rfl (asg rfl (nt (c_ret (r_block (r_then (r_then (r_block (r_then ?_)))))))));exact ret1L (v:=.int .i64 W) trivial rfl ⟨rfl,tV⟩ ⟨W,Be,_,_,m,rfl,(by omega),M,⟨I,g,uQ⟩,C,FO1.up (by omega),h0,F,A,a0_0,a0_1,(by rw[if_neg (by omega)]),(by obtain⟨sj,sq,sk⟩:=Ad;exact⟨sj,sq,by unfold saveR;rw[if_neg (by simp[P]),Af];simp only;rw[if_neg (by omega),Aj,if_neg (by omega)];exact sk⟩)⟩
                · (have c:=dF N);refine c_skip (n_block (c_then (c_region (st _ (r_addN (a:=i) (b:=1) 9223372036854775808 rfl rfl rfl (by omega)) (mv rfl (nt ?_))))));refine next3 (x0:=Ah) (x1:=Be) (x2:=(i+1)) (by omega) ⟨(fitI rfl (by omega)),rfl,rfl,rfl,rfl,rfl,tV⟩ ⟨Bk,g,I,uQ,M,(FO1.up (by omega)),C,h0,h1,E,a0_1,F,A,(PX.1 (by omega)),(by omega)⟩
            · (have Bt:=dF Bb)
              have xp:(i=0∧x7=min 512 x.length∧x.drop x7=x.drop (min 512 x.length))∨(i=1∧x7=0∧x.drop x7=x.take (min 512 x.length)):=by
                rcases xi with⟨e1,e2⟩|⟨e1,e2⟩
                · exact .inl ⟨e1,e2,by rw[e2]⟩
                · exfalso;omega
              refine c_skip (c_then (c_seq ?_));have H:=h0;refine c_mixT (ml 10) [10,11] (fun w'=>Md [] w5 w') mixed (by kernel_rfl) ?_;intro Cx D;refine⟨D.mono (by simp),?_⟩;have MC:=D.mono (T:=[]) (by simp);refine mo rfl (mz (fun w' J=>r_nil rfl) (mz (fun w' J=>r_field rfl off102_0) (mz (fun w' J=>(r_loadBlk rfl one35 (H.md0 J) rfl).to (b:=(.pointer (some ⟨m.fs,0,none⟩))) rfl) (mo rfl (mz (fun w' J=>r_nil rfl) (mz (fun w' J=>r_field rfl off102_1) (mz (fun w' J=>(r_loadBlk rfl one9 (H.md0 J) rfl).to (b:=(str m.name)) rfl) (mo rfl (mo rfl (m_nil ?_))))))))));replace FO1:=FO1.md0 D;replace h0:=h0.md0 D;replace h1:=h1.md0 D;replace E:=E.md0 D;replace a0_1:=a0_1.md0 D;replace L:=L.md0 D;replace uQ:=uQ.md D;replace M:=M.step0 D;clear H;clear MC;refine st_call fn34 rfl (oWrite uQ FO1 m.name (((x7:Nat):Int)) (by omega) L (by omega) (by omega)) ?_;rintro en Ch ⟨X,rfl,Ce,Bg,Ai,Bm,G,⟨V,p,o⟩,O,K,Bw⟩;refine⟨_,rfl,?_⟩;have S:∀b∈Y,¬Bm b:=fun b Z hq=>(FO1.lt b Z).2 (p b hq);have e:b0∉Ai:=fun h=>(O _ h).elim A (fun h=>by have:=h0.lt;omega);replace F:=fun hh=>F (p _ hh);replace h0:=h0.md G A;replace A:=e;clear e;replace h1:=(h1.sub V).md G S;replace E:=(E.sub V).md G S;replace a0_1:=(a0_1.sub V).md G S;replace L:=(L.sub V).md G S;have r9:∀x∈Ai,Fsh (b0 :: fp) w x:=fun x hx=>(O x hx).elim (C x) (Fsh.new M x);replace g:=fun b Z=>g b (p b Z);replace I:=fun b Z hl=>V b (I b Z hl) (ly hl M.size);replace M:=M.step G C;clear uQ C FO1;have uQ:=o;have C:=r9;have FO1:=K;have Ag:=G;clear o r9 K V p S O G;clear Ag;replace FO1:FsO ((k+2*i)+1) _ _ _ _ _:=FO1
              obtain⟨jw,As⟩:=Bw;refine asg rfl (nt (c_seq (ns (mv rfl (st _ (r_eqN (a:=X) (b:=0) rfl rfl) (nt ?_))))));refine c_if rfl (fun Ae=>?_) (fun Ae=>?_)
              · (have Aq:=dq Ae);have H:=h0;refine c_mixT (ml 8) [8,9] (fun w'=>Md [] Ch w') mixed (by kernel_rfl) ?_;intro Cy D;refine⟨D.mono (by simp),?_⟩;have MC:=D.mono (T:=[]) (by simp);refine mo rfl (mz (fun w' J=>r_nil rfl) (mz (fun w' J=>r_field rfl off102_0) (mz (fun w' J=>(r_loadBlk rfl one35 (H.md0 J) rfl).to (b:=(.pointer (some ⟨m.fs,0,none⟩))) rfl) (mo rfl (mz (fun w' J=>r_nil rfl) (mz (fun w' J=>r_field rfl off102_1) (mz (fun w' J=>(r_loadBlk rfl one9 (H.md0 J) rfl).to (b:=(str m.name)) rfl) (m_nil ?_))))))));replace FO1:=FO1.md0 D;replace h0:=h0.md0 D;replace h1:=h1.md0 D;replace E:=E.md0 D;replace a0_1:=a0_1.md0 D;replace L:=L.md0 D;replace uQ:=uQ.md D;replace M:=M.step0 D;clear H;clear MC;refine st_call fn52 rfl (oSync uQ FO1 m.name (by omega) (by omega)) ?_;rintro en Cz ⟨z,rfl,Cf,Bh,Ap,Bn,G,⟨V,p,o⟩,O,K,Bx⟩;refine⟨_,rfl,?_⟩;have S:∀b∈Ai,¬Bn b:=fun b Z hq=>(FO1.lt b Z).2 (p b hq);have e:b0∉Ap:=fun h=>(O _ h).elim A (fun h=>by have:=h0.lt;omega);replace F:=fun hh=>F (p _ hh);replace h0:=h0.md G A;replace A:=e;clear e;replace h1:=(h1.sub V).md G S;replace E:=(E.sub V).md G S;replace a0_1:=(a0_1.sub V).md G S;replace L:=(L.sub V).md G S;have r9:∀x∈Ap,Fsh (b0 :: fp) w x:=fun x hx=>(O x hx).elim (C x) (Fsh.new M x);replace g:=fun b Z=>g b (p b Z);replace I:=fun b Z hl=>V b (I b Z hl) (ly hl M.size);replace M:=M.step G C;clear uQ C FO1;have uQ:=o;have C:=r9;have FO1:=K;have Ag:=G;clear o r9 K V p S O G;clear Ag;replace FO1:FsO ((k+2*i)+2) _ _ _ _ _:=FO1;refine asg rfl (st_nil ?_)
                refine c_then (ns ?_);have PW:partW f1 m.name x7 (x.drop x7) jw=(z,Bh):=(by unfold partW;rw[stepW_0 (As.trans (by rw[show X=0 by omega]))];exact Bx);have PX:=SavI.next Ac xp PW;refine mv rfl (st _ (r_neN (a:=z) (b:=0) rfl rfl) (nt ?_));refine c_if rfl (fun N=>?_) (fun N=>?_)
                · (have c:=dq N);have Ad:=PX.2 (by omega);refine ns (mv rfl (asg rfl (nt (c_ret (r_block (r_then (r_then (r_block (r_then ?_)))))))));exact ret1L (v:=.int .i64 z) trivial rfl ⟨rfl,tV⟩ ⟨z,Bh,_,_,m,rfl,(by omega),M,⟨I,g,uQ⟩,C,FO1.up (by omega),h0,F,A,a0_0,a0_1,(by rw[if_neg (by omega)]),(by obtain⟨sj,sq,sk⟩:=Ad;exact⟨sj,sq,by unfold saveR;rw[if_neg (by simp[P]),Af];simp only;rw[if_neg (by omega),Aj,if_neg (by omega)];exact sk⟩)⟩
                · (have c:=dF N);refine c_skip (n_block (c_then (c_region (st _ (r_addN (a:=i) (b:=1) 9223372036854775808 rfl rfl rfl (by omega)) (mv rfl (nt ?_))))));refine next3 (x0:=Ap) (x1:=Bh) (x2:=(i+1)) (by omega) ⟨(fitI rfl (by omega)),rfl,rfl,rfl,rfl,rfl,tV⟩ ⟨Bn,g,I,uQ,M,(FO1.up (by omega)),C,h0,h1,E,a0_1,F,A,(PX.1 (by omega)),(by omega)⟩
              · (have Aq:=dF Ae);refine c_skip (c_then (ns ?_));have PW:partW f1 m.name x7 (x.drop x7) jw=(X,Bg):=(by unfold partW;exact stepW_c As (by omega));have PX:=SavI.next Ac xp PW;refine mv rfl (st _ (r_neN (a:=X) (b:=0) rfl rfl) (nt ?_));refine c_if rfl (fun N=>?_) (fun N=>?_)
                · (have c:=dq N);have Ad:=PX.2 (by omega);refine ns (mv rfl (asg rfl (nt (c_ret (r_block (r_then (r_then (r_block (r_then ?_)))))))));exact ret1L (v:=.int .i64 X) trivial rfl ⟨rfl,tV⟩ ⟨X,Bg,_,_,m,rfl,(by omega),M,⟨I,g,uQ⟩,C,FO1.up (by omega),h0,F,A,a0_0,a0_1,(by rw[if_neg (by omega)]),(by obtain⟨sj,sq,sk⟩:=Ad;exact⟨sj,sq,by unfold saveR;rw[if_neg (by simp[P]),Af];simp only;rw[if_neg (by omega),Aj,if_neg (by omega)];exact sk⟩)⟩
                · (have c:=dF N);refine c_skip (n_block (c_then (c_region (st _ (r_addN (a:=i) (b:=1) 9223372036854775808 rfl rfl rfl (by omega)) (mv rfl (nt ?_))))));refine next3 (x0:=Ai) (x1:=Bg) (x2:=(i+1)) (by omega) ⟨(fitI rfl (by omega)),rfl,rfl,rfl,rfl,rfl,tV⟩ ⟨Bm,g,I,uQ,M,(FO1.up (by omega)),C,h0,h1,E,a0_1,F,A,(PX.1 (by omega)),(by omega)⟩
          · (have Bs:=dF Ba);refine c_exit (x_then (x_then (x_hit (c_then (c_seq ?_)))));have l2:([min 512 x.length,0]:List Nat).length=2:=rfl;refine c_region (mv rfl (sn rfl (sf rfl off102_4 (st_store rfl rfl one3 rfl h0 (lq rfl) ?_))));have Ca:=h0;clear h0;intro C0 G h0;have S:∀b∈[b0],¬Q6 b:=(by intro b Z;simp at Z;subst Z;exact F);replace FO1:=FO1.md G (fun x hx=>by rw[List.mem_singleton];rintro rfl;exact A hx) S;replace a0_1:=a0_1.md G S;replace uQ:=uQ.md G;replace M:=M.step G (all_cons B3 all_nil);clear Ca S;obtain⟨Az,Ab⟩:∃y,y=({m with waiting:=0}:Wri):=⟨_,rfl⟩;replace h0:Blk _ _ (Wri.cells ({m with waiting:=0}) v0_0) _:=h0;rw[← Ab]at h0;have Bi:Wri.ok Az:=(by rw[Ab];exact⟨a0_0.1,(by(simp<;>omega))⟩);have Cr:Az.most=m.most:=(by rw[Ab]);rw[show m.d=Az.d by rw[Ab]]at a0_1;refine nt (ns (asg rfl (nt (c_ret ?_))));exact ret1L (v:=.int .i64 ((0:Nat):Int)) trivial rfl ⟨rfl,tV⟩ ⟨0,f1,_,_,Az,rfl,(by omega),M,⟨I,g,uQ⟩,C,FO1.up (by omega),h0,F,A,Bi,a0_1,(by rw[Ab];rfl),(by obtain⟨sj,sq,sk⟩:=Ac.2.2 (by omega);exact⟨sj,sq,by unfold saveR;rw[if_neg (by simp[P]),Af];simp only;rw[if_neg (by omega),Aj,if_neg (by omega)];exact sk⟩)⟩
theorem fn68:isFn Tryz.prog 68=true:=by kernel_rfl

theorem wCommit_any {w:World} {Q:Nat→Prop} (uQ:Up w Q) {b0:Nat} {v0_0:Value} {fp:List Nat} {k:Nat} {f:SFs} (m:Wri) (FO1:FsO k fp w Q m.fs f) (h0:Blk w b0 (m.cells v0_0) 102) (n0:¬Q b0) (nf:b0∉fp) (a0_0:m.ok) (a0_1:Pt tDrf 107 w Q v0_0 m.d) (p0:k≤90000) (p1:m.name.length≤1000000) (p2:1≤m.d.b.length∧m.d.b.length≤1000000) :
    Calls Tryz.prog 20 #[.pointer (some ⟨b0,0,none⟩)] w fun en w'=>∃r:Nat,∃f':SFs,∃fp':List Nat,∃Q':Nat→Prop,∃m':Wri,en = .returned (.int .i64 r)∧r<9223372036854775808∧Md (b0 :: fp) w w'∧NewQ w w' Q Q'∧(∀y∈fp',y∈b0 :: fp∨w.heap.size≤y)∧FsO (k+4) fp' w' Q' m.fs f'∧Blk w' b0 (m'.cells v0_0) 102∧¬Q' b0∧b0∉fp'∧m'.ok∧Pt tDrf 107 w' Q' v0_0 m'.d∧m'={m with waiting:=if r=0 then 0 else m.waiting}∧∃i j,saveR m.archived f m.name m.d.b i j=(r,f'):=by
  have A:=nf;have C:∀x∈fp,Fsh (b0 :: fp) w x:=fun x O=>.inl (by simp[O]);have D:=n0;have S:Fsh (b0 :: fp) w b0:=.inl (by simp);have M:=Md.refl (b0 :: fp) w;have Ai:=uQ;have o:∀b,Q b→Q b:=fun _ h=>h;have I:∀b,Q b→b<w.heap.size→Q b:=fun _ h _=>h;refine enter (n:=12) Tryz.func20 rfl rfl rfl ?_;intro B;refine ns (asg rfl (nt (ns (mv rfl (mv rfl (sn rfl (sf rfl off102_3 (sl (u:=v0_0) rfl one99 h0 rfl ?_))))))));have H:=a0_1;obtain⟨t,z,rfl,Z,H,U⟩:=H;obtain⟨v2,rfl,q3,G⟩:=tDrf_un U;refine sn rfl (sf rfl off107_0 (sl (u:=v2) rfl one45 H rfl (st_call fn68 rfl (wSave_any uQ m FO1 h0 D A a0_0 a0_1 G (by omega) (by omega) (by omega)) ?_)));rintro en w5 ⟨F,f5,W,Q6,m5,rfl,Ae,Y,⟨g,l,V⟩,N,p,L,P,R,a,T,J,X⟩;refine⟨_,rfl,?_⟩;have K:∀b∈(b0 :: fp),¬Q b:=fun b E=>(List.mem_cons.1 E).elim (fun e=>e ▸ D) (fun E=>(FO1.lt b E).2);have hS:∀b∈(b0 :: fp),¬Q6 b:=fun b E hq=>K b E (l b hq);have c:∀x∈(b0 :: fp),Fsh (b0 :: fp) w x:=fun x O=>(List.mem_cons.1 O).elim (fun e=>e ▸ S) (C x);replace G:=(G.sub g).md Y hS;replace o:=fun b E=>o b (l b E);replace I:=fun b E hl=>g b (I b E hl) (ly hl M.size);have r8:∀x∈W,Fsh (b0 :: fp) w x:=fun x O=>(N x O).elim (c x) (Fsh.new M x);replace M:=M.step Y c;clear uQ C FO1 hS K c N Y h0 D A g l;have uQ:=V;have C:=r8;have FO1:=p;have h0:=L;have D:=P;have A:=R;clear V r8 p L P R;have Aa:m5.d=m.d:=(by rw[J]);replace a0_1:=T;clear T;refine asg rfl (nt (c_ret ?_));exact ret1L (v:=.int .i64 F) trivial rfl ⟨rfl,tV⟩ ⟨F,_,_,_,m5,rfl,(by omega),M,⟨I,o,uQ⟩,C,FO1.up (by omega),h0,D,A,a,a0_1,J,X⟩
theorem agg41:isAggN Tryz.prog 41 52=true:=by kernel_rfl
theorem fn30:isFn Tryz.prog 30=true:=by kernel_rfl
theorem fn49:isFn Tryz.prog 49=true:=by kernel_rfl
theorem fn50:isFn Tryz.prog 50=true:=by kernel_rfl
theorem fn51:isFn Tryz.prog 51=true:=by kernel_rfl
theorem off41_5:fieldOff Tryz.prog 41 5=some 50:=by kernel_rfl
theorem pl102:bplace Tryz.prog 102=some [(0,1),(1,1),(2,1),(3,1),(4,1),(5,1)]:=by kernel_rfl
theorem z102:zcells Tryz.prog 102=some [.pointer none,.string ByteArray.empty,.int .i64 0,.pointer none,.int .i64 0,.bool false]:=by kernel_rfl

def createR (f:SFs) (s:Ly) (B:Ly) (i j q:Nat):Nat × SFs :=
  if f.off=true then(18,f)else if freeF f<(B.length:Int)then(15,f)else
  stepW (stepW (makeR f s i j) fun m=>writeR m s 0 B q) fun m=>syncR m s
theorem wCreate_any {w:World} {Q:Nat→Prop} (uQ:Up w Q) {b0:Nat} {fp:List Nat} {k:Nat} {f:SFs} (FO1:FsO k fp w Q b0 f) (s:Ly) (c:Cfg) (a2_0:c.ok) (after:Nat) (a3:after<18446744073709551616) (p0:1≤c.dataSlots∧c.dataSlots≤64∧1≤c.fieldSlots∧c.fieldSlots≤64∧4096≤c.most∧c.most≤32768) (p1:s.length≤1000000) (p2:k≤90000) (p3:(blankF c after).b.length≤100000) :
    Calls Tryz.prog 12 #[.pointer (some ⟨b0,0,none⟩),str s,.agg c.cells.toArray,.int .u64 after] w fun en w'=>∃r:Nat,∃f':SFs,∃fp':List Nat,∃Q':Nat→Prop,Md fp w w'∧NewQ w w' Q Q'∧(∀x∈fp',x∈fp∨w.heap.size≤x)∧r<9223372036854775808∧(∃i j q,createR f s (blankF c after).b i j q=(r,f')) ∧
      ((r≠0∧en = .returned (.tuple #[.pointer none,(.int .i64 r)])∧FsO (k+3) fp' w' Q' b0 f')∨(r=0∧∃wb,w.heap.size≤wb∧en = .returned (.tuple #[.pointer (some ⟨wb,0,none⟩),(.int .i64 ((0:Nat):Int))])∧WrO wb (k+3) (wb :: fp') w' Q' b0 ⟨f',{fs:=b0,name:=s,most:=c.most,d:=blankF c after,waiting:=0,archived:=false}⟩)):=by
  have Co:∀x∈fp,x<w.heap.size:=fun x hx=>(FO1.lt x hx).1;have D:∀x∈fp,Fsh fp w x:=fun x hx=>.inl hx;have M:=Md.refl fp w;have Ca:=uQ;have tQ:∀b,Q b→Q b:=fun _ h=>h;have I:∀b,Q b→b<w.heap.size→Q b:=fun _ h _=>h;refine enter (n:=80) Tryz.func12 rfl rfl rfl ?_;intro B;refine ns (st_box (cs:=(Cfg.cells c)) rfl rfl ?_);intro Bs w1 Bh C2 E S;have Cr:=uQ _ Bh;replace Bh:=lv M.size Bh;replace FO1:=FO1.md0 E;replace uQ:=uQ.md E;replace M:=M.step0 E;refine asg rfl (asg rfl (nt (c_seq (ns (sf rfl off41_3 (sl (u:=(.int .i64 c.dataSlots)) rfl one3 S rfl ?_))))));have q2:c.dataSlots<9223372036854775808:=a2_0.2.2.2.1;refine st_call fn49 rfl (wRight_any uQ (((c.dataSlots:Nat):Int)) (by omega)) ?_;rintro en w3 ⟨Cc,rfl,E,Ck⟩;refine⟨_,rfl,?_⟩;replace FO1:=FO1.md0 E;replace S:=S.md0 E;replace uQ:=uQ.md E;replace M:=M.step0 E;have Bm:true=Cc:=(by rw[← Ck];exact(decide_eq_true (by omega)).symm);subst Bm;refine st _ (r_not rfl) (mv rfl (sg rfl (r_field rfl off41_4) (sg rfl ((r_loadBlk rfl one3 S rfl).to (b:=(.int .i64 c.fieldSlots)) rfl) ?_)));have q4:c.fieldSlots<9223372036854775808:=a2_0.2.2.2.2.1;refine st_call_g rfl rfl rfl rfl fn49 rfl (wRight_any uQ (((c.fieldSlots:Nat):Int)) (by omega)) ?_;rintro en w5 ⟨Cd,rfl,E,Cl⟩;refine⟨_,rfl,?_⟩;replace FO1:=FO1.md0 E;replace S:=S.md0 E;replace uQ:=uQ.md E;replace M:=M.step0 E;have Bm:true=Cd:=(by rw[← Cl];exact(decide_eq_true (by omega)).symm);subst Bm;refine sg rfl (r_not rfl) (st _ (r_pick_f rfl rfl rfl) (mv rfl (sg rfl (r_field rfl off41_5) (sg rfl ((r_loadBlk rfl one3 S rfl).to (b:=(.int .i64 c.most)) rfl) ?_))));have q6:c.most<9223372036854775808:=a2_0.2.2.2.2.2;refine sg rfl (r_ltN (a:=c.most) (b:=4096) rfl rfl) (st _ (r_pick_f rfl rfl rfl) (mv rfl ?_));refine part_n (t:=27) rfl (fun Am=>?_) (fun Am=>?_)
  · (have Bv:=dq Am);exfalso;omega
  · (have Bv:=dF Am);refine sg Am (r_field rfl off41_5) (sg Am ((r_loadBlk rfl one3 S rfl).to (b:=(.int .i64 c.most)) rfl) (sg Am (r_gtN (a:=c.most) (b:=32768) rfl rfl) (st _ (r_pick_f rfl Am rfl) (nt ?_))));refine c_if rfl (fun Bi=>?_) (fun Bi=>?_)
    · (have Bw:=dq Bi);exfalso;omega
    · (have Bw:=dF Bi);refine c_skip (c_then (c_seq ?_));have Aq:=S;refine c_mixT [(0,true),(1,true),(2,true),(3,true),(4,true),(5,true),(6,false)] [7,8,9] (fun w'=>Md [] w5 w') mixed (by kernel_rfl) ?_;intro w7 N;refine⟨N.mono (by simp),?_⟩;have MC:=N.mono (T:=[]) (by simp);refine mo rfl (mo rfl (mz (fun w' hc=>r_field rfl off41_5) (mz (fun w' hc=>(r_loadBlk rfl one3 (Aq.md0 hc) rfl).to (b:=(.int .i64 c.most)) rfl) (mz (fun w' hc=>r_loadPart (Cfg.cells c) rfl (by exact agg41) (Aq.md0 hc) rfl) (mo rfl ?_)))));replace FO1:=FO1.md0 N;replace S:=S.md0 N;replace uQ:=uQ.md N;replace M:=M.step0 N;refine m_e ?_ rfl;refine st_call fn50 rfl (dBlank_any uQ c a2_0 after (by omega) (by omega) (by omega)) ?_;rintro en w8 ⟨F,Al,Au,Q9,rfl,E,⟨V,z,U⟩,Bo,B8,Z,A3,A,o⟩;refine⟨_,rfl,?_⟩;have Bd:∀b,vblock Al=some b→b∈[]∨_:=fun b H=>Or.inr (lv MC.size ((A.2 b H).1.elim (fun h=>by simp at h) id));have Bt:=lv MC.size Z;have Y:∀x,vblock Al=some x→x∉fp:=fun x hx Ar=>by have h3:=(FO1.lt x Ar).1;have h4:=(A.2 x hx).1.elim (fun h=>by simp at h) id;omega
      have Be:Bs≠F:=(by have:=S.lt;omega);have R:F∉fp:=fun hx=>by have:=(FO1.lt _ hx).1;omega
      have A4:Fsh [] w F:=Fsh.new M _ Z;replace Z:=lv M.size Z;replace FO1:=FO1.sub V z;replace tQ:=fun b H=>tQ b (z b H);replace I:=fun b H hl=>V b (I b H hl) (ly hl M.size);replace A:=A.lower (Fsh.lift (S':=[]) M);replace FO1:=FO1.md0 E;replace S:=S.md0 E;replace uQ:=uQ.md E;replace M:=M.step0 E;replace MC:=MC.step0 E;replace uQ:=U;clear U V z;refine st_nil ⟨rfl,MC,?_⟩;refine m_nil ?_;clear Aq;clear MC;have R:F∉fp:=fun hx=>by have:=Co _ hx;omega
      obtain⟨A7,fQ,fT,Ad⟩:=A.freeze;replace FO1:=FO1.subF fQ fT Y;replace tQ:=fun b H=>(fT b H).elim (tQ b) (fun hv=>Fsh.up Ca b (A.2 b hv).1);replace I:=fun b H hl=>fQ b (I b H hl);replace uQ:Up w8 A7:=fun b H=>fQ b (uQ b H);clear A fQ fT;have A:=Ad;clear Ad;obtain⟨Br,fQ,fT,fB⟩:∃Q9:Nat→Prop,(∀x,A7 x→Q9 x)∧(∀x,Q9 x→A7 x∨x=F)∧Q9 F:=⟨fun x=>A7 x∨x=F,fun _ h=>.inl h,fun _ h=>h,.inr rfl⟩;replace FO1:=FO1.subF (v:=.slice (some ⟨F,0,none⟩) 0 0) fQ (fun b H=>(fT b H).imp id (fun h=>by rw[h];rfl)) (fun x hx=>by simp[vblock]at hx;subst hx;exact R);replace A:=A.sub (fun b H _=>fQ b H);replace tQ:=fun b H=>(fT b H).elim (tQ b) (fun hv=>Fsh.up Ca b (hv ▸ A4));replace I:=fun b H hl=>fQ b (I b H hl);replace uQ:Up w8 Br:=fun b H=>fQ b (uQ b H);have J:Pt tDrf 107 w8 Br (.pointer (some ⟨F,0,none⟩)) Au:=⟨_,_,rfl,fB,Bo,tDrf_mk A3 A⟩;clear fQ fT fB;refine st _ (r_buildG (us:=[[(.pointer (some ⟨b0,0,none⟩))],[(str s)],[(.int .i64 c.most)],[(.pointer (some ⟨F,0,none⟩))]]) (cs:=(Wri.cells (({fs:=b0,name:=s,most:=c.most,d:=Au,waiting:=0,archived:=false}:Wri)) (.pointer (some ⟨F,0,none⟩)))) [(0,0,1),(1,1,1),(2,2,1),(3,3,1)] z102 pl102 rfl rfl ⟨rfl,rfl,rfl,(cells_one (pt_one J)),tV⟩ ⟨rfl,rfl,rfl,rfl,tV⟩ rfl rfl) (st_box (cs:=(Wri.cells (({fs:=b0,name:=s,most:=c.most,d:=Au,waiting:=0,archived:=false}:Wri)) (.pointer (some ⟨F,0,none⟩)))) rfl rfl ?_);intro e C5 Az B4 E G;have C:e∉fp:=fun hx=>by have:=(FO1.lt _ hx).1;omega
      have Bu:Bs≠e:=(by have:=S.lt;omega);obtain⟨C0,V,z,K,U⟩:=exQ uQ Az B4 E;replace FO1:=FO1.sub V z;replace A:=A.sub V;replace J:=J.sub V;replace tQ:=fun b H=>tQ b (z b H);replace I:=fun b H hl=>V b (I b H hl) (ly hl M.size);replace Az:=lv M.size Az;replace FO1:=FO1.md0 E;replace A:=A.md0 E;replace J:=J.md0 E;replace uQ:=uQ.md E;replace M:=M.step0 E;replace uQ:=U;clear U V z;refine asg rfl (nt (c_seq (c_block (ns (mv rfl (st_call fn51 rfl (oOff uQ FO1) ?_))))));rintro en Cw ⟨Cy,rfl,E,Aa⟩;refine⟨_,rfl,?_⟩;replace FO1:=FO1.md0 E;replace A:=A.md0 E;replace J:=J.md0 E;replace G:=G.md0 E;replace uQ:=uQ.md E;replace M:=M.step0 E;refine asg rfl (nt ?_);refine c_if rfl (fun Bj=>?_) (fun Bj=>?_)
      · (have g:=Bj);refine ns (asg rfl (asg rfl (nt (c_ret (r_block (r_then ?_))))));exact retL (vs:=[.pointer none,(.int .i64 ((18:Nat):Int))]) trivial rfl ⟨rfl,rfl,tV⟩ rfl ⟨18,f,_,_,M,⟨I,tQ,uQ⟩,D,(by omega),⟨0,0,0,by unfold createR;rw[if_pos (by rw[Aa];exact g)]⟩,.inl ⟨(by omega),rfl,FO1.up (by omega)⟩⟩
      · (have g:=Bj);refine c_seq ?_;have As:=G;refine c_mixT [(0,true),(2,true),(3,true),(4,true),(5,true),(6,true),(7,true),(8,true),(9,true),(1,false)] [10,11] (fun w'=>Md [] Cw w') mixed (by kernel_rfl) ?_;intro C6 N;refine⟨N.mono (by simp),?_⟩;have MC:=N.mono (T:=[]) (by simp);refine mo rfl (mo rfl (mz (fun w' hc=>r_nil rfl) (mz (fun w' hc=>r_field rfl off102_3) (mz (fun w' hc=>(r_loadBlk rfl one99 (As.md0 hc) rfl).to (b:=(.pointer (some ⟨F,0,none⟩))) rfl) ?_))));have O:=J;obtain⟨Ci,Cj,Bf,Af,O,Bp⟩:=O
        cases Bf
        obtain⟨Cb,rfl,C3,L⟩:=tDrf_un Bp;refine mz (fun w' hc=>r_nil rfl) (mz (fun w' hc=>r_field rfl off107_0) (mz (fun w' hc=>(r_loadBlk rfl one45 (O.md0 hc) rfl).to (b:=Cb) rfl) (mz (fun w' hc=>r_len rfl u45 L.shp) ?_)));replace FO1:=FO1.md0 N;replace A:=A.md0 N;replace J:=J.md0 N;replace G:=G.md0 N;replace O:=O.md0 N;replace L:=L.md0 N;replace uQ:=uQ.md N;replace M:=M.step0 N;refine m_e ?_ rfl;refine st_call fn44 rfl (oFree uQ FO1 (by omega)) ?_;rintro en C7 ⟨Bq,rfl,E,Cs,Ai⟩;refine⟨_,rfl,?_⟩;replace FO1:=FO1.md0 E;replace A:=A.md0 E;replace J:=J.md0 E;replace G:=G.md0 E;replace O:=O.md0 E;replace L:=L.md0 E;replace uQ:=uQ.md E;replace M:=M.step0 E;replace MC:=MC.step0 E;refine st_nil ⟨rfl,MC,?_⟩;refine m_nil ?_;clear As;clear MC;refine st _ (r_lt (a:=Bq) (b:=(((((({fs:=b0,name:=s,most:=c.most,d:=Au,waiting:=0,archived:=false}:Wri)).d).b).length:Nat):Int)) rfl rfl) (asg rfl (nt ?_));refine c_if rfl (fun Bk=>?_) (fun Bk=>?_)
        · (have Bx:=dq Bk);refine ns (asg rfl (asg rfl (nt (c_ret (r_block (r_then ?_))))));exact retL (vs:=[.pointer none,(.int .i64 ((15:Nat):Int))]) trivial rfl ⟨rfl,rfl,tV⟩ rfl ⟨15,f,_,_,M,⟨I,tQ,uQ⟩,D,(by omega),⟨0,0,0,by unfold createR;rw[if_neg (by rw[Aa];simp[g]),if_pos (by rw[Ai,o];omega)]⟩,.inl ⟨(by omega),rfl,FO1.up (by omega)⟩⟩
        · (have Bx:=dF Bk);refine c_skip (n_block (c_then (ns (mv rfl (mv rfl (st_call fn30 rfl (oMake uQ FO1 s (by omega) (by omega)) ?_))))));rintro en C8 ⟨P,rfl,Ct,Cp,Ax,Cf,E,⟨V,z,U⟩,p,X,Ab⟩;refine⟨_,rfl,?_⟩;have hS:∀b∈fp,¬Cf b:=fun b H hq=>(FO1.lt b H).2 (z b hq);replace A:=(A.sub V).md E hS;replace J:=(J.sub V).md E hS;have Ak:e∉Ax:=fun h=>(p _ h).elim C (fun h=>by have:=G.lt;omega);replace K:=fun hh=>K (z _ hh);replace G:=G.md E C;replace C:=Ak;clear Ak;replace Af:=V _ Af O.lt;replace O:=O.md E (fun h9=>hS _ h9 Af);replace L:=(L.sub V).md E hS;have r9:∀x∈Ax,Fsh fp w x:=fun x hx=>(p x hx).elim (D x) (Fsh.new M x);replace tQ:=fun b H=>tQ b (z b H);replace I:=fun b H hl=>V b (I b H hl) (ly hl M.size);replace M:=M.step E D;clear uQ D FO1;have uQ:=U;have D:=r9;have FO1:=X;have Ar:=E;clear U r9 X V z hS p E;clear Ar;replace FO1:FsO (k+1) _ _ _ _ _:=FO1;obtain⟨A8,A9,Ab⟩:=Ab;refine asg rfl (nt (c_seq (ns (mv rfl (st _ (r_eqN (a:=P) (b:=0) rfl rfl) (nt ?_))))));refine c_if rfl (fun Bl=>?_) (fun Bl=>?_)
          · (have Bz:=dq Bl);refine c_region (mv rfl (mv rfl (mv rfl (sn rfl (sf rfl off102_3 (sl (u:=(.pointer (some ⟨F,0,none⟩))) rfl one99 G rfl (sn rfl (sf rfl off107_0 (sl (u:=Cb) rfl one45 O rfl (st_call fn34 rfl (oWrite uQ FO1 s (0) (by omega) L (by omega) (by omega)) ?_))))))))));rintro en C9 ⟨W,rfl,Cu,Cq,Ay,Cg,E,⟨V,z,U⟩,p,X,Aj⟩;refine⟨_,rfl,?_⟩;have hS:∀b∈Ax,¬Cg b:=fun b H hq=>(FO1.lt b H).2 (z b hq);replace A:=(A.sub V).md E hS;replace J:=(J.sub V).md E hS;have Ak:e∉Ay:=fun h=>(p _ h).elim C (fun h=>by have:=G.lt;omega);replace K:=fun hh=>K (z _ hh);replace G:=G.md E C;replace C:=Ak;clear Ak;replace L:=(L.sub V).md E hS;have r9:∀x∈Ay,Fsh fp w x:=fun x hx=>(p x hx).elim (D x) (Fsh.new M x);replace tQ:=fun b H=>tQ b (z b H);replace I:=fun b H hl=>V b (I b H hl) (ly hl M.size);replace M:=M.step E D;clear uQ D FO1;have uQ:=U;have D:=r9;have FO1:=X;have Ar:=E;clear U r9 X V z hS p E;clear Ar;replace FO1:FsO (k+2) _ _ _ _ _:=FO1;obtain⟨Bn,Aj⟩:=Aj;refine asg rfl (nt (c_seq (ns (mv rfl (st _ (r_eqN (a:=W) (b:=0) rfl rfl) (nt ?_))))));refine c_if rfl (fun Ao=>?_) (fun Ao=>?_)
            · (have A0:=dq Ao);refine c_region (mv rfl (mv rfl (st_call fn52 rfl (oSync uQ FO1 s (by omega) (by omega)) ?_)));rintro en Da ⟨y,rfl,Cv,B6,Ba,Ch,E,⟨V,z,U⟩,p,X,Bb⟩;refine⟨_,rfl,?_⟩;have hS:∀b∈Ay,¬Ch b:=fun b H hq=>(FO1.lt b H).2 (z b hq);replace A:=(A.sub V).md E hS;replace J:=(J.sub V).md E hS;have Ak:e∉Ba:=fun h=>(p _ h).elim C (fun h=>by have:=G.lt;omega);replace K:=fun hh=>K (z _ hh);replace G:=G.md E C;replace C:=Ak;clear Ak;replace L:=(L.sub V).md E hS;have r9:∀x∈Ba,Fsh fp w x:=fun x hx=>(p x hx).elim (D x) (Fsh.new M x);replace tQ:=fun b H=>tQ b (z b H);replace I:=fun b H hl=>V b (I b H hl) (ly hl M.size);replace M:=M.step E D;clear uQ D FO1;have uQ:=U;have D:=r9;have FO1:=X;have Ar:=E;clear U r9 X V z hS p E;clear Ar;replace FO1:FsO (k+3) _ _ _ _ _:=FO1;refine asg rfl (nt (c_seq (ns (mv rfl (st _ (r_neN (a:=y) (b:=0) rfl rfl) (nt ?_))))));refine c_if rfl (fun l=>?_) (fun l=>?_)
              · (have Ah:=dq l);refine ns (mv rfl (asg rfl (asg rfl (nt (c_ret (r_then ?_))))));exact retL (vs:=[.pointer none,(.int .i64 y)]) trivial rfl ⟨rfl,rfl,tV⟩ rfl ⟨y,B6,_,_,M,⟨I,tQ,uQ⟩,D,(by omega),⟨A8,A9,Bn,by unfold createR;rw[if_neg (by rw[Aa];simp[g]),if_neg (by rw[Ai,o];omega),o];exact(stepW_0 (((stepW_0 (Ab.trans (by rw[show P=0 by omega]))).trans Aj).trans (by rw[show W=0 by omega]))).trans Bb⟩,.inl ⟨(by omega),rfl,FO1.up (by omega)⟩⟩
              · (have Ah:=dF l);refine c_skip (c_then (ns (mv rfl (asg rfl (asg rfl (nt (c_ret ?_)))))));have rz:y=0:=(by omega);exact retL (vs:=[.pointer (some ⟨e,0,none⟩),(.int .i64 ((0:Nat):Int))]) trivial rfl ⟨rfl,rfl,tV⟩ rfl ⟨y,B6,_,_,M,⟨I,tQ,uQ⟩,D,(by omega),⟨A8,A9,Bn,by unfold createR;rw[if_neg (by rw[Aa];simp[g]),if_neg (by rw[Ai,o];omega),o];exact(stepW_0 (((stepW_0 (Ab.trans (by rw[show P=0 by omega]))).trans Aj).trans (by rw[show W=0 by omega]))).trans Bb⟩,.inr ⟨rz,e,(by omega),rfl,_,_,rfl,FO1.up (by omega),C,(by rw[o];exact G),K,rfl,⟨by show c.most<_;omega,by show 0<_;omega⟩,(by rw[o];exact J)⟩⟩
            · (have A0:=dF Ao);refine c_skip (c_then (c_seq (ns (mv rfl (st _ (r_neN (a:=W) (b:=0) rfl rfl) (nt ?_))))));refine c_if rfl (fun l=>?_) (fun l=>?_)
              · (have Ah:=dq l);refine ns (mv rfl (asg rfl (asg rfl (nt (c_ret (r_then ?_))))));exact retL (vs:=[.pointer none,(.int .i64 W)]) trivial rfl ⟨rfl,rfl,tV⟩ rfl ⟨W,Cq,_,_,M,⟨I,tQ,uQ⟩,D,(by omega),⟨A8,A9,Bn,by unfold createR;rw[if_neg (by rw[Aa];simp[g]),if_neg (by rw[Ai,o];omega),o];exact stepW_c ((stepW_0 (Ab.trans (by rw[show P=0 by omega]))).trans Aj) (by omega)⟩,.inl ⟨(by omega),rfl,FO1.up (by omega)⟩⟩
              · (have Ah:=dF l);exfalso;omega
          · (have Bz:=dF Bl);refine c_skip (c_then (c_seq (ns (mv rfl (st _ (r_eqN (a:=P) (b:=0) rfl rfl) (nt ?_))))));refine c_if rfl (fun Ao=>?_) (fun Ao=>?_)
            · (have A0:=dq Ao);exfalso;omega
            · (have A0:=dF Ao);refine c_skip (c_then (c_seq (ns (mv rfl (st _ (r_neN (a:=P) (b:=0) rfl rfl) (nt ?_))))));refine c_if rfl (fun l=>?_) (fun l=>?_)
              · (have Ah:=dq l);refine ns (mv rfl (asg rfl (asg rfl (nt (c_ret (r_then ?_))))));exact retL (vs:=[.pointer none,(.int .i64 P)]) trivial rfl ⟨rfl,rfl,tV⟩ rfl ⟨P,Cp,_,_,M,⟨I,tQ,uQ⟩,D,(by omega),⟨A8,A9,0,by unfold createR;rw[if_neg (by rw[Aa];simp[g]),if_neg (by rw[Ai,o];omega),o];exact stepW_c (stepW_c Ab (by omega)) (by omega)⟩,.inl ⟨(by omega),rfl,FO1.up (by omega)⟩⟩
              · (have Ah:=dF l);exfalso;omega
end Go.Proofs.YtfadcpfgenjbeaaGreat
namespace Go.Proofs.YtfadcpfgenjbeaaGreat
open Go Go.Shelf
def sortPr_ren:Go.Shelf.Ren:=⟨fun|6=>102|15=>142|14=>148|28=>193|29=>194|20=>196|21=>197|22=>198|23=>199|24=>200|25=>201|26=>202|27=>203|46=>237|47=>233|48=>234|49=>238|50=>239|57=>249|n=>n,fun|22=>47|24=>91|25=>179|3=>3|39=>72|0=>0|53=>103|55=>23|4=>4|46=>268|45=>267|50=>273|5=>5|9=>9|66=>306|70=>309|76=>323|77=>65|n=>n,fun|n=>n⟩
theorem sortPr:Go.Proofs.SlLaysF0.n6 Tryz.prog sortPr_ren:={
  mixed:=by kernel_rfl
  f6:=⟨Tryz.f102.name,by decide,Tryz.func102.trans (congrArg some (by kernel_rfl))⟩
  f14:=⟨Tryz.f148.name,by decide,Tryz.func148.trans (congrArg some (by kernel_rfl))⟩
  f15:=Tryz.func142.trans (congrArg some (by kernel_rfl))
  f20:=⟨Tryz.f196.name,by decide,Tryz.func196.trans (congrArg some (by kernel_rfl))⟩
  f21:=⟨Tryz.f197.name,by decide,Tryz.func197.trans (congrArg some (by kernel_rfl))⟩
  f22:=⟨Tryz.f198.name,by decide,Tryz.func198.trans (congrArg some (by kernel_rfl))⟩
  f23:=⟨Tryz.f199.name,by decide,Tryz.func199.trans (congrArg some (by kernel_rfl))⟩
  f24:=⟨Tryz.f200.name,by decide,Tryz.func200.trans (congrArg some (by kernel_rfl))⟩
  f25:=⟨Tryz.f201.name,by decide,Tryz.func201.trans (congrArg some (by kernel_rfl))⟩
  f26:=⟨Tryz.f202.name,by decide,Tryz.func202.trans (congrArg some (by kernel_rfl))⟩
  f27:=⟨Tryz.f203.name,by decide,Tryz.func203.trans (congrArg some (by kernel_rfl))⟩
  f28:=Tryz.func193.trans (congrArg some (by kernel_rfl))
  f29:=Tryz.func194.trans (congrArg some (by kernel_rfl))
  f46:=⟨Tryz.f237.name,by decide,Tryz.func237.trans (congrArg some (by kernel_rfl))⟩
  f47:=Tryz.func233.trans (congrArg some (by kernel_rfl))
  f48:=Tryz.func234.trans (congrArg some (by kernel_rfl))
  f49:=⟨Tryz.f238.name,by decide,Tryz.func238.trans (congrArg some (by kernel_rfl))⟩
  f50:=⟨Tryz.f239.name,by decide,Tryz.func239.trans (congrArg some (by kernel_rfl))⟩
  f57:=⟨Tryz.f249.name,by decide,Tryz.func249.trans (congrArg some (by kernel_rfl))⟩
  t0:=Tryz.underlying0
  a0:=Tryz.isAgg0
  z0:=Tryz.sizeOf0
  v0:=Tryz.zeroValue0
  t3:=Tryz.underlying3
  a3:=Tryz.isAgg3
  z3:=Tryz.sizeOf3
  v3:=Tryz.zeroValue3
  t4:=Tryz.underlying4
  a4:=Tryz.isAgg4
  z4:=Tryz.sizeOf4
  v4:=Tryz.zeroValue4
  t5:=Tryz.underlying5
  a5:=Tryz.isAgg5
  z5:=Tryz.sizeOf5
  v5:=Tryz.zeroValue5
  t9:=Tryz.underlying9
  a9:=Tryz.isAgg9
  z9:=Tryz.sizeOf9
  v9:=Tryz.zeroValue9
  t22:=Tryz.underlying47
  a22:=Tryz.isAgg47
  z22:=Tryz.sizeOf47
  v22:=Tryz.zeroValue47
  t25:=Tryz.underlying179
  a25:=Tryz.isAgg179
  z25:=Tryz.sizeOf179
  v25:=Tryz.zeroValue179
  t39:=Tryz.underlying72
  a39:=Tryz.isAgg72
  z39:=Tryz.sizeOf72
  v39:=Tryz.zeroValue72
  t45:=Tryz.underlying267
  a45:=Tryz.isAgg267
  z45:=Tryz.sizeOf267
  v45:=Tryz.zeroValue267
  t46:=Tryz.underlying268
  a46:=Tryz.isAgg268
  z46:=Tryz.sizeOf268
  v46:=Tryz.zeroValue268
  t50:=Tryz.underlying273
  a50:=Tryz.isAgg273
  z50:=Tryz.sizeOf273
  v50:=Tryz.zeroValue273
  t53:=Tryz.underlying103
  a53:=Tryz.isAgg103
  z53:=Tryz.sizeOf103
  v53:=Tryz.zeroValue103
  t55:=Tryz.underlying23
  a55:=Tryz.isAgg23
  z55:=Tryz.sizeOf23
  v55:=Tryz.zeroValue23
  t66:=Tryz.underlying306
  a66:=Tryz.isAgg306
  z66:=Tryz.sizeOf306
  v66:=Tryz.zeroValue306
  t70:=Tryz.underlying309
  a70:=Tryz.isAgg309
  z70:=Tryz.sizeOf309
  v70:=Tryz.zeroValue309
  t76:=Tryz.underlying323
  a76:=Tryz.isAgg323
  z76:=Tryz.sizeOf323
  v76:=Tryz.zeroValue323
  t77:=Tryz.underlying65
  a77:=Tryz.isAgg65
  z77:=Tryz.sizeOf65
  v77:=Tryz.zeroValue65}
end Go.Proofs.YtfadcpfgenjbeaaGreat
namespace Go.Wk
open Go Go.RowKit Go.Sort Go.Proofs

abbrev RPr:={p:Pr // right p.pb=true}
instance:Inhabited RPr:=⟨⟨{name:=[65],value:=[]},by decide⟩⟩
def encP (x:RPr):List Value:=Pr.cells x.1
theorem encP_one (x:RPr):∀v∈encP x,v.oneCell'=true:=by
  intro v A;simp[encP,Pr.cells]at A;rcases A with rfl|rfl <;> rfl
def cfP (x y:RPr):Int:=cmpS (whole x.1.pb) (whole y.1.pb)
theorem ltP (x y:RPr):ltOf cfP x y=Op.bytesLess (whole x.1.pb) (whole y.1.pb):=cmpS_neg _ _
theorem swoP:SWO (ltOf cfP) where
  irrefl x:=by rw[ltP];exact bl_irr _
  trans x y z h1 h2:=by rw[ltP]at *;exact bl_trans h1 h2
  ntrans x y z h1 h2:=by
    rw[ltP]at *
    cases h3:Op.bytesLess (whole x.1.pb) (whole z.1.pb)with
    | false=>rfl
    | true =>
      cases h4:Op.bytesLess (whole y.1.pb) (whole x.1.pb)with
      | true=>have:=bl_trans h4 h3;rw[h2]at this;cases this
      | false=>rw[bl_tri h1 h4,h2]at h3;cases h3
theorem totP (x y:RPr) (h1:ltOf cfP x y=false) (h2:ltOf cfP y x=false):x=y:=by
  rw[ltP]at h1 h2
  exact Subtype.ext (pb_inj.1 (whole_inj x.2 y.2 (bl_tri h1 h2)))
theorem sortF_sub (l:List RPr):(l.mergeSort fun x y=>!(ltOf cfP) y x).map Subtype.val=sortF (l.map Subtype.val):=by
  unfold sortF
  exact List.map_mergeSort fun a _ b _=>by rw[ltP];rfl
theorem lift_right:∀(l:List Pr),(∀p∈l,right p.pb=true)→∃l':List RPr,l'.map Subtype.val=l
  | [],_=>⟨[],rfl⟩
  | p :: r,h=>by
    obtain⟨r',hr⟩:=lift_right r fun q hq=>h q (by simp[hq])
    exact⟨⟨p,h p (by simp)⟩ :: r',by simp[hr]⟩
theorem flatK_toList (d:List RPr):(flatK encP 2 d.toArray).toList=(d.map Subtype.val).flatMap Pr.cells:=by
  apply List.ext_getElem?
  intro t
  have F:(flatK encP 2 d.toArray).size=d.length*2:=by simp
  have G:((d.map Subtype.val).flatMap Pr.cells).length=d.length*2:=by rw[flat_len];simp
  by_cases ht:t<d.length*2
  · have A:=get_flatK encP 2 d.toArray t (by simpa using ht)
    have C:t/2<d.length:=by omega
    have D:d.toArray[t/2]! = d[t/2]:=by rw[getElem!_pos d.toArray (t/2) (by simpa using C)];simp
    rw[D]at A
    have E:(encP d[t/2])[t%2]! = ((encP d[t/2])[t%2]'(by have:(encP d[t/2]).length=2:=rfl;omega)):=getElem!_pos (encP d[t/2]) (t%2) _
    rw[E]at A
    have B:=flat_get (xs:=d.map Subtype.val) (i:=t/2) (j:=t%2) (x:=d[t/2].1) (u:=(encP d[t/2])[t%2]'(by have:(encP d[t/2]).length=2:=rfl;omega)) (by simp[C]) (by rw[List.getElem?_eq_getElem (by have:(Pr.cells d[t/2].1).length=2:=rfl;omega)];rfl)
    rw[show t/2*2+t%2=t by omega]at B
    rw[B,Array.getElem?_toList,← A,getElem!_pos _ t (by simpa using ht)]
    exact Array.getElem?_eq_getElem _
  · rw[List.getElem?_eq_none (by simpa using Nat.le_of_not_lt ht),List.getElem?_eq_none (by omega)]
theorem Rw.holds {w:World} {b cap:Nat} {d:List RPr} (h:Rw w b cap (d.map Subtype.val)):HoldsK encP 2 w b 0 d.toArray:=by
  obtain⟨A,B,F,G,C⟩:=h
  intro j E
  have hj':j<d.length*2:=by simpa using E
  rw[Nat.zero_add,B.cell,B.frozen]
  refine⟨?_,rfl⟩
  have D:(A.take ((d.map Subtype.val).length*2))[j]? = A[j]?:=by rw[List.getElem?_take,if_pos (by simpa using hj')]
  rw[← D,C,← flatK_toList,Array.getElem?_toList,getElem!_pos _ j (by simpa using hj')]
  exact Array.getElem?_eq_getElem _
theorem Rw.sorted {w:World} {b cap n:Nat} {d d':List RPr} {os:Array Obj} (h:Rw w b cap (d.map Subtype.val)) (hl:d'.length=d.length) :
    Md [b] w (sortWorldK encP 2 w b 0 n d'.toArray os)∧Rw (sortWorldK encP 2 w b 0 n d'.toArray os) b cap (d'.map Subtype.val):=by
  obtain⟨A,D,F,E,I⟩:=h
  have G:=D.lt
  have C:(sortWorldK encP 2 w b 0 n d'.toArray os).heap[b]? = some (.cells (putCells id 0 (flatK encP 2 d'.toArray) A.toArray) 91 (0,0)):=by
    unfold sortWorldK grow putRowK putRow mapBlock
    simp only[Sort.ahead]
    rw[Array.getElem?_append_left (by simpa using G),Array.getElem?_modify,if_pos rfl]
    have:w.heap[b]? = some (.cells A.toArray 91 (0,0)):=D
    rw[this]
    rfl
  refine⟨⟨rfl,rfl,rfl,?_,?_⟩,(putCells id 0 (flatK encP 2 d'.toArray) A.toArray).toList,by unfold Blk;rw[C],?_,?_,?_⟩
  · simp[sortWorldK,grow,putRowK,putRow,mapBlock,Sort.ahead]
  · intro k hk B
    simp only[List.mem_singleton]at B
    unfold sortWorldK grow putRowK putRow mapBlock
    simp only[Sort.ahead]
    rw[Array.getElem?_append_left (by simpa using hk),Array.getElem?_modify,if_neg (fun h=>B h.symm)]
  · simp[putCells,F]
  · simp at E ⊢;omega
  · rw[← flatK_toList]
    have B:(flatK encP 2 d'.toArray).size=d'.length*2:=by simp
    apply List.ext_getElem?
    intro t
    simp only[List.length_map]at E ⊢
    by_cases ht:t<d'.length*2
    · rw[List.getElem?_take,if_pos ht,Array.getElem?_toList,Array.getElem?_toList]
      unfold putCells
      rw[Array.getElem?_mapIdx]
      have H:t<A.length:=by omega
      simp only[List.getElem?_toArray,List.getElem?_eq_getElem H,Option.map_some,Nat.zero_le,true_and,Nat.zero_add,B,ht,if_true,Nat.sub_zero,id]
      rw[getElem!_pos _ t (by simpa using ht)]
      exact(Array.getElem?_eq_getElem _).symm
    · rw[List.getElem?_eq_none (by simp;omega),List.getElem?_eq_none (by simp;omega)]
end Go.Wk
namespace Go.Proofs.YtfadcpfgenjbeaaGreat
open Go Go.Wk Go.RowKit
set_option linter.unusedVariables false
set_option linter.unusedSimpArgs false
attribute [local irreducible] wpList wpQuiet wpStill wpMix Code.wp Calls bodyPost

theorem compact_any {w:World} {Q lo:Nat→Prop} {v:Value} {xs:List Pr} (h0:Ow tPr 91 lo w Q v xs) :
    Calls Tryz.prog 104 #[v] w fun en w'=>∃v',en = .returned v'∧Md (vblock v).toList w w'∧vblock v'=vblock v∧Ow tPr 91 lo w' Q v' (compactF xs):=by
  have L:=h0.read.len63;refine enter (n:=61) Tryz.func104 rfl rfl rfl ?_;intro B;refine ns (asg rfl (nt (c_seq (ns (mv rfl (sL rfl u47 h0.shp (st _ (r_ltN (a:=xs.length) (b:=2) rfl rfl) (nt ?_))))))));refine c_if rfl (fun h8=>?_) (fun h8=>?_)
  · have Z:=dq h8
    refine ns (mv rfl (asg rfl (nt (c_ret (r_then ?_)))));exact ret1 trivial rfl rfl ⟨_,rfl,Md.refl _ w,rfl,(compact_short Z).symm ▸ h0⟩
  · have Z:=dF h8
    obtain⟨b,A,rfl,E,C,d,hQ⟩:=h0.rw_ (by omega);clear h0;have c:xs.length≤A:=(by obtain⟨_,_,_,h,_⟩:=C;exact h);have P:Shp (.slice (some ⟨b,0,none⟩) xs.length A) xs.length:=⟨_,_,rfl,c,E,by simp⟩;refine c_skip (c_then (c_seq (ns (asg rfl (nt (c_block ?_))))));have M:=Md.refl [b] w;refine loop1 (fun(i:Nat)=>[(3,(.int .i64 i)),(0,.slice (some ⟨b,0,none⟩) xs.length A)]) (fun(i:Nat) w'=>Md [b] w w'∧Rw w' b A xs∧1≤i∧i≤xs.length∧xs.take i ++ ddF (xs.getD (i-1) {name:=[],value:=[]}) (xs.drop i)=compactF xs) (fun(i:Nat)=>xs.length-i) (x0:=1) ?_ ?_ ?_
    · exact⟨rfl,rfl,tV⟩
    · exact⟨M,C,Nat.le_refl _,by omega,compact_start (by omega)⟩
    · clear M C
      rintro i B w1 ⟨M,C,Am,Ao,W⟩;refine c_seq (ns (mv rfl (mv rfl (sL rfl u47 P (st _ (r_ltN (a:=i) (b:=xs.length) rfl rfl) (nt ?_))))));refine c_if rfl (fun R=>?_) (fun R=>?_)
      · have N:=dq R
        refine c_skip (c_then (c_seq (c_block (c_seq ?_))));obtain⟨x,e⟩:=getE (l:=xs) (i:=i) N;obtain⟨y,hy⟩:=getE (l:=xs) (i:=i-1) (by omega);have D:=C;refine c_mixT (ml 9) [9] (fun w'=>Md [] w1 w') mixed (by kernel_rfl) ?_;intro w3 F;refine⟨F.mono (by simp),?_⟩;refine mo rfl (mo rfl (mz (fun w' E=>r_indexN (i:=i) 2 rfl rfl u47 el91 P (by omega)) (mz (fun w' E=>r_loadEA (kk:=i*2) (Pr.cells x) 0 rfl rfl (by exact agg91) ((D.at_ e (by omega)).md0 E) rfl) (mo rfl (mo rfl (mz (fun w' E=>r_subN (a:=i) (b:=1) 9223372036854775808 rfl rfl rfl (by omega)) (mz (fun w' E=>r_indexN (i:=i-1) 2 rfl rfl u47 el91 P (by omega)) (mz (fun w' E=>r_loadEA (kk:=(i-1)*2) (Pr.cells y) 0 rfl rfl (by exact agg91) ((D.at_ hy (by omega)).md0 E) rfl) (m_nil ?_)))))))));replace C:=C.md0 F;replace M:=M.step0 F;clear D;refine st _ (r_eqlPr (p:=x) (q:=y) pair91 u9 rfl rfl) (nt ?_);rw[dd_step e,pr_getD hy]at W;refine c_if rfl (fun S=>?_) (fun S=>?_)
        · have G:=dq S
          rw[if_pos G]at W;have J:Shp (.slice (some ⟨b,i*2,none⟩) (xs.length-i) (A-i)) (xs.length-i):=⟨_,_,rfl,by omega,by omega,by simp⟩;refine ns (mv rfl (mv rfl (st _ (RunV.to (b:=.slice (some ⟨b,i*2,none⟩) (xs.length-i) (A-i)) (by exact r_sliceZ 2 i xs.length u47 el91 rfl P (by omega) (by omega) ⟨_,rfl⟩ rfl) (subz_tail (by omega))) (asg rfl (nt (c_seq (ns (asg rfl (nt (c_block ?_))))))))))
          refine loop3 (fun(K:List Pr) (j:Nat) (k:Nat)=>[(3,(.int .i64 j)),(5,(.int .i64 k)),(0,.slice (some ⟨b,0,none⟩) xs.length A),(4,.slice (some ⟨b,i*2,none⟩) (xs.length-i) (A-i))])
            (fun(K:List Pr) (j:Nat) (k:Nat) w'=>Md [b] w w'∧Rw w' b A K∧K.length=xs.length∧i≤j∧j+1≤i+k∧i+k≤xs.length∧(∀q,i+k-1≤q→K[q]? = xs[q]?)∧K.take j ++ ddF (xs.getD (i+k-1) {name:=[],value:=[]}) (xs.drop (i+k))=compactF xs)
            (fun(K:List Pr) (j:Nat) (k:Nat)=>xs.length-k) (x0:=xs) (x1:=i) (x2:=1) ?_ ?_ ?_
          · exact⟨rfl,rfl,rfl,rfl,tV⟩
          · exact⟨M,C,rfl,Nat.le_refl _,Nat.le_refl _,by omega,fun q _=>rfl,by rw[Nat.add_sub_cancel,pr_getD e];exact W⟩
          · clear M C
            rintro K j k B w4 ⟨M,C,hl,Ap,Aq,hk,f,O⟩;have Al:Shp (.slice (some ⟨b,0,none⟩) xs.length A) xs.length:=P;refine c_seq (ns (mv rfl (mv rfl (sL rfl u47 J (st _ (r_ltN (a:=k) (b:=xs.length-i) rfl rfl) (nt ?_))))));refine c_if rfl (fun T=>?_) (fun T=>?_)
            · have Y:=dq T
              refine c_skip (c_then (c_seq (c_block (c_seq ?_))));obtain⟨s,g⟩:=getE (l:=xs) (i:=i+k) (by omega);obtain⟨t,ht⟩:=getE (l:=xs) (i:=i+k-1) (by omega);have hs':=(f (i+k) (by omega)).trans g;have ht':=(f (i+k-1) (by omega)).trans ht;have D:=C;refine c_mixT (ml 9) [9] (fun w'=>Md [] w4 w') mixed (by kernel_rfl) ?_;intro w5 F;refine⟨F.mono (by simp),?_⟩;refine mo rfl (mo rfl (mz (fun w' E=>r_indexN (i:=k) 2 rfl rfl u47 el91 J (by omega)) (mz (fun w' E=>r_loadEA (kk:=k*2) (Pr.cells s) 0 rfl rfl (by exact agg91) ((D.at_ hs' (by omega)).md0 E) rfl) (mo rfl (mo rfl (mz (fun w' E=>r_subN (a:=k) (b:=1) 9223372036854775808 rfl rfl rfl (by omega)) (mz (fun w' E=>r_indexN (i:=k-1) 2 rfl rfl u47 el91 J (by omega)) (mz (fun w' E=>r_loadEA (kk:=(k-1)*2) (Pr.cells t) 0 rfl rfl (by exact agg91) ((D.at_ ht' (by omega)).md0 E) rfl) (m_nil ?_)))))))));replace C:=C.md0 F;replace M:=M.step0 F;clear D;refine st _ (r_neqPr (p:=s) (q:=t) pair91 u9 rfl rfl) (nt ?_);rw[dd_step g,pr_getD ht]at O;refine c_if rfl (fun U=>?_) (fun U=>?_)
              · have H:¬s.pb=t.pb:=by simpa using U
                rw[if_neg H]at O;refine ns (mv rfl (mv rfl (mv rfl (mv rfl (st _ (r_indexN (i:=k) 2 rfl rfl u47 el91 J (by omega)) (st _ (r_loadEA (kk:=k*2) (Pr.cells s) 0 rfl rfl (by exact agg91) (C.at_ hs' (by omega)) rfl) (st _ ((r_indexN (i:=j) 2 rfl rfl u47 el91 P (by omega)).to (b:=.pointer (some ⟨b,j*2,none⟩)) (by simp[elemp,Addr.add_mk])) ?_)))))));obtain⟨Aa,hB,X,I⟩:=C.into (i:=j) (z:=s) (by omega);refine st_storeAgg (b:=b) (j:=j*2) (us:=Pr.cells s) rfl rfl (by exact agg91) (fun u r=>one_cells rfl u r) hB X ?_;intro w6 hm V;replace C:=I _ V;replace M:=M.step1' hm (by simp);refine nt (c_region (mv rfl (st _ (r_addN (a:=j) (b:=1) 9223372036854775808 rfl rfl rfl (by omega)) (asg rfl (st_nil (n_block (c_then (c_region (mv rfl (st _ (r_addN (a:=k) (b:=1) 9223372036854775808 rfl rfl rfl (by omega)) (asg rfl (nt ?_))))))))))));refine next3 (x0:=K.set j s) (x1:=j+1) (x2:=k+1) (by omega) ⟨(fitI rfl (by omega)),(fitI rfl (by omega)),rfl,rfl,tV⟩ ⟨M,C,by simpa using hl,by omega,by omega,by omega,fun q Af=>by rw[List.getElem?_set_ne (by omega)];exact f q (by omega),?_⟩;rw[show i+(k+1)-1=i+k by omega,pr_getD g,show i+(k+1)=i+k+1 by omega,take_set_succ (by omega),List.append_assoc];exact O
              · have H:s.pb=t.pb:=by simpa using U
                rw[if_pos H]at O;refine c_skip (n_block (c_then (c_region (mv rfl (st _ (r_addN (a:=k) (b:=1) 9223372036854775808 rfl rfl rfl (by omega)) (asg rfl (nt ?_)))))));refine next3 (x0:=K) (x1:=j) (x2:=k+1) (by omega) ⟨rfl,(fitI rfl (by omega)),rfl,rfl,tV⟩ ⟨M,C,hl,by omega,by omega,by omega,fun q Af=>f q (by omega),?_⟩;rw[show i+(k+1)-1=i+k by omega,pr_getD g,show i+(k+1)=i+k+1 by omega];exact O
            · have Y:=dF T
              rw[dd_end (by omega),List.append_nil]at O;refine c_exit (x_then (x_then (x_hit (c_then (ns (mv rfl (mv rfl (st _ (RunV.to (b:=.slice (some ⟨b,j*2,none⟩) (xs.length-j) (A-j)) (by exact r_sliceZ 2 j xs.length u47 el91 rfl P (by omega) (by omega) ⟨_,rfl⟩ rfl) (subz_tail (by omega))) ?_))))))));obtain⟨Aa,hB,X,I⟩:=C.clear (i:=j) (m:=xs.length-j) (by omega) (by omega);refine st_clear (o:=j*2) (m:=xs.length-j) u47 z91 (by intro u r;simp at r;subst r;rfl) rfl (by omega) hB X ?_;intro w6 us hm Ag V;replace C:=I _ us Ag V;rw[O]at C;replace M:=M.step1' hm (by simp);refine nt (ns (mv rfl (mv rfl (st _ (RunV.to (b:=.slice (some ⟨b,0,none⟩) j A) (by exact r_sliceZ 2 0 j u47 el91 rfl P (by omega) (by omega) rfl ⟨_,rfl⟩) (subz_head (by omega))) (asg rfl (nt (c_ret ?_)))))))
              repeat (first|refine r_then ?_|refine r_block ?_)
              have Ad:j=(compactF xs).length:=(by rw[← O,List.length_take];omega);refine ret1 trivial rfl rfl ⟨_,rfl,M,rfl,?_⟩;rw[Ad];exact C.ow E d hQ
        · have G:=dF S
          rw[if_neg G]at W;refine c_skip (n_block (c_then (c_region (mv rfl (st _ (r_addN (a:=i) (b:=1) 9223372036854775808 rfl rfl rfl (by omega)) (asg rfl (nt ?_)))))));refine next1 (x0:=(i+1)) (by omega) ⟨(fitI rfl (by omega)),rfl,tV⟩ ⟨M,C,by omega,by omega,?_⟩;rw[Nat.add_sub_cancel,pr_getD e,List.take_add_one,e,Option.toList_some,List.append_assoc];exact W
      · have N:=dF R
        rw[dd_end (by omega),List.append_nil,List.take_of_length_le (by omega)]at W;refine c_exit (x_then (x_then (x_hit (c_then (ns (mv rfl (asg rfl (nt (c_ret ?_)))))))))
        repeat (first|refine r_then ?_|refine r_block ?_)
        refine ret1 trivial rfl rfl ⟨_,rfl,M,rfl,?_⟩;rw[← W];exact C.ow E d hQ
theorem fn204:isFn Tryz.prog 204=true:=by kernel_rfl

theorem nan_any (a:Ly) (w:World):Calls Tryz.prog 204 #[str a] w fun e w'=>e = .returned (.bool false)∧w=w':=by
  have M:=Md.refl [] w;refine enter (n:=6) Tryz.func204 rfl rfl rfl ?_;intro B;refine ns (asg rfl (nt (ns (mv rfl (mv rfl (st _ (r_neqS rfl rfl) (asg rfl (nt (c_ret ?_)))))))));exact ret1 trivial rfl rfl ⟨retB (by simp),rfl⟩
theorem cmp_any (a b:Ly) (w:World):Calls Tryz.prog 149 #[str a,str b] w fun e w'=>e = .returned (.int .i64 (cmpS a b))∧w=w':=by
  have M:=Md.refl [] w;refine enter (n:=20) Tryz.func149 rfl rfl rfl ?_;intro B;refine ns (asg rfl (nt (ns (mv rfl (st_call fn204 rfl (nan_any a _) ?_)))));rintro e _ ⟨rfl,rfl⟩;refine⟨_,rfl,?_⟩;refine asg rfl (nt (ns (mv rfl (st_call fn204 rfl (nan_any b _) ?_))));rintro e _ ⟨rfl,rfl⟩;refine⟨_,rfl,?_⟩;refine asg rfl (nt (c_seq (ns (mv rfl (nt (c_if_f rfl rfl (c_skip (c_then (c_seq (ns (mv rfl (nt (c_if_f rfl rfl ?_)))))))))))));refine c_skip (c_then (c_seq (ns (mv rfl (mv rfl (st _ (r_lssS rfl rfl) (nt ?_)))))));refine c_if rfl (fun E=>?_) (fun E=>?_)
  · (first|(have A:=dq E)|(have A:=dF (bnt E))|(have A:=bnt E)|(have A:=E));refine ns (asg rfl (nt (c_ret (r_then ?_))));exact ret1 trivial rfl rfl ⟨retI (by unfold cmpS;rw[if_pos A]),rfl⟩
  · (first|(have A:=dF E)|(have A:=dq (bnf E))|(have A:=bnf E)|(have A:=E));refine c_skip (c_then (c_seq (ns (mv rfl (mv rfl (st _ (r_gtrS rfl rfl) (nt ?_)))))));refine c_if rfl (fun C=>?_) (fun C=>?_)
    · (first|(have D:=dq C)|(have D:=dF (bnt C))|(have D:=bnt C)|(have D:=C));refine ns (asg rfl (nt (c_ret (r_then ?_))));exact ret1 trivial rfl rfl ⟨retI (by unfold cmpS;rw[if_neg (by simp[A]),if_pos C]),rfl⟩
    · (first|(have D:=dF C)|(have D:=dq (bnf C))|(have D:=bnf C)|(have D:=C));refine c_skip (c_then (ns (asg rfl (nt (c_ret ?_)))));exact ret1 trivial rfl rfl ⟨retI (by unfold cmpS;rw[if_neg (by simp[A]),if_neg (by rw[C];decide)]),rfl⟩
theorem fn149:isFn Tryz.prog 149=true:=by kernel_rfl

theorem whole_gr (p:PairB) (w:World) (hl:p.1.length+p.2.length≤4611686018427387904):Calls Tryz.prog 147 #[pairv p] w fun e w'=>e = .returned (str (whole p))∧Gr w w':=by
  have M:=Gr.refl w;refine enter (n:=9) Tryz.func147 rfl rfl rfl ?_;intro B;refine ns (st_boxG rfl rfl ?_);intro D G E F C A;replace M:=M.step0 C;refine asg rfl (nt (ns (sf rfl off91_0 (st _ (r_loadBlk rfl one9 A rfl) (st (str (p.1 ++ [61])) (r_addS rfl rfl (by(simp;omega))) (sf rfl off91_1 (st _ (r_loadBlk rfl one9 A rfl) (st (str (p.1 ++ [61] ++ p.2)) (r_addS rfl rfl (by simp;omega)) (asg rfl (nt (c_ret ?_)))))))))));exact ret1 trivial rfl rfl ⟨rfl,M⟩
theorem order_gr (p q:PairB) (w:World) (hp:p.1.length+p.2.length≤4611686018427387904) (hq:q.1.length+q.2.length≤4611686018427387904):Calls Tryz.prog 103 #[pairv p,pairv q] w fun e w'=>e = .returned (.int .i64 (cmpS (whole p) (whole q)))∧Gr w w':=by
  have M:=Gr.refl w;refine enter (n:=10) Tryz.func103 rfl rfl rfl ?_;intro B;refine ns (st_boxG rfl rfl ?_);intro J Q L O A G;replace M:=M.step0 A;refine st_boxG rfl rfl ?_;intro K I N P A H;replace G:=G.md0 A.md;replace M:=M.step0 A;refine asg rfl (nt (c_seq ?_));have D:=G;have E:=H;refine c_mixG [(0,true),(2,true),(1,false),(3,false),(4,false),(5,true)] (fun w'=>Md [] I w') mixed (by kernel_rfl) ?_;intro R A;have C:=A.md;replace M:=M.step0 A;refine⟨C,?_⟩;refine mz (fun w' F=>r_loadAll rfl (by exact agg91) (D.md0 F)) (mz (fun w' F=>r_loadAll rfl (by exact agg91) (E.md0 F)) ?_);refine m_e ?_ rfl;refine st_call fn147 rfl (whole_gr p _ hp) ?_;rintro e S ⟨rfl,A⟩;refine⟨_,rfl,?_⟩;replace C:=C.step0 A.md;replace M:=M.step0 A;refine st_nil ⟨rfl,C,?_⟩;refine m_e ?_ rfl;refine st_call fn147 rfl (whole_gr q _ hq) ?_;rintro e T ⟨rfl,A⟩;refine⟨_,rfl,?_⟩;replace C:=C.step0 A.md;replace M:=M.step0 A;refine st_nil ⟨rfl,C,?_⟩;refine m_e ?_ rfl;refine st_call fn149 rfl (cmp_any _ _ _) ?_;rintro e U ⟨rfl,rfl⟩;refine⟨_,rfl,?_⟩;refine st_nil ⟨rfl,C,?_⟩;refine mz (fun w' F=>r_assign rfl) (m_nil (c_then (c_ret ?_)));exact ret1 trivial rfl rfl ⟨rfl,M⟩
theorem sort_any {w:World} {Q lo:Nat→Prop} {v:Value} {xs:List Pr} (h0:Ow tPr 91 lo w Q v xs) (h1:1≤xs.length) (hr:∀p∈xs,right p.pb=true) (hl:xs.length≤1000000) :
    Calls Tryz.prog 102 #[v,.func (.func 103) #[] #[]] w fun en w'=>en = .returned (.tuple #[])∧Md (vblock v).toList w w'∧Ow tPr 91 lo w' Q v (sortF xs):=by
  obtain⟨b,E,rfl,K,F,G,J⟩:=h0.rw_ h1;obtain⟨d,rfl⟩:=lift_right xs hr;have H:∀args w,(callFunc 103 args).run Tryz.prog w = .ok (.enter 103 args) w:=Go.Proofs.enters_of Tryz.func103 (by kernel_rfl) rfl
  have C:CmpLays Tryz.prog 103 #[] encP 2 cfP b 0 d.toArray.size w:=fun m os M _ x y =>
    (order_gr x.1.pb y.1.pb _ (by have:=right_len x.2;omega) (by have:=right_len y.2;omega)).mono fun e w' ⟨he,hg⟩=>⟨he,hg.grown⟩
  have A:=AnyQ.slices_SortFunc_total sortPr 2 Tryz.isAgg91 Tryz.sizeOf91 encP (fun _=>rfl) encP_one cfP swoP 103 #[] b 0 E d.toArray w H C F.holds (by obtain⟨_,I,_⟩:=F;exact I.lt) (by simp at hl ⊢;omega) totP;simp only[List.size_toArray,List.length_map]at A hl ⊢;refine A.mono ?_;rintro e w' ⟨rfl,n,os,rfl⟩;obtain⟨L,B⟩:=F.sorted (n:=n) (os:=os) (d':=d.mergeSort fun x y=>!(ltOf cfP) y x) (by simp);refine⟨rfl,by simpa [vblock]using L,?_⟩;rw[sortF_sub]at B;have D:(sortF (d.map Subtype.val)).length=d.length:=(by simp[sortF]);have:=B.ow (lo:=lo) (Q:=Q) K G J;rw[D]at this;exact this
theorem kClone_any {w:World} {Q:Nat→Prop} (uQ:Up w Q) {v0:Value} {l:List Pr} (h0:Ls tPr w Q v0 l) (p0:1≤l.length) (p1:l.length≤1000000) :
    Calls Tryz.prog 101 #[v0] w fun en w'=>∃u0:Value,∃r0:List Pr,∃Q':Nat→Prop,en = .returned (u0)∧Md [] w w'∧NewQ w w' Q Q'∧Ow tPr 91 (Fsh [] w) w' Q' u0 r0∧l=r0:=by
  obtain⟨a,A,S,R⟩:∃a A,v0 = .slice (some a) l.length A∧l.length≤A:=by
    obtain⟨a,A,g,e,M,h,N,_⟩:=h0
    cases a with
    | none=>have:=N rfl;omega
    | some a=>exact⟨a,A,e,M⟩
  refine enter (n:=8) Tryz.func101 rfl rfl rfl ?_;intro B;refine ns (asg rfl (nt (c_seq (ns (mv rfl (st (.bool false) (by exact r_eqlSN (a:=some a) (m:=l.length) (c:=A) (by rw[← S];rfl) u47) (nt ?_)))))));refine c_if rfl (fun H=>(by cases H)) (fun H=>?_);refine c_skip (c_then (ns (st_build0 u47 elT91 ?_)));intro b f D U C O;obtain⟨K,J,X,V,Z⟩:=exQ uQ D U C;have P:Ow tPr 91 (Fsh [] w) f K (.slice (some ⟨b,0,none⟩) 0 0) []:=Ow.of_blk (m:=0) O rfl rfl (by simp[maxLen]) (.inr D) V;replace h0:=(h0.sub J).md0 C;refine mv rfl (st_apZ (sz:=2) rfl u47 elT91 rfl rfl P h0.lz Z (Fsh.new C) (by simp;omega) (by simp;omega) ?_);intro j k L W Y d E F i _ T;refine asg rfl (nt (c_ret ?_));exact ret1 trivial rfl rfl ⟨_,_,L,rfl,C.step1 F D,⟨fun x G I=>W x (J x G I) (ly I C.size),fun x G=>X x (Y x G),d⟩,E,by simp⟩
end Go.Proofs.YtfadcpfgenjbeaaGreat
