/- Part 5 of what the walk of a law stands on: VSt, VSu, VSv, SimQ, VSx, VSy, VSz, VTa, VTb, VTc, VTd, VTe, VTf, VTh, VTi, VXg, VXh, VXi, VXj, Laid, SortR, VComp. No statement is proved here. -/
import Derived.Test.YtfadcpfgenjbeaaGreatWMD4
import Derived.Test.YtfadcpfgenjbeaaGreatRows
namespace Go.Proofs.YtfadcpfgenjbeaaGreat
open Go Go.Wk Go.RowKit
set_option linter.unusedVariables false
set_option linter.unusedSimpArgs false
attribute [local irreducible] wpList wpQuiet wpStill wpMix Code.wp Calls bodyPost

/-- All blocks of nodes and of their files. -/
def ndB (l:List SNd):List Nat:=l.map (·.id) ++ l.map (·.no.fid)
theorem mem_ndB {l:List SNd} {b:Nat}:b∈ndB l↔∃x∈l,x.id=b∨x.no.fid=b:=by
  simp only[ndB,List.mem_append,List.mem_map]
  constructor
  · rintro(⟨x,h,e⟩|⟨x,h,e⟩)
    · exact⟨x,h,.inl e⟩
    · exact⟨x,h,.inr e⟩
  · rintro⟨x,h,e|e⟩
    · exact .inl ⟨x,h,e⟩
    · exact .inr ⟨x,h,e⟩
theorem blk_ne_ty {w:World} {b b':Nat} {cs cs':List Value} {t t':TypeId} (h:Blk w b cs t) (h':Blk w b' cs' t') (ht:Nat.beq t t'=false):b≠b':=by
  rintro rfl;rw[blk_ty h h']at ht;simp at ht
theorem nodup_inj {α:Type} {f:α→Nat}:∀{l:List α},(l.map f).Nodup→∀{x y:α},x∈l→y∈l→f x=f y→x=y
  | [],_,_,_,h,_,_=>by cases h
  | a :: l,hn,x,y,hx,hy,e=>by
    rw[List.map_cons,List.nodup_cons]at hn;rcases List.mem_cons.1 hx with rfl|hx'
    · rcases List.mem_cons.1 hy with rfl|hy'
      · rfl
      · exact absurd (List.mem_map.2 ⟨y,hy',e.symm⟩) hn.1
    · rcases List.mem_cons.1 hy with rfl|hy'
      · exact absurd (List.mem_map.2 ⟨x,hx',e⟩) hn.1
      · exact nodup_inj hn.2 hx' hy' e
/-- A node by its block, made anew. -/
def updN (l:List SNd) (i:Nat) (g:SNd→SNd):List SNd:=l.map fun z=>if z.id=i then g z else z
theorem updN_ids {l:List SNd} {i:Nat} {g:SNd→SNd} (hg:∀z,(g z).id=z.id):(updN l i g).map (·.id)=l.map (·.id):=by
  unfold updN;rw[List.map_map];refine List.map_congr_left fun z _=>?_;show(if z.id=i then g z else z).id=z.id
  split
  · exact hg z
  · rfl
theorem mem_updN {l:List SNd} {i:Nat} {g:SNd→SNd} {y:SNd} (h:y∈updN l i g):(∃x∈l,x.id=i∧y=g x)∨(y∈l∧y.id≠i):=by
  obtain⟨z,A,e⟩:=List.mem_map.1 h;by_cases hi:z.id=i
  · rw[if_pos hi]at e;exact .inl ⟨z,A,hi,e.symm⟩
  · rw[if_neg hi]at e;subst e;exact .inr ⟨A,hi⟩
theorem ow_ids {e:TypeId} {lo:Nat→Prop} {w:World} {Q:Nat→Prop} {v:Value} {l l':List SNd} (h:Ow tNd e lo w Q v l) (hi:l'.map (·.id)=l.map (·.id)):Ow tNd e lo w Q v l':=by
  obtain⟨⟨A,B,C⟩,D⟩:=h;have E:l'.length=l.length:=(by simpa using congrArg List.length hi);refine⟨⟨A,by rw[E];exact B,?_⟩,D⟩;obtain⟨rfl,_⟩:=els_one_eq C
  have e:l.map (fun x:SNd=>Value.pointer (some ⟨x.id,0,none⟩))=l'.map (fun x:SNd=>Value.pointer (some ⟨x.id,0,none⟩)):=by
    have:=congrArg (List.map fun i:Nat=>Value.pointer (some ⟨i,0,none⟩)) hi;simpa [List.map_map,Function.comp_def]using this.symm
  rw[e];exact els_one fun _ _=>trivial
section
variable {nd fd:TypeId} {lo lo' lo1:Nat→Prop} {w w':World} {Q Q' Q1:Nat→Prop} {l:List SNd} {x:SNd} {S:List Nat} {α:Type} {T:Dt α}
theorem Nds.loB (h:Nds nd fd lo w Q l):∀b∈ndB l,lo b:=by
  intro b B;obtain⟨x,A,rfl|rfl⟩:=mem_ndB.1 B
  · exact(h.all x A).2.2.2.2.1
  · exact(h.all x A).2.2.2.2.2
theorem Nds.nQB (h:Nds nd fd lo w Q l):∀b∈ndB l,¬Q b:=by
  intro b B;obtain⟨x,A,rfl|rfl⟩:=mem_ndB.1 B
  · exact(h.all x A).2.2.1
  · exact(h.all x A).2.2.2.1
theorem Nds.ltB (h:Nds nd fd lo w Q l):∀b∈ndB l,b<w.heap.size:=by
  intro b B;obtain⟨x,A,rfl|rfl⟩:=mem_ndB.1 B
  · exact(h.all x A).1.lt
  · obtain⟨C,D,g,_⟩:=(h.all x A).2.1;exact g.lt
theorem Nds.ninB (h:Nds nd fd lo w Q l) {b:Nat} {cs:List Value} {ty:TypeId} (hB:Blk w b cs ty) (h1:Nat.beq nd ty=false) (h2:Nat.beq fd ty=false):b∉ndB l:=by
  intro A;obtain⟨x,B,e⟩:=mem_ndB.1 A;have:=h.ap1 hB h1 h2 x B;simp only[List.mem_singleton]at this;exact e.elim this.1 this.2
theorem Nds.ninO (h:Nds nd fd lo w Q l) {e:Nat} {v:Value} {xs:List α} (hO:Ow T e lo1 w Q1 v xs) (h1:Nat.beq e nd=false) (h2:Nat.beq e fd=false):∀b,vblock v=some b→b∉ndB l:=by
  intro b A B;obtain⟨x,C,e⟩:=mem_ndB.1 B;have:=h.apO hO h1 h2 x C;rw[A]at this;simp only[Option.toList_some,List.mem_singleton]at this;exact e.elim this.1 this.2
theorem Nds.reB (h:Nds nd fd lo w Q l) (t:∀b∈ndB l,lo' b):Nds nd fd lo' w Q l :=
  ⟨fun x hx=>by obtain⟨h1,h2,h5,h6,h7,h8⟩:=h.all x hx;exact⟨h1,h2,h5,h6,t _ (mem_ndB.2 ⟨x,hx,.inl rfl⟩),t _ (mem_ndB.2 ⟨x,hx,.inr rfl⟩)⟩,h.ids,h.fids⟩
theorem Nds.apB (h:Nds nd fd lo w Q l) (hS:∀b∈ndB l,b∉S):∀x∈l,x.id∉S∧x.no.fid∉S:=fun x hx=>⟨hS _ (mem_ndB.2 ⟨x,hx,.inl rfl⟩),hS _ (mem_ndB.2 ⟨x,hx,.inr rfl⟩)⟩
theorem Nds.nil (nd fd:TypeId) (lo:Nat→Prop) (w:World) (Q:Nat→Prop):Nds nd fd lo w Q []:=⟨fun _ hx=>absurd hx List.not_mem_nil,List.nodup_nil,List.nodup_nil⟩
theorem Nds.inj (h:Nds nd fd lo w Q l) {y:SNd} (hx:x∈l) (hy:y∈l) (e:x.id=y.id):x=y:=nodup_inj h.ids hx hy e
theorem Nds.fne (h:Nds nd fd lo w Q l) (hne:Nat.beq nd fd=false) {y:SNd} (hx:x∈l) (hy:y∈l):x.id≠y.no.fid:=by
  obtain⟨A,B,g,_⟩:=(h.all y hy).2.1;exact blk_ne_ty (h.all x hx).1 g hne
theorem Nds.upd (h:Nds nd fd lo w Q l) (hx:x∈l) {g:SNd→SNd} (hid:(g x).id=x.id) (hnew:NdR nd fd lo w' Q (g x)) (hold:∀z∈l,z.id≠x.id→NdR nd fd lo w' Q z) (hf:(g x).no.fid=x.no.fid∨(g x).no.fid∉l.map (·.no.fid)):Nds nd fd lo w' Q (updN l x.id g):=by
  have C:∀z∈l,z.id=x.id→z=x:=fun z B e=>h.inj B hx e;refine⟨fun z B=>?_,?_,?_⟩
  · rcases mem_updN B with⟨y,K,e,rfl⟩|⟨I,H⟩
    · rw[C y K e];exact hnew
    · exact hold z I H
  · have:(updN l x.id g).map (·.id)=l.map (·.id):=by
      unfold updN;rw[List.map_map];refine List.map_congr_left fun z B=>?_;show(if z.id=x.id then g z else z).id=z.id
      split
      · rename_i e;rw[C z B e];exact hid
      · rfl
    rw[this];exact h.ids
  · rcases hf with hf|hf
    · have:(updN l x.id g).map (·.no.fid)=l.map (·.no.fid):=by
        unfold updN;rw[List.map_map];refine List.map_congr_left fun z B=>?_;show(if z.id=x.id then g z else z).no.fid=z.no.fid
        split
        · rename_i e;rw[C z B e];exact hf
        · rfl
      rw[this];exact h.fids
    · have F:=h.fids
      have E:=h.ids;clear C hnew hold h;unfold updN
      induction l with
      | nil=>exact List.nodup_nil
      | cons a l ih =>
        rw[List.map_cons,List.map_cons,List.nodup_cons];rw[List.map_cons,List.nodup_cons]at F E;rw[List.map_cons,List.mem_cons,not_or]at hf;by_cases ha:a.id=x.id
        · rw[if_pos ha]
          have D:l.map (fun z=>if z.id=x.id then g z else z)=l:=by
            have:∀z∈l,(if z.id=x.id then g z else z)=z:=fun z B=>if_neg fun e=>E.1 (List.mem_map.2 ⟨z,B,e.trans ha.symm⟩);exact(List.map_congr_left this).trans (List.map_id' l)
          rw[D]
          have G:a=x:=by
            rcases List.mem_cons.1 hx with rfl|A
            · rfl
            · exact absurd (List.mem_map.2 ⟨x,A,ha.symm⟩) E.1
          subst G;exact⟨hf.2,F.2⟩
        · rw[if_neg ha]
          have A:x∈l:=by
            rcases List.mem_cons.1 hx with rfl|A
            · exact absurd rfl ha
            · exact A
          refine⟨fun J=>?_,ih A hf.2 F.2 E.2⟩;rw[List.map_map]at J;obtain⟨z,B,e⟩:=List.mem_map.1 J;simp only[Function.comp_apply]at e
          split at e
          · rename_i hzx
            have:z=x:=nodup_inj E.2 B A hzx;subst this;exact hf.1 e
          · exact F.1 (List.mem_map.2 ⟨z,B,e⟩)
theorem Nds.olds (h:Nds nd fd lo w Q l) (hx:x∈l) (hne:Nat.beq nd fd=false) (m:Md [x.id] w w'):∀z∈l,z.id≠x.id→NdR nd fd lo w' Q z:=fun z hz hi =>
  (h.all z hz).md m ⟨by simpa using hi,by simpa using (h.fne hne hx hz).symm⟩ (by intro b hb;rw[List.mem_singleton]at hb;subst hb;exact(h.all x hx).2.2.1)
/-- A node's own block is written. -/
theorem Nds.setNo (h:Nds nd fd lo w Q l) (hx:x∈l) (hne:Nat.beq nd fd=false) (m:Md [x.id] w w') {g:SNo→SNo} (hb:Blk w' x.id (g x.no).cells nd) (hf:(g x.no).fid=x.no.fid):Nds nd fd lo w' Q (updN l x.id fun z=>{z with no:=g z.no}):=by
  refine h.upd (g:=fun z=>{z with no:=g z.no}) hx rfl ?_ (h.olds hx hne m) (.inl hf);obtain⟨L,⟨J,K,D,E,F⟩,B,G,H,I⟩:=h.all x hx;have C:∀b∈[x.id],¬Q b:=(by intro b hb;rw[List.mem_singleton]at hb;subst hb;exact B);refine⟨hb,⟨J,K,?_,E.md m C,F.md m C⟩,B,?_,H,?_⟩
  · show Blk w' (g x.no).fid _ _;rw[hf];exact D.md m (by simpa using (h.fne hne hx hx).symm)
  · show ¬Q (g x.no).fid;rw[hf];exact G
  · show lo (g x.no).fid;rw[hf];exact I
/-- A node's file is written. -/
theorem Nds.setFl (h:Nds nd fd lo w Q l) (hx:x∈l) (hne:Nat.beq nd fd=false) (m:Md [x.no.fid] w w') {fl:SFl} {v0 v1:Value} (hb:Blk w' x.no.fid (fl.cells v0 v1) fd) (h0:Ls tB8 w' Q v0 fl.b) (h1:Ls tB8 w' Q v1 fl.safe):Nds nd fd lo w' Q (updN l x.id fun z=>{z with fl:=fl}):=by
  obtain⟨D,⟨M,N,J,K,L⟩,E,C,F,G⟩:=h.all x hx;have I:∀b∈[x.no.fid],¬Q b:=(by intro b hb;rw[List.mem_singleton]at hb;subst hb;exact C);refine h.upd (g:=fun z=>{z with fl:=fl}) hx rfl ⟨?_,⟨v0,v1,hb,h0,h1⟩,E,C,F,G⟩ (fun z B H=>?_) (.inl rfl)
  · exact D.md m (by simpa using h.fne hne hx hx)
  · refine(h.all z B).md m ⟨by simpa using h.fne hne B hx,?_⟩ I
    rw[List.mem_singleton];intro e;exact H (congrArg (·.id) (nodup_inj h.fids B hx e))
/-- A node has another file now. -/
theorem Nds.setFile (h:Nds nd fd lo w Q l) (hx:x∈l) (hne:Nat.beq nd fd=false) (m:Md [x.id] w w') {fl:SFl} {v0 v1:Value} {j:Nat} (hb:Blk w' x.id ({x.no with fid:=j}:SNo).cells nd) (hj:Blk w' j (fl.cells v0 v1) fd) (h0:Ls tB8 w' Q v0 fl.b) (h1:Ls tB8 w' Q v1 fl.safe) (hq:¬Q j) (hl:lo j) (hn:j∉ndB l):Nds nd fd lo w' Q (updN l x.id fun z=>{z with no:={z.no with fid:=j},fl:=fl}):=by
  obtain⟨E,_,B,F,C,G⟩:=h.all x hx;exact h.upd (g:=fun z=>{z with no:={z.no with fid:=j},fl:=fl}) hx rfl ⟨hb,⟨v0,v1,hj,h0,h1⟩,B,hq,C,hl⟩ (h.olds hx hne m) (.inr fun D=>hn (List.mem_append.2 (.inr D)))
/-- A node more. -/
theorem Nds.snoc (h:Nds nd fd lo w Q l) {i:Nat} {no:SNo} {fl:SFl} {v0 v1:Value} (hi:Blk w i no.cells nd) (hj:Blk w no.fid (fl.cells v0 v1) fd) (h0:Ls tB8 w Q v0 fl.b) (h1:Ls tB8 w Q v1 fl.safe) (q1:¬Q i) (q2:¬Q no.fid) (l1:lo i) (l2:lo no.fid) (n1:i∉ndB l) (n2:no.fid∉ndB l):Nds nd fd lo w Q (l ++ [⟨i,no,fl⟩]):=by
  refine⟨fun z A=>?_,?_,?_⟩
  · rcases List.mem_append.1 A with A|A
    · exact h.all z A
    · rw[List.mem_singleton]at A;subst A
      exact⟨hi,⟨v0,v1,hj,h0,h1⟩,q1,q2,l1,l2⟩
  · rw[List.map_append,List.nodup_append]
    refine⟨h.ids,by simp,fun a C b B=>?_⟩;simp only[List.map_cons,List.map_nil,List.mem_singleton]at B;subst B;rintro rfl;exact n1 (List.mem_append.2 (.inl C))
  · rw[List.map_append,List.nodup_append]
    refine⟨h.fids,by simp,fun a C b B=>?_⟩;simp only[List.map_cons,List.map_nil,List.mem_singleton]at B;subst B;rintro rfl;exact n2 (List.mem_append.2 (.inr C))
theorem Nds.filter (h:Nds nd fd lo w Q l) (p:SNd→Bool):Nds nd fd lo w Q (l.filter p) :=
  ⟨fun z hz=>h.all z ((List.mem_filter.1 hz).1),h.ids.sublist (List.filter_sublist.map _),h.fids.sublist (List.filter_sublist.map _)⟩
end
/-- The last node's block, and its file's. -/
def lastI (f:SFs):Nat:=(f.nodes.getLast?.map (·.id)).getD 0
def lastJ (f:SFs):Nat:=(f.nodes.getLast?.map (·.no.fid)).getD 0
def makeR (f:SFs) (s:Ly) (i j:Nat):Nat × SFs :=
  if(gtF f.off f.nodes s).2=0 then(17,f)else if(gtF f.off f.nodes s).2≠16 then((gtF f.off f.nodes s).2,f)else if 24≤(totF f.nodes).1 then(15,f)
  else if(burnF f).1≠0 then burnF f else(0,{(burnF f).2 with nodes:=f.nodes ++ [⟨i,⟨s,true,j⟩,⟨[],[]⟩⟩],pend:=f.pend ++ [⟨0,i,[],none⟩]})
theorem make_17 {f:SFs} {s:Ly} {i j c:Nat} {o:Option Nat} (h:gtF f.off f.nodes s=(o,c)) (hc:c=0):makeR f s i j=(17,f):=by unfold makeR;rw[h];rw[if_pos hc]
theorem make_c {f:SFs} {s:Ly} {i j c:Nat} {o:Option Nat} (h:gtF f.off f.nodes s=(o,c)) (hc:c≠0) (h2:c≠16):makeR f s i j=(c,f):=by unfold makeR;rw[h];rw[if_neg hc,if_pos h2]
theorem make_15 {f:SFs} {s:Ly} {i j c a z:Nat} {o:Option Nat} (h:gtF f.off f.nodes s=(o,c)) (hc:c=16) (ht:totF f.nodes=(a,z)) (h2:24≤a):makeR f s i j=(15,f):=by
  subst hc;unfold makeR;rw[h,ht];rw[if_neg (by simp),if_neg (by simp),if_pos h2]
theorem make_b {f m:SFs} {s:Ly} {i j c a z e:Nat} {o:Option Nat} (h:gtF f.off f.nodes s=(o,c)) (hc:c=16) (ht:totF f.nodes=(a,z)) (h2:¬24≤a) (hb:burnF f=(e,m)) (he:e≠0):makeR f s i j=(e,m):=by
  subst hc;unfold makeR;rw[h,ht];rw[if_neg (by simp),if_neg (by simp),if_neg h2,hb];rw[if_pos he]
theorem make_0 {f m:SFs} {s:Ly} {i j c a z e:Nat} {o:Option Nat} (h:gtF f.off f.nodes s=(o,c)) (hc:c=16) (ht:totF f.nodes=(a,z)) (h2:¬24≤a) (hb:burnF f=(e,m)) (he:e=0):makeR f s i j=(0,{m with nodes:=f.nodes ++ [⟨i,⟨s,true,j⟩,⟨[],[]⟩⟩],pend:=f.pend ++ [⟨0,i,[],none⟩]}):=by
  subst hc;unfold makeR;rw[h,ht];rw[if_neg (by simp),if_neg (by simp),if_neg h2,hb];rw[if_neg (by simpa using he)]
theorem burn_same (f:SFs):(burnF f).2.nodes=f.nodes∧(burnF f).2.pend=f.pend∧(burnF f).2.room=f.room:=by
  unfold burnF;split
  · exact⟨rfl,rfl,rfl⟩
  · split <;> exact⟨rfl,rfl,rfl⟩
theorem burn_eq {f m:SFs} {e:Nat} (h:burnF f=(e,m)):m.nodes=f.nodes∧m.pend=f.pend∧m.room=f.room:=by have:=burn_same f;rw[h]at this;exact this
def writeR (f:SFs) (s:Ly) (p:Int) (b:Ly) (j:Nat):Nat × SFs :=
  if(gtF f.off f.nodes s).2≠0 then((gtF f.off f.nodes s).2,f)else match findN f.nodes s with
  | none=>(0,f)
  | some x=>if(wrF x.fl p b).1≠0 then((wrF x.fl p b).1,f)else if x.fl.b.length<(wrF x.fl p b).2.b.length∧f.room<((totF f.nodes).2:Int)+(((wrF x.fl p b).2.b.length:Int)-(x.fl.b.length:Int))then(15,f)
    else if(burnF f).1≠0 then burnF f else(0,{(burnF f).2 with nodes:=updN f.nodes x.id fun z=>{z with no:={z.no with fid:=j},fl:=(wrF x.fl p b).2}})
section
variable {f m:SFs} {s:Ly} {p:Int} {b:Ly} {j c a z e:Nat} {o:Option Nat} {x:SNd} {y:SFl}
theorem write_c (h:gtF f.off f.nodes s=(o,c)) (hc:c≠0):writeR f s p b j=(c,f):=by unfold writeR;rw[h];rw[if_pos hc]
theorem write_w (h:mayF f.off [s]=0∧findN f.nodes s=some x) (hw:wrF x.fl p b=(e,y)) (he:e≠0):writeR f s p b j=(e,f):=by
  unfold writeR;rw[gtF_0 h,h.2];simp only[hw,ne_eq,not_true_eq_false,if_false];rw[if_pos he]
theorem write_15 (h:mayF f.off [s]=0∧findN f.nodes s=some x) (hw:wrF x.fl p b=(e,y)) (he:e=0) (ht:totF f.nodes=(a,z)) (h1:0<(y.b.length:Int)-(x.fl.b.length:Int)) (h2:f.room<(z:Int)+((y.b.length:Int)-(x.fl.b.length:Int))):writeR f s p b j=(15,f):=by
  subst he;unfold writeR;rw[gtF_0 h,h.2,ht];simp only[hw,ne_eq,not_true_eq_false,if_false];rw[if_pos ⟨by omega,h2⟩]
theorem write_b (h:mayF f.off [s]=0∧findN f.nodes s=some x) (hw:wrF x.fl p b=(e,y)) (he:e=0) (ht:totF f.nodes=(a,z)) (h1:¬(0<(y.b.length:Int)-(x.fl.b.length:Int)∧f.room<(z:Int)+((y.b.length:Int)-(x.fl.b.length:Int)))) (hb:burnF f=(c,m)) (hc:c≠0):writeR f s p b j=(c,m):=by
  subst he;unfold writeR;rw[gtF_0 h,h.2,ht,hb];simp only[hw,ne_eq,not_true_eq_false,if_false];rw[if_neg (by omega),if_pos hc]
theorem write_0 (h:mayF f.off [s]=0∧findN f.nodes s=some x) (hw:wrF x.fl p b=(e,y)) (he:e=0) (ht:totF f.nodes=(a,z)) (h1:¬(0<(y.b.length:Int)-(x.fl.b.length:Int)∧f.room<(z:Int)+((y.b.length:Int)-(x.fl.b.length:Int)))) (hb:burnF f=(c,m)) (hc:c=0):writeR f s p b j=(0,{m with nodes:=updN f.nodes x.id fun q=>{q with no:={q.no with fid:=j},fl:=y}}):=by
  subst he;subst hc;unfold writeR;rw[gtF_0 h,h.2,ht,hb];simp only[hw,ne_eq,not_true_eq_false,if_false];rw[if_neg (by omega)]
end
theorem writeF_len (b x:Ly) (p:Nat):(writeF b p x).length=max b.length (p+x.length):=by
  unfold writeF;simp only[List.length_append,List.length_take,List.length_drop,List.length_replicate];omega
theorem wr_len {f y:SFl} {p:Int} {x:Ly} {e:Nat} (h:wrF f p x=(e,y)):y.b.length≤max f.b.length 32768∧y.safe=f.safe:=by
  unfold wrF at h
  split at h
  · cases h;exact⟨Nat.le_max_left _ _,rfl⟩
  · split at h
    · cases h;exact⟨Nat.le_max_left _ _,rfl⟩
    · split at h
      · cases h;exact⟨Nat.le_max_left _ _,rfl⟩
      · cases h
        refine⟨?_,rfl⟩;show(writeF _ _ _).length≤_;rw[writeF_len];omega

theorem elT143:elT Tryz.prog 143 1 8=true:=by kernel_rfl
theorem elT153:elT Tryz.prog 153 4 40=true:=by kernel_rfl
theorem fn74:isFn Tryz.prog 74=true:=by kernel_rfl
theorem fn75:isFn Tryz.prog 75=true:=by kernel_rfl
theorem off97_4:fieldOff Tryz.prog 97 4=some 4:=by kernel_rfl
theorem one95:isOne Tryz.prog 95=true:=by kernel_rfl
theorem pl148:bplace Tryz.prog 148=some [(0,1),(1,1),(2,1)]:=by kernel_rfl
theorem pl153:bplace Tryz.prog 153=some [(0,1),(1,1),(2,1),(3,1)]:=by kernel_rfl
theorem u95:Tryz.prog.underlying 95=some (.slice 153):=by kernel_rfl
theorem z148:zcells Tryz.prog 148=some [.string ByteArray.empty,.bool false,.pointer none]:=by kernel_rfl
theorem z153:zcells Tryz.prog 153=some [.int .i64 0,.pointer none,.string ByteArray.empty,.pointer none]:=by kernel_rfl

theorem fMake_any {w:World} {Q:Nat→Prop} (uQ:Up w Q) {b0:Nat} {v0_0:Value} {v0_1:Value} (f:SFs) (h0:Blk w b0 (SFs.cells f v0_0 v0_1) 97) (n0:¬Q b0) (a0_0:SFs.ok f) (a0_1:Ow tNd 143 (fun _=>True) w Q v0_0 f.nodes) (a0_2:Ow tSCh 153 (fun _=>True) w Q v0_1 f.pend) (hN0:Nds 148 203 (fun _=>True) w Q f.nodes) (s:Ly) (p0:s.length≤1000000) (p1:(totF f.nodes).2≤1000000000000) (p2:f.nodes.length≤1000000) (p3:f.pend.length≤1000000) :
    Calls Tryz.prog 30 #[.pointer (some ⟨b0,0,none⟩),(str s)] w fun en w'=>∃r0:Nat,∃m0:SFs,∃u50_0:Value,∃u50_1:Value,∃Q':Nat→Prop,en = .returned (.int .i64 r0)∧Md (b0 :: (vblock v0_0).toList ++ ((vblock v0_1).toList ++ (ndB f.nodes))) w w'∧NewQ w w' Q Q'∧r0<9223372036854775808∧Blk w' b0 (SFs.cells m0 u50_0 u50_1) 97∧¬Q' b0∧SFs.ok m0∧Ow tNd 143 (Fsh (b0 :: (vblock v0_0).toList ++ ((vblock v0_1).toList ++ (ndB f.nodes))) w) w' Q' u50_0 m0.nodes∧Ow tSCh 153 (Fsh (b0 :: (vblock v0_0).toList ++ ((vblock v0_1).toList ++ (ndB f.nodes))) w) w' Q' u50_1 m0.pend∧Nds 148 203 (Fsh (b0 :: (vblock v0_0).toList ++ ((vblock v0_1).toList ++ (ndB f.nodes))) w) w' Q' m0.nodes∧makeR f s (lastI m0) (lastJ m0)=(r0,m0):=by
  have H:=n0;have Ax:Fsh (b0 :: (vblock v0_0).toList ++ ((vblock v0_1).toList ++ (ndB f.nodes))) w b0:=.inl (by simp);replace a0_1:=a0_1.reP (lo':=Fsh (b0 :: (vblock v0_0).toList ++ ((vblock v0_1).toList ++ (ndB f.nodes))) w) (fun b U=>.inl (by simp[U]));replace a0_2:=a0_2.reP (lo':=Fsh (b0 :: (vblock v0_0).toList ++ ((vblock v0_1).toList ++ (ndB f.nodes))) w) (fun b U=>.inl (by simp[U]));have L:=hN0.reB (lo':=Fsh (b0 :: (vblock v0_0).toList ++ ((vblock v0_1).toList ++ (ndB f.nodes))) w) (fun b U=>.inl (by simp[U]));clear hN0;have M:=Md.refl (b0 :: (vblock v0_0).toList ++ ((vblock v0_1).toList ++ (ndB f.nodes))) w;have Cd:=uQ;have tQ:∀b,Q b→Q b:=fun _ h=>h;have Y:∀b,Q b→b<w.heap.size→Q b:=fun _ h _=>h;refine enter (n:=62) Tryz.func30 rfl rfl rfl ?_;intro B;refine ns ?_;have Be:=L.ltB;refine asg rfl (nt (ns (mv rfl (mv rfl (st_call fn70 rfl (fGet_any uQ f h0 H a0_0 (a0_1.reP (fun _ _=>trivial)) (a0_2.reP (fun _ _=>trivial)) s (by exact L.reP (fun _ _=>trivial)) (by omega)) ?_)))));rintro en w1 ⟨B2,Ao,rfl,F,Bx,Ap⟩;refine⟨_,rfl,?_⟩;replace a0_1:=a0_1.md0 F;replace a0_2:=a0_2.md0 F;replace h0:=h0.md0 F;replace L:=L.md0 F;replace uQ:=uQ.md F;replace M:=M.step0 F;refine mv rfl (se rfl rfl (se rfl rfl (asg rfl (asg rfl (nt (ns (mv rfl (st_call fn73 rfl (fTotal_any uQ f h0 H a0_0 (a0_1.reP (fun _ _=>trivial)) (a0_2.reP (fun _ _=>trivial)) (by exact L.reP (fun _ _=>trivial)) (by omega)) ?_))))))));rintro en w2 ⟨Bi,B3,rfl,F,Bz,B0,A4⟩;refine⟨_,rfl,?_⟩;replace a0_1:=a0_1.md0 F;replace a0_2:=a0_2.md0 F;replace h0:=h0.md0 F;replace L:=L.md0 F;replace uQ:=uQ.md F;replace M:=M.step0 F;refine mv rfl (se rfl rfl (se rfl rfl (asg rfl (asg rfl (nt (c_seq (c_block (ns (mv rfl (st _ (r_eqN (a:=Ao) (b:=0) rfl rfl) (asg rfl ?_)))))))))))
  refine nt ?_;refine c_if rfl (fun Ab=>?_) (fun Ab=>?_)
  · (first|(have g:=dT Ab)|(have g:=dF (bnt Ab))|(have g:=bnt Ab)|(have g:=Ab));refine ns (asg rfl (nt (c_ret (r_block (r_then ?_)))));exact ret1L (v:=(.int .i64 ((17:Nat):Int))) trivial rfl ⟨rfl,tV⟩ ⟨17,f,_,_,Q,rfl,M,⟨Y,tQ,uQ⟩,(by first|assumption|omega|simp_all),h0,H,a0_0,a0_1,a0_2,L,(make_17 Ap (by omega))⟩
  · (first|(have g:=dF Ab)|(have g:=dT (bnf Ab))|(have g:=bnf Ab)|(have g:=Ab));refine ns (mv rfl (st _ (r_neN (a:=Ao) (b:=16) rfl rfl) (asg rfl (nt ?_))));refine c_if rfl (fun Ac=>?_) (fun Ac=>?_)
    · (first|(have j:=dT Ac)|(have j:=dF (bnt Ac))|(have j:=bnt Ac)|(have j:=Ac));refine ns (mv rfl (asg rfl (nt (c_ret (r_block (r_then ?_))))));exact ret1L (v:=(.int .i64 Ao)) trivial rfl ⟨rfl,tV⟩ ⟨Ao,f,_,_,Q,rfl,M,⟨Y,tQ,uQ⟩,(by first|assumption|omega|simp_all),h0,H,a0_0,a0_1,a0_2,L,(make_c Ap (by omega) (by omega))⟩
    · (first|(have j:=dF Ac)|(have j:=dT (bnf Ac))|(have j:=bnf Ac)|(have j:=Ac));refine ns (mv rfl (st _ (r_geN (a:=Bi) (b:=24) rfl rfl) (asg rfl (nt ?_))));refine c_if rfl (fun Ad=>?_) (fun Ad=>?_)
      · (first|(have k:=dT Ad)|(have k:=dF (bnt Ad))|(have k:=bnt Ad)|(have k:=Ad));refine ns (asg rfl (nt (c_ret (r_block (r_then ?_)))));exact ret1L (v:=(.int .i64 ((15:Nat):Int))) trivial rfl ⟨rfl,tV⟩ ⟨15,f,_,_,Q,rfl,M,⟨Y,tQ,uQ⟩,(by first|assumption|omega|simp_all),h0,H,a0_0,a0_1,a0_2,L,(make_15 Ap (by omega) A4 (by omega))⟩
      · (first|(have k:=dF Ad)|(have k:=dT (bnf Ad))|(have k:=bnf Ad)|(have k:=Ad));refine c_skip (n_block (c_then (c_seq (ns (mv rfl (st_call fn74 rfl (fBurn_any uQ f h0 H a0_0 (a0_1.reP (fun _ _=>trivial)) (a0_2.reP (fun _ _=>trivial))) ?_))))));rintro en w3 ⟨Az,W,Av,Ag,Q4,rfl,F,⟨X,V,d⟩,B1,As,Au,o,E,A,A5⟩;refine⟨_,rfl,?_⟩;have hP:∀i∈(b0 :: (vblock v0_0).toList ++ ((vblock v0_1).toList)),Fsh (b0 :: (vblock v0_0).toList ++ ((vblock v0_1).toList ++ (ndB f.nodes))) w i:=(all_cons Ax (all_app (all_row (fun x hx=>(a0_1.2 x hx).1)) (all_row (fun x hx=>(a0_2.2 x hx).1))));have Z:∀i∈(b0 :: (vblock v0_0).toList ++ ((vblock v0_1).toList)),¬Q i:=(all_cons H (all_app (all_row (fun x hx=>(a0_1.2 x hx).2)) (all_row (fun x hx=>(a0_2.2 x hx).2))));have A7:=(L.apF h0 a0_1 a0_2 (by decide) (by decide) (by decide) (by decide) (by decide) (by decide));replace E:=E.reP (fun x hx=>(E.2 x hx).1);replace E:=E.reP (fun x hx=>(E.2 x hx).1.elim (hP x) (Fsh.new M x));replace A:=A.reP (fun x hx=>(A.2 x hx).1);replace A:=A.reP (fun x hx=>(A.2 x hx).1.elim (hP x) (Fsh.new M x));replace L:=L.sub X V;replace tQ:=fun b U=>tQ b (V b U);replace Y:=fun b U hl=>X b (Y b U hl) (lv hl M.size);replace Z:=fun i hi hq=>Z i hi (V i hq);replace L:=L.md F A7 Z;replace M:=M.step F hP;replace uQ:=d;clear d X V;clear hP Z h0 H;have h0:=As;have H:=Au;clear As Au;clear a0_2;clear a0_1;have be:=burn_eq A5;replace L:Nds 148 203 (Fsh (b0 :: (vblock v0_0).toList ++ ((vblock v0_1).toList ++ (ndB f.nodes))) w) w3 Q4 W.nodes:=(by rw[be.1];exact L);refine asg rfl (nt (ns (mv rfl (st _ (r_neN (a:=Az) (b:=0) rfl rfl) (nt ?_)))));refine c_if rfl (fun Ae=>?_) (fun Ae=>?_)
        · (first|(have l:=dT Ae)|(have l:=dF (bnt Ae))|(have l:=bnt Ae)|(have l:=Ae));refine ns (mv rfl (asg rfl (nt (c_ret (r_then ?_)))));exact ret1L (v:=(.int .i64 Az)) trivial rfl ⟨rfl,tV⟩ ⟨Az,W,_,_,Q4,rfl,M,⟨Y,tQ,uQ⟩,(by first|assumption|omega|simp_all),h0,H,o,E,A,L,(make_b Ap (by omega) A4 (by omega) A5 (by omega))⟩
        · (first|(have l:=dF Ae)|(have l:=dT (bnf Ae))|(have l:=bnf Ae)|(have l:=Ae));refine c_skip (c_then (ns (mv rfl (st_call fn75 rfl (sNew_any uQ) ?_))));rintro en w5 ⟨J,Bf,Bg,Ai,Q6,rfl,F,⟨X,V,d⟩,G,S,z,C,D,Bn⟩;refine⟨_,rfl,?_⟩;have A9:b0≠J:=(by have:=h0.lt;omega);have Ay:Fsh [] w J:=Fsh.new M _ z;replace z:=lQ M.size z;replace H:=fun hh=>H (V _ hh);replace L:=L.sub X V;replace E:=E.sub X V;replace A:=A.sub X V;replace tQ:=fun b U=>tQ b (V b U);replace Y:=fun b U hl=>X b (Y b U hl) (lv hl M.size);replace h0:=h0.md0 F;replace L:=L.md0 F;replace E:=E.md0 F;replace A:=A.md0 F;replace uQ:=uQ.md F;replace M:=M.step0 F;replace uQ:=d;clear d X V;refine st _ (r_buildG (us:=[[(str s)],[(.bool true)],[(.pointer (some ⟨J,0,none⟩))]]) (cs:=(SNo.cells (({nm:=s,there:=true,fid:=J}:SNo)))) [(0,0,1),(1,1,1),(2,2,1)] z148 pl148 rfl rfl ⟨rfl,rfl,rfl,tV⟩ ⟨rfl,rfl,rfl,tV⟩ rfl rfl) (st_box (cs:=(SNo.cells (({nm:=s,there:=true,fid:=J}:SNo)))) rfl rfl ?_);intro I w7 Al Bd F P;have Bl:b0≠I:=(by have:=h0.lt;omega);have A3:J≠I:=(by have:=G.lt;omega);obtain⟨Q8,X,V,c,d⟩:=exQ uQ Al Bd F;replace H:=fun hh=>H (V _ hh);replace L:=L.sub X V;replace E:=E.sub X V;replace A:=A.sub X V;replace C:=C.sub X;replace D:=D.sub X;replace S:=fun hh=>S (V _ hh);replace tQ:=fun b U=>tQ b (V b U);replace Y:=fun b U hl=>X b (Y b U hl) (lv hl M.size);replace Al:=lQ M.size Al;replace h0:=h0.md0 F;replace L:=L.md0 F;replace E:=E.md0 F;replace A:=A.md0 F;replace C:=C.md0 F;replace D:=D.md0 F;replace G:=G.md0 F;replace uQ:=uQ.md F;replace M:=M.step0 F;replace uQ:=d;clear d X V;have A0:Fsh [] w I:=.inr Al;refine asg rfl (nt ?_)
          refine ns (mv rfl (mv rfl (sn rfl (sf rfl off97_3 (sl (u:=Av) rfl one94 h0 rfl (mv rfl ?_))))));have ml:W.nodes.length=f.nodes.length:=(by rw[be.1]);have mp:W.pend.length=f.pend.length:=(by rw[be.2.1]);refine st_buildSliceG [[(.pointer (some ⟨I,0,none⟩))]] u94 elT143 (by decide) (by decide) rfl rfl ⟨rfl,tV⟩ ⟨rfl,tV⟩ rfl (by decide) ?_;intro Bt w9 Bb Bv F Aq;have Bj:=uQ _ Bb;replace h0:=h0.md0 F;replace L:=L.md0 F;replace E:=E.md0 F;replace A:=A.md0 F;replace C:=C.md0 F;replace D:=D.md0 F;replace G:=G.md0 F;replace P:=P.md0 F;replace uQ:=uQ.md F;replace M:=M.step0 F;replace Aq:=Ls.of_blk (m:=1) (R:=Q8) (T:=tNd) (xs:=[({id:=I,no:=({nm:=s,there:=true,fid:=J}:SNo),fl:=Ai}:SNd)]) Aq ⟨_,_,rfl,⟨rfl,tV⟩,rfl⟩ rfl (by decide) Bj;refine st_ap (sz:=1) (by rfl) u94 elT143 rfl rfl E Aq (fun _ h _=>h) uQ (Fsh.new M) (by first|omega|(simp<;>omega)|(simp at *<;>omega)) (by first|omega|(simp<;>omega)|(simp at *<;>omega)) ?_;intro Bh Ce Ba X V d K F Z _ A6;have N:=E;clear E;replace H:=fun hh=>H (V _ hh);replace L:=L.sub X V;replace A:=A.sub X V;replace C:=C.sub X;replace D:=D.sub X;replace S:=fun hh=>S (V _ hh);replace c:=fun hh=>c (V _ hh);replace tQ:=fun b U=>tQ b (V b U);replace Y:=fun b U hl=>X b (Y b U hl) (lv hl M.size);replace h0:=h0.md F (apart_ow N h0 (by decide));replace L:=L.md F (L.apO N (by decide) (by decide)) Z;replace A:=A.md F (apart_oo N A (by decide)) Z;replace C:=C.md F Z;replace D:=D.md F Z;replace G:=G.md F (apart_ow N G (by decide));replace P:=P.md F (apart_ow N P (by decide));replace uQ:=uQ.md F;replace M:=M.stepO F (fun b U=>(N.2 b U).1);replace uQ:=d;clear d X V Z A6;refine sn rfl (sf rfl off97_3 (st_store rfl rfl one94 K.oneCell h0 (ly rfl) ?_))
          have Aa:=h0;clear h0;intro Cf F h0;have Z:∀b∈[b0],¬Ba b:=(by intro b U;simp at U;subst U;exact H);replace L:=L.md F (L.ap1 Aa (by decide) (by decide)) Z;replace A:=A.md F (apart_bo Aa A (by decide)) Z;replace C:=C.md F Z;replace D:=D.md F Z;replace G:=G.md F (by intro U;simp at U;omega);replace P:=P.md F (by intro U;simp at U;omega);replace K:=K.md F (apart_bo Aa K (by decide)) Z;replace uQ:=uQ.md F;replace M:=M.step F (all_cons Ax all_nil);clear Aa Z;obtain⟨p,e⟩:∃y,y=({W with nodes:=W.nodes ++ ([({id:=I,no:=({nm:=s,there:=true,fid:=J}:SNo),fl:=Ai}:SNd)])}:SFs):=⟨_,rfl⟩;replace h0:Blk _ _ (SFs.cells ({W with nodes:=W.nodes ++ ([({id:=I,no:=({nm:=s,there:=true,fid:=J}:SNo),fl:=Ai}:SNd)])}) Bh Ag) _:=h0;rw[← e]at h0;have Aw:SFs.ok p:=(by rw[e];exact⟨o.1,o.2⟩);rw[show W.nodes ++ ([({id:=I,no:=({nm:=s,there:=true,fid:=J}:SNo),fl:=Ai}:SNd)])=p.nodes by rw[e]]at K;rw[show W.pend=p.pend by rw[e]]at A;refine nt (ns (mv rfl (mv rfl (sn rfl (sf rfl off97_4 (sl (u:=Ag) rfl one95 h0 rfl (mv rfl (st _ (r_buildG (us:=[[(.int .i64 ((0:Nat):Int))],[(.pointer (some ⟨I,0,none⟩))]]) (cs:=(SCh.cells (({kind:=0,n:=I,old:=[],over:=none}:SCh)))) [(0,0,1),(1,1,1)] z153 pl153 rfl rfl ⟨rfl,rfl,tV⟩ ⟨rfl,rfl,tV⟩ rfl rfl) (st_buildSliceG [(SCh.cells (({kind:=0,n:=I,old:=[],over:=none}:SCh)))] u95 elT153 (by decide) (by decide) rfl rfl ⟨rfl,tV⟩ ⟨rfl,tV⟩ rfl (by decide) ?_)))))))));intro Bu Cg Bc Bw F Ar;have Bk:=uQ _ Bc;replace L:=L.md0 F;replace A:=A.md0 F;replace C:=C.md0 F;replace D:=D.md0 F;replace G:=G.md0 F;replace P:=P.md0 F;replace K:=K.md0 F;replace h0:=h0.md0 F;replace uQ:=uQ.md F;replace M:=M.step0 F;replace Ar:=Ls.of_blk (m:=1) (R:=Ba) (T:=tSCh) (xs:=[({kind:=0,n:=I,old:=[],over:=none}:SCh)]) Ar ⟨_,_,rfl,(tSCh_mk (by first|assumption|exact(show(({kind:=0,n:=I,old:=[],over:=none}:SCh)).kind<9223372036854775808 from(by first|omega|(simp<;>omega)|simp_all)))),rfl⟩ rfl (by decide) Bk
          have Cc:p.pend.length=f.pend.length:=(by rw[e];exact mp);refine st_ap (sz:=4) (by rfl) u95 elT153 rfl rfl A Ar (fun _ h _=>h) uQ (Fsh.new M) (by first|omega|(simp<;>omega)|(simp at *<;>omega)) (by first|omega|(simp<;>omega)|(simp at *<;>omega)) ?_;intro Bq Ch A1 X V d t F Z _ A6;have O:=A;clear A;replace L:=L.sub X V;replace C:=C.sub X;replace D:=D.sub X;replace S:=fun hh=>S (V _ hh);replace c:=fun hh=>c (V _ hh);replace K:=K.sub X V;replace H:=fun hh=>H (V _ hh);replace tQ:=fun b U=>tQ b (V b U);replace Y:=fun b U hl=>X b (Y b U hl) (lv hl M.size);replace L:=L.md F (L.apO O (by decide) (by decide)) Z;replace C:=C.md F Z;replace D:=D.md F Z;replace G:=G.md F (apart_ow O G (by decide));replace P:=P.md F (apart_ow O P (by decide));replace K:=K.md F (apart_oo O K (by decide)) Z;replace h0:=h0.md F (apart_ow O h0 (by decide));replace uQ:=uQ.md F;replace M:=M.stepO F (fun b U=>(O.2 b U).1);replace uQ:=d;clear d X V Z A6;refine sn rfl (sf rfl off97_4 (st_store rfl rfl one95 t.oneCell h0 (ly rfl) ?_));have Aa:=h0;clear h0;intro Br F h0;have Z:∀b∈[b0],¬A1 b:=(by intro b U;simp at U;subst U;exact H);replace L:=L.md F (L.ap1 Aa (by decide) (by decide)) Z;replace C:=C.md F Z;replace D:=D.md F Z;replace G:=G.md F (by intro U;simp at U;omega);replace P:=P.md F (by intro U;simp at U;omega);replace K:=K.md F (apart_bo Aa K (by decide)) Z;replace t:=t.md F (apart_bo Aa t (by decide)) Z;replace uQ:=uQ.md F;replace M:=M.step F (all_cons Ax all_nil);clear Aa Z;obtain⟨Ah,r⟩:∃y,y=({p with pend:=p.pend ++ ([({kind:=0,n:=I,old:=[],over:=none}:SCh)])}:SFs):=⟨_,rfl⟩;replace h0:Blk _ _ (SFs.cells ({p with pend:=p.pend ++ ([({kind:=0,n:=I,old:=[],over:=none}:SCh)])}) Bh Bq) _:=h0
          rw[← r]at h0;have A8:SFs.ok Ah:=(by rw[r];exact⟨Aw.1,Aw.2⟩);rw[show p.nodes=Ah.nodes by rw[r]]at K;rw[show p.pend ++ ([({kind:=0,n:=I,old:=[],over:=none}:SCh)])=Ah.pend by rw[r]]at t;refine st_nil ?_;have nS:Ah.nodes=f.nodes ++ [({id:=I,no:=({nm:=s,there:=true,fid:=J}:SNo),fl:=Ai}:SNd)]:=(by rw[r];show p.nodes=_;rw[e];show _ ++ _=_;rw[be.1])
          replace L:Nds 148 203 (Fsh (b0 :: (vblock v0_0).toList ++ ((vblock v0_1).toList ++ (ndB f.nodes))) w) Br A1 Ah.nodes:=by
            rw[nS];rw[be.1]at L;exact L.snoc P G C D c S (Fsh.wid A0) (Fsh.wid Ay) (fun F=>by have:=Be _ F;omega) (fun F=>by have Bo:J∈ndB f.nodes:=F;have:=Be _ Bo;omega)
          have lI:lastI Ah=I:=(by unfold lastI;rw[nS];simp);have lJ:lastJ Ah=J:=(by unfold lastJ;rw[nS];simp);refine c_then (ns (asg rfl (nt (c_ret ?_))));exact ret1L (v:=(.int .i64 ((0:Nat):Int))) trivial rfl ⟨rfl,tV⟩ ⟨0,Ah,_,_,A1,rfl,M,⟨Y,tQ,uQ⟩,(by first|assumption|omega|simp_all),h0,H,A8,K,t,L,(by rw[lI,lJ,make_0 Ap (by omega) A4 (by omega) A5 (by omega)];rw[r,e];simp[be.1,be.2.1,← Bn])⟩
theorem fn77:isFn Tryz.prog 77=true:=by kernel_rfl
theorem fn78:isFn Tryz.prog 78=true:=by kernel_rfl

set_option maxHeartbeats 4000000 in
theorem fWrite_any {w:World} {Q:Nat→Prop} (uQ:Up w Q) {b0:Nat} {v0_0:Value} {v0_1:Value} (f:SFs) (h0:Blk w b0 (SFs.cells f v0_0 v0_1) 97) (n0:¬Q b0) (a0_0:SFs.ok f) (a0_1:Ow tNd 143 (fun _=>True) w Q v0_0 f.nodes) (a0_2:Ow tSCh 153 (fun _=>True) w Q v0_1 f.pend) (hN0:Nds 148 203 (fun _=>True) w Q f.nodes) (s:Ly) (p:Int) (a2:(-9223372036854775808≤p∧p<9223372036854775808)) {v3:Value} {b:Ly} (h3:Ls tB8 w Q v3 b) (p0:s.length≤1000000) (p1:(totF f.nodes).2≤1000000000000) (p2:f.nodes.length≤1000000) (p3:f.pend.length≤1000000) (p4:∀x∈f.nodes,x.fl.b.length≤1000000) (p5:∀x∈f.nodes,x.fl.safe.length≤1000000) :
    Calls Tryz.prog 34 #[.pointer (some ⟨b0,0,none⟩),(str s),(.int .i64 (p:Int)),v3] w fun en w'=>∃r0:Nat,∃m0:SFs,∃u50_0:Value,∃u50_1:Value,∃Q':Nat→Prop,en = .returned (.int .i64 r0)∧Md (b0 :: (vblock v0_0).toList ++ ((vblock v0_1).toList ++ (ndB f.nodes))) w w'∧NewQ w w' Q Q'∧r0<9223372036854775808∧Blk w' b0 (SFs.cells m0 u50_0 u50_1) 97∧¬Q' b0∧SFs.ok m0∧Ow tNd 143 (Fsh (b0 :: (vblock v0_0).toList ++ ((vblock v0_1).toList ++ (ndB f.nodes))) w) w' Q' u50_0 m0.nodes∧Ow tSCh 153 (Fsh (b0 :: (vblock v0_0).toList ++ ((vblock v0_1).toList ++ (ndB f.nodes))) w) w' Q' u50_1 m0.pend∧Nds 148 203 (Fsh (b0 :: (vblock v0_0).toList ++ ((vblock v0_1).toList ++ (ndB f.nodes))) w) w' Q' m0.nodes∧(∃j,writeR f s p b j=(r0,m0)):=by
  have L3:=h3.len63;have L:=n0;have B6:Fsh (b0 :: (vblock v0_0).toList ++ ((vblock v0_1).toList ++ (ndB f.nodes))) w b0:=.inl (by simp);replace a0_1:=a0_1.reP (lo':=Fsh (b0 :: (vblock v0_0).toList ++ ((vblock v0_1).toList ++ (ndB f.nodes))) w) (fun b R=>.inl (by simp[R]));replace a0_2:=a0_2.reP (lo':=Fsh (b0 :: (vblock v0_0).toList ++ ((vblock v0_1).toList ++ (ndB f.nodes))) w) (fun b R=>.inl (by simp[R]));have P:=hN0.reB (lo':=Fsh (b0 :: (vblock v0_0).toList ++ ((vblock v0_1).toList ++ (ndB f.nodes))) w) (fun b R=>.inl (by simp[R]));clear hN0;have M:=Md.refl (b0 :: (vblock v0_0).toList ++ ((vblock v0_1).toList ++ (ndB f.nodes))) w;have C2:=uQ;have tQ:∀b,Q b→Q b:=fun _ h=>h;have e:∀b,Q b→b<w.heap.size→Q b:=fun _ h _=>h;refine enter (n:=72) Tryz.func34 rfl rfl rfl ?_;intro B;refine ns ?_;have B2:=P.ltB;refine asg rfl (nt (ns (mv rfl (mv rfl (st_call fn70 rfl (fGet_any uQ f h0 L a0_0 (a0_1.reP (fun _ _=>trivial)) (a0_2.reP (fun _ _=>trivial)) s (by exact P.reP (fun _ _=>trivial)) (by omega)) ?_)))));rintro en w1 ⟨Db,Bz,rfl,G,C8,Cj⟩;refine⟨_,rfl,?_⟩;replace a0_1:=a0_1.md0 G;replace a0_2:=a0_2.md0 G;replace h0:=h0.md0 G;replace h3:=h3.md0 G;replace P:=P.md0 G;replace uQ:=uQ.md G;replace M:=M.step0 G;refine mv rfl (se rfl rfl (se rfl rfl (asg rfl (asg rfl (nt (c_seq (ns (mv rfl (st _ (r_neN (a:=Bz) (b:=0) rfl rfl) (nt ?_))))))))));refine c_if rfl (fun Ax=>?_) (fun Ax=>?_)
  · (first|(have u:=dT Ax)|(have u:=dF (bnt Ax))|(have u:=bnt Ax)|(have u:=Ax));refine ns (mv rfl (asg rfl (nt (c_ret (r_then ?_)))));exact ret1L (v:=(.int .i64 Bz)) trivial rfl ⟨rfl,tV⟩ ⟨Bz,f,_,_,Q,rfl,M,⟨e,tQ,uQ⟩,(by first|assumption|omega|simp_all),h0,L,a0_0,a0_1,a0_2,P,⟨0,write_c Cj (by omega)⟩⟩
  · (first|(have u:=dF Ax)|(have u:=dT (bnf Ax))|(have u:=bnf Ax)|(have u:=Ax));refine c_skip (c_then (ns ?_));obtain⟨l,O,Cp,Am⟩:=gtF_some Cj (by omega);subst Cp;have bl:=p4 _ O;have Df:=p5 _ O;refine mv rfl (sn rfl (sf rfl off148_2 ?_));obtain⟨Dh,Di,Cc,Bu,Ch,Ci⟩:=P.file O;refine st _ ((r_loadBlk rfl one146 (P.get O).1 rfl).to (b:=(.pointer (some ⟨l.no.fid,0,none⟩))) rfl) (st_call fn77 rfl (sCopy_any uQ l.fl Cc Bu Ch Ci (by first|omega|(simp<;>omega)|(simp at *<;>omega)) (by first|omega|(simp<;>omega)|(simp at *<;>omega))) ?_);rintro en w4 ⟨K,X,Co,B8,Q5,rfl,G,⟨r,o,Ai⟩,D,H,Aw,N,Bw,Ck⟩;refine⟨_,rfl,?_⟩;have Cg:b0≠K:=(by have:=h0.lt;omega);have B9:l.no.fid≠K:=(by have:=Cc.lt;omega);have Ah:Fsh [] w K:=Fsh.new M _ Aw;replace Aw:=lQ M.size Aw;replace a0_1:=a0_1.sub r o;replace a0_2:=a0_2.sub r o;replace L:=fun hh=>L (o _ hh);replace h3:=h3.sub r;replace P:=P.sub r o;replace tQ:=fun b R=>tQ b (o b R);replace e:=fun b R hl=>r b (e b R hl) (lv hl M.size);replace N:=N.lower (Fsh.lift (S':=[]) M);replace a0_1:=a0_1.md0 G;replace a0_2:=a0_2.md0 G;replace h0:=h0.md0 G;replace h3:=h3.md0 G;replace P:=P.md0 G;replace uQ:=uQ.md G;replace M:=M.step0 G;replace uQ:=Ai;clear Ai r o;have Dg:B8.b.length≤1000000:=(by rw[← Ck];exact bl);refine asg rfl (st_nil ?_);clear Cc Bu Ch Ci;refine c_then (c_seq (ns (mv rfl (mv rfl (mv rfl (st_call fn78 rfl (sWrite_any uQ B8 D H (N.reP (fun _ _=>trivial)) Bw (p) (by omega) h3 (by first|omega|(simp<;>omega)|(simp at *<;>omega))) ?_))))));rintro en w6 ⟨B0,Br,Cm,Cn,Q7,rfl,G,⟨r,o,Ai⟩,C9,Bs,Bt,A,C,Cu⟩;refine⟨_,rfl,?_⟩
    have hP:∀i∈(K :: (vblock X).toList),Fsh [] w i:=(all_cons Ah (all_row (fun x Z=>(N.2 x Z).1)));have g:∀i∈(K :: (vblock X).toList),¬Q5 i:=(all_cons H (all_row (fun x Z=>(N.2 x Z).2)));have A2:∀b,vblock v0_0=some b→b∉(K :: (vblock X).toList):=fun b R=>(nin_cons (a0_1.blk_ne D (by decide) b R) ((apart_oo N a0_1 (by decide)) b R));have A3:∀b,vblock v0_1=some b→b∉(K :: (vblock X).toList):=fun b R=>(nin_cons (a0_2.blk_ne D (by decide) b R) ((apart_oo N a0_2 (by decide)) b R));have Bv:b0∉(K :: (vblock X).toList):=(nin_cons (by omega) (apart_ow N h0 (by decide)));have Ag:=P.apB (S:=(K :: (vblock X).toList)) (fun b R=>nin_cons (by have:=B2 b R;omega) (fun G=>by have h2:=B2 b R;have h3:=(N.2 b (by simpa using G)).1.elim (fun h=>by simp at h) id;omega));replace A:=A.reP (fun x Z=>(A.2 x Z).1);replace A:=A.reP (fun x Z=>(A.2 x Z).1.elim (hP x) (Fsh.new M x));replace a0_1:=a0_1.sub r o;replace a0_2:=a0_2.sub r o;replace L:=fun hh=>L (o _ hh);replace P:=P.sub r o;replace tQ:=fun b R=>tQ b (o b R);replace e:=fun b R hl=>r b (e b R hl) (lv hl M.size);replace g:=fun i hi hq=>g i hi (o i hq);replace a0_1:=a0_1.md G A2 g;clear A2;replace a0_2:=a0_2.md G A3 g;clear A3;replace h0:=h0.md G Bv;clear Bv;replace P:=P.md G Ag g;replace M:=M.step G (fun i hi=>Fsh.wid (hP i hi));replace uQ:=Ai;clear Ai r o;clear hP g D H;have D:=Bs;have H:=Bt;clear Bs Bt;clear N;have fw:=Cu;rw[← Ck]at fw;refine asg rfl (nt (ns (mv rfl (st _ (r_neN (a:=B0) (b:=0) rfl rfl) (nt ?_)))));refine c_if rfl (fun Ay=>?_) (fun Ay=>?_)
    · (first|(have Aa:=dT Ay)|(have Aa:=dF (bnt Ay))|(have Aa:=bnt Ay)|(have Aa:=Ay));refine ns (mv rfl (asg rfl (nt (c_ret (r_then ?_)))));exact ret1L (v:=(.int .i64 B0)) trivial rfl ⟨rfl,tV⟩ ⟨B0,f,_,_,Q7,rfl,M,⟨e,tQ,uQ⟩,(by first|assumption|omega|simp_all),h0,L,a0_0,a0_1,a0_2,P,⟨0,write_w Am fw (by omega)⟩⟩
    · (first|(have Aa:=dF Ay)|(have Aa:=dT (bnf Ay))|(have Aa:=bnf Ay)|(have Aa:=Ay));refine c_skip (c_then (c_seq ?_));obtain⟨Q8,fQ,fT,As⟩:=A.freeze;replace a0_1:=a0_1.subF fQ fT (apart_oo A a0_1 (by decide));replace a0_2:=a0_2.subF fQ fT (apart_oo A a0_2 (by decide));replace L:=fun hh=>(fT _ hh).elim L (nfz (apart_ow A h0 (by decide)));replace P:=P.subF fQ fT (P.apO A (by decide) (by decide));replace H:=fun hh=>(fT _ hh).elim H (nfz (apart_ow A D (by decide)));replace C:=C.sub (fun b R _=>fQ b R);replace tQ:=fun b R=>(fT b R).elim (tQ b) (fun hv=>Fsh.up C2 b (A.2 b hv).1);replace e:=fun b R hl=>fQ b (e b R hl);replace uQ:Up w6 Q8:=fun b R=>fQ b (uQ b R);clear A fQ fT;have A:=As;clear As;have B4:=P;refine c_mixT [(0,true),(2,true),(3,true),(4,true),(5,true),(1,false)] [6,7,8] (fun w'=>Md [] w6 w') mixed (by kernel_rfl) ?_;intro w9 k;refine⟨k.mono (by simp),?_⟩;have MC:=k.mono (T:=[]) (by simp);refine mo rfl (mo rfl (mz (fun w' hc=>r_nil rfl) (mz (fun w' hc=>r_field rfl off148_2) ?_)));obtain⟨C6,C7,Ar,Bb,Al,Ao⟩:=P.file O;refine mz (fun w' hc=>(r_loadBlk rfl one146 ((B4.md0 hc).get O).1 rfl).to (b:=(.pointer (some ⟨l.no.fid,0,none⟩))) rfl) ?_;replace a0_1:=a0_1.md0 k;replace a0_2:=a0_2.md0 k;replace h0:=h0.md0 k;replace P:=P.md0 k;replace D:=D.md0 k;replace A:=A.md0 k;replace C:=C.md0 k;replace Al:=Al.md0 k;replace Ao:=Ao.md0 k;replace Ar:=Ar.md0 k;replace uQ:=uQ.md k;replace M:=M.step0 k;refine m_e ?_ rfl;refine st_call fn76 rfl (sLen_any uQ Br D H A C) ?_;rintro en Dm ⟨A0,rfl,G,Cw,Ad⟩;refine⟨_,rfl,?_⟩;replace a0_1:=a0_1.md0 G;replace a0_2:=a0_2.md0 G
      replace h0:=h0.md0 G;replace P:=P.md0 G;replace D:=D.md0 G;replace A:=A.md0 G;replace C:=C.md0 G;replace Al:=Al.md0 G;replace Ao:=Ao.md0 G;replace Ar:=Ar.md0 G;replace uQ:=uQ.md G;replace M:=M.step0 G;replace MC:=MC.step0 G;refine st_nil ⟨rfl,MC,?_⟩;refine m_nil ?_;clear B4;clear MC;refine st_call fn76 rfl (sLen_any uQ l.fl Ar Bb Al Ao) ?_;rintro en Dn ⟨A1,rfl,G,Cx,Ap⟩;refine⟨_,rfl,?_⟩;replace a0_1:=a0_1.md0 G;replace a0_2:=a0_2.md0 G;replace h0:=h0.md0 G;replace P:=P.md0 G;replace D:=D.md0 G;replace A:=A.md0 G;replace C:=C.md0 G;replace uQ:=uQ.md G;replace M:=M.step0 G;refine st _ (r_subI (a:=((A0:Nat):Int)) (b:=((A1:Nat):Int)) rfl rfl (by omega)) (asg rfl (st_nil ?_));clear Ar Bb Al Ao;refine c_then (c_seq (ns (mv rfl (st_call fn73 rfl (fTotal_any uQ f h0 L a0_0 (a0_1.reP (fun _ _=>trivial)) (a0_2.reP (fun _ _=>trivial)) (by exact P.reP (fun _ _=>trivial)) (by omega)) ?_))));rintro en Do ⟨C5,Bx,rfl,G,Cy,Cz,Aq⟩;refine⟨_,rfl,?_⟩;replace a0_1:=a0_1.md0 G;replace a0_2:=a0_2.md0 G;replace h0:=h0.md0 G;replace P:=P.md0 G;replace D:=D.md0 G;replace A:=A.md0 G;replace C:=C.md0 G;replace uQ:=uQ.md G;replace M:=M.step0 G;have tz:=congrArg Prod.snd Aq;simp only at tz;have yl:=(wr_len fw).1;rw[Ad]at yl;refine mv rfl (se rfl rfl (se rfl rfl (asg rfl (asg rfl (nt (ns (mv rfl (st _ (r_gt (a:=((A0:Nat):Int)-((A1:Nat):Int)) (b:=0) rfl rfl) (mv rfl ?_)))))))));refine part_n (t:=53) rfl (fun U=>?_) (fun U=>?_)
      · (first|(have Ab:=dT U)|(have Ab:=dF (bnt U))|(have Ab:=bnt U)|(have Ab:=U));refine sg U (r_move rfl) (sg U (r_move rfl) (sg U (r_addI (a:=((Bx:Nat):Int)) (b:=(((A0:Nat):Int)-((A1:Nat):Int))) rfl rfl (by omega)) (sg U (r_move rfl) (sg U (r_nil rfl) (sg U (r_field rfl off97_0) (sg U ((r_loadBlk rfl one3 h0 rfl).to (b:=(.int .i64 (f.room:Int))) rfl) ?_))))));have Dk:(-9223372036854775808≤f.room∧f.room<9223372036854775808):=a0_0.1;refine sg U (r_gt (a:=((Bx:Nat):Int)+(((A0:Nat):Int)-((A1:Nat):Int))) (b:=f.room) rfl rfl) (st _ (r_pick_t rfl U rfl) (nt ?_));refine c_if rfl (fun Az=>?_) (fun Az=>?_)
        · (first|(have Ac:=dT Az)|(have Ac:=dF (bnt Az))|(have Ac:=bnt Az)|(have Ac:=Az));refine ns (asg rfl (nt (c_ret (r_then ?_))));exact ret1L (v:=(.int .i64 ((15:Nat):Int))) trivial rfl ⟨rfl,tV⟩ ⟨15,f,_,_,Q8,rfl,M,⟨e,tQ,uQ⟩,(by first|assumption|omega|simp_all),h0,L,a0_0,a0_1,a0_2,P,⟨0,write_15 Am fw (by omega) Aq (by rw[Ad,Ap];omega) (by rw[Ad,Ap];omega)⟩⟩
        · (first|(have Ac:=dF Az)|(have Ac:=dT (bnf Az))|(have Ac:=bnf Az)|(have Ac:=Az));refine c_skip (c_then (c_seq (ns (mv rfl (st_call fn74 rfl (fBurn_any uQ f h0 L a0_0 (a0_1.reP (fun _ _=>trivial)) (a0_2.reP (fun _ _=>trivial))) ?_)))));rintro en C3 ⟨A5,c,Be,Bf,Bk,rfl,G,⟨r,o,Ai⟩,C0,A7,A9,Au,E,I,Bm⟩;refine⟨_,rfl,?_⟩;have hP:∀i∈(b0 :: (vblock v0_0).toList ++ ((vblock v0_1).toList)),Fsh (b0 :: (vblock v0_0).toList ++ ((vblock v0_1).toList ++ (ndB f.nodes))) w i:=(all_cons B6 (all_app (all_row (fun x Z=>(a0_1.2 x Z).1)) (all_row (fun x Z=>(a0_2.2 x Z).1))));have g:∀i∈(b0 :: (vblock v0_0).toList ++ ((vblock v0_1).toList)),¬Q8 i:=(all_cons L (all_app (all_row (fun x Z=>(a0_1.2 x Z).2)) (all_row (fun x Z=>(a0_2.2 x Z).2))));have Ag:=(P.apF h0 a0_1 a0_2 (by decide) (by decide) (by decide) (by decide) (by decide) (by decide));have W:K∉(b0 :: (vblock v0_0).toList ++ ((vblock v0_1).toList)):=(nin_cons (by omega) (nin_app (apart_ow a0_1 D (by decide)) (apart_ow a0_2 D (by decide))));replace E:=E.reP (fun x Z=>(E.2 x Z).1);replace E:=E.reP (fun x Z=>(E.2 x Z).1.elim (hP x) (Fsh.new M x));replace I:=I.reP (fun x Z=>(I.2 x Z).1);replace I:=I.reP (fun x Z=>(I.2 x Z).1.elim (hP x) (Fsh.new M x));replace P:=P.sub r o;replace H:=fun hh=>H (o _ hh);replace A:=A.sub r;replace C:=C.sub r;replace tQ:=fun b R=>tQ b (o b R);replace e:=fun b R hl=>r b (e b R hl) (lv hl M.size);replace g:=fun i hi hq=>g i hi (o i hq);replace P:=P.md G Ag g;replace D:=D.md G W;clear W;replace A:=A.md G g;replace C:=C.md G g;replace M:=M.step G hP;replace uQ:=Ai;clear Ai r o;clear hP g h0 L;have h0:=A7;have L:=A9;clear A7 A9;clear a0_2;clear a0_1;have be:=burn_eq Bm;replace P:Nds 148 203 (Fsh (b0 :: (vblock v0_0).toList ++ ((vblock v0_1).toList ++ (ndB f.nodes))) w) C3 Bk c.nodes:=(by rw[be.1];exact P)
          replace O:l∈c.nodes:=(by rw[be.1];exact O);refine asg rfl (nt (ns (mv rfl (st _ (r_neN (a:=A5) (b:=0) rfl rfl) (nt ?_)))));refine c_if rfl (fun Y=>?_) (fun Y=>?_)
          · (first|(have V:=dT Y)|(have V:=dF (bnt Y))|(have V:=bnt Y)|(have V:=Y));refine ns (mv rfl (asg rfl (nt (c_ret (r_then ?_)))));exact ret1L (v:=(.int .i64 A5)) trivial rfl ⟨rfl,tV⟩ ⟨A5,c,_,_,Bk,rfl,M,⟨e,tQ,uQ⟩,(by first|assumption|omega|simp_all),h0,L,Au,E,I,P,⟨0,write_b Am fw (by omega) Aq (by rw[Ad,Ap];omega) Bm (by omega)⟩⟩
          · (first|(have V:=dF Y)|(have V:=dT (bnf Y))|(have V:=bnf Y)|(have V:=Y));refine c_skip (c_then (ns (mv rfl (mv rfl (sn rfl (sf rfl off148_2 (st_store rfl rfl one146 rfl (P.get O).1 (ly rfl) ?_)))))));intro Cq G R;have Af:=P;clear P;have Ae:=(Af.get O).1;have Bq:=(show K∉ndB c.nodes from fun G=>by rw[be.1]at G;have:=B2 _ G;omega);have g:∀b∈[l.id],¬Bk b:=(by intro b R;rw[List.mem_singleton]at R;subst R;exact(Af.get O).2.2);replace h0:=h0.md G (by rw[List.mem_singleton];exact blk_ne_ty h0 Ae (by decide));replace D:=D.md G (by rw[List.mem_singleton];exact blk_ne_ty D Ae (by decide));replace A:=A.md G g;replace C:=C.md G g;replace E:=E.md G (fun b R=>by rw[List.mem_singleton];exact E.blk_ne Ae (by decide) b R) g;replace I:=I.md G (fun b R=>by rw[List.mem_singleton];exact I.blk_ne Ae (by decide) b R) g;replace uQ:=uQ.md G;replace M:=M.step G (all_cons (Af.all _ O).2.2.2.2.1 all_nil);clear g;have Bo:=Af.setFile (j:=K) O (by decide) G (show Blk _ _ (SNo.cells {l.no with fid:=K}) _ from R) D A C H (Fsh.wid Ah) Bq;clear Af Ae R Bq;clear D H;obtain⟨Bi,Aj⟩:∃y,y=({c with nodes:=updN c.nodes l.id (fun z=>{z with no:={z.no with fid:=K},fl:=Br})}:SFs):=⟨_,rfl⟩;replace h0:Blk Cq b0 (SFs.cells Bi Be Bf) 97:=(by rw[Aj];exact h0);have Ce:SFs.ok Bi:=(by rw[Aj];exact Au);replace E:=ow_ids E (show Bi.nodes.map (·.id)=c.nodes.map (·.id)from by rw[Aj];exact updN_ids (fun _=>rfl));rw[show c.pend=Bi.pend by rw[Aj]]at I;have P:Nds 148 203 (Fsh (b0 :: (vblock v0_0).toList ++ ((vblock v0_1).toList ++ (ndB f.nodes))) w) Cq Bk Bi.nodes:=(by rw[Aj];exact Bo);clear Bo;refine nt (ns (asg rfl (nt (c_ret ?_))));exact ret1L (v:=(.int .i64 ((0:Nat):Int))) trivial rfl ⟨rfl,tV⟩ ⟨0,Bi,_,_,Bk,rfl,M,⟨e,tQ,uQ⟩,(by first|assumption|omega|simp_all),h0,L,Ce,E,I,P,⟨K,(by rw[write_0 Am fw (by omega) Aq (by rw[Ad,Ap];omega) Bm (by omega)];rw[Aj,be.1])⟩⟩
      · (first|(have Ab:=dF U)|(have Ab:=dT (bnf U))|(have Ab:=bnf U)|(have Ab:=U));refine sk U (sk U (sk U (sk U (sk U (sk U (sk U (sk U (st _ (r_pick_f rfl U rfl) (nt (c_if_f rfl rfl (c_skip (c_then (c_seq ?_)))))))))))));refine ns (mv rfl (st_call fn74 rfl (fBurn_any uQ f h0 L a0_0 (a0_1.reP (fun _ _=>trivial)) (a0_2.reP (fun _ _=>trivial))) ?_));rintro en C4 ⟨A6,d,Bg,Bh,Bl,rfl,G,⟨r,o,Ai⟩,C1,A8,Ba,Av,F,J,Bn⟩;refine⟨_,rfl,?_⟩;have hP:∀i∈(b0 :: (vblock v0_0).toList ++ ((vblock v0_1).toList)),Fsh (b0 :: (vblock v0_0).toList ++ ((vblock v0_1).toList ++ (ndB f.nodes))) w i:=(all_cons B6 (all_app (all_row (fun x Z=>(a0_1.2 x Z).1)) (all_row (fun x Z=>(a0_2.2 x Z).1))));have g:∀i∈(b0 :: (vblock v0_0).toList ++ ((vblock v0_1).toList)),¬Q8 i:=(all_cons L (all_app (all_row (fun x Z=>(a0_1.2 x Z).2)) (all_row (fun x Z=>(a0_2.2 x Z).2))));have Ag:=(P.apF h0 a0_1 a0_2 (by decide) (by decide) (by decide) (by decide) (by decide) (by decide));have W:K∉(b0 :: (vblock v0_0).toList ++ ((vblock v0_1).toList)):=(nin_cons (by omega) (nin_app (apart_ow a0_1 D (by decide)) (apart_ow a0_2 D (by decide))));replace F:=F.reP (fun x Z=>(F.2 x Z).1);replace F:=F.reP (fun x Z=>(F.2 x Z).1.elim (hP x) (Fsh.new M x));replace J:=J.reP (fun x Z=>(J.2 x Z).1);replace J:=J.reP (fun x Z=>(J.2 x Z).1.elim (hP x) (Fsh.new M x));replace P:=P.sub r o;replace H:=fun hh=>H (o _ hh);replace A:=A.sub r;replace C:=C.sub r;replace tQ:=fun b R=>tQ b (o b R);replace e:=fun b R hl=>r b (e b R hl) (lv hl M.size);replace g:=fun i hi hq=>g i hi (o i hq);replace P:=P.md G Ag g;replace D:=D.md G W;clear W
        replace A:=A.md G g;replace C:=C.md G g;replace M:=M.step G hP;replace uQ:=Ai;clear Ai r o;clear hP g h0 L;have h0:=A8;have L:=Ba;clear A8 Ba;clear a0_2;clear a0_1;have be:=burn_eq Bn;replace P:Nds 148 203 (Fsh (b0 :: (vblock v0_0).toList ++ ((vblock v0_1).toList ++ (ndB f.nodes))) w) C4 Bl d.nodes:=(by rw[be.1];exact P);replace O:l∈d.nodes:=(by rw[be.1];exact O);refine asg rfl (nt (ns (mv rfl (st _ (r_neN (a:=A6) (b:=0) rfl rfl) (nt ?_)))));refine c_if rfl (fun Y=>?_) (fun Y=>?_)
        · (first|(have V:=dT Y)|(have V:=dF (bnt Y))|(have V:=bnt Y)|(have V:=Y));refine ns (mv rfl (asg rfl (nt (c_ret (r_then ?_)))));exact ret1L (v:=(.int .i64 A6)) trivial rfl ⟨rfl,tV⟩ ⟨A6,d,_,_,Bl,rfl,M,⟨e,tQ,uQ⟩,(by first|assumption|omega|simp_all),h0,L,Av,F,J,P,⟨0,write_b Am fw (by omega) Aq (by rw[Ad,Ap];omega) Bn (by omega)⟩⟩
        · (first|(have V:=dF Y)|(have V:=dT (bnf Y))|(have V:=bnf Y)|(have V:=Y));refine c_skip (c_then (ns (mv rfl (mv rfl (sn rfl (sf rfl off148_2 (st_store rfl rfl one146 rfl (P.get O).1 (ly rfl) ?_)))))));intro Cr G R;have Af:=P;clear P;have Ae:=(Af.get O).1;have Bq:=(show K∉ndB d.nodes from fun G=>by rw[be.1]at G;have:=B2 _ G;omega);have g:∀b∈[l.id],¬Bl b:=(by intro b R;rw[List.mem_singleton]at R;subst R;exact(Af.get O).2.2);replace h0:=h0.md G (by rw[List.mem_singleton];exact blk_ne_ty h0 Ae (by decide));replace D:=D.md G (by rw[List.mem_singleton];exact blk_ne_ty D Ae (by decide));replace A:=A.md G g;replace C:=C.md G g;replace F:=F.md G (fun b R=>by rw[List.mem_singleton];exact F.blk_ne Ae (by decide) b R) g;replace J:=J.md G (fun b R=>by rw[List.mem_singleton];exact J.blk_ne Ae (by decide) b R) g;replace uQ:=uQ.md G;replace M:=M.step G (all_cons (Af.all _ O).2.2.2.2.1 all_nil);clear g;have Bo:=Af.setFile (j:=K) O (by decide) G (show Blk _ _ (SNo.cells {l.no with fid:=K}) _ from R) D A C H (Fsh.wid Ah) Bq;clear Af Ae R Bq;clear D H;obtain⟨Bj,Ak⟩:∃y,y=({d with nodes:=updN d.nodes l.id (fun z=>{z with no:={z.no with fid:=K},fl:=Br})}:SFs):=⟨_,rfl⟩;replace h0:Blk Cr b0 (SFs.cells Bj Bg Bh) 97:=(by rw[Ak];exact h0);have Cf:SFs.ok Bj:=(by rw[Ak];exact Av);replace F:=ow_ids F (show Bj.nodes.map (·.id)=d.nodes.map (·.id)from by rw[Ak];exact updN_ids (fun _=>rfl));rw[show d.pend=Bj.pend by rw[Ak]]at J;have P:Nds 148 203 (Fsh (b0 :: (vblock v0_0).toList ++ ((vblock v0_1).toList ++ (ndB f.nodes))) w) Cr Bl Bj.nodes:=(by rw[Ak];exact Bo);clear Bo;refine nt (ns (asg rfl (nt (c_ret ?_))));exact ret1L (v:=(.int .i64 ((0:Nat):Int))) trivial rfl ⟨rfl,tV⟩ ⟨0,Bj,_,_,Bl,rfl,M,⟨e,tQ,uQ⟩,(by first|assumption|omega|simp_all),h0,L,Cf,F,J,P,⟨K,(by rw[write_0 Am fw (by omega) Aq (by rw[Ad,Ap];omega) Bn (by omega)];rw[Ak,be.1])⟩⟩
end Go.Proofs.YtfadcpfgenjbeaaGreat
namespace Go.Wk
open Go Go.RowKit
section
variable {P:Program} {n:Nat} {A:Fr n} {D:List Deferred} {l:List (Nat × Value)} {w:World} {d:Option Tmp} {ty:TypeId} {ps:String} {af:Array Edge} {g:Option (Nat × Bool)}
end
section
variable {P:Program} {n:Nat} {A:Fr n} {D:List Deferred} {l:List (Nat × Value)} {w:World} {d:Option Tmp} {ty:TypeId} {ps:String} {af:Array Edge} {g:Option (Nat × Bool)}
end
section
variable {P:Program} {n:Nat} {A:Fr n} {D:List Deferred} {l:List (Nat × Value)} {w:World} {d:Option Tmp} {ty:TypeId} {ps:String} {af:Array Edge} {g:Option (Nat × Bool)}
theorem r_neqBool {x y:Operand} {t u:TypeId} {a b:Bool} (hT:P.underlying t=some .bool) (hx:ev n l x=some (.bool a)) (hy:ev n l y=some (.bool b)) :
    RunV P ⟨d,.binOp .neq t x y u,ty,ps,af,g⟩ (over A D l).eval w (.bool (a != b)):=by
  have B:(binOp .neq t (.bool a) (.bool b)).run P w = .ok (.bool (a != b)) w:=by
    simp only[binOp,Op.equal,Op.maxDepth,Sem.run_bind,run_equalIn_bool' w 9999 t a b hT,Result.andThen_ok,Sem.run_pure]
    rfl
  have C:(eqGuard .neq t x y (.bool a) (.bool b)).run P w = .ok () w:=by unfold eqGuard;simp
  simp[RunV,execOp,ev_eval hx,ev_eval hy,C,B]
end
section
variable {P:Program} {ops:Array Oper} {Q:Exit→Act→World→Prop} {rest:List Oper}
variable {n:Nat} {A:Fr n} {D:List Deferred} {l:List (Nat × Value)} {w:World}
variable {d:Tmp} {ty:TypeId} {ps:String} {af:Array Edge}
end
theorem Ow.castL {α:Type} {T:Dt α} {e:TypeId} {lo:Nat→Prop} {w:World} {Q:Nat→Prop} {v:Value} {xs ys:List α} (h:Ow T e lo w Q v xs) (k:xs=ys):Ow T e lo w Q v ys:=k ▸ h
end Go.Wk
namespace Go.Proofs.YtfadcpfgenjbeaaGreat
open Go Go.Wk Go.RowKit
set_option linter.unusedVariables false
set_option linter.unusedSimpArgs false
attribute [local irreducible] wpList wpQuiet wpStill wpMix Code.wp Calls bodyPost

def syncR (f:SFs) (s:Ly):Nat × SFs :=
  if(gtF f.off f.nodes s).2≠0 then((gtF f.off f.nodes s).2,f)else match findN f.nodes s with
  | none=>(0,f)
  | some x=>if(burnF f).1≠0 then burnF f else(0,{(burnF f).2 with nodes:=updN f.nodes x.id fun z=>{z with fl:={b:=x.fl.b,safe:=x.fl.b}}})
def settleF (f:SFs):SFs:={f with nodes:=f.nodes.filter (·.no.there),pend:=[]}
def syncDirR (f:SFs):Nat × SFs:=if f.off=true then(18,f)else if(burnF f).1≠0 then burnF f else(0,settleF (burnF f).2)
section
variable {f m:SFs} {s t:Ly} {c e:Nat} {o:Option Nat} {x y:SNd}
theorem sync_c (h:gtF f.off f.nodes s=(o,c)) (hc:c≠0):syncR f s=(c,f):=by unfold syncR;rw[h];rw[if_pos hc]
theorem sync_b (h:mayF f.off [s]=0∧findN f.nodes s=some x) (hb:burnF f=(c,m)) (hc:c≠0):syncR f s=(c,m):=by
  unfold syncR;rw[gtF_0 h,h.2,hb];simp only[ne_eq,not_true_eq_false,if_false];rw[if_pos hc]
theorem sync_0 (h:mayF f.off [s]=0∧findN f.nodes s=some x) (hb:burnF f=(c,m)) (hc:c=0):syncR f s=(0,{m with nodes:=updN f.nodes x.id fun z=>{z with fl:={b:=x.fl.b,safe:=x.fl.b}}}):=by
  subst hc;unfold syncR;rw[gtF_0 h,h.2,hb];simp only[ne_eq,not_true_eq_false,if_false]
theorem syncDir_off (h:mayF f.off []=c) (hc:c≠0):syncDirR f=(c,f):=by
  subst h;unfold mayF at hc ⊢;unfold syncDirR;by_cases ho:f.off=true
  · rw[if_pos ho,if_pos ho]
  · rw[if_neg ho]at hc;simp at hc
theorem syncDir_b (h:mayF f.off []=c) (hc:c=0) (hb:burnF f=(e,m)) (he:e≠0):syncDirR f=(e,m):=by
  subst h;unfold mayF at hc;unfold syncDirR;by_cases ho:f.off=true
  · rw[if_pos ho]at hc;cases hc
  · rw[if_neg ho,hb];rw[if_pos he]
theorem syncDir_0 (h:mayF f.off []=c) (hc:c=0) (hb:burnF f=(e,m)) (he:e=0):syncDirR f=(0,settleF m):=by
  subst h;unfold mayF at hc;unfold syncDirR;by_cases ho:f.off=true
  · rw[if_pos ho]at hc;cases hc
  · rw[if_neg ho,hb];rw[if_neg (by simpa using he)]
end


theorem fSync_any {w:World} {Q:Nat→Prop} (uQ:Up w Q) {b0:Nat} {v0_0:Value} {v0_1:Value} (f:SFs) (h0:Blk w b0 (SFs.cells f v0_0 v0_1) 97) (n0:¬Q b0) (a0_0:SFs.ok f) (a0_1:Ow tNd 143 (fun _=>True) w Q v0_0 f.nodes) (a0_2:Ow tSCh 153 (fun _=>True) w Q v0_1 f.pend) (hN0:Nds 148 203 (fun _=>True) w Q f.nodes) (s:Ly) (p0:s.length≤1000000) (p1:True) (p2:f.nodes.length≤1000000) (p3:f.pend.length≤1000000) (p4:∀x∈f.nodes,x.fl.b.length≤1000000) :
    Calls Tryz.prog 52 #[.pointer (some ⟨b0,0,none⟩),(str s)] w fun en w'=>∃r0:Nat,∃m0:SFs,∃u50_0:Value,∃u50_1:Value,∃Q':Nat→Prop,en = .returned (.int .i64 r0)∧Md (b0 :: (vblock v0_0).toList ++ ((vblock v0_1).toList ++ (ndB f.nodes))) w w'∧NewQ w w' Q Q'∧r0<9223372036854775808∧Blk w' b0 (SFs.cells m0 u50_0 u50_1) 97∧¬Q' b0∧SFs.ok m0∧Ow tNd 143 (Fsh (b0 :: (vblock v0_0).toList ++ ((vblock v0_1).toList ++ (ndB f.nodes))) w) w' Q' u50_0 m0.nodes∧Ow tSCh 153 (Fsh (b0 :: (vblock v0_0).toList ++ ((vblock v0_1).toList ++ (ndB f.nodes))) w) w' Q' u50_1 m0.pend∧Nds 148 203 (Fsh (b0 :: (vblock v0_0).toList ++ ((vblock v0_1).toList ++ (ndB f.nodes))) w) w' Q' m0.nodes∧syncR f s=(r0,m0):=by
  have F:=n0;have Ag:Fsh (b0 :: (vblock v0_0).toList ++ ((vblock v0_1).toList ++ (ndB f.nodes))) w b0:=.inl (by simp);replace a0_1:=a0_1.reP (lo':=Fsh (b0 :: (vblock v0_0).toList ++ ((vblock v0_1).toList ++ (ndB f.nodes))) w) (fun b L=>.inl (by simp[L]));replace a0_2:=a0_2.reP (lo':=Fsh (b0 :: (vblock v0_0).toList ++ ((vblock v0_1).toList ++ (ndB f.nodes))) w) (fun b L=>.inl (by simp[L]));have K:=hN0.reB (lo':=Fsh (b0 :: (vblock v0_0).toList ++ ((vblock v0_1).toList ++ (ndB f.nodes))) w) (fun b L=>.inl (by simp[L]));clear hN0;have M:=Md.refl (b0 :: (vblock v0_0).toList ++ ((vblock v0_1).toList ++ (ndB f.nodes))) w;have A1:=uQ;have tQ:∀b,Q b→Q b:=fun _ h=>h;have Z:∀b,Q b→b<w.heap.size→Q b:=fun _ h _=>h;refine enter (n:=25) Tryz.func52 rfl rfl rfl ?_;intro B;refine ns ?_;have A0:=K.ltB;refine asg rfl (nt (ns (mv rfl (mv rfl (st_call fn70 rfl (fGet_any uQ f h0 F a0_0 (a0_1.reP (fun _ _=>trivial)) (a0_2.reP (fun _ _=>trivial)) s (by exact K.reP (fun _ _=>trivial)) (by omega)) ?_)))));rintro en w1 ⟨Av,T,rfl,O,Ar,Aa⟩;refine⟨_,rfl,?_⟩;replace a0_1:=a0_1.md0 O;replace a0_2:=a0_2.md0 O;replace h0:=h0.md0 O;replace K:=K.md0 O;replace uQ:=uQ.md O;replace M:=M.step0 O;refine mv rfl (se rfl rfl (se rfl rfl (asg rfl (asg rfl (nt (c_seq (ns (mv rfl (st _ (r_eqN (a:=T) (b:=0) rfl rfl) (nt ?_))))))))));refine c_if rfl (fun J=>?_) (fun J=>?_)
  · (first|(have G:=dT J)|(have G:=dF (bnt J))|(have G:=bnt J)|(have G:=J));refine c_region ?_;obtain⟨S,I,Ah,e⟩:=gtF_some Aa (by omega);subst Ah;have bl:=p4 _ I;refine mv rfl (st_call fn74 rfl (fBurn_any uQ f h0 F a0_0 (a0_1.reP (fun _ _=>trivial)) (a0_2.reP (fun _ _=>trivial))) ?_);rintro en w3 ⟨c,H,X,Y,r,rfl,O,⟨sQ,sT,Aj⟩,As,V,W,N,A,C,j⟩;refine⟨_,rfl,?_⟩;have hP:∀i∈(b0 :: (vblock v0_0).toList ++ ((vblock v0_1).toList)),Fsh (b0 :: (vblock v0_0).toList ++ ((vblock v0_1).toList ++ (ndB f.nodes))) w i:=(all_cons Ag (all_app (all_row (fun x P=>(a0_1.2 x P).1)) (all_row (fun x P=>(a0_2.2 x P).1))));have g:∀i∈(b0 :: (vblock v0_0).toList ++ ((vblock v0_1).toList)),¬Q i:=(all_cons F (all_app (all_row (fun x P=>(a0_1.2 x P).2)) (all_row (fun x P=>(a0_2.2 x P).2))));have o:=(K.apF h0 a0_1 a0_2 (by decide) (by decide) (by decide) (by decide) (by decide) (by decide));replace A:=A.reP (fun x P=>(A.2 x P).1);replace A:=A.reP (fun x P=>(A.2 x P).1.elim (hP x) (Fsh.new M x));replace C:=C.reP (fun x P=>(C.2 x P).1);replace C:=C.reP (fun x P=>(C.2 x P).1.elim (hP x) (Fsh.new M x));replace K:=K.sub sQ sT;replace tQ:=fun b L=>tQ b (sT b L);replace Z:=fun b L hl=>sQ b (Z b L hl) (lv hl M.size);replace g:=fun i hi hq=>g i hi (sT i hq);replace K:=K.md O o g;replace M:=M.step O hP;replace uQ:=Aj;clear Aj sQ sT;clear hP g h0 F;have h0:=V;have F:=W;clear V W;clear a0_1;clear a0_2;have be:=burn_eq j;replace K:Nds 148 203 (Fsh (b0 :: (vblock v0_0).toList ++ ((vblock v0_1).toList ++ (ndB f.nodes))) w) w3 r H.nodes:=(by rw[be.1];exact K);replace I:S∈H.nodes:=(by rw[be.1];exact I);refine asg rfl (nt (c_seq (ns (mv rfl (st _ (r_neN (a:=c) (b:=0) rfl rfl) (nt ?_))))));refine c_if rfl (fun E=>?_) (fun E=>?_)
    · (first|(have D:=dT E)|(have D:=dF (bnt E))|(have D:=bnt E)|(have D:=E));refine ns (mv rfl (asg rfl (nt (c_ret (r_then ?_)))));exact ret1L (v:=(.int .i64 c)) trivial rfl ⟨rfl,tV⟩ ⟨c,H,_,_,r,rfl,M,⟨Z,tQ,uQ⟩,(by first|assumption|omega|simp_all),h0,F,N,A,C,K,(sync_b e j (by omega))⟩
    · (first|(have D:=dF E)|(have D:=dT (bnf E))|(have D:=bnf E)|(have D:=E));refine c_skip (c_then (ns (mv rfl (sn rfl (sf rfl off148_2 ?_)))));obtain⟨Aw,Ax,l,R,t,u⟩:=K.file I;refine st _ ((r_loadBlk rfl one146 (K.get I).1 rfl).to (b:=(.pointer (some ⟨S.no.fid,0,none⟩))) rfl) (st_call fn96 rfl (sSync_any uQ S.fl l R t u (by omega)) ?_);rintro en w6 ⟨m6,u6,z6,rfl,O,L,_,Ac,Ad,Ao⟩;refine⟨_,rfl,?_⟩;subst Ao;have k:=K;clear K;have d:=l;have Ae:=R;clear l R t u;have g:∀b∈[S.no.fid],¬r b:=(by intro b L;rw[List.mem_singleton]at L;subst L;exact Ae);replace h0:=h0.md O (by rw[List.mem_singleton];exact blk_ne_ty h0 d (by decide));replace A:=A.md O (fun b L=>by rw[List.mem_singleton];exact A.blk_ne d (by decide) b L) g;replace C:=C.md O (fun b L=>by rw[List.mem_singleton];exact C.blk_ne d (by decide) b L) g;replace uQ:=uQ.md O;replace M:=M.step O (all_cons (k.all _ I).2.2.2.2.2 all_nil);clear g;have Ab:=k.setFl I (by decide) O L Ac Ad;clear k d L Ae Ac Ad;obtain⟨p,U⟩:∃y,y=({H with nodes:=updN H.nodes S.id (fun z=>{z with fl:={b:=S.fl.b,safe:=S.fl.b}})}:SFs):=⟨_,rfl⟩;replace h0:Blk w6 b0 (SFs.cells p X Y) 97:=(by rw[U];exact h0);have Af:SFs.ok p:=(by rw[U];exact N);replace A:=ow_ids A (show p.nodes.map (·.id)=H.nodes.map (·.id)from by rw[U];exact updN_ids (fun _=>rfl));rw[show H.pend=p.pend by rw[U]]at C;have K:Nds 148 203 (Fsh (b0 :: (vblock v0_0).toList ++ ((vblock v0_1).toList ++ (ndB f.nodes))) w) w6 r p.nodes:=(by rw[U];exact Ab);clear Ab;refine nt (ns (asg rfl (nt (c_ret ?_))));exact ret1L (v:=(.int .i64 ((0:Nat):Int))) trivial rfl ⟨rfl,tV⟩ ⟨0,p,_,_,r,rfl,M,⟨Z,tQ,uQ⟩,(by first|assumption|omega|simp_all),h0,F,Af,A,C,K,(by rw[sync_0 e j (by omega)];rw[U,be.1])⟩
  · (first|(have G:=dF J)|(have G:=dT (bnf J))|(have G:=bnf J)|(have G:=J));refine c_skip (c_then (c_seq (ns (mv rfl (st _ (r_neN (a:=T) (b:=0) rfl rfl) (nt ?_))))));refine c_if rfl (fun E=>?_) (fun E=>?_)
    · (first|(have D:=dT E)|(have D:=dF (bnt E))|(have D:=bnt E)|(have D:=E));refine ns (mv rfl (asg rfl (nt (c_ret (r_then ?_)))));exact ret1L (v:=(.int .i64 T)) trivial rfl ⟨rfl,tV⟩ ⟨T,f,_,_,Q,rfl,M,⟨Z,tQ,uQ⟩,(by first|assumption|omega|simp_all),h0,F,a0_0,a0_1,a0_2,K,(sync_c Aa (by omega))⟩
    · (first|(have D:=dF E)|(have D:=dT (bnf E))|(have D:=bnf E)|(have D:=E));exfalso;omega
theorem fn128:isFn Tryz.prog 128=true:=by kernel_rfl

def NdB (nd:TypeId) (w:World) (l:List SNd):Prop:=∀x∈l,Blk w x.id x.no.cells nd
theorem NdB.get {nd:TypeId} {w:World} {l:List SNd} {x:SNd} (h:NdB nd w l) (hx:x∈l):Blk w x.id x.no.cells nd∧True:=⟨h x hx,tV⟩
theorem NdB.md0 {nd:TypeId} {w w':World} {l:List SNd} (h:NdB nd w l) (m:Md [] w w'):NdB nd w' l:=fun x hx=>(h x hx).md0 m
theorem Nds.ndb {nd fd:TypeId} {lo Q:Nat→Prop} {w:World} {l:List SNd} (h:Nds nd fd lo w Q l):NdB nd w l:=fun x hx=>(h.get hx).1
/-- The first node that is not there. -/
def idxD:List SNd→Nat→Int
  | [],_=>-1
  | x :: r,i=>if x.no.there=true then idxD r (i+1)else((i:Nat):Int)
theorem idxD_end {i:Nat} {l:List SNd} (h:¬i<l.length):idxD (l.drop i) i = -1:=by rw[List.drop_of_length_le (by omega)];rfl
theorem idxD_yes {i:Nat} {x:SNd} {l:List SNd} (h:l[i]? = some x) (hv:¬x.no.there=true):idxD (l.drop i) i=((i:Nat):Int):=by rw[findN_get h,idxD,if_neg hv]
theorem idxD_no {i:Nat} {x:SNd} {l:List SNd} (h:l[i]? = some x) (hv:x.no.there=true):idxD (l.drop i) i=idxD (l.drop (i+1)) (i+1):=by rw[findN_get h,idxD,if_pos hv]
theorem idxD_spec:∀(l:List SNd) (k:Nat) (z:Int),idxD l k=z→(z = -1∧l.filter (·.no.there)=l)∨∃i,z=((k+i:Nat):Int)∧i<l.length∧l.take i ++ (l.drop (i+1)).filter (·.no.there)=l.filter (·.no.there)
  | [],k,z,h=>.inl ⟨h.symm,rfl⟩
  | x :: r,k,z,h=>by
    rw[idxD]at h;by_cases hx:x.no.there=true
    · rw[if_pos hx]at h
      rcases idxD_spec r (k+1) z h with⟨h1,h2⟩|⟨i,h1,h2,h3⟩
      · exact .inl ⟨h1,by rw[List.filter_cons,if_pos hx,h2]⟩
      · refine .inr ⟨i+1,by rw[h1];congr 1;omega,by simpa using h2,?_⟩
        rw[List.filter_cons,if_pos hx,List.take_succ_cons,List.drop_succ_cons,List.cons_append,h3]
    · rw[if_neg hx]at h
      refine .inr ⟨0,by rw[← h];rfl,by simp,?_⟩;rw[List.filter_cons,if_neg hx];simp
def ptr (x:SNd):Value:=.pointer (some ⟨x.id,0,none⟩)
/-- A row of nodes in a block. -/
def RwP (e:TypeId) (w:World) (b cap:Nat) (xs:List SNd):Prop:=∃cur,Blk w b cur e∧cur.length=cap∧xs.length≤cap∧cur.take xs.length=xs.map ptr
section
variable {e:TypeId} {w w':World} {b cap:Nat} {xs:List SNd}
theorem RwP.md {S:List Nat} (h:RwP e w b cap xs) (m:Md S w w') (hs:b∉S):RwP e w' b cap xs:=by
  obtain⟨A,B,C⟩:=h;exact⟨A,B.md m hs,C⟩
theorem RwP.md0 (h:RwP e w b cap xs) (m:Md [] w w'):RwP e w' b cap xs:=h.md m (by simp)
theorem RwP.at_ {i n c:Nat} {x:SNd} (h:RwP e w b cap xs) (hi:xs[i]? = some x):At w (.slice (some ⟨b,0,none⟩) n c) (i*1) [ptr x]:=by
  obtain⟨C,D,F,G,E⟩:=h;refine⟨⟨b,0,none⟩,n,c,rfl,fun j u B=>?_⟩;have A:=(List.getElem?_eq_some_iff.1 hi).1
  cases j with
  | succ j=>simp at B
  | zero =>
    simp at B;subst B;rw[Addr.add_mk,D.cell];have:(xs.map ptr)[i]? = some (ptr x):=(by rw[List.getElem?_map,hi];rfl);rw[← E,List.getElem?_take,if_pos A]at this;simpa using this
theorem RwP.into (h:RwP e w b cap xs) {i:Nat} {z:SNd} (hi:i<xs.length):∃cur,Blk w b cur e∧i<cur.length∧∀w',Blk w' b (cur.set i (ptr z)) e→RwP e w' b cap (xs.set i z):=by
  obtain⟨cur,A,B,C,D⟩:=h;refine⟨cur,A,by omega,fun w' E=>⟨_,E,by simpa using B,by simpa using C,?_⟩⟩;rw[List.length_set,List.take_set,D,List.map_set]
theorem RwP.clear (h:RwP e w b cap xs) {i:Nat} (hi:i≤xs.length):∃cur,Blk w b cur e∧i+(xs.length-i)*1≤cur.length∧∀w' us,us.length=(xs.length-i)*1→Blk w' b (splice cur i us) e→RwP e w' b cap (xs.take i):=by
  obtain⟨cur,A,B,F,C⟩:=h;refine⟨cur,A,by omega,fun w' us E D=>⟨_,D,?_,?_,?_⟩⟩
  · rw[splice_len (by rw[E];omega),B]
  · rw[List.length_take];omega
  · unfold splice
    have G:(cur.take i).length=i:=(by rw[List.length_take];omega);rw[List.length_take,Nat.min_eq_left hi,List.append_assoc,List.take_append_of_le_length (by omega),List.take_of_length_le (by omega),List.map_take,← C,List.take_take,Nat.min_eq_left hi]
theorem Ow.rwp {lo Q:Nat→Prop} {v:Value} (h:Ow tNd e lo w Q v xs) (h0:0<xs.length):∃b cap,v = .slice (some ⟨b,0,none⟩) xs.length cap∧cap≤maxLen∧RwP e w b cap xs∧lo b∧¬Q b:=by
  obtain⟨⟨K,H,C⟩,A⟩:=h;obtain⟨b,cap,B,rfl,I,E,F,G,D⟩:=H.blk h0;obtain⟨rfl,_⟩:=els_one_eq C;have J:tNd.n=1:=rfl;rw[J]at G D;exact⟨b,cap,rfl,F,⟨B,I,by omega,E,by rw[← Nat.mul_one xs.length,D];rfl⟩,(A b rfl).1,(A b rfl).2⟩
theorem RwP.ow {lo Q:Nat→Prop} (h:RwP e w b cap xs) (hc:cap≤maxLen) (hl:lo b) (hq:¬Q b):Ow tNd e lo w Q (.slice (some ⟨b,0,none⟩) xs.length cap) xs:=by
  obtain⟨B,C,G,D,E⟩:=h;refine⟨⟨xs.map ptr,?_,els_one fun _ _=>trivial⟩,fun F A=>by simp[vblock]at A;subst A;exact⟨hl,hq⟩⟩;have:=Own.of_blk (sz:=1) (m:=xs.length) C D hc (by omega);rw[Nat.mul_one,E]at this;exact this
end
theorem take_set_succP {l:List SNd} {j:Nat} {s:SNd} (h:j<l.length):(l.set j s).take (j+1)=l.take j ++ [s]:=by
  rw[List.take_add_one,List.getElem?_set_self h,List.take_set_of_le (Nat.le_refl _)];rfl
theorem subz1_tail {b n cap i:Nat} (h:i<cap):subz 1 (.slice (some ⟨b,0,none⟩) n cap) i n = .slice (some ⟨b,i,none⟩) (n-i) (cap-i):=by
  simp only[subz,Nat.mul_one];rw[if_neg (by omega)];simp[Addr.add_mk]
theorem subz1_head {b n cap j:Nat} (h:0<cap):subz 1 (.slice (some ⟨b,0,none⟩) n cap) 0 j = .slice (some ⟨b,0,none⟩) j cap:=by
  simp only[subz];rw[if_neg (by omega)];simp[Addr.add_mk]

theorem fGone_any {w:World} {Q:Nat→Prop} (uQ:Up w Q) (x:SNd) (p0:Blk w x.id x.no.cells 148) :
    Calls Tryz.prog 128 #[(.pointer (some ⟨x.id,0,none⟩))] w fun en w'=>∃r0:Bool,en = .returned (.bool r0)∧Md [] w w'∧(!x.no.there)=r0:=by
  have C:NdB 148 w [x]:=fun y A=>by rw[List.mem_singleton]at A;subst A;exact p0
  have M:=Md.refl [] w;have D:=uQ;refine enter (n:=8) Tryz.func128 rfl rfl rfl ?_;intro B;refine ns (asg rfl (nt (ns (mv rfl (sn rfl (sf rfl off148_1 (st _ ((r_loadBlk rfl one4 (C.get (List.mem_singleton.2 rfl)).1 rfl).to (b:=(.bool x.no.there)) rfl) (st _ (r_not rfl) (asg rfl (nt (c_ret ?_)))))))))));exact ret1L (v:=(.bool (!x.no.there))) trivial rfl ⟨rfl,tV⟩ ⟨!x.no.there,rfl,M,rfl⟩
theorem fIdxF_any {w:World} {Q:Nat→Prop} (uQ:Up w Q) {v0:Value} {l:List SNd} (h0:Ls tNd w Q v0 l) (p0:NdB 148 w l) :
    Calls Tryz.prog 172 #[v0,.func (.func 128) #[] #[]] w fun en w'=>∃r0:Int,en = .returned (.int .i64 (r0:Int))∧Md [] w w'∧(-9223372036854775808≤r0∧r0<9223372036854775808)∧idxD l 0=r0:=by
  have Y:=h0.len63;have K:=p0;have M:=Md.refl [] w;have X:=uQ;have R:∀b,Q b→Q b:=fun _ h=>h;have J:∀b,Q b→b<w.heap.size→Q b:=fun _ h _=>h;refine enter (n:=19) Tryz.func172 rfl rfl rfl ?_;intro B;refine ns (asg rfl (nt (c_seq (ns (mv rfl (sL rfl u94 h0.shp (mv rfl (nt (c_block ?_)))))))));obtain⟨r0,E⟩:∃r,idxD l 0=r:=⟨_,rfl⟩;have F:=E
  try simp only[List.nil_append]at E
  refine loop1 (fun(i:Nat)=>[(8,(.int .i64 i)),(0,v0),(1,(.func (.func 128) #[] #[])),(7,(.int .i64 l.length))]) (fun(i:Nat) w'=>∃Q':Nat→Prop,(∀b,Q' b→Q b)∧(∀b,Q b→b<w.heap.size→Q' b)∧Up w' Q'∧Md [] w w'∧Ls tNd w' Q' v0 l∧NdB 148 w' l∧i≤l.length∧idxD (l.drop i) i=r0) (fun(i:Nat)=>l.length-i) (x0:=0) ?_ ?_ ?_
  · exact⟨rfl,rfl,rfl,rfl,tV⟩
  · exact⟨Q,R,J,uQ,M,h0,K,(by omega),(by have N:=E;first|exact N|exact F|(simp only[List.nil_append]at N;exact N))⟩
  · clear M uQ R J h0 K
    rintro i B c ⟨W,R,J,uQ,M,h0,K,U,L⟩;refine ns (st _ (r_ltN (a:=i) (b:=l.length) rfl rfl) (nt (c_seq ?_)));refine c_if rfl (fun G=>?_) (fun G=>?_)
    · (first|(have D:=dT G)|(have D:=dF (bnt G))|(have D:=bnt G)|(have D:=G));refine c_skip (c_then (c_seq (c_block (ns (mv rfl (asg rfl (nt (ns (mv rfl (mv rfl (mv rfl (st _ (r_indexN (i:=i) 1 rfl rfl u94 el143 h0.shp (by omega)) ?_))))))))))));obtain⟨T,I⟩:=getE (l:=l) (i:=i) (by first|omega|(simp<;>omega));obtain⟨Z,S,H⟩:=h0.get I;obtain⟨rfl,_⟩:=S;replace H:At _ v0 (i*1) [(.pointer (some ⟨T.id,0,none⟩))]:=H;refine st _ ((r_loadE (kk:=i*1) 0 rfl rfl one143 H rfl).to (b:=(.pointer (some ⟨T.id,0,none⟩))) rfl) (st_callV (cs:=[]) rfl fn128 rfl (fGone_any uQ T (K _ (List.mem_of_getElem? I))) ?_);rintro en d ⟨V,rfl,P,O⟩;refine⟨_,rfl,?_⟩;replace h0:=h0.md0 P;replace K:=K.md0 P;replace uQ:=uQ.md P;replace M:=M.step0 P;refine st_nil ?_;clear H;refine c_then ?_;refine c_if rfl (fun A=>?_) (fun A=>?_)
      · (first|(have C:=dT A)|(have C:=dF (bnt A))|(have C:=bnt A)|(have C:=A));refine ns (mv rfl (asg rfl (nt (c_ret (r_block (r_then (r_then (r_block (r_then ?_)))))))));exact ret1L (v:=(.int .i64 (((i:Nat):Int):Int))) trivial rfl ⟨rfl,tV⟩ ⟨((i:Nat):Int),rfl,M,(by first|assumption|omega|simp_all),(by have e:=F.trans (L.symm.trans (idxD_yes I (by rw[← O]at A;simpa using A)));exact e)⟩
      · (first|(have C:=dF A)|(have C:=dT (bnf A))|(have C:=bnf A)|(have C:=A));refine c_skip (n_block (c_then (c_region (st _ (r_addN (a:=i) (b:=1) 9223372036854775808 rfl rfl rfl (by omega)) (mv rfl (nt ?_))))));refine next1 (x0:=(i+1)) (by omega) ⟨(fitI rfl (by omega)),rfl,rfl,rfl,tV⟩ ⟨W,R,J,uQ,M,h0,K,(by omega),(by have N:=L;rw[idxD_no I (by rw[← O]at A;simpa using A)]at N;exact N)⟩
    · (first|(have D:=dF G)|(have D:=dT (bnf G))|(have D:=bnf G)|(have D:=G));refine c_exit (x_then (x_then (x_hit (c_then (ns (asg rfl (nt (c_ret ?_))))))));exact ret1L (v:=(.int .i64 ((-1):Int))) trivial rfl ⟨rfl,tV⟩ ⟨(-1),rfl,M,(by first|assumption|omega|simp_all),(by have e:=F.trans (L.symm.trans (idxD_end (by omega)));exact e)⟩
theorem fn172:isFn Tryz.prog 172=true:=by kernel_rfl
theorem z143:zcells Tryz.prog 143=some [.pointer none]:=by kernel_rfl

theorem fDelete_any {w:World} {Q lo lo2:Nat→Prop} {v:Value} {l:List SNd} (h0:Ow tNd 143 lo w Q v l) (hN:Nds 148 203 lo2 w Q l) :
    Calls Tryz.prog 127 #[v,.func (.func 128) #[] #[]] w fun en w'=>∃v',en = .returned v'∧Md (vblock v).toList w w'∧(∀b,vblock v'=some b→vblock v=some b)∧Ow tNd 143 lo w' Q v' (l.filter (·.no.there)):=by
  have L:=h0.read.len63;have D:=hN.ndb;have S:∀b,vblock v=some b→∀x∈l,x.id≠b:=fun b D x X h=>hN.ninO h0 (by decide) (by decide) b D (mem_ndB.2 ⟨x,X,.inl h⟩);clear hN;have uT:Up w (fun _=>True):=fun _ _=>trivial;refine enter (n:=42) Tryz.func127 rfl rfl rfl ?_;intro B;refine ns (asg rfl (nt (ns (mv rfl (mv rfl (st_call fn172 rfl (fIdxF_any uT (h0.ls (Q':=fun _=>True) (fun _ _=>trivial) (fun _ _=>trivial)) D) ?_))))));rintro en w1 ⟨z,rfl,E,hz,hF⟩;refine⟨_,rfl,?_⟩;replace h0:=h0.md0 E;replace D:=D.md0 E;have M:Md (vblock v).toList w w1:=E.mono (by simp);clear E uT;refine asg rfl (nt (c_seq (ns (mv rfl (st _ (r_eq (a:=z) (b:=(-1)) rfl rfl) (nt ?_))))));have sp:=idxD_spec l 0 z hF;refine c_if rfl (fun J=>?_) (fun J=>?_)
  · have G:=dT J
    refine ns (mv rfl (asg rfl (nt (c_ret (r_then ?_)))));rcases sp with⟨_,e⟩|⟨i,h,_⟩
    · exact ret1 trivial rfl rfl ⟨_,rfl,M,fun b h=>h,by rw[e];exact h0⟩
    · exfalso;omega
  · have G:=dF J
    rcases sp with⟨h,_⟩|⟨i0,hz0,Ak,U⟩
    · exact absurd h G
    rw[Nat.zero_add]at hz0;subst hz0;obtain⟨b,F,rfl,hc,C,f,hQ⟩:=Ow.rwp h0 (by omega);clear h0 hF J G hz;replace S:=S b rfl;have W:l.length≤F:=(by obtain⟨_,_,_,h,_⟩:=C;exact h);have V:Shp (.slice (some ⟨b,0,none⟩) l.length F) l.length:=⟨_,_,rfl,W,hc,by simp⟩;replace M:Md [b] w w1:=M;refine c_skip (c_then (c_seq (ns (mv rfl (st _ (r_addN (a:=i0) (b:=1) 9223372036854775808 rfl rfl rfl (by omega)) (asg rfl (nt (c_block ?_))))))))
    refine loop3 (fun(I:List SNd) (i:Nat) (j:Nat)=>[(5,(.int .i64 i)),(6,(.int .i64 j)),(0,.slice (some ⟨b,0,none⟩) l.length F),(1,.func (.func 128) #[] #[])])
      (fun(I:List SNd) (i:Nat) (j:Nat) w'=>Md [b] w w'∧NdB 148 w' l∧RwP 143 w' b F I∧I.length=l.length∧i<j∧j≤l.length∧(∀q,j≤q→I[q]? = l[q]?)∧I.take i ++ (l.drop j).filter (·.no.there)=l.filter (·.no.there))
      (fun(I:List SNd) (i:Nat) (j:Nat)=>l.length-j) (x0:=l) (x1:=i0) (x2:=i0+1) ?_ ?_ ?_
    · exact⟨rfl,rfl,rfl,rfl,tV⟩
    · exact⟨M,D,C,rfl,by omega,by omega,fun _ _=>rfl,U⟩
    · clear M D C U
      rintro I i j B w2 ⟨M,D,C,d,Al,hj,k,P⟩;refine c_seq (ns (mv rfl (mv rfl (sL rfl u94 V (st _ (r_ltN (a:=j) (b:=l.length) rfl rfl) (nt ?_))))));refine c_if rfl (fun R=>?_) (fun R=>?_)
      · have O:=dT R
        obtain⟨x,X⟩:=getE (l:=l) (i:=j) O;have hx':I[j]? = some x:=(k j (Nat.le_refl _)).trans X;have t:=List.mem_of_getElem? X;rw[findN_get X,List.filter_cons]at P;refine c_skip (c_then (c_seq (c_block (ns (mv rfl (mv rfl (st _ (r_indexN (i:=j) 1 rfl rfl u94 el143 V (by omega)) (st _ ((r_loadE (kk:=j*1) 0 rfl rfl one143 (C.at_ hx') rfl).to (b:=ptr x) rfl) (asg rfl (nt (ns (mv rfl (mv rfl ?_)))))))))))));refine st_callV (cs:=[]) rfl fn128 rfl (fGone_any (w:=w2) (Q:=fun _=>True) (fun _ _=>trivial) x (D x t)) ?_;rintro en w3 ⟨g,rfl,E,hg⟩;refine⟨_,rfl,?_⟩;replace M:=M.step0 E;replace D:=D.md0 E;replace C:=C.md0 E;clear E;refine st _ (r_not rfl) (nt ?_);refine c_if rfl (fun H=>?_) (fun H=>?_)
        · have T:x.no.there=true:=by rw[← hg]at H;simpa using H
          rw[if_pos T]at P;refine ns (mv rfl (mv rfl (mv rfl (st _ ((r_indexN (i:=i) 1 rfl rfl u94 el143 V (by omega)).to (b:=.pointer (some ⟨b,i,none⟩)) (by simp[elemp,Addr.add_mk])) ?_))));obtain⟨Z,Y,N,A⟩:=C.into (i:=i) (z:=x) (by omega);refine st_store (b:=b) (j:=i) rfl rfl one143 rfl Y N ?_;intro w4 E K;replace C:=A _ K;replace D:NdB 148 w4 l:=fun y hy=>(D y hy).md E (by rw[List.mem_singleton];exact S y hy);replace M:=M.step1' E (by simp);clear E Y K A;refine nt (c_region (mv rfl (st _ (r_addN (a:=i) (b:=1) 9223372036854775808 rfl rfl rfl (by omega)) (asg rfl (st_nil (n_block (c_then (c_region (mv rfl (st _ (r_addN (a:=j) (b:=1) 9223372036854775808 rfl rfl rfl (by omega)) (asg rfl (nt ?_))))))))))));refine next3 (x0:=I.set i x) (x1:=i+1) (x2:=j+1) (by omega) ⟨(fitI rfl (by omega)),(fitI rfl (by omega)),rfl,rfl,tV⟩ ⟨M,D,C,by simpa using d,by omega,by omega,fun q p=>by rw[List.getElem?_set_ne (by omega)];exact k q (by omega),?_⟩;rw[take_set_succP (by omega),List.append_assoc];exact P
        · have T:¬x.no.there=true:=by rw[← hg]at H;simpa using H
          rw[if_neg T]at P;refine c_skip (n_block (c_then (c_region (mv rfl (st _ (r_addN (a:=j) (b:=1) 9223372036854775808 rfl rfl rfl (by omega)) (asg rfl (nt ?_)))))));exact next3 (x0:=I) (x1:=i) (x2:=j+1) (by omega) ⟨rfl,(fitI rfl (by omega)),rfl,rfl,tV⟩ ⟨M,D,C,d,by omega,by omega,fun q p=>k q (by omega),P⟩
      · have O:=dF R
        rw[List.drop_of_length_le (by omega),List.filter_nil,List.append_nil]at P;refine c_exit (x_then (x_then (x_hit (c_then (ns (mv rfl (mv rfl (st _ (RunV.to (b:=.slice (some ⟨b,i,none⟩) (l.length-i) (F-i)) (by exact r_sliceZ 1 i l.length u94 el143 rfl V (by omega) (by omega) ⟨_,rfl⟩ rfl) (subz1_tail (by omega))) ?_))))))));obtain⟨Z,Y,N,A⟩:=C.clear (i:=i) (by omega);rw[d]at N A;refine st_clear (o:=i) (m:=l.length-i) u94 z143 (by intro u hu;simp at hu;subst hu;rfl) rfl (by omega) Y N ?_;intro w6 us E r K;replace C:=A _ us r K;rw[P]at C;replace M:=M.step1' E (by simp);refine nt (ns (mv rfl (mv rfl (st _ (RunV.to (b:=.slice (some ⟨b,0,none⟩) i F) (by exact r_sliceZ 1 0 i u94 el143 rfl V (by omega) (by omega) rfl ⟨_,rfl⟩) (subz1_head (by omega))) (asg rfl (nt (c_ret ?_)))))))
        repeat (first|refine r_then ?_|refine r_block ?_)
        have c:i=(l.filter (·.no.there)).length:=(by rw[← P,List.length_take];omega);refine ret1 trivial rfl rfl ⟨_,rfl,M,fun b' h=>by simpa [vblock]using h,?_⟩;rw[c];exact C.ow hc f hQ

theorem fn127:isFn Tryz.prog 127=true:=by kernel_rfl
theorem fn80:isFn Tryz.prog 80=true:=by kernel_rfl

theorem fSettle_any {w:World} {Q:Nat→Prop} (uQ:Up w Q) {b0:Nat} {v0_0:Value} {v0_1:Value} (f:SFs) (h0:Blk w b0 (SFs.cells f v0_0 v0_1) 97) (n0:¬Q b0) (a0_0:SFs.ok f) (a0_1:Ow tNd 143 (fun _=>True) w Q v0_0 f.nodes) (a0_2:Ow tSCh 153 (fun _=>True) w Q v0_1 f.pend) (hN0:Nds 148 203 (fun _=>True) w Q f.nodes) :
    Calls Tryz.prog 80 #[.pointer (some ⟨b0,0,none⟩)] w fun en w'=>∃m0:SFs,∃u50_0:Value,∃u50_1:Value,∃Q':Nat→Prop,en = .returned (.tuple #[])∧Md (b0 :: (vblock v0_0).toList ++ ((vblock v0_1).toList ++ (ndB f.nodes))) w w'∧NewQ w w' Q Q'∧Blk w' b0 (SFs.cells m0 u50_0 u50_1) 97∧¬Q' b0∧SFs.ok m0∧Ow tNd 143 (Fsh (b0 :: (vblock v0_0).toList ++ ((vblock v0_1).toList ++ (ndB f.nodes))) w) w' Q' u50_0 m0.nodes∧Ow tSCh 153 (Fsh (b0 :: (vblock v0_0).toList ++ ((vblock v0_1).toList ++ (ndB f.nodes))) w) w' Q' u50_1 m0.pend∧Nds 148 203 (Fsh (b0 :: (vblock v0_0).toList ++ ((vblock v0_1).toList ++ (ndB f.nodes))) w) w' Q' m0.nodes∧settleF f=m0:=by
  have K:=n0;have P:Fsh (b0 :: (vblock v0_0).toList ++ ((vblock v0_1).toList ++ (ndB f.nodes))) w b0:=.inl (by simp);replace a0_1:=a0_1.reP (lo':=Fsh (b0 :: (vblock v0_0).toList ++ ((vblock v0_1).toList ++ (ndB f.nodes))) w) (fun b I=>.inl (by simp[I]));have D:=hN0.reB (lo':=Fsh (b0 :: (vblock v0_0).toList ++ ((vblock v0_1).toList ++ (ndB f.nodes))) w) (fun b I=>.inl (by simp[I]));clear hN0;have M:=Md.refl (b0 :: (vblock v0_0).toList ++ ((vblock v0_1).toList ++ (ndB f.nodes))) w;have W:=uQ;have V:∀b,Q b→Q b:=fun _ h=>h;have T:∀b,Q b→b<w.heap.size→Q b:=fun _ h _=>h;refine enter (n:=13) Tryz.func80 rfl rfl rfl ?_;intro B;refine ns (mv rfl (sn rfl (sf rfl off97_4 (st_store rfl rfl one95 rfl h0 (ly rfl) ?_))));have C:=h0;clear h0;intro Y E h0;have L:∀b∈[b0],¬Q b:=(by intro b I;simp at I;subst I;exact K);replace a0_1:=a0_1.md E (apart_bo C a0_1 (by decide)) L;replace D:=D.md E (D.ap1 C (by decide) (by decide)) L;replace uQ:=uQ.md E;replace M:=M.step E (all_cons P all_nil);clear C L;obtain⟨N,F⟩:∃y,y=({f with pend:=[]}:SFs):=⟨_,rfl⟩;replace h0:Blk _ _ (SFs.cells ({f with pend:=[]}) v0_0 (.slice none 0 0)) _:=h0;rw[← F]at h0;have O:SFs.ok N:=(by rw[F];exact⟨a0_0.1,a0_0.2⟩);replace D:Nds 148 203 (Fsh (b0 :: (vblock v0_0).toList ++ ((vblock v0_1).toList ++ (ndB f.nodes))) w) Y Q N.nodes:=(by rw[F];exact D);replace a0_1:=a0_1.castL (show f.nodes=N.nodes by rw[F]);refine nt (c_region (mv rfl (mv rfl (sn rfl (sf rfl off97_3 (sl (u:=v0_0) rfl one94 h0 rfl ?_))))));have L:∀b∈(vblock v0_0).toList,¬Q b:=fun b I=>(a0_1.2 b (by simpa using I)).2;refine st_call fn127 rfl (fDelete_any a0_1 D) ?_;rintro en a ⟨X,rfl,E,U,J⟩;refine⟨_,rfl,?_⟩;have A:=a0_1;replace a0_1:=J;clear J;replace D:=D.md E (D.apO A (by decide) (by decide)) L
  replace h0:=h0.md E (apart_ow A h0 (by decide));replace uQ:=uQ.md E;replace M:=M.stepO E (fun b I=>(A.2 b I).1);clear A L;have H:=a0_1;clear a0_1;refine sn rfl (sf rfl off97_3 (st_store rfl rfl one94 H.oneCell h0 (ly rfl) ?_));have C:=h0;clear h0;intro Z E h0;have L:∀b∈[b0],¬Q b:=(by intro b I;simp at I;subst I;exact K);replace D:=D.md E (D.ap1 C (by decide) (by decide)) L;replace H:=H.md E (apart_bo C H (by decide)) L;replace uQ:=uQ.md E;replace M:=M.step E (all_cons P all_nil);clear C L;obtain⟨S,G⟩:∃y,y=({N with nodes:=(N.nodes.filter (·.no.there))}:SFs):=⟨_,rfl⟩;replace h0:Blk _ _ (SFs.cells ({N with nodes:=(N.nodes.filter (·.no.there))}) X (.slice none 0 0)) _:=h0;rw[← G]at h0;have R:SFs.ok S:=(by rw[G];exact⟨O.1,O.2⟩);rw[show(N.nodes.filter (·.no.there))=S.nodes by rw[G]]at H;refine st_nil ?_;replace D:Nds 148 203 (Fsh (b0 :: (vblock v0_0).toList ++ ((vblock v0_1).toList ++ (ndB f.nodes))) w) Z Q S.nodes:=(by rw[G];exact D.filter _);exact retL (vs:=[]) trivial rfl trivial rfl ⟨S,_,_,Q,rfl,M,⟨T,V,uQ⟩,h0,K,R,H,(by first|exact Ow.nil _ _ _ _ _|(simp only[F,G];exact Ow.nil _ _ _ _ _)),D,(by rw[G];show settleF f=({N with nodes:=_}:SFs);rw[F];rfl)⟩
theorem fSyncDir_any {w:World} {Q:Nat→Prop} (uQ:Up w Q) {b0:Nat} {v0_0:Value} {v0_1:Value} (f:SFs) (h0:Blk w b0 (SFs.cells f v0_0 v0_1) 97) (n0:¬Q b0) (a0_0:SFs.ok f) (a0_1:Ow tNd 143 (fun _=>True) w Q v0_0 f.nodes) (a0_2:Ow tSCh 153 (fun _=>True) w Q v0_1 f.pend) (hN0:Nds 148 203 (fun _=>True) w Q f.nodes) :
    Calls Tryz.prog 36 #[.pointer (some ⟨b0,0,none⟩)] w fun en w'=>∃r0:Nat,∃m0:SFs,∃u50_0:Value,∃u50_1:Value,∃Q':Nat→Prop,en = .returned (.int .i64 r0)∧Md (b0 :: (vblock v0_0).toList ++ ((vblock v0_1).toList ++ (ndB f.nodes))) w w'∧NewQ w w' Q Q'∧r0<9223372036854775808∧Blk w' b0 (SFs.cells m0 u50_0 u50_1) 97∧¬Q' b0∧SFs.ok m0∧Ow tNd 143 (Fsh (b0 :: (vblock v0_0).toList ++ ((vblock v0_1).toList ++ (ndB f.nodes))) w) w' Q' u50_0 m0.nodes∧Ow tSCh 153 (Fsh (b0 :: (vblock v0_0).toList ++ ((vblock v0_1).toList ++ (ndB f.nodes))) w) w' Q' u50_1 m0.pend∧Nds 148 203 (Fsh (b0 :: (vblock v0_0).toList ++ ((vblock v0_1).toList ++ (ndB f.nodes))) w) w' Q' m0.nodes∧syncDirR f=(r0,m0):=by
  have H:=n0;have l:Fsh (b0 :: (vblock v0_0).toList ++ ((vblock v0_1).toList ++ (ndB f.nodes))) w b0:=.inl (by simp);replace a0_1:=a0_1.reP (lo':=Fsh (b0 :: (vblock v0_0).toList ++ ((vblock v0_1).toList ++ (ndB f.nodes))) w) (fun b T=>.inl (by simp[T]));replace a0_2:=a0_2.reP (lo':=Fsh (b0 :: (vblock v0_0).toList ++ ((vblock v0_1).toList ++ (ndB f.nodes))) w) (fun b T=>.inl (by simp[T]));have J:=hN0.reB (lo':=Fsh (b0 :: (vblock v0_0).toList ++ ((vblock v0_1).toList ++ (ndB f.nodes))) w) (fun b T=>.inl (by simp[T]));clear hN0;have M:=Md.refl (b0 :: (vblock v0_0).toList ++ ((vblock v0_1).toList ++ (ndB f.nodes))) w;have Ao:=uQ;have u:∀b,Q b→Q b:=fun _ h=>h;have R:∀b,Q b→b<w.heap.size→Q b:=fun _ h _=>h;refine enter (n:=15) Tryz.func36 rfl rfl rfl ?_;intro B;refine ns (asg rfl (nt (ns (mv rfl (st_call fn79 rfl (fMay_any uQ f h0 H a0_0 (a0_1.reP (fun _ _=>trivial)) (a0_2.reP (fun _ _=>trivial)) (Ls.nil tStr _ _) (by intro q hq;cases hq)) ?_)))));rintro en w1 ⟨S,rfl,U,Aj,p⟩;refine⟨_,rfl,?_⟩;replace a0_1:=a0_1.md0 U;replace a0_2:=a0_2.md0 U;replace h0:=h0.md0 U;replace J:=J.md0 U;replace uQ:=uQ.md U;replace M:=M.step0 U;refine asg rfl (nt (c_seq (ns (mv rfl (st _ (r_eqN (a:=S) (b:=0) rfl rfl) (nt ?_))))));refine c_if rfl (fun g=>?_) (fun g=>?_)
  · (first|(have P:=dT g)|(have P:=dF (bnt g))|(have P:=bnt g)|(have P:=g));refine c_region (mv rfl (st_call fn74 rfl (fBurn_any uQ f h0 H a0_0 (a0_1.reP (fun _ _=>trivial)) (a0_2.reP (fun _ _=>trivial))) ?_));rintro en w2 ⟨d,K,N,O,Q3,rfl,U,⟨y,o,c⟩,Ak,V,X,L,A,C,r⟩;refine⟨_,rfl,?_⟩;have e:∀i∈(b0 :: (vblock v0_0).toList ++ ((vblock v0_1).toList)),Fsh (b0 :: (vblock v0_0).toList ++ ((vblock v0_1).toList ++ (ndB f.nodes))) w i:=(all_cons l (all_app (all_row (fun x I=>(a0_1.2 x I).1)) (all_row (fun x I=>(a0_2.2 x I).1))));have k:∀i∈(b0 :: (vblock v0_0).toList ++ ((vblock v0_1).toList)),¬Q i:=(all_cons H (all_app (all_row (fun x I=>(a0_1.2 x I).2)) (all_row (fun x I=>(a0_2.2 x I).2))));have t:=(J.apF h0 a0_1 a0_2 (by decide) (by decide) (by decide) (by decide) (by decide) (by decide));replace A:=A.reP (fun x I=>(A.2 x I).1);replace A:=A.reP (fun x I=>(A.2 x I).1.elim (e x) (Fsh.new M x));replace C:=C.reP (fun x I=>(C.2 x I).1);replace C:=C.reP (fun x I=>(C.2 x I).1.elim (e x) (Fsh.new M x));replace J:=J.sub y o;replace u:=fun b T=>u b (o b T);replace R:=fun b T hl=>y b (R b T hl) (lv hl M.size);replace k:=fun i hi hq=>k i hi (o i hq);replace J:=J.md U t k;replace M:=M.step U e;replace uQ:=c;clear c y o;clear e k h0 H;have h0:=V;have H:=X;clear V X;clear a0_2;clear a0_1;have be:=burn_eq r;replace J:Nds 148 203 (Fsh (b0 :: (vblock v0_0).toList ++ ((vblock v0_1).toList ++ (ndB f.nodes))) w) w2 Q3 K.nodes:=(by rw[be.1];exact J);refine asg rfl (nt (c_seq (ns (mv rfl (st _ (r_neN (a:=d) (b:=0) rfl rfl) (nt ?_))))));refine c_if rfl (fun G=>?_) (fun G=>?_)
    · (first|(have D:=dT G)|(have D:=dF (bnt G))|(have D:=bnt G)|(have D:=G));refine ns (mv rfl (asg rfl (nt (c_ret (r_then ?_)))));exact ret1L (v:=(.int .i64 d)) trivial rfl ⟨rfl,tV⟩ ⟨d,K,_,_,Q3,rfl,M,⟨R,u,uQ⟩,(by first|assumption|omega|simp_all),h0,H,L,A,C,J,(syncDir_b p (by omega) r (by omega))⟩
    · (first|(have D:=dF G)|(have D:=dT (bnf G))|(have D:=bnf G)|(have D:=G));refine c_skip (c_then (ns (mv rfl (st_call fn80 rfl (fSettle_any uQ K h0 H L (A.reP (fun _ _=>trivial)) (C.reP (fun _ _=>trivial)) (J.reP (fun _ _=>trivial))) ?_))));rintro en w4 ⟨Ac,Ad,Ae,Q5,rfl,U,⟨y,o,c⟩,W,Y,Z,E,F,j,Ag⟩;refine⟨_,rfl,?_⟩;have e:∀i∈(b0 :: (vblock N).toList ++ ((vblock O).toList ++ (ndB K.nodes))),Fsh (b0 :: (vblock v0_0).toList ++ ((vblock v0_1).toList ++ (ndB f.nodes))) w i:=(all_cons l (all_app (all_row (fun x I=>(A.2 x I).1)) (all_app (all_row (fun x I=>(C.2 x I).1)) (fun x I=>J.loB x I))));have k:∀i∈(b0 :: (vblock N).toList ++ ((vblock O).toList ++ (ndB K.nodes))),¬Q3 i:=(all_cons H (all_app (all_row (fun x I=>(A.2 x I).2)) (all_app (all_row (fun x I=>(C.2 x I).2)) (fun x I=>J.nQB x I))));have z:=e;have M9:=M;replace E:=E.reP (fun x I=>(E.2 x I).1);replace E:=E.reP (fun x I=>(E.2 x I).1.elim (e x) (Fsh.new M x));replace F:=F.reP (fun x I=>(F.2 x I).1);replace F:=F.reP (fun x I=>(F.2 x I).1.elim (e x) (Fsh.new M x));replace u:=fun b T=>u b (o b T);replace R:=fun b T hl=>y b (R b T hl) (lv hl M.size);replace k:=fun i hi hq=>k i hi (o i hq);replace M:=M.step U e;replace uQ:=c;clear c y o;clear e k h0 H;have h0:=W;have H:=Y;clear W Y;replace j:=j.reP (fun x I=>I.elim (z x) (Fsh.new M9 x));clear A;clear J;clear C;have J:=j;clear j z M9;refine nt (ns (asg rfl (nt (c_ret ?_))));exact ret1L (v:=(.int .i64 ((0:Nat):Int))) trivial rfl ⟨rfl,tV⟩ ⟨0,Ac,_,_,Q5,rfl,M,⟨R,u,uQ⟩,(by first|assumption|omega|simp_all),h0,H,Z,E,F,J,(by rw[syncDir_0 p (by omega) r (by omega),Ag])⟩
  · (first|(have P:=dF g)|(have P:=dT (bnf g))|(have P:=bnf g)|(have P:=g));refine c_skip (c_then (c_seq (ns (mv rfl (st _ (r_neN (a:=S) (b:=0) rfl rfl) (nt ?_))))));refine c_if rfl (fun G=>?_) (fun G=>?_)
    · (first|(have D:=dT G)|(have D:=dF (bnt G))|(have D:=bnt G)|(have D:=G));refine ns (mv rfl (asg rfl (nt (c_ret (r_then ?_)))));exact ret1L (v:=(.int .i64 S)) trivial rfl ⟨rfl,tV⟩ ⟨S,f,_,_,Q,rfl,M,⟨R,u,uQ⟩,(by first|assumption|omega|simp_all),h0,H,a0_0,a0_1,a0_2,J,(syncDir_off p (by omega))⟩
    · (first|(have D:=dF G)|(have D:=dT (bnf G))|(have D:=bnf G)|(have D:=G));exfalso;omega
theorem pl97:bplace Tryz.prog 97=some [(0,1),(1,1),(2,1),(3,1),(4,1)]:=by kernel_rfl
theorem z97:zcells Tryz.prog 97=some [.int .i64 0,.int .i64 0,.bool false,.slice none 0 0,.slice none 0 0]:=by kernel_rfl

theorem fNew_any {w:World} {Q:Nat→Prop} (uQ:Up w Q) (r:Int) (a0:(-9223372036854775808≤r∧r<9223372036854775808)) (p0:4096≤r) (p1:r≤1048576) :
    Calls Tryz.prog 11 #[(.int .i64 (r:Int))] w fun en w'=>∃o0:Nat,∃u0_0:Value,∃u0_1:Value,∃r0:SFs,∃r1:Nat,∃Q':Nat→Prop,en = .returned (.tuple #[.pointer (some ⟨o0,0,none⟩),(.int .i64 r1)])∧Md [] w w'∧NewQ w w' Q Q'∧Blk w' o0 (SFs.cells r0 u0_0 u0_1) 97∧¬Q' o0∧w.heap.size≤o0∧SFs.ok r0∧Ow tNd 143 (Fsh [] w) w' Q' u0_0 r0.nodes∧Ow tSCh 153 (Fsh [] w) w' Q' u0_1 r0.pend∧r1<9223372036854775808∧(({room:=r,fuse:=-1,off:=false,nodes:=[],pend:=[]}:SFs),(0:Nat))=(r0,r1):=by
  have M:=Md.refl [] w;have V:=uQ;have P:∀b,Q b→Q b:=fun _ h=>h;have I:∀b,Q b→b<w.heap.size→Q b:=fun _ h _=>h;refine enter (n:=13) Tryz.func11 rfl rfl rfl ?_;intro B;refine ns (asg rfl (asg rfl (nt (c_seq (ns (mv rfl (st _ (r_lt (a:=r) (b:=4096) rfl rfl) (mv rfl ?_))))))));refine part_n (t:=6) rfl (fun E=>?_) (fun E=>?_)
  · (first|(have A:=dT E)|(have A:=dF (bnt E))|(have A:=bnt E)|(have A:=E));exfalso;omega
  · (first|(have A:=dF E)|(have A:=dT (bnf E))|(have A:=bnf E)|(have A:=E));refine sg E (r_move rfl) (sg E (r_gt (a:=r) (b:=1048576) rfl rfl) (st _ (r_pick_f rfl E rfl) (nt ?_)));refine c_if rfl (fun F=>?_) (fun F=>?_)
    · (first|(have C:=dT F)|(have C:=dF (bnt F))|(have C:=bnt F)|(have C:=F));exfalso;omega
    · (first|(have C:=dF F)|(have C:=dT (bnf F))|(have C:=bnf F)|(have C:=F));refine c_skip (c_then (ns (mv rfl (st _ (r_buildG (us:=[[(.int .i64 (r:Int))],[(.int .i64 ((-1):Int))]]) (cs:=(SFs.cells (({room:=r,fuse:=(-1),off:=false,nodes:=[],pend:=[]}:SFs)) (.slice none 0 0) (.slice none 0 0))) [(0,0,1),(1,1,1)] z97 pl97 rfl rfl ⟨rfl,rfl,tV⟩ ⟨rfl,rfl,tV⟩ rfl rfl) (st_box (cs:=(SFs.cells (({room:=r,fuse:=(-1),off:=false,nodes:=[],pend:=[]}:SFs)) (.slice none 0 0) (.slice none 0 0))) rfl rfl ?_)))));intro H W D K O J;obtain⟨U,S,T,G,L⟩:=exQ uQ D K O;replace P:=fun b N=>P b (T b N);replace I:=fun b N R=>S b (I b N R) (lv R M.size);replace D:=lQ M.size D;replace uQ:=uQ.md O;replace M:=M.step0 O;replace uQ:=L;clear L S T;refine asg rfl (asg rfl (nt (c_ret ?_)));exact retL (vs:=[(.pointer (some ⟨H,0,none⟩)),(.int .i64 ((0:Nat):Int))]) trivial rfl ⟨rfl,rfl,tV⟩ rfl ⟨H,_,_,(({room:=r,fuse:=(-1),off:=false,nodes:=[],pend:=[]}:SFs)),0,U,rfl,M,⟨I,P,uQ⟩,J,G,D,(by first|assumption|exact⟨(by first|omega|(simp<;>omega)|simp_all),(by first|omega|(simp<;>omega)|simp_all)⟩),(by first|exact Ow.nil _ _ _ _ _|(simp only[];exact Ow.nil _ _ _ _ _)),(by first|exact Ow.nil _ _ _ _ _|(simp only[];exact Ow.nil _ _ _ _ _)),(by first|assumption|omega|simp_all),rfl⟩
theorem off153_0:fieldOff Tryz.prog 153 0=some 0:=by kernel_rfl
theorem off153_1:fieldOff Tryz.prog 153 1=some 1:=by kernel_rfl
theorem off153_2:fieldOff Tryz.prog 153 2=some 2:=by kernel_rfl
theorem off153_3:fieldOff Tryz.prog 153 3=some 3:=by kernel_rfl

/-- A change, taken back. -/
def undoN (l:List SNd) (c:SCh):List SNd :=
  if c.kind=0 then updN l c.n fun z=>{z with no:={z.no with there:=false}}
  else if c.kind=1 then(match c.over with
    | none=>updN l c.n fun z=>{z with no:={z.no with nm:=c.old}}
    | some o=>updN (updN l c.n fun z=>{z with no:={z.no with nm:=c.old}}) o fun z=>{z with no:={z.no with there:=true}})
  else updN l c.n fun z=>{z with no:={z.no with there:=true}}
def undoL:List SNd→List SCh→List SNd
  | l,[]=>l
  | l,c :: r=>undoL (undoN l c) r
theorem undoN_ids (l:List SNd) (c:SCh):(undoN l c).map (·.id)=l.map (·.id):=by
  unfold undoN
  split
  · exact updN_ids fun _=>rfl
  · split
    · split
      · exact updN_ids fun _=>rfl
      · rw[updN_ids,updN_ids] <;> (intro _;rfl)
    · exact updN_ids fun _=>rfl
theorem undoL_ids:∀(r:List SCh) (l:List SNd),(undoL l r).map (·.id)=l.map (·.id)
  | [],_=>rfl
  | c :: r,l=>(undoL_ids r (undoN l c)).trans (undoN_ids l c)
/-- What becomes of the files. -/
def crashG:List SNd→List Bool→List SNd
  | [],_=>[]
  | z :: r,k =>
    let n:=min (dirF z.fl.b z.fl.safe (secN z.fl.b z.fl.safe)).length k.length
    {z with fl:={b:=crashB z.fl.b z.fl.safe (k.take n),safe:=crashB z.fl.b z.fl.safe (k.take n)}} :: crashG r (k.drop n)
theorem crashG_ids:∀(l:List SNd) (k:List Bool),(crashG l k).map (·.id)=l.map (·.id)
  | [],_=>rfl
  | z :: r,k=>by rw[crashG];simp only[List.map_cons];rw[crashG_ids r]
def crashR (f:SFs) (keep:List Bool) (dirs:Int):SFs :=
  {f with nodes:=crashG ((undoL f.nodes (f.pend.drop dirs.toNat).reverse).filter (·.no.there)) keep,pend:=[],off:=false,fuse:=-1}
theorem updN_at {l:List SNd} {i:Nat} {z:SNd} {g:SNd→SNd} (hn:(l.map (·.id)).Nodup) (h:l[i]? = some z):updN l z.id g=l.set i (g z):=by
  have G:=List.mem_of_getElem? h
  apply List.ext_getElem?;intro j;unfold updN;rw[List.getElem?_map,List.getElem?_set];obtain⟨B,D⟩:=List.getElem?_eq_some_iff.1 h;by_cases hij:i=j
  · subst hij
    rw[if_pos rfl,h];simp[B]
  · rw[if_neg hij]
    cases hj:l[j]? with
    | none=>rfl
    | some y =>
      simp only[Option.map_some];rw[if_neg];intro e;obtain⟨A,E⟩:=List.getElem?_eq_some_iff.1 hj;have F:(l.map (·.id))[i]'(by simpa using B)=(l.map (·.id))[j]'(by simpa using A):=(by simp[D,E,e]);rcases Nat.lt_or_gt_of_ne hij with C|C
      · exact List.pairwise_iff_getElem.1 hn i j (by simpa using B) (by simpa using A) C F
      · exact List.pairwise_iff_getElem.1 hn j i (by simpa using A) (by simpa using B) C F.symm
theorem ids_mem {l l':List SNd} (h:l'.map (·.id)=l.map (·.id)) {b:Nat} (hb:b∈l.map (·.id)):b∈l'.map (·.id):=by rw[h];exact hb
theorem undo_step {l:List SCh} {i:Int} {d:Int} {c:SCh} (h:l[i.toNat]? = some c) (h0:0≤i) (hd:d≤i):((l.take (i+1).toNat).drop d.toNat).reverse=c :: ((l.take (i-1+1).toNat).drop d.toNat).reverse:=by
  have A:=(List.getElem?_eq_some_iff.1 h).1;rw[show(i+1).toNat=i.toNat+1 by omega,show(i-1+1).toNat=i.toNat by omega,List.take_add_one,h,Option.toList_some,List.drop_append_of_le_length (by rw[List.length_take];omega),List.reverse_append]
  rfl
theorem undo_end {l:List SCh} {i d:Int} (h:i<0∨i<d) (h1:i<(l.length:Int)):((l.take (i+1).toNat).drop d.toNat).reverse=[]:=by
  rw[List.drop_of_length_le (by rw[List.length_take];omega)];rfl
theorem updN_all {P:SNd→Prop} {l:List SNd} {i:Nat} {g:SNd→SNd} (h:∀z∈l,P z) (hg:∀z,P z→P (g z)):∀z∈updN l i g,P z:=by
  intro z A;rcases mem_updN A with⟨x,B,_,rfl⟩|⟨A,_⟩
  · exact hg _ (h x B)
  · exact h z A
theorem undo_fl {l:List SNd} {c:SCh} (h:∀z∈l,z.fl.b.length≤1000000∧z.fl.safe.length≤1000000):∀z∈undoN l c,z.fl.b.length≤1000000∧z.fl.safe.length≤1000000:=by
  unfold undoN
  split
  · exact updN_all h fun _ h=>h
  · split
    · split
      · exact updN_all h fun _ h=>h
      · exact updN_all (updN_all h fun _ h=>h) fun _ h=>h
    · exact updN_all h fun _ h=>h
theorem crash_step {l:List SNd} {j n:Nat} {z y:SNd} {k:List Bool} {R:List SNd} (h:l[j]? = some z) (hn:n=min (dirF z.fl.b z.fl.safe (secN z.fl.b z.fl.safe)).length k.length) (hy:y={z with fl:={b:=crashB z.fl.b z.fl.safe (k.take n),safe:=crashB z.fl.b z.fl.safe (k.take n)}})
    (hI:l.take j ++ crashG (l.drop j) k=R):(l.set j y).take (j+1) ++ crashG ((l.set j y).drop (j+1)) (k.drop n)=R:=by
  have A:=(List.getElem?_eq_some_iff.1 h).1;rw[take_set_succP A,List.drop_set_of_lt (by omega),← hI,findN_get h,crashG];rw[← hn,← hy,List.append_assoc]
  rfl

theorem fUndo_any {w:World} {Q:Nat→Prop} (uQ:Up w Q) {l:List SNd} (c:SCh) (a0_0:SCh.ok c) (p0:c.n∈l.map (·.id)) (p1:∀o,c.over=some o→o∈l.map (·.id)) (p2:Nds 148 203 (fun _=>True) w Q l) :
    Calls Tryz.prog 81 #[.agg (SCh.cells c).toArray] w fun en w'=>en = .returned (.tuple #[])∧Md (ndB l) w w'∧(Nds 148 203 (Fsh (ndB l) w) w' Q (undoN l c)):=by
  obtain⟨k,n,o,L⟩:=c;simp only at p0 p1;obtain⟨x,P,p⟩:=List.mem_map.1 p0;subst p;have E:=p2.reB (lo':=Fsh (ndB l) w) (fun b O=>.inl O);clear p2 p0;have M:=Md.refl (ndB l) w;have Ab:=uQ;refine enter (n:=29) Tryz.func81 rfl rfl rfl ?_;intro B;refine ns (st_box (cs:=(SCh.cells (({kind:=k,n:=x.id,old:=o,over:=L}:SCh)))) rfl rfl ?_);intro i w1 U Aa N I;have e:=uQ _ U;replace U:=lQ M.size U;replace E:=E.md0 N;replace M:=M.step0 N;refine nt (ns (sf rfl off153_0 (st _ ((r_loadBlk rfl one3 I rfl).to (b:=(.int .i64 (((({kind:=k,n:=x.id,old:=o,over:=L}:SCh)).kind:Nat):Int))) rfl) ?_)));have q2:(({kind:=k,n:=x.id,old:=o,over:=L}:SCh)).kind<9223372036854775808:=a0_0;refine nt (c_block (ns (st _ (r_eqN (a:=((({kind:=k,n:=x.id,old:=o,over:=L}:SCh)).kind)) (b:=0) rfl rfl) (asg rfl (nt ?_)))));refine c_if rfl (fun S=>?_) (fun S=>?_)
  · (first|(have G:=dT S)|(have G:=dF (bnt S))|(have G:=bnt S)|(have G:=S));refine c_region (sf rfl off153_1 (sl (u:=(.pointer (some ⟨(({kind:=k,n:=x.id,old:=o,over:=L}:SCh)).n,0,none⟩))) rfl one143 I rfl (sn rfl (sf rfl off148_1 (st_store rfl rfl one4 rfl (E.get P).1 (ly rfl) ?_)))));intro w3 N O;have A:=E;clear E;have K:=(A.get P).1;replace M:=M.step N (all_cons (A.all _ P).2.2.2.2.1 all_nil);have H:=A.setNo P (by decide) N (g:=fun z=>{z with there:=false}) (show Blk _ _ (SNo.cells {x.no with there:=false}) _ from O) rfl;clear A K O;obtain⟨t,el4⟩:∃y,y=updN l x.id (fun z=>{z with no:={z.no with there:=false}}):=⟨_,rfl⟩;have E:Nds 148 203 (Fsh (ndB l) w) w3 Q t:=(by rw[el4];exact H);clear H;refine st_nil (n_block ?_);exact retL (vs:=[]) trivial rfl trivial rfl ⟨rfl,M,(by unfold undoN;simp only[if_pos G];rw[el4]at E;exact E)⟩
  · (first|(have G:=dF S)|(have G:=dT (bnf S))|(have G:=bnf S)|(have G:=S));refine ns (st _ (r_eqN (a:=((({kind:=k,n:=x.id,old:=o,over:=L}:SCh)).kind)) (b:=1) rfl rfl) (asg rfl (nt ?_)));refine c_if rfl (fun J=>?_) (fun J=>?_)
    · (first|(have C:=dT J)|(have C:=dF (bnt J))|(have C:=bnt J)|(have C:=J));refine ns (sf rfl off153_1 (sl (u:=(.pointer (some ⟨(({kind:=k,n:=x.id,old:=o,over:=L}:SCh)).n,0,none⟩))) rfl one143 I rfl (sf rfl off153_2 (sl (u:=(str ((({kind:=k,n:=x.id,old:=o,over:=L}:SCh)).old))) rfl one9 I rfl (sn rfl (sf rfl off148_0 (st_store rfl rfl one9 rfl (E.get P).1 (ly rfl) ?_)))))));intro w5 N O;have A:=E;clear E;have K:=(A.get P).1;replace I:=I.md N (by rw[List.mem_singleton];exact blk_ne_ty I K (by decide));replace M:=M.step N (all_cons (A.all _ P).2.2.2.2.1 all_nil);have H:=A.setNo P (by decide) N (g:=fun z=>{z with nm:=((({kind:=k,n:=x.id,old:=o,over:=L}:SCh)).old)}) (show Blk _ _ (SNo.cells {x.no with nm:=((({kind:=k,n:=x.id,old:=o,over:=L}:SCh)).old)}) _ from O) rfl;clear A K O;obtain⟨d,R⟩:∃y,y=updN l x.id (fun z=>{z with no:={z.no with nm:=((({kind:=k,n:=x.id,old:=o,over:=L}:SCh)).old)}}):=⟨_,rfl⟩;have E:Nds 148 203 (Fsh (ndB l) w) w5 Q d:=(by rw[R];exact H);clear H;refine nt (ns (sf rfl off153_3 (sl (u:=(nptr ((({kind:=k,n:=x.id,old:=o,over:=L}:SCh)).over))) rfl one143 I rfl (st _ (r_neqNp (o:=(({kind:=k,n:=x.id,old:=o,over:=L}:SCh)).over) rfl u143) (nt ?_)))));refine c_if rfl (fun F=>?_) (fun F=>?_)
      · (first|(have D:=dT F)|(have D:=dF (bnt F))|(have D:=bnt F)|(have D:=F));refine c_region ?_;obtain⟨h,W⟩:=Option.isSome_iff_exists.1 F;have X:L=some h:=W;clear F D W;subst X;obtain⟨f,Y,r⟩:=List.mem_map.1 (show h∈d.map (·.id)by rw[R,updN_ids]<;>first|exact p1 _ rfl|(intro _;rfl));subst r;refine sf rfl off153_3 (st _ ((r_loadBlk rfl one143 I rfl).to (b:=(nptr ((({kind:=k,n:=x.id,old:=o,over:=(some f.id)}:SCh)).over))) rfl) (sn rfl (sf rfl off148_1 (st_store rfl rfl one4 rfl (E.get Y).1 (ly rfl) ?_))));intro w7 N O;have A:=E;clear E;have K:=(A.get Y).1;replace M:=M.step N (all_cons (A.all _ Y).2.2.2.2.1 all_nil);have H:=A.setNo Y (by decide) N (g:=fun z=>{z with there:=true}) (show Blk _ _ (SNo.cells {f.no with there:=true}) _ from O) rfl;clear A K O;obtain⟨v,V⟩:∃y,y=updN d f.id (fun z=>{z with no:={z.no with there:=true}}):=⟨_,rfl⟩;have E:Nds 148 203 (Fsh (ndB l) w) w7 Q v:=(by rw[V];exact H);clear H;refine st_nil (n_block ?_);exact retL (vs:=[]) trivial rfl trivial rfl ⟨rfl,M,(by unfold undoN;simp only[if_neg G,if_pos C];rw[V,R]at E;exact E)⟩
      · (first|(have D:=dF F)|(have D:=dT (bnf F))|(have D:=bnf F)|(have D:=F));refine c_skip (n_block ?_);exact retL (vs:=[]) trivial rfl trivial rfl ⟨rfl,M,(by have j:L=none:=Option.isNone_iff_eq_none.1 (Option.isSome_eq_false_iff.1 F);subst j;unfold undoN;simp only[if_neg G,if_pos C];rw[R]at E;exact E)⟩
    · (first|(have C:=dF J)|(have C:=dT (bnf J))|(have C:=bnf J)|(have C:=J));refine c_region (sf rfl off153_1 (sl (u:=(.pointer (some ⟨(({kind:=k,n:=x.id,old:=o,over:=L}:SCh)).n,0,none⟩))) rfl one143 I rfl (sn rfl (sf rfl off148_1 (st_store rfl rfl one4 rfl (E.get P).1 (ly rfl) ?_)))));intro w9 N O;have A:=E;clear E;have K:=(A.get P).1;replace M:=M.step N (all_cons (A.all _ P).2.2.2.2.1 all_nil);have H:=A.setNo P (by decide) N (g:=fun z=>{z with there:=true}) (show Blk _ _ (SNo.cells {x.no with there:=true}) _ from O) rfl;clear A K O;obtain⟨Z,T⟩:∃y,y=updN l x.id (fun z=>{z with no:={z.no with there:=true}}):=⟨_,rfl⟩;have E:Nds 148 203 (Fsh (ndB l) w) w9 Q Z:=(by rw[T];exact H);clear H;refine st_nil (n_block ?_);exact retL (vs:=[]) trivial rfl trivial rfl ⟨rfl,M,(by unfold undoN;simp only[if_neg G,if_neg C];rw[T]at E;exact E)⟩
theorem agg153:isAggN Tryz.prog 153 4=true:=by kernel_rfl
theorem el153:elemIs Tryz.prog 153 4=true:=by kernel_rfl
theorem fn81:isFn Tryz.prog 81=true:=by kernel_rfl
theorem fn83:isFn Tryz.prog 83=true:=by kernel_rfl

set_option maxRecDepth 100000 in
set_option maxHeartbeats 4000000 in
theorem fCrash_any {w:World} {Q:Nat→Prop} (uQ:Up w Q) {b0:Nat} {v0_0:Value} {v0_1:Value} (f:SFs) (h0:Blk w b0 (SFs.cells f v0_0 v0_1) 97) (n0:¬Q b0) (a0_0:SFs.ok f) (a0_1:Ow tNd 143 (fun _=>True) w Q v0_0 f.nodes) (a0_2:Ow tSCh 153 (fun _=>True) w Q v0_1 f.pend) (hN0:Nds 148 203 (fun _=>True) w Q f.nodes) {v1:Value} {keep:List Bool} (h1:Ls tBool w Q v1 keep) (dirs:Int) (a2:(-9223372036854775808≤dirs∧dirs<9223372036854775808)) (p0:f.nodes.length≤1000000) (p1:f.pend.length≤1000000) (p2:∀c∈f.pend,c.n∈f.nodes.map (·.id)∧∀o,c.over=some o→o∈f.nodes.map (·.id)) (p3:∀z∈f.nodes,z.fl.b.length≤1000000∧z.fl.safe.length≤1000000) :
    Calls Tryz.prog 37 #[.pointer (some ⟨b0,0,none⟩),v1,(.int .i64 (dirs:Int))] w fun en w'=>∃m0:SFs,∃u50_0:Value,∃u50_1:Value,∃Q':Nat→Prop,en = .returned (.tuple #[])∧Md (b0 :: (vblock v0_0).toList ++ ((vblock v0_1).toList ++ (ndB f.nodes))) w w'∧NewQ w w' Q Q'∧Blk w' b0 (SFs.cells m0 u50_0 u50_1) 97∧¬Q' b0∧SFs.ok m0∧Ow tNd 143 (Fsh (b0 :: (vblock v0_0).toList ++ ((vblock v0_1).toList ++ (ndB f.nodes))) w) w' Q' u50_0 m0.nodes∧Ow tSCh 153 (Fsh (b0 :: (vblock v0_0).toList ++ ((vblock v0_1).toList ++ (ndB f.nodes))) w) w' Q' u50_1 m0.pend∧Nds 148 203 (Fsh (b0 :: (vblock v0_0).toList ++ ((vblock v0_1).toList ++ (ndB f.nodes))) w) w' Q' m0.nodes∧crashR f keep dirs=m0:=by
  have L1:=h1.len63;have F:=n0;have Ax:Fsh (b0 :: (vblock v0_0).toList ++ ((vblock v0_1).toList ++ (ndB f.nodes))) w b0:=.inl (by simp);replace a0_1:=a0_1.reP (lo':=Fsh (b0 :: (vblock v0_0).toList ++ ((vblock v0_1).toList ++ (ndB f.nodes))) w) (fun b V=>.inl (by simp[V]));replace a0_2:=a0_2.reP (lo':=Fsh (b0 :: (vblock v0_0).toList ++ ((vblock v0_1).toList ++ (ndB f.nodes))) w) (fun b V=>.inl (by simp[V]));have I:=hN0.reB (lo':=Fsh (b0 :: (vblock v0_0).toList ++ ((vblock v0_1).toList ++ (ndB f.nodes))) w) (fun b V=>.inl (by simp[V]));clear hN0;have M:=Md.refl (b0 :: (vblock v0_0).toList ++ ((vblock v0_1).toList ++ (ndB f.nodes))) w;have Cx:=uQ;have tQ:∀b,Q b→Q b:=fun _ h=>h;have Y:∀b,Q b→b<w.heap.size→Q b:=fun _ h _=>h;refine enter (n:=68) Tryz.func37 rfl rfl rfl ?_;intro B;refine c_seq (ns (mv rfl (sn rfl (sf rfl off97_4 (sl (u:=v0_1) rfl one95 h0 rfl (sL rfl u95 a0_2.shp (st _ (r_subI (a:=((f.pend.length:Nat):Int)) (b:=1) rfl rfl (by omega)) (asg rfl (nt (c_block ?_))))))))));refine loop2 (fun(x:SFs) (i:Int)=>[(6,(.int .i64 (i:Int))),(0,(.pointer (some ⟨b0,0,none⟩))),(1,v1),(2,(.int .i64 (dirs:Int)))]) (fun(x:SFs) (i:Int) w'=>∃Q':Nat→Prop,(∀b,Q' b→Q b)∧(∀b,Q b→b<w.heap.size→Q' b)∧Up w' Q'∧Md (b0 :: (vblock v0_0).toList ++ ((vblock v0_1).toList ++ (ndB f.nodes))) w w'∧Blk w' b0 (SFs.cells x v0_0 v0_1) 97∧Ow tNd 143 (Fsh (b0 :: (vblock v0_0).toList ++ ((vblock v0_1).toList ++ (ndB f.nodes))) w) w' Q' v0_0 x.nodes∧Ow tSCh 153 (Fsh (b0 :: (vblock v0_0).toList ++ ((vblock v0_1).toList ++ (ndB f.nodes))) w) w' Q' v0_1 x.pend∧SFs.ok x∧Ls tBool w' Q' v1 keep∧Nds 148 203 (Fsh (b0 :: (vblock v0_0).toList ++ ((vblock v0_1).toList ++ (ndB f.nodes))) w) w' Q' x.nodes∧¬Q' b0∧x={f with nodes:=x.nodes}∧x.nodes.map (·.id)=f.nodes.map (·.id)∧-1≤i∧i<f.pend.length∧undoL x.nodes ((f.pend.take (i+1).toNat).drop dirs.toNat).reverse=undoL f.nodes (f.pend.drop dirs.toNat).reverse∧(∀z∈x.nodes,z.fl.b.length≤1000000∧z.fl.safe.length≤1000000)) (fun(x:SFs) (i:Int)=>(i+1).toNat) (x0:=f) (x1:=(((f.pend.length:Nat):Int)-1)) ?_ ?_ ?_
  · exact⟨rfl,rfl,rfl,rfl,tV⟩
  · exact⟨Q,tQ,Y,uQ,M,h0,a0_1,a0_2,a0_0,h1,I,F,(by cases f;rfl),rfl,(by omega),(by omega),(by rw[List.take_of_length_le (by omega)]),p3⟩
  · clear M uQ tQ Y F a0_1 a0_2 h0 h1 I
    rintro x i B w1 ⟨Q2,tQ,Y,uQ,M,h0,a0_1,a0_2,Ba,h1,I,F,Ae,Ar,Ci,Cj,As,A7⟩;have xp:x.pend.length=f.pend.length:=(by rw[Ae]);refine c_seq (ns (mv rfl (mv rfl (st _ (r_maxZ (a:=dirs) (b:=0) rfl rfl) (st _ (r_ge (a:=i) (b:=(if dirs<0 then 0 else dirs)) rfl rfl) (nt ?_))))));refine c_if rfl (fun t=>?_) (fun t=>?_)
    · (first|(have R:=dT t)|(have R:=dF (bnt t))|(have R:=bnt t)|(have R:=t));have J:0≤i∧dirs≤i:=(by split at R<;>omega);refine c_skip (c_then (c_seq (c_block (c_region (mv rfl (sn rfl (sf rfl off97_4 (sl (u:=v0_1) rfl one95 h0 rfl (mv rfl (st _ (r_indexZ (i:=i) 4 rfl rfl u95 el153 a0_2.shp (by omega)) ?_))))))))));obtain⟨x3,Bd⟩:=getE (l:=x.pend) (i:=(i).toNat) (by first|omega|(simp<;>omega));obtain⟨c4,B2,A1⟩:=a0_2.get Bd;obtain⟨_,rfl,q5⟩:=tSCh_un B2;replace A1:At _ v0_1 (((i).toNat)*4) (SCh.cells x3):=A1;refine st _ (r_loadEA (kk:=((i).toNat)*4) (SCh.cells x3) 0 rfl rfl (by exact agg153) A1 rfl) ?_;have Bm:x3∈f.pend:=(by have e:=List.mem_of_getElem? Bd;rw[Ae]at e;exact e);refine st_call fn81 rfl (fUndo_any uQ x3 q5 (ids_mem Ar (p2 _ Bm).1) (fun o ho=>ids_mem Ar ((p2 _ Bm).2 o ho)) (I.reP (fun _ _=>trivial))) ?_;rintro en w6 ⟨rfl,K,Ag⟩;refine⟨_,rfl,?_⟩;have U:=I;clear I;replace Ag:=Ag.reP (lo':=Fsh (b0 :: (vblock v0_0).toList ++ ((vblock v0_1).toList ++ (ndB f.nodes))) w) (fun b V=>V.elim (U.loB b) (Fsh.new M b));replace h0:=h0.md K (U.ninB h0 (by decide) (by decide));replace a0_1:=a0_1.md K (U.ninO a0_1 (by decide) (by decide)) U.nQB;replace a0_2:=a0_2.md K (U.ninO a0_2 (by decide) (by decide)) U.nQB;replace h1:=h1.md K U.nQB;clear A1;replace uQ:=uQ.md K;replace M:=M.step K U.loB;clear U;obtain⟨s7,p⟩:∃y,y=({x with nodes:=undoN x.nodes x3}:SFs):=⟨_,rfl⟩;replace h0:Blk w6 b0 (SFs.cells s7 v0_0 v0_1) 97:=(by rw[p];exact h0);have Bv:SFs.ok s7:=(by rw[p];exact Ba);replace a0_1:=ow_ids a0_1 (show s7.nodes.map (·.id)=x.nodes.map (·.id)from by rw[p];exact undoN_ids _ _);rw[show x.pend=s7.pend by rw[p]]at a0_2;have I:Nds 148 203 (Fsh (b0 :: (vblock v0_0).toList ++ ((vblock v0_1).toList ++ (ndB f.nodes))) w) w6 Q2 s7.nodes:=(by rw[p];exact Ag);clear Ag;refine st_nil (n_block (c_then (c_region (mv rfl (st _ (r_subI (a:=i) (b:=1) rfl rfl (by omega)) (asg rfl (nt ?_)))))));refine next2 (x0:=s7) (x1:=(i-1)) (by omega) ⟨(fitI rfl (by omega)),rfl,rfl,rfl,tV⟩ ⟨Q2,tQ,Y,uQ,M,h0,a0_1,a0_2,Bv,h1,I,F,(by rw[p];rw[Ae]),(by rw[p];exact(undoN_ids _ _).trans Ar),(by omega),(by omega),(by rw[p];show undoL (undoN x.nodes x3) _=_;rw[← As,undo_step (by have e:=Bd;rw[Ae]at e;exact e) J.1 J.2];rfl),(by rw[p];exact undo_fl A7)⟩
    · (first|(have R:=dF t)|(have R:=dT (bnf t))|(have R:=bnf t)|(have R:=t));have J:i<0∨i<dirs:=(by split at R<;>omega);refine c_exit (x_then (x_then (x_hit (c_then (ns (mv rfl (st_call fn80 rfl (fSettle_any uQ x h0 F Ba (a0_1.reP (fun _ _=>trivial)) (a0_2.reP (fun _ _=>trivial)) (I.reP (fun _ _=>trivial))) ?_)))))));rintro en w8 ⟨H,E,N,Q9,rfl,K,⟨sQ,sT,Bw⟩,Au,Av,Aw,C,D,A2,Bc⟩;refine⟨_,rfl,?_⟩;have hP:∀i∈(b0 :: (vblock v0_0).toList ++ ((vblock v0_1).toList ++ (ndB x.nodes))),Fsh (b0 :: (vblock v0_0).toList ++ ((vblock v0_1).toList ++ (ndB f.nodes))) w i:=(all_cons Ax (all_app (all_row (fun x Z=>(a0_1.2 x Z).1)) (all_app (all_row (fun x Z=>(a0_2.2 x Z).1)) (fun x Z=>I.loB x Z))));have hS:∀i∈(b0 :: (vblock v0_0).toList ++ ((vblock v0_1).toList ++ (ndB x.nodes))),¬Q2 i:=(all_cons F (all_app (all_row (fun x Z=>(a0_1.2 x Z).2)) (all_app (all_row (fun x Z=>(a0_2.2 x Z).2)) (fun x Z=>I.nQB x Z))));have Bl:=hP;have M9:=M;replace C:=C.reP (fun x Z=>(C.2 x Z).1);replace C:=C.reP (fun x Z=>(C.2 x Z).1.elim (hP x) (Fsh.new M x));replace D:=D.reP (fun x Z=>(D.2 x Z).1);replace D:=D.reP (fun x Z=>(D.2 x Z).1.elim (hP x) (Fsh.new M x));replace h1:=h1.sub sQ;replace tQ:=fun b V=>tQ b (sT b V);replace Y:=fun b V hl=>sQ b (Y b V hl) (lv hl M.size);replace hS:=fun i hi hq=>hS i hi (sT i hq);replace h1:=h1.md K hS;replace M:=M.step K hP;replace uQ:=Bw;clear Bw sQ sT;clear hP hS h0 F;have h0:=Au;have F:=Av;clear Au Av;replace A2:=A2.reP (fun x Z=>Z.elim (Bl x) (Fsh.new M9 x));clear I;clear a0_1;clear a0_2;have I:=A2;clear A2 Bl M9;have mN:H.nodes=(undoL f.nodes (f.pend.drop dirs.toNat).reverse).filter (·.no.there):=(by rw[← Bc];show x.nodes.filter _=_;rw[undo_end J (by omega)]at As;rw[← As];rfl);have mL:H.nodes.length≤1000000:=(by rw[mN];refine lQ (List.length_filter_le _ _) ?_;have e:=congrArg List.length (undoL_ids (f.pend.drop dirs.toNat).reverse f.nodes);simp only[List.length_map]at e;omega);have mS:∀z∈H.nodes,z.fl.b.length≤1000000∧z.fl.safe.length≤1000000:=fun z hz=>by rw[← Bc]at hz;exact A7 z (List.mem_filter.1 hz).1
      have mR:H={f with nodes:=H.nodes,pend:=[]}:=(by rw[← Bc];unfold settleF;rw[Ae]);refine nt (c_seq (ns (mv rfl (sn rfl (sf rfl off97_3 (sl (u:=E) rfl one94 h0 rfl (sL rfl u94 C.shp (mv rfl (nt (c_block ?_))))))))));refine loop4 (fun(W:SFs) (j:Nat) (Ap:Value) (d:List Bool)=>[(37,(.int .i64 j)),(1,Ap),(0,(.pointer (some ⟨b0,0,none⟩))),(35,E),(36,(.int .i64 H.nodes.length))]) (fun(W:SFs) (j:Nat) (Ap:Value) (d:List Bool) w'=>∃Q':Nat→Prop,(∀b,Q' b→Q b)∧(∀b,Q b→b<w.heap.size→Q' b)∧Up w' Q'∧Md (b0 :: (vblock v0_0).toList ++ ((vblock v0_1).toList ++ (ndB f.nodes))) w w'∧Blk w' b0 (SFs.cells W E N) 97∧Ow tNd 143 (Fsh (b0 :: (vblock v0_0).toList ++ ((vblock v0_1).toList ++ (ndB f.nodes))) w) w' Q' E W.nodes∧Ow tSCh 153 (Fsh (b0 :: (vblock v0_0).toList ++ ((vblock v0_1).toList ++ (ndB f.nodes))) w) w' Q' N W.pend∧SFs.ok W∧Ls tBool w' Q' Ap d∧Nds 148 203 (Fsh (b0 :: (vblock v0_0).toList ++ ((vblock v0_1).toList ++ (ndB f.nodes))) w) w' Q' W.nodes∧¬Q' b0∧W={H with nodes:=W.nodes}∧W.nodes.length=H.nodes.length∧j≤H.nodes.length∧W.nodes.take j ++ crashG (W.nodes.drop j) d=crashG H.nodes keep∧(∀z∈W.nodes,z.fl.b.length≤1000000∧z.fl.safe.length≤1000000)) (fun(W:SFs) (j:Nat) (Ap:Value) (d:List Bool)=>H.nodes.length-j) (x0:=H) (x1:=0) (x2:=v1) (x3:=keep) ?_ ?_ ?_
      · exact⟨rfl,rfl,rfl,rfl,rfl,tV⟩
      · exact⟨Q9,tQ,Y,uQ,M,h0,C,D,Aw,h1,I,F,rfl,rfl,(by omega),rfl,mS⟩
      · clear M uQ tQ Y F h0 h1 I C D
        rintro W j Ap d B Cy ⟨Ac,tQ,Y,uQ,M,h0,C,D,Ah,L,I,F,A8,Ck,Cl,Am,A9⟩;refine ns (st _ (r_ltN (a:=j) (b:=H.nodes.length) rfl rfl) (nt (c_seq ?_)));refine c_if rfl (fun v=>?_) (fun v=>?_)
        · (first|(have X:=dT v)|(have X:=dF (bnt v))|(have X:=bnt v)|(have X:=v));refine c_skip (c_then (c_seq (c_block (ns (st _ (r_indexN (i:=j) 1 rfl rfl u94 el143 C.shp (by omega)) ?_)))));obtain⟨S,O⟩:=getE (l:=W.nodes) (i:=j) (by first|omega|(simp<;>omega));obtain⟨Cq,Br,Al⟩:=C.get O;obtain⟨rfl,_⟩:=Br;replace Al:At _ E (j*1) [(.pointer (some ⟨S.id,0,none⟩))]:=Al;refine st _ ((r_loadE (kk:=j*1) 0 rfl rfl one143 Al rfl).to (b:=(.pointer (some ⟨S.id,0,none⟩))) rfl) (asg rfl (st_nil ?_));clear Al;refine c_then (ns (mv rfl (sn rfl (sf rfl off148_2 ?_))));obtain⟨Cc,Ce,A6,Ao,A3,A4⟩:=I.file (List.mem_of_getElem? O);refine st _ ((r_loadBlk rfl one146 (I.get (List.mem_of_getElem? O)).1 rfl).to (b:=(.pointer (some ⟨S.no.fid,0,none⟩))) rfl) ?_;have Bt:=A9 _ (List.mem_of_getElem? O);refine st_call fn82 rfl (sDirty_any_ls uQ S.fl A6 Ao A3 A4 (by first|omega|(simp<;>omega)|(simp at *<;>omega)) (by first|omega|(simp<;>omega)|(simp at *<;>omega))) ?_;rintro en B8 ⟨B6,G,rfl,K,Bb,Bi⟩;refine⟨_,rfl,?_⟩;replace h0:=h0.md0 K;replace C:=C.md0 K;replace D:=D.md0 K;replace L:=L.md0 K;replace I:=I.md0 K;replace uQ:=uQ.md K;replace M:=M.step0 K;refine sL rfl u22 Bb.shp (mv rfl (sL rfl u74 L.shp (st _ (r_minN (a:=G.length) (b:=d.length) rfl rfl) (asg rfl (st_nil ?_)))));clear A6 Ao A3 A4;refine c_then (c_seq ?_);have Bn:=I.ids;have A5:=I;refine c_mixT (ml 7) [7] (fun w'=>Md [] B8 w') mixed (by kernel_rfl) ?_;intro Cz J;refine⟨J.mono (by simp),?_⟩;have MC:=J.mono (T:=[]) (by simp);refine mo rfl (mz (fun w' hc=>r_nil rfl) ?_)
          refine mz (fun w' hc=>r_field rfl off148_2) ?_;obtain⟨Cd,Cf,Ad,Ab,Aj,Ak⟩:=I.file (List.mem_of_getElem? O);refine mz (fun w' hc=>(r_loadBlk rfl one146 ((A5.md0 hc).get (List.mem_of_getElem? O)).1 rfl).to (b:=(.pointer (some ⟨S.no.fid,0,none⟩))) rfl) (mo rfl (mo rfl (mz (fun w' hc=>r_sliceZ 1 0 (min G.length d.length) u74 el4 rfl L.shp (by omega) (by omega) rfl ⟨_,rfl⟩) ?_)));have Aq:=L.head (hi:=min G.length d.length) (by omega);refine m_nil ?_;replace h0:=h0.md0 J;replace C:=C.md0 J;replace D:=D.md0 J;replace L:=L.md0 J;replace I:=I.md0 J;replace Aj:=Aj.md0 J;replace Ak:=Ak.md0 J;replace Ad:=Ad.md0 J;replace Aq:=Aq.md0 J;replace uQ:=uQ.md J;replace M:=M.step0 J;clear A5;clear MC;refine st_call fn83 rfl (sCrash_any uQ S.fl Ad Ab Aj Ak Aq (Bt.1) (Bt.2)) ?_;rintro en Bx ⟨Cs,Cw,C0,rfl,K,V,_,Bo,Bp,Bj⟩;refine⟨_,rfl,?_⟩;subst Bj;have U:=I;clear I;have A0:=Ad;have Bu:=Ab;clear Ad Ab Aj Ak;have hS:∀b∈[S.no.fid],¬Ac b:=(by intro b V;rw[List.mem_singleton]at V;subst V;exact Bu);replace h0:=h0.md K (by rw[List.mem_singleton];exact blk_ne_ty h0 A0 (by decide));replace C:=C.md K (fun b V=>by rw[List.mem_singleton];exact C.blk_ne A0 (by decide) b V) hS;replace D:=D.md K (fun b V=>by rw[List.mem_singleton];exact D.blk_ne A0 (by decide) b V) hS;replace L:=L.md K hS;replace uQ:=uQ.md K;replace M:=M.step K (all_cons (U.all _ (List.mem_of_getElem? O)).2.2.2.2.2 all_nil);clear hS;have Ag:=U.setFl (List.mem_of_getElem? O) (by decide) K V Bo Bp;clear U A0 V Bu Bo Bp;obtain⟨Ai,P⟩:∃y,y=({W with nodes:=updN W.nodes S.id (fun z=>{z with fl:={b:=crashB S.fl.b S.fl.safe (d.take (min G.length d.length)),safe:=crashB S.fl.b S.fl.safe (d.take (min G.length d.length))}})}:SFs):=⟨_,rfl⟩;replace h0:Blk Bx b0 (SFs.cells Ai E N) 97:=(by rw[P];exact h0);have Be:SFs.ok Ai:=(by rw[P];exact Ah)
          replace C:=ow_ids C (show Ai.nodes.map (·.id)=W.nodes.map (·.id)from by rw[P];exact updN_ids (fun _=>rfl));rw[show W.pend=Ai.pend by rw[P]]at D;have I:Nds 148 203 (Fsh (b0 :: (vblock v0_0).toList ++ ((vblock v0_1).toList ++ (ndB f.nodes))) w) Bx Ac Ai.nodes:=(by rw[P];exact Ag);clear Ag;refine nt (c_region (mv rfl (mv rfl (st _ (r_sliceZ 1 (min G.length d.length) d.length u74 el4 rfl L.shp (by omega) (by omega) ⟨_,rfl⟩ rfl) ?_))));have Bs:=L.tail (lo:=min G.length d.length) (by omega);refine asg rfl (st_nil (n_block (c_then (c_region (st _ (r_addN (a:=j) (b:=1) 9223372036854775808 rfl rfl rfl (by omega)) (mv rfl (nt ?_)))))));refine next4 (x0:=Ai) (x1:=(j+1)) (x2:=(subz 1 Ap (min G.length d.length) d.length)) (x3:=(d.drop (min G.length d.length))) (by omega) ⟨(fitI rfl (by omega)),rfl,rfl,rfl,rfl,tV⟩ ⟨Ac,tQ,Y,uQ,M,h0,C,D,Be,Bs,I,F,(by rw[P];rw[A8]),(by have e:=congrArg List.length (show Ai.nodes.map (·.id)=W.nodes.map (·.id)from by rw[P];exact updN_ids fun _=>rfl);simp only[List.length_map]at e;omega),(by omega),(by rw[P];show(updN W.nodes _ _).take _ ++ crashG ((updN W.nodes _ _).drop _) _=_;rw[updN_at Bn O];exact crash_step O (by rw[Bi]) rfl Am),(by rw[P];intro q hq;rcases mem_updN hq with⟨q2,Bq,_,rfl⟩|⟨Bq,_⟩;(· show(crashB _ _ _).length≤_∧(crashB _ _ _).length≤_;have e:=crash_len S.fl.b S.fl.safe (d.take (min G.length d.length));omega);(· exact A9 q Bq))⟩
        · (first|(have X:=dF v)|(have X:=dT (bnf v))|(have X:=bnf v)|(have X:=v));refine c_exit (x_then (x_then (x_hit (c_then (c_region (mv rfl (mv rfl (sn rfl (sf rfl off97_2 (st_store rfl rfl one4 rfl h0 (ly rfl) ?_))))))))));have r:=h0;clear h0;intro B9 K h0;have hS:∀b∈[b0],¬Ac b:=(by intro b V;simp at V;subst V;exact F);replace C:=C.md K (apart_bo r C (by decide)) hS;replace D:=D.md K (apart_bo r D (by decide)) hS;replace I:=I.md K (I.ap1 r (by decide) (by decide)) hS;replace uQ:=uQ.md K;replace M:=M.step K (all_cons Ax all_nil);clear r hS;obtain⟨Af,g⟩:∃y,y=({W with off:=false}:SFs):=⟨_,rfl⟩;replace h0:Blk _ _ (SFs.cells ({W with off:=false}) E N) _:=h0;rw[← g]at h0;have Bf:SFs.ok Af:=(by rw[g];exact⟨Ah.1,Ah.2⟩);replace I:Nds 148 203 (Fsh (b0 :: (vblock v0_0).toList ++ ((vblock v0_1).toList ++ (ndB f.nodes))) w) B9 Ac Af.nodes:=(by rw[g];exact I);rw[show W.nodes=Af.nodes by rw[g]]at C;rw[show W.pend=Af.pend by rw[g]]at D;refine sn rfl (sf rfl off97_1 (st_store rfl rfl one3 rfl h0 (ly rfl) ?_));have r:=h0;clear h0;intro Ca K h0;have hS:∀b∈[b0],¬Ac b:=(by intro b V;simp at V;subst V;exact F);replace C:=C.md K (apart_bo r C (by decide)) hS;replace D:=D.md K (apart_bo r D (by decide)) hS;replace I:=I.md K (I.ap1 r (by decide) (by decide)) hS;replace uQ:=uQ.md K;replace M:=M.step K (all_cons Ax all_nil);clear r hS;obtain⟨Ay,k⟩:∃y,y=({Af with fuse:=(-1)}:SFs):=⟨_,rfl⟩;replace h0:Blk _ _ (SFs.cells ({Af with fuse:=(-1)}) E N) _:=h0;rw[← k]at h0;have Bg:SFs.ok Ay:=(by rw[k];exact⟨Bf.1,(by first|omega|assumption|(simp<;>omega)|simp_all)⟩);replace I:Nds 148 203 (Fsh (b0 :: (vblock v0_0).toList ++ ((vblock v0_1).toList ++ (ndB f.nodes))) w) Ca Ac Ay.nodes:=(by rw[k];exact I);rw[show Af.nodes=Ay.nodes by rw[k]]at C
          rw[show Af.pend=Ay.pend by rw[k]]at D;refine st_nil ?_;exact retL (vs:=[]) trivial rfl trivial rfl ⟨Ay,_,_,Ac,rfl,M,⟨Y,tQ,uQ⟩,h0,F,Bg,C,D,I,(by rw[k,g];show crashR f keep dirs=_;rw[List.drop_of_length_le (by omega),List.take_of_length_le (by omega)]at Am;simp only[crashG,List.append_nil]at Am;rw[A8,mR,Am,mN];rfl)⟩

/-- A directory that may be: so many nodes and changes at most, no file greater than it may be, changes of its own nodes alone. -/
def cIn (l:List SNd) (c:SCh):Prop:=c.n∈l.map (·.id)∧∀o,c.over=some o→o∈l.map (·.id)
structure fWf (k:Nat) (f:SFs):Prop where
  n:f.nodes.length≤k
  p:f.pend.length≤k
  fl:∀x∈f.nodes,x.fl.b.length≤32768∧x.fl.safe.length≤32768
  ch:∀c∈f.pend,cIn f.nodes c
  room:0≤f.room
  nd:(f.nodes.map (·.id)).Nodup
theorem tot_le {k:Nat}:∀{l:List SNd},(∀x∈l,x.fl.b.length≤32768∧x.fl.safe.length≤32768)→l.length≤k→(totF l).2≤k*32768
  | [],_,_=>Nat.zero_le _
  | x :: l,h,hl=>by
    obtain⟨k,rfl⟩:∃j,k=j+1:=⟨k-1,by simp at hl;omega⟩;have:=tot_le (k:=k) (l:=l) (fun y hy=>h y (List.mem_cons_of_mem _ hy)) (by simpa using hl);have h0:=(h x List.mem_cons_self).1;rw[totF,Nat.succ_mul]
    split
    · exact Nat.add_le_add this h0
    · exact lQ this (Nat.le_add_right _ _)
theorem fWf.up {k k':Nat} {f:SFs} (h:fWf k f) (hk:k≤k'):fWf k' f:=⟨lQ h.n hk,lQ h.p hk,h.fl,h.ch,h.room,h.nd⟩
theorem cIn.of {l l':List SNd} {c:SCh} (h:cIn l c) (hi:∀b∈l.map (·.id),b∈l'.map (·.id)):cIn l' c:=⟨hi _ h.1,fun o ho=>hi _ (h.2 o ho)⟩
theorem wf_burn {k:Nat} {f m:SFs} {r:Nat} (h:fWf k f) (e:burnF f=(r,m)):fWf k m:=by
  have b:=burn_eq e;exact⟨by rw[b.1];exact h.n,by rw[b.2.1];exact h.p,by rw[b.1];exact h.fl,by rw[b.1,b.2.1];exact h.ch,by rw[b.2.2];exact h.room,by rw[b.1];exact h.nd⟩
theorem wf_burn' {k:Nat} {f:SFs} (h:fWf k f):fWf k (burnF f).2:=wf_burn (r:=(burnF f).1) h rfl
theorem wf_upd {k:Nat} {f:SFs} {i:Nat} {g:SNd→SNd} {p:List SCh} (h:fWf k f) (hg:∀z,(g z).id=z.id) (hs:∀z∈f.nodes,(g z).fl.b.length≤32768∧(g z).fl.safe.length≤32768) (hp:∀c∈p,c∈f.pend∨cIn f.nodes c) (hpl:p.length≤k+1):fWf (k+1) {f with nodes:=updN f.nodes i g,pend:=p}:=by
  have A:=updN_ids (l:=f.nodes) (i:=i) hg;refine⟨?_,hpl,fun x E=>?_,fun c D=>?_,h.room,?_⟩
  · have:=congrArg List.length A;simp only[List.length_map]at this;show(updN f.nodes i g).length≤_;have:=h.n;omega
  · rcases mem_updN E with⟨z,B,_,rfl⟩|⟨B,_⟩
    · exact hs z B
    · exact h.fl x B
  · have:cIn f.nodes c:=(hp c D).elim (h.ch c) id
    exact this.of fun b C=>by show b∈(updN f.nodes i g).map _;rw[A];exact C
  · show((updN f.nodes i g).map _).Nodup;rw[A];exact h.nd
theorem wf_make {k:Nat} {f m:SFs} {s:Ly} {i j r:Nat} (h:fWf k f) (hn:i∉f.nodes.map (·.id)∨r≠0) (e:makeR f s i j=(r,m)):fWf (k+1) m:=by
  unfold makeR at e
  split at e
  · cases e;exact h.up (Nat.le_succ _)
  · split at e
    · cases e;exact h.up (Nat.le_succ _)
    · split at e
      · cases e;exact h.up (Nat.le_succ _)
      · split at e
        · exact(wf_burn h e).up (Nat.le_succ _)
        · cases e
          have D:=burn_same f;refine⟨?_,?_,fun x B=>?_,fun c A=>?_,by show 0≤(burnF f).2.room;rw[D.2.2];exact h.room,?_⟩
          · simp;exact h.n
          · simp;exact h.p
          · rcases List.mem_append.1 B with B|B
            · exact h.fl x B
            · rw[List.mem_singleton]at B;subst B;simp
          · rcases List.mem_append.1 A with A|A
            · exact(h.ch c A).of fun b D=>by rw[List.map_append];exact List.mem_append.2 (.inl D)
            · rw[List.mem_singleton]at A;subst A
              exact⟨by simp,fun o F=>by cases F⟩
          · rw[List.map_append,List.nodup_append]
            refine⟨h.nd,by simp,fun a E b C=>?_⟩;simp only[List.map_cons,List.map_nil,List.mem_singleton]at C;subst C;rintro rfl;exact hn.elim (fun h=>h E) (fun h=>h rfl)
theorem wf_burnp {k:Nat} {f:SFs} {i:Nat} {g:SNd→SNd} {p:List SCh} (h:fWf k f) (hg:∀z,(g z).id=z.id) (hs:∀z∈f.nodes,(g z).fl.b.length≤32768∧(g z).fl.safe.length≤32768) (hp:∀c∈p,c∈f.pend∨cIn f.nodes c) (hpl:p.length≤k+1):fWf (k+1) {(burnF f).2 with nodes:=updN f.nodes i g,pend:=p}:=by
  have A:=burn_same f;have:=wf_upd (i:=i) (g:=g) (p:=p) (wf_burn' h) hg (by rw[A.1];exact hs) (by rw[A.1,A.2.1];exact hp) hpl;rw[A.1]at this;exact this
theorem wf_write {k:Nat} {f m:SFs} {s:Ly} {p:Int} {b:Ly} {j r:Nat} (h:fWf k f) (e:writeR f s p b j=(r,m)):fWf (k+1) m:=by
  unfold writeR at e
  split at e
  · cases e;exact h.up (Nat.le_succ _)
  · split at e
    · cases e;exact h.up (Nat.le_succ _)
    · rename_i x hx
      have E:=(findN_mem hx).1
      split at e
      · cases e;exact h.up (Nat.le_succ _)
      · split at e
        · cases e;exact h.up (Nat.le_succ _)
        · split at e
          · exact(wf_burn h e).up (Nat.le_succ _)
          · cases e
            have A:=wr_len (f:=x.fl) (p:=p) (x:=b) (e:=(wrF x.fl p b).1) (y:=(wrF x.fl p b).2) rfl;have D:=h.fl x E;have B:=burn_same f;have:=wf_burnp (i:=x.id) (g:=fun z=>{z with no:={z.no with fid:=j},fl:=(wrF x.fl p b).2}) (p:=f.pend) h (fun _=>rfl) (fun z F=>⟨by have:=A.1;show(wrF x.fl p b).2.b.length≤_;omega,by show(wrF x.fl p b).2.safe.length≤_;rw[A.2];exact D.2⟩) (fun c C=>.inl C) (Nat.le_succ_of_le h.p);rw[← B.2.1]at this;exact this
theorem wf_sync {k:Nat} {f m:SFs} {s:Ly} {r:Nat} (h:fWf k f) (e:syncR f s=(r,m)):fWf (k+1) m:=by
  unfold syncR at e
  split at e
  · cases e;exact h.up (Nat.le_succ _)
  · split at e
    · cases e;exact h.up (Nat.le_succ _)
    · rename_i x hx
      have D:=(findN_mem hx).1
      split at e
      · exact(wf_burn h e).up (Nat.le_succ _)
      · cases e
        have A:=h.fl x D;have B:=burn_same f;have:=wf_burnp (i:=x.id) (g:=fun z=>{z with fl:={b:=x.fl.b,safe:=x.fl.b}}) (p:=f.pend) h (fun _=>rfl) (fun z E=>⟨A.1,A.1⟩) (fun c C=>.inl C) (Nat.le_succ_of_le h.p);rw[← B.2.1]at this;exact this
theorem wf_settle {k:Nat} {f:SFs} (h:fWf k f):fWf k (settleF f) :=
  ⟨lQ (List.length_filter_le _ _) h.n,Nat.zero_le _,fun x hx=>h.fl x (List.mem_filter.1 hx).1,fun c hc=>absurd hc List.not_mem_nil,h.room,h.nd.sublist (List.filter_sublist.map _)⟩
theorem wf_dir {k:Nat} {f m:SFs} {r:Nat} (h:fWf k f) (e:syncDirR f=(r,m)):fWf (k+1) m:=by
  unfold syncDirR at e
  split at e
  · cases e;exact h.up (Nat.le_succ _)
  · split at e
    · exact(wf_burn h e).up (Nat.le_succ _)
    · cases e;exact(wf_settle (wf_burn' h)).up (Nat.le_succ _)
theorem undoL_fl {l:List SNd}:∀{r:List SCh},(∀z∈l,z.fl.b.length≤32768∧z.fl.safe.length≤32768)→∀z∈undoL l r,z.fl.b.length≤32768∧z.fl.safe.length≤32768:=by
  intro r
  induction r generalizing l with
  | nil=>exact fun h=>h
  | cons c r ih =>
    intro h;refine ih (l:=undoN l c) ?_;unfold undoN
    split
    · exact updN_all h fun _ h=>h
    · split
      · split
        · exact updN_all h fun _ h=>h
        · exact updN_all (updN_all h fun _ h=>h) fun _ h=>h
      · exact updN_all h fun _ h=>h
theorem crashG_fl:∀{l:List SNd} {k:List Bool},(∀z∈l,z.fl.b.length≤32768∧z.fl.safe.length≤32768)→∀z∈crashG l k,z.fl.b.length≤32768∧z.fl.safe.length≤32768
  | [],_,_=>fun z hz=>absurd hz List.not_mem_nil
  | y :: l,k,h=>by
    intro z hz;rw[crashG]at hz;rcases List.mem_cons.1 hz with rfl|hz
    · have h0:=h y List.mem_cons_self
      refine⟨?_,?_⟩ <;> (refine lQ (crash_len _ _ _) ?_;omega)
    · exact crashG_fl (fun q hq=>h q (List.mem_cons_of_mem _ hq)) z hz
theorem wf_crash {k:Nat} {f:SFs} {keep:List Bool} {d:Int} (h:fWf k f):fWf k (crashR f keep d):=by
  have A:=crashG_ids ((undoL f.nodes (f.pend.drop d.toNat).reverse).filter (·.no.there)) keep;refine⟨?_,Nat.zero_le _,crashG_fl fun z E=>undoL_fl h.fl z (List.mem_filter.1 E).1,fun c D=>absurd D List.not_mem_nil,h.room,?_⟩
  · have B:=congrArg List.length A
    have C:=congrArg List.length (undoL_ids (f.pend.drop d.toNat).reverse f.nodes);simp only[List.length_map]at B C;show(crashG _ _).length≤k;rw[B];refine lQ (List.length_filter_le _ _) ?_;rw[C];exact h.n
  · show((crashG _ _).map _).Nodup
    rw[A];have:=undoL_ids (f.pend.drop d.toNat).reverse f.nodes;exact((this ▸ h.nd:((undoL f.nodes (f.pend.drop d.toNat).reverse).map (·.id)).Nodup)).sublist (List.filter_sublist.map _)
/-- The blocks of a directory. -/
def fBl (b:Nat) (v0 v1:Value) (l:List SNd):List Nat:=b :: (vblock v0).toList ++ ((vblock v1).toList ++ ndB l)
/-- A directory in memory, in the blocks of fp alone. -/
def FsO (k:Nat) (fp:List Nat) (w:World) (Q:Nat→Prop) (b:Nat) (f:SFs):Prop :=
  ∃v0 v1,fp=fBl b v0 v1 f.nodes∧Blk w b (SFs.cells f v0 v1) 97∧¬Q b∧SFs.ok f∧Ow tNd 143 (fun _=>True) w Q v0 f.nodes∧Ow tSCh 153 (fun _=>True) w Q v1 f.pend∧Nds 148 203 (fun _=>True) w Q f.nodes∧fWf k f
section
variable {k:Nat} {fp S:List Nat} {w w':World} {Q Q':Nat→Prop} {b:Nat} {f:SFs}
theorem FsO.wf (h:FsO k fp w Q b f):fWf k f:=by obtain⟨_,_,_,_,_,_,_,_,_,h⟩:=h;exact h
theorem FsO.up {k':Nat} (h:FsO k fp w Q b f) (hk:k≤k'):FsO k' fp w Q b f:=by obtain⟨I,J,A,B,C,D,E,F,G,H⟩:=h;exact⟨I,J,A,B,C,D,E,F,G,H.up hk⟩
theorem FsO.lt (h:FsO k fp w Q b f):∀x∈fp,x<w.heap.size∧¬Q x:=by
  obtain⟨I,J,rfl,E,F,G,B,C,D,H⟩:=h;intro x A;unfold fBl at A;simp only[List.mem_append,List.mem_cons,Option.mem_toList]at A;rcases A with(rfl|A)|A|A
  · exact⟨E.lt,F⟩
  · exact⟨B.lt x A,(B.2 x A).2⟩
  · exact⟨C.lt x A,(C.2 x A).2⟩
  · exact⟨D.ltB x A,D.nQB x A⟩
theorem FsO.md (h:FsO k fp w Q b f) (m:Md S w w') (ha:∀x∈fp,x∉S) (hs:∀b∈S,¬Q b):FsO k fp w' Q b f:=by
  obtain⟨I,J,rfl,C,D,E,F,G,B,H⟩:=h;refine⟨I,J,rfl,C.md m (ha _ (by simp[fBl])),D,E,F.md m (fun x A=>ha _ (by simp[fBl,A])) hs,G.md m (fun x A=>ha _ (by simp[fBl,A])) hs,B.md m (B.apB fun x A=>ha _ (by simp[fBl,A])) hs,H⟩
theorem FsO.md0 (h:FsO k fp w Q b f) (m:Md [] w w'):FsO k fp w' Q b f:=h.md m (fun _ _=>List.not_mem_nil) (fun _ hb=>absurd hb List.not_mem_nil)
theorem FsO.sub (h:FsO k fp w Q b f) (s:∀b,Q b→b<w.heap.size→Q' b) (t:∀b,Q' b→Q b):FsO k fp w Q' b f:=by
  obtain⟨J,K,A,B,C,D,E,F,G,H⟩:=h;exact⟨J,K,A,B,fun I=>C (t _ I),D,E.sub s t,F.sub s t,G.sub s t,H⟩
theorem FsO.subF {v:Value} (h:FsO k fp w Q b f) (fQ:∀b,Q b→Q' b) (fT:∀b,Q' b→Q b∨vblock v=some b) (ap:∀x,vblock v=some x→x∉fp):FsO k fp w Q' b f:=by
  obtain⟨L,M,rfl,D,E,F,G,H,C,I⟩:=h;refine⟨L,M,rfl,D,fun J=>(fT _ J).elim E (fun K=>ap _ K (by simp[fBl])),F,G.subF fQ fT (fun x B A=>ap x (by simpa using A) (by simp[fBl,B])),H.subF fQ fT (fun x B A=>ap x (by simpa using A) (by simp[fBl,B])),C.subF fQ fT (C.apB fun x B A=>ap x (by simpa using A) (by simp[fBl,B])),I⟩
theorem fBl_in {b:Nat} {v0 v1:Value} {l:List SNd} {S:List Nat} {w:World} (hb:b∈S) (h0:∀x,vblock v0=some x→Fsh S w x) (h1:∀x,vblock v1=some x→Fsh S w x) (h2:∀x∈ndB l,Fsh S w x):∀x∈fBl b v0 v1 l,x∈S∨w.heap.size≤x:=by
  intro x A;unfold fBl at A;simp only[List.mem_append,List.mem_cons,Option.mem_toList]at A;rcases A with(rfl|A)|A|A
  · exact .inl hb
  · exact h0 x A
  · exact h1 x A
  · exact h2 x A
theorem FsO.back {v0 v1:Value} {m:SFs} (g0:Blk w' b (SFs.cells m v0 v1) 97) (gn:¬Q' b) (gk:SFs.ok m) (o1:Ow tNd 143 (Fsh S w) w' Q' v0 m.nodes) (o2:Ow tSCh 153 (Fsh S w) w' Q' v1 m.pend) (hN:Nds 148 203 (Fsh S w) w' Q' m.nodes) (hb:b∈S) (wf:fWf k m) :
    FsO k (fBl b v0 v1 m.nodes) w' Q' b m∧∀x∈fBl b v0 v1 m.nodes,x∈S∨w.heap.size≤x :=
  ⟨⟨v0,v1,rfl,g0,gn,gk,o1.reP fun _ _=>trivial,o2.reP fun _ _=>trivial,hN.reP fun _ _=>trivial,wf⟩,fBl_in hb (fun x hx=>(o1.2 x hx).1) (fun x hx=>(o2.2 x hx).1) hN.loB⟩
end


/-- What a call leaves that changes a directory. -/
def FsPost (k:Nat) (fp:List Nat) (w:World) (Q:Nat→Prop) (b:Nat) (w':World) (G:SFs→Prop):Prop :=
  ∃m fp' Q',Md fp w w'∧NewQ w w' Q Q'∧(∀x∈fp',x∈fp∨w.heap.size≤x)∧FsO k fp' w' Q' b m∧G m
section
variable {k:Nat} {fp:List Nat} {w:World} {Q:Nat→Prop} {b:Nat} {f:SFs}
theorem fBl_mem (b:Nat) (v0 v1:Value) (l:List SNd):b∈fBl b v0 v1 l:=by simp[fBl]
theorem FsO.tot (h:fWf k f) (hk:k≤100000):(totF f.nodes).2≤1000000000000∧f.nodes.length≤1000000∧f.pend.length≤1000000∧(∀x∈f.nodes,x.fl.b.length≤1000000)∧(∀x∈f.nodes,x.fl.safe.length≤1000000)∧(∀x∈f.nodes,x.fl.b.length≤1000000∧x.fl.safe.length≤1000000):=by
  have B:=tot_le h.fl h.n;have C:k*32768≤100000*32768:=Nat.mul_le_mul_right _ hk;have D:=h.n;have E:=h.p;exact⟨by omega,by omega,by omega,fun x A=>by have:=(h.fl x A).1;omega,fun x A=>by have:=(h.fl x A).2;omega,fun x A=>by have:=h.fl x A;omega⟩
theorem make_new {m:SFs} {s:Ly} {i j r:Nat} (e:makeR f s i j=(r,m)) (hn:(m.nodes.map (·.id)).Nodup):i∉f.nodes.map (·.id)∨r≠0:=by
  unfold makeR at e
  split at e
  · cases e;exact .inr (by decide)
  · split at e
    · rename_i h _;cases e;exact .inr h
    · split at e
      · cases e;exact .inr (by decide)
      · split at e
        · rename_i h;rw[e]at h;exact .inr h
        · cases e
          refine .inl fun A=>?_;rw[List.map_append,List.nodup_append]at hn;exact hn.2.2 i A i (by simp) rfl
theorem oMake (uQ:Up w Q) (hF:FsO k fp w Q b f) (s:Ly) (p0:s.length≤1000000) (hk:k≤100000) :
    Calls Tryz.prog 30 #[.pointer (some ⟨b,0,none⟩),str s] w fun en w'=>∃r:Nat,en = .returned (.int .i64 r)∧r<9223372036854775808∧FsPost (k+1) fp w Q b w' fun m=>∃i j,makeR f s i j=(r,m):=by
  obtain⟨W,X,rfl,J,O,S,P,R,K,E⟩:=hF;obtain⟨T,U,V,Y,Z,a⟩:=FsO.tot E hk;refine(fMake_any uQ f J O S P R K s p0 T U V).mono ?_;rintro en w' ⟨r,m,c,d,F,rfl,L,M,N,G,I,H,A,B,D,C⟩;have:=FsO.back (k:=k+1) G I H A B D (fBl_mem b W X f.nodes) (wf_make E (make_new C D.ids) C);exact⟨r,rfl,N,m,_,F,L,M,this.2,this.1,_,_,C⟩
theorem oWrite (uQ:Up w Q) (hF:FsO k fp w Q b f) (s:Ly) (p:Int) (a2:-9223372036854775808≤p∧p<9223372036854775808) {v3:Value} {x:Ly} (h3:Ls tB8 w Q v3 x) (p0:s.length≤1000000) (hk:k≤100000) :
    Calls Tryz.prog 34 #[.pointer (some ⟨b,0,none⟩),str s,.int .i64 (p:Int),v3] w fun en w'=>∃r:Nat,en = .returned (.int .i64 r)∧r<9223372036854775808∧FsPost (k+1) fp w Q b w' fun m=>∃j,writeR f s p x j=(r,m):=by
  obtain⟨Y,Z,rfl,J,O,S,P,R,K,D⟩:=hF;obtain⟨T,U,V,W,X,a⟩:=FsO.tot D hk;refine(fWrite_any uQ f J O S P R K s p a2 h3 p0 T U V W X).mono ?_;rintro en w' ⟨r,m,c,d,E,rfl,L,M,N,F,I,H,A,B,G,j,C⟩;have:=FsO.back (k:=k+1) F I H A B G (fBl_mem b Y Z f.nodes) (wf_write D C);exact⟨r,rfl,N,m,_,E,L,M,this.2,this.1,_,C⟩
theorem oSync (uQ:Up w Q) (hF:FsO k fp w Q b f) (s:Ly) (p0:s.length≤1000000) (hk:k≤100000) :
    Calls Tryz.prog 52 #[.pointer (some ⟨b,0,none⟩),str s] w fun en w'=>∃r:Nat,en = .returned (.int .i64 r)∧r<9223372036854775808∧FsPost (k+1) fp w Q b w' fun m=>syncR f s=(r,m):=by
  obtain⟨W,X,rfl,J,O,S,P,R,K,D⟩:=hF;obtain⟨Y,T,U,V,Z,a⟩:=FsO.tot D hk;refine(fSync_any uQ f J O S P R K s p0 trivial T U V).mono ?_;rintro en w' ⟨r,m,c,d,E,rfl,L,M,N,F,I,H,A,B,G,C⟩;have:=FsO.back (k:=k+1) F I H A B G (fBl_mem b W X f.nodes) (wf_sync D C);exact⟨r,rfl,N,m,_,E,L,M,this.2,this.1,C⟩
theorem oSyncDir (uQ:Up w Q) (hF:FsO k fp w Q b f) :
    Calls Tryz.prog 36 #[.pointer (some ⟨b,0,none⟩)] w fun en w'=>∃r:Nat,en = .returned (.int .i64 r)∧r<9223372036854775808∧FsPost (k+1) fp w Q b w' fun m=>syncDirR f=(r,m):=by
  obtain⟨S,T,rfl,I,N,R,O,P,J,U⟩:=hF;refine(fSyncDir_any uQ f I N R O P J).mono ?_;rintro en w' ⟨r,m,V,W,D,rfl,K,L,M,E,H,G,A,B,F,C⟩;have:=FsO.back (k:=k+1) E H G A B F (fBl_mem b S T f.nodes) (wf_dir U C);exact⟨r,rfl,M,m,_,D,K,L,this.2,this.1,C⟩
theorem oCrash (uQ:Up w Q) (hF:FsO k fp w Q b f) {v1:Value} {keep:List Bool} (h1:Ls tBool w Q v1 keep) (dirs:Int) (a2:-9223372036854775808≤dirs∧dirs<9223372036854775808) (hk:k≤100000) :
    Calls Tryz.prog 37 #[.pointer (some ⟨b,0,none⟩),v1,.int .i64 (dirs:Int)] w fun en w'=>en = .returned (.tuple #[])∧FsPost k fp w Q b w' fun m=>crashR f keep dirs=m:=by
  obtain⟨V,v1,rfl,I,N,R,O,P,K,C⟩:=hF;obtain⟨W,S,T,X,Y,U⟩:=FsO.tot C hk;refine(fCrash_any uQ f I N R O P K h1 dirs a2 S T C.ch U).mono ?_;rintro en w' ⟨m,Z,a,D,rfl,L,M,E,H,G,A,B,F,J⟩;subst J;have:=FsO.back (k:=k) E H G A B F (fBl_mem b V v1 f.nodes) (wf_crash C);exact⟨rfl,_,_,D,L,M,this.2,this.1,rfl⟩
theorem oAll (uQ:Up w Q) (hF:FsO k fp w Q b f) (s:Ly) (p0:s.length≤1000000) (hk:k≤100000) :
    Calls Tryz.prog 22 #[.pointer (some ⟨b,0,none⟩),str s] w fun en w'=>∃u0:Value,∃r0:List UInt8,∃r1:Nat,en = .returned (.tuple #[u0,(.int .i64 r1)])∧Md [] w w'∧Ls tB8 w' Q u0 r0∧r1<9223372036854775808∧allF f.off f.nodes s=(r0,r1):=by
  obtain⟨H,I,rfl,A,C,F,D,E,B,G⟩:=hF;exact fAll_any uQ f A C F D E s B p0 (FsO.tot G hk).2.2.2.1
theorem oLen (uQ:Up w Q) (hF:FsO k fp w Q b f) (s:Ly) (p0:s.length≤1000000) :
    Calls Tryz.prog 32 #[.pointer (some ⟨b,0,none⟩),str s] w fun en w'=>∃r0:Nat,∃r1:Nat,en = .returned (.tuple #[(.int .i64 r0),(.int .i64 r1)])∧Md [] w w'∧r0<9223372036854775808∧r1<9223372036854775808∧lenF f.off f.nodes s=(r0,r1):=by
  obtain⟨G,H,rfl,A,C,F,D,E,B,I⟩:=hF;exact fLen_any uQ f A C F D E s B p0
theorem oFree (uQ:Up w Q) (hF:FsO k fp w Q b f) (hk:k≤100000) :
    Calls Tryz.prog 44 #[.pointer (some ⟨b,0,none⟩)] w fun en w'=>∃r0:Int,en = .returned (.int .i64 (r0:Int))∧Md [] w w'∧(-9223372036854775808≤r0∧r0<9223372036854775808)∧freeF f=r0:=by
  obtain⟨H,I,rfl,B,D,G,E,F,C,A⟩:=hF;exact fFree_any uQ f B D G E F C (FsO.tot A hk).1 A.room
theorem oOff (uQ:Up w Q) (hF:FsO k fp w Q b f) :
    Calls Tryz.prog 51 #[.pointer (some ⟨b,0,none⟩)] w fun en w'=>∃r0:Bool,en = .returned (.bool r0)∧Md [] w w'∧f.off=r0:=by
  obtain⟨G,H,rfl,A,B,E,C,D,F,I⟩:=hF;exact fOff_any uQ f A B E C D
theorem oNew (uQ:Up w Q) (r:Int) (a0:-9223372036854775808≤r∧r<9223372036854775808) (p0:4096≤r) (p1:r≤1048576) :
    Calls Tryz.prog 11 #[.int .i64 (r:Int)] w fun en w'=>∃o fp Q',en = .returned (.tuple #[.pointer (some ⟨o,0,none⟩),(.int .i64 ((0:Nat):Int))])∧Md [] w w'∧NewQ w w' Q Q'∧(∀x∈fp,w.heap.size≤x)∧FsO 0 fp w' Q' o {room:=r,fuse:=-1,off:=false,nodes:=[],pend:=[]}:=by
  refine(fNew_any uQ r a0 p0 p1).mono ?_;rintro en w' ⟨o,D,E,M,N,Q',rfl,K,L,F,I,H,G,B,C,_,J⟩
  cases J
  refine⟨o,fBl o D E [],Q',rfl,K,L,?_,⟨D,E,rfl,F,I,G,B.reP fun _ _=>trivial,C.reP fun _ _=>trivial,Nds.nil _ _ _ _ _,⟨Nat.le_refl _,Nat.le_refl _,fun x A=>absurd A List.not_mem_nil,fun x A=>absurd A List.not_mem_nil,by show 0≤r;omega,List.nodup_nil⟩⟩⟩;intro x A;unfold fBl at A;simp only[List.mem_append,List.mem_cons,Option.mem_toList]at A;rcases A with(rfl|A)|A|A
  · exact H
  · exact(B.2 x A).1.elim (fun h=>absurd h List.not_mem_nil) id
  · exact(C.2 x A).1.elim (fun h=>absurd h List.not_mem_nil) id
  · exact absurd A (by simp[ndB])
end


/-- A directory, and a writer into one of its files. -/
structure WrS where
  fs:SFs
  wr:Wri
/-- Both in memory, in the blocks of fp alone; the writer's own is wb. -/
def WrO (wb k:Nat) (fp:List Nat) (w:World) (Q:Nat→Prop) (b:Nat) (x:WrS):Prop :=
  ∃fq v,fp=wb :: fq∧FsO k fq w Q b x.fs∧wb∉fq∧Blk w wb (x.wr.cells v) 102∧¬Q wb∧x.wr.fs=b∧Wri.ok x.wr∧Pt tDrf 107 w Q v x.wr.d
/-- What a call leaves that changes a writer or its directory. -/
def WrPost (wb k:Nat) (fp:List Nat) (w:World) (Q:Nat→Prop) (b:Nat) (w':World) (G:WrS→Prop):Prop :=
  ∃m fp' Q',Md fp w w'∧NewQ w w' Q Q'∧(∀x∈fp',x∈fp∨w.heap.size≤x)∧WrO wb k fp' w' Q' b m∧G m
section
variable {wb k:Nat} {fp S:List Nat} {w w':World} {Q Q':Nat→Prop} {b:Nat} {x:WrS}
theorem WrO.wf (h:WrO wb k fp w Q b x):fWf k x.fs:=by obtain⟨_,_,_,h,_⟩:=h;exact h.wf
theorem WrO.lt (h:WrO wb k fp w Q b x):∀y∈fp,y<w.heap.size∧¬Q y:=by
  obtain⟨E,v,rfl,B,F,C,D,_⟩:=h;intro y A;rcases List.mem_cons.1 A with rfl|A
  · exact⟨C.lt,D⟩
  · exact B.lt y A
theorem WrO.md (h:WrO wb k fp w Q b x) (m:Md S w w') (ha:∀y∈fp,y∉S) (hs:∀b∈S,¬Q b):WrO wb k fp w' Q b x:=by
  obtain⟨A,v,rfl,B,C,D,E,F,G,H⟩:=h;exact⟨A,v,rfl,B.md m (fun y I=>ha y (by simp[I])) hs,C,D.md m (ha wb (by simp)),E,F,G,H.md m hs⟩
theorem WrO.md0 (h:WrO wb k fp w Q b x) (m:Md [] w w'):WrO wb k fp w' Q b x:=h.md m (fun _ _=>List.not_mem_nil) (fun _ hb=>absurd hb List.not_mem_nil)
theorem WrO.sub (h:WrO wb k fp w Q b x) (s:∀b,Q b→b<w.heap.size→Q' b) (t:∀b,Q' b→Q b):WrO wb k fp w Q' b x:=by
  obtain⟨B,v,rfl,C,D,E,F,G,H,I⟩:=h;exact⟨B,v,rfl,C.sub s t,D,E,fun J=>F (t _ J),G,H,I.sub s⟩
/-- A call of the directory's leaves the writer as it is. -/
theorem WrO.put {fq:List Nat} {v:Value} {k':Nat} {w':World} {G:SFs→Prop} (h2:FsO k fq w Q b x.fs) (h3:wb∉fq∧Blk w wb (x.wr.cells v) 102∧¬Q wb∧x.wr.fs=b∧Wri.ok x.wr∧Pt tDrf 107 w Q v x.wr.d) (H:FsPost k' fq w Q b w' G):WrPost wb k' (wb :: fq) w Q b w' fun y=>y.wr=x.wr∧G y.fs:=by
  obtain⟨h3,I,L,M,N,O⟩:=h3;obtain⟨m,C,K,F,D,J,R,P⟩:=H;have S:∀b∈fq,¬Q b:=fun y B=>(h2.lt y B).2;have T:=I.lt;refine⟨⟨m,x.wr⟩,wb :: C,K,F.mono fun y B _=>by simp[B],D,fun y B=>?_,⟨C,v,rfl,R,?_,I.md F h3,fun A=>L (D.2.1 _ A),M,N,(O.sub D.1).md F fun b E A=>S b E (D.2.1 b A)⟩,rfl,P⟩
  · rcases List.mem_cons.1 B with rfl|B
    · exact .inl (by simp)
    · exact(J y B).imp (fun h=>by simp[h]) id
  · intro E;exact(J wb E).elim h3 (fun h=>by omega)
end
section
variable {wb k:Nat} {fp:List Nat} {w:World} {Q:Nat→Prop} {b:Nat} {x:WrS}
theorem xSyncDir (uQ:Up w Q) (hW:WrO wb k fp w Q b x) :
    Calls Tryz.prog 36 #[.pointer (some ⟨b,0,none⟩)] w fun en w'=>∃r:Nat,en = .returned (.int .i64 r)∧r<9223372036854775808∧WrPost wb (k+1) fp w Q b w' fun m=>m.wr=x.wr∧(syncDirR x.fs=(r,m.fs)):=by
  obtain⟨E,v,rfl,A,B⟩:=hW;refine(oSyncDir uQ A).mono ?_;rintro en w' ⟨r,rfl,D,C⟩;exact⟨r,rfl,D,WrO.put A B C⟩
theorem xCrash (uQ:Up w Q) (hW:WrO wb k fp w Q b x) {v1:Value} {keep:List Bool} (h1:Ls tBool w Q v1 keep) (dirs:Int) (a2:-9223372036854775808≤dirs∧dirs<9223372036854775808) (hk:k≤100000) :
    Calls Tryz.prog 37 #[.pointer (some ⟨b,0,none⟩),v1,.int .i64 (dirs:Int)] w fun en w'=>en = .returned (.tuple #[])∧WrPost wb k fp w Q b w' fun m=>m.wr=x.wr∧(crashR x.fs keep dirs=m.fs):=by
  obtain⟨D,v,rfl,A,B⟩:=hW;refine(oCrash uQ A h1 dirs a2 hk).mono ?_;rintro en w' ⟨rfl,C⟩;exact⟨rfl,WrO.put A B C⟩
theorem xAll (uQ:Up w Q) (hW:WrO wb k fp w Q b x) (s:Ly) (p0:s.length≤1000000) (hk:k≤100000) :
    Calls Tryz.prog 22 #[.pointer (some ⟨b,0,none⟩),str s] w fun en w'=>∃u0:Value,∃r0:List UInt8,∃r1:Nat,en = .returned (.tuple #[u0,(.int .i64 r1)])∧Md [] w w'∧Ls tB8 w' Q u0 r0∧r1<9223372036854775808∧allF x.fs.off x.fs.nodes s=(r0,r1):=by
  obtain⟨B,v,rfl,A,C⟩:=hW;exact oAll uQ A s p0 hk
end

theorem fn32:isFn Tryz.prog 32=true:=by kernel_rfl
theorem fn34:isFn Tryz.prog 34=true:=by kernel_rfl
theorem fn44:isFn Tryz.prog 44=true:=by kernel_rfl
theorem fn52:isFn Tryz.prog 52=true:=by kernel_rfl
theorem off102_0:fieldOff Tryz.prog 102 0=some 0:=by kernel_rfl
theorem off102_1:fieldOff Tryz.prog 102 1=some 1:=by kernel_rfl
theorem off102_5:fieldOff Tryz.prog 102 5=some 5:=by kernel_rfl
theorem one35:isOne Tryz.prog 35=true:=by kernel_rfl

def stepW (p:Nat × SFs) (g:SFs→Nat × SFs):Nat × SFs:=if p.1≠0 then p else g p.2
theorem stepW_0 {p:Nat × SFs} {g:SFs→Nat × SFs} {f:SFs} (h:p=(0,f)):stepW p g=g f:=by subst h;rfl
theorem stepW_c {p:Nat × SFs} {g:SFs→Nat × SFs} {c:Nat} {f:SFs} (h:p=(c,f)) (hc:c≠0):stepW p g=(c,f):=by subst h;exact if_pos hc
/-- One part written and made safe. -/
def partW (f:SFs) (s:Ly) (p:Nat) (x:Ly) (i:Nat):Nat × SFs:=stepW (writeR f s (p:Nat) x i) fun m=>syncR m s
def saveW (f:SFs) (s:Ly) (x:Ly) (i j:Nat):Nat × SFs :=
  stepW (partW f s (min 512 x.length) (x.drop (min 512 x.length)) i) fun m=>partW m s 0 (x.take (min 512 x.length)) j
def saveR (a:Bool) (f:SFs) (s:Ly) (x:Ly) (i j:Nat):Nat × SFs :=
  if a=true then(8,f)else if(lenF f.off f.nodes s).2≠0 then((lenF f.off f.nodes s).2,f)else if freeF f<(x.length:Int)-((lenF f.off f.nodes s).1:Nat)then(15,f)else saveW f s x i j
/-- How far it is, ahead of part i. -/
def SavI (f0:SFs) (s:Ly) (x:Ly) (i:Nat) (f:SFs):Prop :=
  (i=0→f=f0)∧(i=1→∃j,partW f0 s (min 512 x.length) (x.drop (min 512 x.length)) j=(0,f))∧(2≤i→∃j q,saveW f0 s x j q=(0,f))
theorem two_get {α:Type} {a b p:α} {i:Nat} (h:[a,b][i]? = some p):(i=0∧p=a)∨(i=1∧p=b):=by
  match i,h with
  | 0,h=>exact .inl ⟨rfl,by simpa using h.symm⟩
  | 1,h=>exact .inr ⟨rfl,by simpa using h.symm⟩
  | i+2,h=>simp at h
theorem SavI.next {f0 f1 ff:SFs} {s x part:Ly} {i p j c:Nat} (h:SavI f0 s x i f1) (hp:(i=0∧p=min 512 x.length∧part=x.drop (min 512 x.length))∨(i=1∧p=0∧part=x.take (min 512 x.length))) (hw:partW f1 s p part j=(c,ff)) :
    (c=0→SavI f0 s x (i+1) ff)∧(c≠0→∃j q,saveW f0 s x j q=(c,ff)):=by
  obtain⟨C,D,F⟩:=h;rcases hp with⟨rfl,rfl,rfl⟩|⟨rfl,rfl,rfl⟩
  · have e:=C rfl
    subst e;exact⟨fun A=>by subst A;exact⟨fun h=>by omega,fun _=>⟨j,hw⟩,fun h=>by omega⟩,fun A=>⟨j,0,stepW_c hw A⟩⟩
  · obtain⟨q,E⟩:=D rfl
    have B:saveW f0 s x q j=(c,ff):=(stepW_0 E).trans hw;exact⟨fun A=>by subst A;exact⟨fun h=>by omega,fun h=>by omega,fun _=>⟨q,j,B⟩⟩,fun A=>⟨q,j,B⟩⟩
set_option maxHeartbeats 4000000 in
theorem wSave_any {w:World} {Q:Nat→Prop} (uQ:Up w Q) {b0:Nat} {v0_0:Value} {fp:List Nat} {k:Nat} {f:SFs} (m:Wri) (FO1:FsO k fp w Q m.fs f) (h0:Blk w b0 (m.cells v0_0) 102) (n0:¬Q b0) (nf:b0∉fp) (a0_0:m.ok) (a0_1:Pt tDrf 107 w Q v0_0 m.d) {v1:Value} {x:Ly} (h1:Ls tB8 w Q v1 x) (p0:k≤90000) (p1:m.name.length≤1000000) (p2:1≤x.length∧x.length≤1000000) :
    Calls Tryz.prog 68 #[.pointer (some ⟨b0,0,none⟩),v1] w fun en w'=>∃r:Nat,∃f':SFs,∃fp':List Nat,∃Q':Nat→Prop,∃m':Wri,en = .returned (.int .i64 r)∧r<9223372036854775808∧Md (b0 :: fp) w w'∧NewQ w w' Q Q'∧(∀y∈fp',y∈b0 :: fp∨w.heap.size≤y)∧FsO (k+4) fp' w' Q' m.fs f'∧Blk w' b0 (m'.cells v0_0) 102∧¬Q' b0∧b0∉fp'∧m'.ok∧Pt tDrf 107 w' Q' v0_0 m'.d∧m'={m with waiting:=if r=0 then 0 else m.waiting}∧∃i j,saveR m.archived f m.name x i j=(r,f'):=by
  have L1:=h1.len63;have A:=nf;have C:∀x∈fp,Fsh (b0 :: fp) w x:=fun x hx=>.inl (by simp[hx]);have F:=n0;have Bx:Fsh (b0 :: fp) w b0:=.inl (by simp);have M:=Md.refl (b0 :: fp) w;have Cm:=uQ;have g:∀b,Q b→Q b:=fun _ h=>h;have I:∀b,Q b→b<w.heap.size→Q b:=fun _ h _=>h;refine enter (n:=90) Tryz.func68 rfl rfl rfl ?_;intro B;refine ns (asg rfl (nt (c_seq (ns (mv rfl (sn rfl (sf rfl off102_5 (sl (u:=(.bool m.archived)) rfl one4 h0 rfl (nt ?_)))))))));refine c_if rfl (fun A4=>?_) (fun A4=>?_)
  · (have P:=A4);refine ns (asg rfl (nt (c_ret (r_then ?_))));exact ret1L (v:=.int .i64 ((8:Nat):Int)) trivial rfl ⟨rfl,tV⟩ ⟨8,f,_,_,m,rfl,(by omega),M,⟨I,g,uQ⟩,C,FO1.up (by omega),h0,F,A,a0_0,a0_1,(by rw[if_neg (by omega)]),⟨0,0,by unfold saveR;rw[if_pos P]⟩⟩
  · (have P:=A4);refine c_skip (c_then (c_seq ?_));have H:=h0;refine c_mixT [(0,true),(1,true),(2,true),(3,true),(4,true),(5,true),(6,true),(7,true),(8,false),(9,true),(10,true),(11,true),(12,true)] [13] (fun w'=>Md [] w w') mixed (by kernel_rfl) ?_;intro w1 D;refine⟨D.mono (by simp),?_⟩;have MC:=D.mono (T:=[]) (by simp);refine mo rfl (mz (fun w' J=>r_nil rfl) (mz (fun w' J=>r_field rfl off102_0) (mz (fun w' J=>(r_loadBlk rfl one35 (H.md0 J) rfl).to (b:=(.pointer (some ⟨m.fs,0,none⟩))) rfl) (mo rfl (mz (fun w' J=>r_nil rfl) (mz (fun w' J=>r_field rfl off102_1) (mz (fun w' J=>(r_loadBlk rfl one9 (H.md0 J) rfl).to (b:=(str m.name)) rfl) ?_)))))));replace a0_1:=a0_1.md0 D;replace h0:=h0.md0 D;replace h1:=h1.md0 D;replace FO1:=FO1.md0 D;replace uQ:=uQ.md D;replace M:=M.step0 D;refine m_e ?_ rfl;refine st_call fn32 rfl (oLen uQ FO1 m.name (by omega)) ?_;rintro en w2 ⟨A2,Aw,rfl,G,Cf,Cg,Af⟩;refine⟨_,rfl,?_⟩;replace a0_1:=a0_1.md0 G;replace h0:=h0.md0 G;replace h1:=h1.md0 G;replace FO1:=FO1.md0 G;replace uQ:=uQ.md G;replace M:=M.step0 G;replace MC:=MC.step0 G;refine st_nil ⟨rfl,MC,?_⟩;refine mo rfl (mz (fun w' J=>r_extract rfl rfl) (mz (fun w' J=>r_extract rfl rfl) (mz (fun w' J=>r_assign rfl) (m_nil ?_))));clear H;clear MC;refine asg rfl (nt (c_seq (c_block (ns (mv rfl (st _ (r_neN (a:=Aw) (b:=0) rfl rfl) (asg rfl (nt ?_))))))));refine c_if rfl (fun A5=>?_) (fun A5=>?_)
    · (have Bn:=dT A5);refine ns (mv rfl (asg rfl (nt (c_ret (r_block (r_then ?_))))));exact ret1L (v:=.int .i64 Aw) trivial rfl ⟨rfl,tV⟩ ⟨Aw,f,_,_,m,rfl,(by omega),M,⟨I,g,uQ⟩,C,FO1.up (by omega),h0,F,A,a0_0,a0_1,(by rw[if_neg (by omega)]),⟨0,0,by unfold saveR;rw[if_neg (by simp[P]),Af];simp only;rw[if_pos (by omega)]⟩⟩
    · (have Bn:=dF A5);refine ns (mv rfl (sn rfl (sf rfl off102_0 (sl (u:=(.pointer (some ⟨m.fs,0,none⟩))) rfl one35 h0 rfl (st_call fn44 rfl (oFree uQ FO1 (by omega)) ?_)))));rintro en w3 ⟨Bz,rfl,G,Ch,Aj⟩;refine⟨_,rfl,?_⟩;replace a0_1:=a0_1.md0 G;replace h0:=h0.md0 G;replace h1:=h1.md0 G;replace FO1:=FO1.md0 G;replace uQ:=uQ.md G;replace M:=M.step0 G;refine mv rfl (sL rfl u45 h1.shp (mv rfl (st _ (r_subI (a:=((x.length:Nat):Int)) (b:=((A2:Nat):Int)) rfl rfl (by omega)) (st _ (r_lt (a:=Bz) (b:=((x.length:Nat):Int)-((A2:Nat):Int)) rfl rfl) (asg rfl (nt ?_))))));refine c_if rfl (fun A6=>?_) (fun A6=>?_)
      · (have Bo:=dT A6);refine ns (asg rfl (nt (c_ret (r_block (r_then ?_)))));exact ret1L (v:=.int .i64 ((15:Nat):Int)) trivial rfl ⟨rfl,tV⟩ ⟨15,f,_,_,m,rfl,(by omega),M,⟨I,g,uQ⟩,C,FO1.up (by omega),h0,F,A,a0_0,a0_1,(by rw[if_neg (by omega)]),⟨0,0,by unfold saveR;rw[if_neg (by simp[P]),Af];simp only;rw[if_neg (by omega),Aj,if_pos (by omega)]⟩⟩
      · (have Bo:=dF A6);refine c_skip (n_block (c_then (ns (mv rfl (sL rfl u45 h1.shp (st _ (r_minN (a:=512) (b:=x.length) rfl rfl) (asg rfl (nt (c_seq (ns (mv rfl (st_buildSliceG [[(.int .i64 ((min 512 x.length:Nat):Int))],[(.int .i64 ((0:Nat):Int))]] u22 elT3 (by decide) (by decide) rfl rfl ⟨rfl,rfl,tV⟩ ⟨rfl,rfl,tV⟩ rfl (by decide) ?_))))))))))));intro Am w4 Bm Ce G E;have B1:=uQ _ Bm;replace a0_1:=a0_1.md0 G;replace h0:=h0.md0 G;replace h1:=h1.md0 G;replace FO1:=FO1.md0 G;replace uQ:=uQ.md G;replace M:=M.step0 G;replace E:=Ls.of_blk (m:=2) (R:=Q) (T:=tNat) (xs:=[min 512 x.length,0]) E ⟨_,_,rfl,⟨rfl,(by omega)⟩,⟨_,_,rfl,⟨rfl,(by omega)⟩,rfl⟩⟩ rfl (by decide) B1;refine sL rfl u22 E.shp (mv rfl (nt (c_block ?_)));refine loop3 (fun(Y:List Nat) (f1:SFs) (i:Nat)=>[(49,(.int .i64 i)),(0,(.pointer (some ⟨b0,0,none⟩))),(1,v1),(7,(.int .i64 ((min 512 x.length:Nat):Int))),(47,(.slice (some ⟨Am,0,none⟩) 2 2)),(48,(.int .i64 ((([min 512 x.length,0]).length:Nat):Int)))]) (fun(Y:List Nat) (f1:SFs) (i:Nat) w'=>∃Q':Nat→Prop,(∀b,Q' b→Q b)∧(∀b,Q b→b<w.heap.size→Q' b)∧Up w' Q'∧Md (b0 :: fp) w w'∧FsO (k+2*i) Y w' Q' m.fs f1∧(∀x∈Y,Fsh (b0 :: fp) w x)∧Blk w' b0 (Wri.cells m v0_0) 102∧Ls tB8 w' Q' v1 x∧Ls tNat w' Q' (.slice (some ⟨Am,0,none⟩) 2 2) ([min 512 x.length,0])∧Pt tDrf 107 w' Q' v0_0 m.d∧¬Q' b0∧b0∉Y∧SavI f m.name x i f1∧i≤2) (fun(Y:List Nat) (f1:SFs) (i:Nat)=>2-i) (x0:=fp) (x1:=f) (x2:=0) ?_ ?_ ?_
        · exact⟨rfl,rfl,rfl,rfl,rfl,rfl,tV⟩
        · exact⟨Q,g,I,uQ,M,(FO1.up (by omega)),C,h0,h1,E,a0_1,F,A,⟨fun _=>rfl,fun h=>by omega,fun h=>by omega⟩,(by omega)⟩
        · clear M uQ g I F a0_1 h0 h1 FO1 E C
          rintro Y f1 i B w5 ⟨Q6,g,I,uQ,M,FO1,C,h0,h1,E,a0_1,F,A,Ac,Cd⟩;refine ns (st _ (r_ltN (a:=i) (b:=(([min 512 x.length,0]).length)) rfl rfl) (nt (c_seq ?_)));refine c_if rfl (fun A7=>?_) (fun A7=>?_)
          · (have Bp:=dT A7);refine c_skip (c_then (c_seq (c_block (ns (st _ (r_indexN (i:=i) 1 rfl rfl u22 el3 E.shp (by omega)) ?_)))));obtain⟨x7,Bv⟩:=getE (l:=[min 512 x.length,0]) (i:=i) (by omega);obtain⟨c8,B3,Ay⟩:=E.get Bv;obtain⟨rfl,Cc⟩:=B3;replace Ay:At _ (.slice (some ⟨Am,0,none⟩) 2 2) (i*1) [(.int .i64 x7)]:=Ay;refine st _ ((r_loadE (kk:=i*1) 0 rfl rfl one3 Ay rfl).to (b:=(.int .i64 x7)) rfl) (asg rfl (st_nil ?_));clear Ay;refine c_then (ns ?_);have xi:=two_get Bv;refine mv rfl (mv rfl (st _ (r_sliceZ 1 x7 x.length u45 el5 rfl h1.shp (by omega) (by omega) ⟨_,rfl⟩ rfl) ?_));have L:=h1.tail (lo:=x7) (by omega);refine asg rfl (nt (c_seq (ns (mv rfl (st _ (r_eqN (a:=x7) (b:=0) rfl rfl) (nt ?_))))));refine c_if rfl (fun A8=>?_) (fun A8=>?_)
            · (have Bq:=dT A8)
              have xp:(i=0∧x7=min 512 x.length∧x.take (min 512 x.length)=x.drop (min 512 x.length))∨(i=1∧x7=0∧x.take (min 512 x.length)=x.take (min 512 x.length)):=by
                rcases xi with⟨e1,e2⟩|⟨e1,e2⟩
                · exfalso;omega
                · exact .inr ⟨e1,e2,rfl⟩
              refine c_region (mv rfl (mv rfl (st _ (r_sliceZ 1 0 (min 512 x.length) u45 el5 rfl h1.shp (by omega) (by omega) rfl ⟨_,rfl⟩) ?_)));have U:=h1.head (hi:=min 512 x.length) (by omega);refine asg rfl (nt (c_seq ?_));have H:=h0;refine c_mixT (ml 10) [10,11] (fun w'=>Md [] w5 w') mixed (by kernel_rfl) ?_;intro Cn D;refine⟨D.mono (by simp),?_⟩;have MC:=D.mono (T:=[]) (by simp);refine mo rfl (mz (fun w' J=>r_nil rfl) (mz (fun w' J=>r_field rfl off102_0) (mz (fun w' J=>(r_loadBlk rfl one35 (H.md0 J) rfl).to (b:=(.pointer (some ⟨m.fs,0,none⟩))) rfl) (mo rfl (mz (fun w' J=>r_nil rfl) (mz (fun w' J=>r_field rfl off102_1) (mz (fun w' J=>(r_loadBlk rfl one9 (H.md0 J) rfl).to (b:=(str m.name)) rfl) (mo rfl (mo rfl (m_nil ?_))))))))));replace FO1:=FO1.md0 D;replace h0:=h0.md0 D;replace h1:=h1.md0 D;replace E:=E.md0 D;replace a0_1:=a0_1.md0 D;replace L:=L.md0 D;replace U:=U.md0 D;replace uQ:=uQ.md D;replace M:=M.step0 D;clear H;clear MC;refine st_call fn34 rfl (oWrite uQ FO1 m.name (((x7:Nat):Int)) (by omega) U (by omega) (by omega)) ?_;rintro en Ca ⟨W,rfl,B4,Bb,Ah,Bh,G,⟨V,p,o⟩,O,K,Br⟩;refine⟨_,rfl,?_⟩;have S:∀b∈Y,¬Bh b:=fun b Z hq=>(FO1.lt b Z).2 (p b hq);have e:b0∉Ah:=fun h=>(O _ h).elim A (fun h=>by have:=h0.lt;omega);replace F:=fun hh=>F (p _ hh);replace h0:=h0.md G A;replace A:=e;clear e;replace h1:=(h1.sub V).md G S;replace E:=(E.sub V).md G S;replace a0_1:=(a0_1.sub V).md G S;replace L:=(L.sub V).md G S;replace U:=(U.sub V).md G S;have r9:∀x∈Ah,Fsh (b0 :: fp) w x:=fun x hx=>(O x hx).elim (C x) (Fsh.new M x)
              replace g:=fun b Z=>g b (p b Z);replace I:=fun b Z hl=>V b (I b Z hl) (lv hl M.size);replace M:=M.step G C;clear uQ C FO1;have uQ:=o;have C:=r9;have FO1:=K;have Ag:=G;clear o r9 K V p S O G;clear Ag;replace FO1:FsO ((k+2*i)+1) _ _ _ _ _:=FO1;obtain⟨jw,As⟩:=Br;refine asg rfl (nt (c_seq (ns (mv rfl (st _ (r_eqN (a:=W) (b:=0) rfl rfl) (nt ?_))))));refine c_if rfl (fun Ae=>?_) (fun Ae=>?_)
              · (have Aq:=dT Ae);have H:=h0;refine c_mixT (ml 8) [8,9] (fun w'=>Md [] Ca w') mixed (by kernel_rfl) ?_;intro Co D;refine⟨D.mono (by simp),?_⟩;have MC:=D.mono (T:=[]) (by simp);refine mo rfl (mz (fun w' J=>r_nil rfl) (mz (fun w' J=>r_field rfl off102_0) (mz (fun w' J=>(r_loadBlk rfl one35 (H.md0 J) rfl).to (b:=(.pointer (some ⟨m.fs,0,none⟩))) rfl) (mo rfl (mz (fun w' J=>r_nil rfl) (mz (fun w' J=>r_field rfl off102_1) (mz (fun w' J=>(r_loadBlk rfl one9 (H.md0 J) rfl).to (b:=(str m.name)) rfl) (m_nil ?_))))))));replace FO1:=FO1.md0 D;replace h0:=h0.md0 D;replace h1:=h1.md0 D;replace E:=E.md0 D;replace a0_1:=a0_1.md0 D;replace L:=L.md0 D;replace U:=U.md0 D;replace uQ:=uQ.md D;replace M:=M.step0 D;clear H;clear MC;refine st_call fn52 rfl (oSync uQ FO1 m.name (by omega) (by omega)) ?_;rintro en Cp ⟨t,rfl,B6,Bc,Ao,Bi,G,⟨V,p,o⟩,O,K,Bs⟩;refine⟨_,rfl,?_⟩;have S:∀b∈Ah,¬Bi b:=fun b Z hq=>(FO1.lt b Z).2 (p b hq);have e:b0∉Ao:=fun h=>(O _ h).elim A (fun h=>by have:=h0.lt;omega);replace F:=fun hh=>F (p _ hh);replace h0:=h0.md G A;replace A:=e;clear e;replace h1:=(h1.sub V).md G S;replace E:=(E.sub V).md G S;replace a0_1:=(a0_1.sub V).md G S;replace L:=(L.sub V).md G S;replace U:=(U.sub V).md G S;have r9:∀x∈Ao,Fsh (b0 :: fp) w x:=fun x hx=>(O x hx).elim (C x) (Fsh.new M x);replace g:=fun b Z=>g b (p b Z);replace I:=fun b Z hl=>V b (I b Z hl) (lv hl M.size);replace M:=M.step G C;clear uQ C FO1;have uQ:=o;have C:=r9;have FO1:=K;have Ag:=G;clear o r9 K V p S O G;clear Ag
                replace FO1:FsO ((k+2*i)+2) _ _ _ _ _:=FO1;refine asg rfl (nt (ns ?_));have PW:partW f1 m.name x7 (x.take (min 512 x.length)) jw=(t,Bc):=(by unfold partW;rw[stepW_0 (As.trans (by rw[show W=0 by omega]))];exact Bs);have PX:=SavI.next Ac xp PW;refine mv rfl (st _ (r_neN (a:=t) (b:=0) rfl rfl) (nt ?_));refine c_if rfl (fun N=>?_) (fun N=>?_)
                · (have c:=dT N);have Ad:=PX.2 (by omega);refine ns (mv rfl (asg rfl (nt (c_ret (r_block (r_then (r_then (r_block (r_then ?_)))))))));exact ret1L (v:=.int .i64 t) trivial rfl ⟨rfl,tV⟩ ⟨t,Bc,_,_,m,rfl,(by omega),M,⟨I,g,uQ⟩,C,FO1.up (by omega),h0,F,A,a0_0,a0_1,(by rw[if_neg (by omega)]),(by obtain⟨sj,sq,sk⟩:=Ad;exact⟨sj,sq,by unfold saveR;rw[if_neg (by simp[P]),Af];simp only;rw[if_neg (by omega),Aj,if_neg (by omega)];exact sk⟩)⟩
                · (have c:=dF N);refine c_skip (n_block (c_then (c_region (st _ (r_addN (a:=i) (b:=1) 9223372036854775808 rfl rfl rfl (by omega)) (mv rfl (nt ?_))))));refine next3 (x0:=Ao) (x1:=Bc) (x2:=(i+1)) (by omega) ⟨(fitI rfl (by omega)),rfl,rfl,rfl,rfl,rfl,tV⟩ ⟨Bi,g,I,uQ,M,(FO1.up (by omega)),C,h0,h1,E,a0_1,F,A,(PX.1 (by omega)),(by omega)⟩
              · (have Aq:=dF Ae);refine c_skip (c_then (ns ?_));have PW:partW f1 m.name x7 (x.take (min 512 x.length)) jw=(W,Bb):=(by unfold partW;exact stepW_c As (by omega));have PX:=SavI.next Ac xp PW;refine mv rfl (st _ (r_neN (a:=W) (b:=0) rfl rfl) (nt ?_));refine c_if rfl (fun N=>?_) (fun N=>?_)
                · (have c:=dT N);have Ad:=PX.2 (by omega);refine ns (mv rfl (asg rfl (nt (c_ret (r_block (r_then (r_then (r_block (r_then ?_)))))))));exact ret1L (v:=.int .i64 W) trivial rfl ⟨rfl,tV⟩ ⟨W,Bb,_,_,m,rfl,(by omega),M,⟨I,g,uQ⟩,C,FO1.up (by omega),h0,F,A,a0_0,a0_1,(by rw[if_neg (by omega)]),(by obtain⟨sj,sq,sk⟩:=Ad;exact⟨sj,sq,by unfold saveR;rw[if_neg (by simp[P]),Af];simp only;rw[if_neg (by omega),Aj,if_neg (by omega)];exact sk⟩)⟩
                · (have c:=dF N);refine c_skip (n_block (c_then (c_region (st _ (r_addN (a:=i) (b:=1) 9223372036854775808 rfl rfl rfl (by omega)) (mv rfl (nt ?_))))));refine next3 (x0:=Ah) (x1:=Bb) (x2:=(i+1)) (by omega) ⟨(fitI rfl (by omega)),rfl,rfl,rfl,rfl,rfl,tV⟩ ⟨Bh,g,I,uQ,M,(FO1.up (by omega)),C,h0,h1,E,a0_1,F,A,(PX.1 (by omega)),(by omega)⟩
            · (have Bq:=dF A8)
              have xp:(i=0∧x7=min 512 x.length∧x.drop x7=x.drop (min 512 x.length))∨(i=1∧x7=0∧x.drop x7=x.take (min 512 x.length)):=by
                rcases xi with⟨e1,e2⟩|⟨e1,e2⟩
                · exact .inl ⟨e1,e2,by rw[e2]⟩
                · exfalso;omega
              refine c_skip (c_then (c_seq ?_));have H:=h0;refine c_mixT (ml 10) [10,11] (fun w'=>Md [] w5 w') mixed (by kernel_rfl) ?_;intro Cq D;refine⟨D.mono (by simp),?_⟩;have MC:=D.mono (T:=[]) (by simp);refine mo rfl (mz (fun w' J=>r_nil rfl) (mz (fun w' J=>r_field rfl off102_0) (mz (fun w' J=>(r_loadBlk rfl one35 (H.md0 J) rfl).to (b:=(.pointer (some ⟨m.fs,0,none⟩))) rfl) (mo rfl (mz (fun w' J=>r_nil rfl) (mz (fun w' J=>r_field rfl off102_1) (mz (fun w' J=>(r_loadBlk rfl one9 (H.md0 J) rfl).to (b:=(str m.name)) rfl) (mo rfl (mo rfl (m_nil ?_))))))))));replace FO1:=FO1.md0 D;replace h0:=h0.md0 D;replace h1:=h1.md0 D;replace E:=E.md0 D;replace a0_1:=a0_1.md0 D;replace L:=L.md0 D;replace uQ:=uQ.md D;replace M:=M.step0 D;clear H;clear MC;refine st_call fn34 rfl (oWrite uQ FO1 m.name (((x7:Nat):Int)) (by omega) L (by omega) (by omega)) ?_;rintro en Cb ⟨X,rfl,B8,Bd,Ai,Bj,G,⟨V,p,o⟩,O,K,Bt⟩;refine⟨_,rfl,?_⟩;have S:∀b∈Y,¬Bj b:=fun b Z hq=>(FO1.lt b Z).2 (p b hq);have e:b0∉Ai:=fun h=>(O _ h).elim A (fun h=>by have:=h0.lt;omega);replace F:=fun hh=>F (p _ hh);replace h0:=h0.md G A;replace A:=e;clear e;replace h1:=(h1.sub V).md G S;replace E:=(E.sub V).md G S;replace a0_1:=(a0_1.sub V).md G S;replace L:=(L.sub V).md G S;have r9:∀x∈Ai,Fsh (b0 :: fp) w x:=fun x hx=>(O x hx).elim (C x) (Fsh.new M x);replace g:=fun b Z=>g b (p b Z);replace I:=fun b Z hl=>V b (I b Z hl) (lv hl M.size);replace M:=M.step G C;clear uQ C FO1;have uQ:=o;have C:=r9;have FO1:=K;have Ag:=G;clear o r9 K V p S O G;clear Ag;replace FO1:FsO ((k+2*i)+1) _ _ _ _ _:=FO1
              obtain⟨jw,As⟩:=Bt;refine asg rfl (nt (c_seq (ns (mv rfl (st _ (r_eqN (a:=X) (b:=0) rfl rfl) (nt ?_))))));refine c_if rfl (fun Ae=>?_) (fun Ae=>?_)
              · (have Aq:=dT Ae);have H:=h0;refine c_mixT (ml 8) [8,9] (fun w'=>Md [] Cb w') mixed (by kernel_rfl) ?_;intro Cr D;refine⟨D.mono (by simp),?_⟩;have MC:=D.mono (T:=[]) (by simp);refine mo rfl (mz (fun w' J=>r_nil rfl) (mz (fun w' J=>r_field rfl off102_0) (mz (fun w' J=>(r_loadBlk rfl one35 (H.md0 J) rfl).to (b:=(.pointer (some ⟨m.fs,0,none⟩))) rfl) (mo rfl (mz (fun w' J=>r_nil rfl) (mz (fun w' J=>r_field rfl off102_1) (mz (fun w' J=>(r_loadBlk rfl one9 (H.md0 J) rfl).to (b:=(str m.name)) rfl) (m_nil ?_))))))));replace FO1:=FO1.md0 D;replace h0:=h0.md0 D;replace h1:=h1.md0 D;replace E:=E.md0 D;replace a0_1:=a0_1.md0 D;replace L:=L.md0 D;replace uQ:=uQ.md D;replace M:=M.step0 D;clear H;clear MC;refine st_call fn52 rfl (oSync uQ FO1 m.name (by omega) (by omega)) ?_;rintro en Cs ⟨z,rfl,B9,Be,Ap,Bk,G,⟨V,p,o⟩,O,K,Bu⟩;refine⟨_,rfl,?_⟩;have S:∀b∈Ai,¬Bk b:=fun b Z hq=>(FO1.lt b Z).2 (p b hq);have e:b0∉Ap:=fun h=>(O _ h).elim A (fun h=>by have:=h0.lt;omega);replace F:=fun hh=>F (p _ hh);replace h0:=h0.md G A;replace A:=e;clear e;replace h1:=(h1.sub V).md G S;replace E:=(E.sub V).md G S;replace a0_1:=(a0_1.sub V).md G S;replace L:=(L.sub V).md G S;have r9:∀x∈Ap,Fsh (b0 :: fp) w x:=fun x hx=>(O x hx).elim (C x) (Fsh.new M x);replace g:=fun b Z=>g b (p b Z);replace I:=fun b Z hl=>V b (I b Z hl) (lv hl M.size);replace M:=M.step G C;clear uQ C FO1;have uQ:=o;have C:=r9;have FO1:=K;have Ag:=G;clear o r9 K V p S O G;clear Ag;replace FO1:FsO ((k+2*i)+2) _ _ _ _ _:=FO1;refine asg rfl (st_nil ?_)
                refine c_then (ns ?_);have PW:partW f1 m.name x7 (x.drop x7) jw=(z,Be):=(by unfold partW;rw[stepW_0 (As.trans (by rw[show X=0 by omega]))];exact Bu);have PX:=SavI.next Ac xp PW;refine mv rfl (st _ (r_neN (a:=z) (b:=0) rfl rfl) (nt ?_));refine c_if rfl (fun N=>?_) (fun N=>?_)
                · (have c:=dT N);have Ad:=PX.2 (by omega);refine ns (mv rfl (asg rfl (nt (c_ret (r_block (r_then (r_then (r_block (r_then ?_)))))))));exact ret1L (v:=.int .i64 z) trivial rfl ⟨rfl,tV⟩ ⟨z,Be,_,_,m,rfl,(by omega),M,⟨I,g,uQ⟩,C,FO1.up (by omega),h0,F,A,a0_0,a0_1,(by rw[if_neg (by omega)]),(by obtain⟨sj,sq,sk⟩:=Ad;exact⟨sj,sq,by unfold saveR;rw[if_neg (by simp[P]),Af];simp only;rw[if_neg (by omega),Aj,if_neg (by omega)];exact sk⟩)⟩
                · (have c:=dF N);refine c_skip (n_block (c_then (c_region (st _ (r_addN (a:=i) (b:=1) 9223372036854775808 rfl rfl rfl (by omega)) (mv rfl (nt ?_))))));refine next3 (x0:=Ap) (x1:=Be) (x2:=(i+1)) (by omega) ⟨(fitI rfl (by omega)),rfl,rfl,rfl,rfl,rfl,tV⟩ ⟨Bk,g,I,uQ,M,(FO1.up (by omega)),C,h0,h1,E,a0_1,F,A,(PX.1 (by omega)),(by omega)⟩
              · (have Aq:=dF Ae);refine c_skip (c_then (ns ?_));have PW:partW f1 m.name x7 (x.drop x7) jw=(X,Bd):=(by unfold partW;exact stepW_c As (by omega));have PX:=SavI.next Ac xp PW;refine mv rfl (st _ (r_neN (a:=X) (b:=0) rfl rfl) (nt ?_));refine c_if rfl (fun N=>?_) (fun N=>?_)
                · (have c:=dT N);have Ad:=PX.2 (by omega);refine ns (mv rfl (asg rfl (nt (c_ret (r_block (r_then (r_then (r_block (r_then ?_)))))))));exact ret1L (v:=.int .i64 X) trivial rfl ⟨rfl,tV⟩ ⟨X,Bd,_,_,m,rfl,(by omega),M,⟨I,g,uQ⟩,C,FO1.up (by omega),h0,F,A,a0_0,a0_1,(by rw[if_neg (by omega)]),(by obtain⟨sj,sq,sk⟩:=Ad;exact⟨sj,sq,by unfold saveR;rw[if_neg (by simp[P]),Af];simp only;rw[if_neg (by omega),Aj,if_neg (by omega)];exact sk⟩)⟩
                · (have c:=dF N);refine c_skip (n_block (c_then (c_region (st _ (r_addN (a:=i) (b:=1) 9223372036854775808 rfl rfl rfl (by omega)) (mv rfl (nt ?_))))));refine next3 (x0:=Ai) (x1:=Bd) (x2:=(i+1)) (by omega) ⟨(fitI rfl (by omega)),rfl,rfl,rfl,rfl,rfl,tV⟩ ⟨Bj,g,I,uQ,M,(FO1.up (by omega)),C,h0,h1,E,a0_1,F,A,(PX.1 (by omega)),(by omega)⟩
          · (have Bp:=dF A7);refine c_exit (x_then (x_then (x_hit (c_then (c_seq ?_)))));have l2:([min 512 x.length,0]:List Nat).length=2:=rfl;refine c_region (mv rfl (sn rfl (sf rfl off102_4 (st_store rfl rfl one3 rfl h0 (ly rfl) ?_))));have B2:=h0;clear h0;intro Ct G h0;have S:∀b∈[b0],¬Q6 b:=(by intro b Z;simp at Z;subst Z;exact F);replace FO1:=FO1.md G (fun x hx=>by rw[List.mem_singleton];rintro rfl;exact A hx) S;replace a0_1:=a0_1.md G S;replace uQ:=uQ.md G;replace M:=M.step G (all_cons Bx all_nil);clear B2 S;obtain⟨Az,Ab⟩:∃y,y=({m with waiting:=0}:Wri):=⟨_,rfl⟩;replace h0:Blk _ _ (Wri.cells ({m with waiting:=0}) v0_0) _:=h0;rw[← Ab]at h0;have Bf:Wri.ok Az:=(by rw[Ab];exact⟨a0_0.1,(by(simp<;>omega))⟩);have Ck:Az.most=m.most:=(by rw[Ab]);rw[show m.d=Az.d by rw[Ab]]at a0_1;refine nt (ns (asg rfl (nt (c_ret ?_))));exact ret1L (v:=.int .i64 ((0:Nat):Int)) trivial rfl ⟨rfl,tV⟩ ⟨0,f1,_,_,Az,rfl,(by omega),M,⟨I,g,uQ⟩,C,FO1.up (by omega),h0,F,A,Bf,a0_1,(by rw[Ab];rfl),(by obtain⟨sj,sq,sk⟩:=Ac.2.2 (by omega);exact⟨sj,sq,by unfold saveR;rw[if_neg (by simp[P]),Af];simp only;rw[if_neg (by omega),Aj,if_neg (by omega)];exact sk⟩)⟩
theorem fn68:isFn Tryz.prog 68=true:=by kernel_rfl

theorem wCommit_any {w:World} {Q:Nat→Prop} (uQ:Up w Q) {b0:Nat} {v0_0:Value} {fp:List Nat} {k:Nat} {f:SFs} (m:Wri) (FO1:FsO k fp w Q m.fs f) (h0:Blk w b0 (m.cells v0_0) 102) (n0:¬Q b0) (nf:b0∉fp) (a0_0:m.ok) (a0_1:Pt tDrf 107 w Q v0_0 m.d) (p0:k≤90000) (p1:m.name.length≤1000000) (p2:1≤m.d.b.length∧m.d.b.length≤1000000) :
    Calls Tryz.prog 20 #[.pointer (some ⟨b0,0,none⟩)] w fun en w'=>∃r:Nat,∃f':SFs,∃fp':List Nat,∃Q':Nat→Prop,∃m':Wri,en = .returned (.int .i64 r)∧r<9223372036854775808∧Md (b0 :: fp) w w'∧NewQ w w' Q Q'∧(∀y∈fp',y∈b0 :: fp∨w.heap.size≤y)∧FsO (k+4) fp' w' Q' m.fs f'∧Blk w' b0 (m'.cells v0_0) 102∧¬Q' b0∧b0∉fp'∧m'.ok∧Pt tDrf 107 w' Q' v0_0 m'.d∧m'={m with waiting:=if r=0 then 0 else m.waiting}∧∃i j,saveR m.archived f m.name m.d.b i j=(r,f'):=by
  have A:=nf;have C:∀x∈fp,Fsh (b0 :: fp) w x:=fun x O=>.inl (by simp[O]);have D:=n0;have S:Fsh (b0 :: fp) w b0:=.inl (by simp);have M:=Md.refl (b0 :: fp) w;have Ai:=uQ;have o:∀b,Q b→Q b:=fun _ h=>h;have I:∀b,Q b→b<w.heap.size→Q b:=fun _ h _=>h;refine enter (n:=12) Tryz.func20 rfl rfl rfl ?_;intro B;refine ns (asg rfl (nt (ns (mv rfl (mv rfl (sn rfl (sf rfl off102_3 (sl (u:=v0_0) rfl one99 h0 rfl ?_))))))));have H:=a0_1;obtain⟨t,z,rfl,Z,H,U⟩:=H;obtain⟨v2,rfl,q3,G⟩:=tDrf_un U;refine sn rfl (sf rfl off107_0 (sl (u:=v2) rfl one45 H rfl (st_call fn68 rfl (wSave_any uQ m FO1 h0 D A a0_0 a0_1 G (by omega) (by omega) (by omega)) ?_)));rintro en w5 ⟨F,f5,W,Q6,m5,rfl,Ae,Y,⟨g,l,V⟩,N,p,L,P,R,a,T,J,X⟩;refine⟨_,rfl,?_⟩;have K:∀b∈(b0 :: fp),¬Q b:=fun b E=>(List.mem_cons.1 E).elim (fun e=>e ▸ D) (fun E=>(FO1.lt b E).2);have hS:∀b∈(b0 :: fp),¬Q6 b:=fun b E hq=>K b E (l b hq);have c:∀x∈(b0 :: fp),Fsh (b0 :: fp) w x:=fun x O=>(List.mem_cons.1 O).elim (fun e=>e ▸ S) (C x);replace G:=(G.sub g).md Y hS;replace o:=fun b E=>o b (l b E);replace I:=fun b E hl=>g b (I b E hl) (lv hl M.size);have r8:∀x∈W,Fsh (b0 :: fp) w x:=fun x O=>(N x O).elim (c x) (Fsh.new M x);replace M:=M.step Y c;clear uQ C FO1 hS K c N Y h0 D A g l;have uQ:=V;have C:=r8;have FO1:=p;have h0:=L;have D:=P;have A:=R;clear V r8 p L P R;have Aa:m5.d=m.d:=(by rw[J]);replace a0_1:=T;clear T;refine asg rfl (nt (c_ret ?_));exact ret1L (v:=.int .i64 F) trivial rfl ⟨rfl,tV⟩ ⟨F,_,_,_,m5,rfl,(by omega),M,⟨I,o,uQ⟩,C,FO1.up (by omega),h0,D,A,a,a0_1,J,X⟩
theorem agg41:isAggN Tryz.prog 41 52=true:=by kernel_rfl
theorem fn30:isFn Tryz.prog 30=true:=by kernel_rfl
theorem fn49:isFn Tryz.prog 49=true:=by kernel_rfl
theorem fn50:isFn Tryz.prog 50=true:=by kernel_rfl
theorem fn51:isFn Tryz.prog 51=true:=by kernel_rfl
theorem off41_5:fieldOff Tryz.prog 41 5=some 50:=by kernel_rfl
theorem pl102:bplace Tryz.prog 102=some [(0,1),(1,1),(2,1),(3,1),(4,1),(5,1)]:=by kernel_rfl
theorem z102:zcells Tryz.prog 102=some [.pointer none,.string ByteArray.empty,.int .i64 0,.pointer none,.int .i64 0,.bool false]:=by kernel_rfl

def createR (f:SFs) (s:Ly) (B:Ly) (i j q:Nat):Nat × SFs :=
  if f.off=true then(18,f)else if freeF f<(B.length:Int)then(15,f)else
  stepW (stepW (makeR f s i j) fun m=>writeR m s 0 B q) fun m=>syncR m s
theorem wCreate_any {w:World} {Q:Nat→Prop} (uQ:Up w Q) {b0:Nat} {fp:List Nat} {k:Nat} {f:SFs} (FO1:FsO k fp w Q b0 f) (s:Ly) (c:Cfg) (a2_0:c.ok) (after:Nat) (a3:after<18446744073709551616) (p0:1≤c.dataSlots∧c.dataSlots≤64∧1≤c.fieldSlots∧c.fieldSlots≤64∧4096≤c.most∧c.most≤32768) (p1:s.length≤1000000) (p2:k≤90000) (p3:(blankF c after).b.length≤100000) :
    Calls Tryz.prog 12 #[.pointer (some ⟨b0,0,none⟩),str s,.agg c.cells.toArray,.int .u64 after] w fun en w'=>∃r:Nat,∃f':SFs,∃fp':List Nat,∃Q':Nat→Prop,Md fp w w'∧NewQ w w' Q Q'∧(∀x∈fp',x∈fp∨w.heap.size≤x)∧r<9223372036854775808∧(∃i j q,createR f s (blankF c after).b i j q=(r,f')) ∧
      ((r≠0∧en = .returned (.tuple #[.pointer none,(.int .i64 r)])∧FsO (k+3) fp' w' Q' b0 f')∨(r=0∧∃wb,w.heap.size≤wb∧en = .returned (.tuple #[.pointer (some ⟨wb,0,none⟩),(.int .i64 ((0:Nat):Int))])∧WrO wb (k+3) (wb :: fp') w' Q' b0 ⟨f',{fs:=b0,name:=s,most:=c.most,d:=blankF c after,waiting:=0,archived:=false}⟩)):=by
  have Ch:∀x∈fp,x<w.heap.size:=fun x hx=>(FO1.lt x hx).1;have D:∀x∈fp,Fsh fp w x:=fun x hx=>.inl hx;have M:=Md.refl fp w;have B2:=uQ;have tQ:∀b,Q b→Q b:=fun _ h=>h;have I:∀b,Q b→b<w.heap.size→Q b:=fun _ h _=>h;refine enter (n:=80) Tryz.func12 rfl rfl rfl ?_;intro B;refine ns (st_box (cs:=(Cfg.cells c)) rfl rfl ?_);intro Bp w1 Be Cv E R;have Ck:=uQ _ Be;replace Be:=lQ M.size Be;replace FO1:=FO1.md0 E;replace uQ:=uQ.md E;replace M:=M.step0 E;refine asg rfl (asg rfl (nt (c_seq (ns (sf rfl off41_3 (sl (u:=(.int .i64 c.dataSlots)) rfl one3 R rfl ?_))))));have q2:c.dataSlots<9223372036854775808:=a2_0.2.2.2.1;refine st_call fn49 rfl (wRight_any uQ (((c.dataSlots:Nat):Int)) (by omega)) ?_;rintro en w3 ⟨B4,rfl,E,Ce⟩;refine⟨_,rfl,?_⟩;replace FO1:=FO1.md0 E;replace R:=R.md0 E;replace uQ:=uQ.md E;replace M:=M.step0 E;have Bj:true=B4:=(by rw[← Ce];exact(decide_eq_true (by omega)).symm);subst Bj;refine st _ (r_not rfl) (mv rfl (sg rfl (r_field rfl off41_4) (sg rfl ((r_loadBlk rfl one3 R rfl).to (b:=(.int .i64 c.fieldSlots)) rfl) ?_)));have q4:c.fieldSlots<9223372036854775808:=a2_0.2.2.2.2.1;refine st_call_g rfl rfl rfl rfl fn49 rfl (wRight_any uQ (((c.fieldSlots:Nat):Int)) (by omega)) ?_;rintro en w5 ⟨B6,rfl,E,Cf⟩;refine⟨_,rfl,?_⟩;replace FO1:=FO1.md0 E;replace R:=R.md0 E;replace uQ:=uQ.md E;replace M:=M.step0 E;have Bj:true=B6:=(by rw[← Cf];exact(decide_eq_true (by omega)).symm);subst Bj;refine sg rfl (r_not rfl) (st _ (r_pick_f rfl rfl rfl) (mv rfl (sg rfl (r_field rfl off41_5) (sg rfl ((r_loadBlk rfl one3 R rfl).to (b:=(.int .i64 c.most)) rfl) ?_))));have q6:c.most<9223372036854775808:=a2_0.2.2.2.2.2;refine sg rfl (r_ltN (a:=c.most) (b:=4096) rfl rfl) (st _ (r_pick_f rfl rfl rfl) (mv rfl ?_));refine part_n (t:=27) rfl (fun Am=>?_) (fun Am=>?_)
  · (have Bs:=dT Am);exfalso;omega
  · (have Bs:=dF Am);refine sg Am (r_field rfl off41_5) (sg Am ((r_loadBlk rfl one3 R rfl).to (b:=(.int .i64 c.most)) rfl) (sg Am (r_gtN (a:=c.most) (b:=32768) rfl rfl) (st _ (r_pick_f rfl Am rfl) (nt ?_))));refine c_if rfl (fun Bf=>?_) (fun Bf=>?_)
    · (have Bt:=dT Bf);exfalso;omega
    · (have Bt:=dF Bf);refine c_skip (c_then (c_seq ?_));have Aq:=R;refine c_mixT [(0,true),(1,true),(2,true),(3,true),(4,true),(5,true),(6,false)] [7,8,9] (fun w'=>Md [] w5 w') mixed (by kernel_rfl) ?_;intro w7 N;refine⟨N.mono (by simp),?_⟩;have MC:=N.mono (T:=[]) (by simp);refine mo rfl (mo rfl (mz (fun w' hc=>r_field rfl off41_5) (mz (fun w' hc=>(r_loadBlk rfl one3 (Aq.md0 hc) rfl).to (b:=(.int .i64 c.most)) rfl) (mz (fun w' hc=>r_loadPart (Cfg.cells c) rfl (by exact agg41) (Aq.md0 hc) rfl) (mo rfl ?_)))));replace FO1:=FO1.md0 N;replace R:=R.md0 N;replace uQ:=uQ.md N;replace M:=M.step0 N;refine m_e ?_ rfl;refine st_call fn50 rfl (dBlank_any uQ c a2_0 after (by omega) (by omega) (by omega)) ?_;rintro en w8 ⟨G,Al,Au,Q9,rfl,E,⟨U,y,S⟩,Bl,B1,Y,A1,A,l⟩;refine⟨_,rfl,?_⟩;have Ba:∀b,vblock Al=some b→b∈[]∨_:=fun b H=>Or.inr (lQ MC.size ((A.2 b H).1.elim (fun h=>by simp at h) id));have Bq:=lQ MC.size Y;have X:∀x,vblock Al=some x→x∉fp:=fun x hx Ar=>by have h3:=(FO1.lt x Ar).1;have h4:=(A.2 x hx).1.elim (fun h=>by simp at h) id;omega
      have Bb:Bp≠G:=(by have:=R.lt;omega);have A2:Fsh [] w G:=Fsh.new M _ Y;replace Y:=lQ M.size Y;replace FO1:=FO1.sub U y;replace tQ:=fun b H=>tQ b (y b H);replace I:=fun b H hl=>U b (I b H hl) (lv hl M.size);replace A:=A.lower (Fsh.lift (S':=[]) M);replace FO1:=FO1.md0 E;replace R:=R.md0 E;replace uQ:=uQ.md E;replace M:=M.step0 E;replace MC:=MC.step0 E;replace uQ:=S;clear S U y;refine st_nil ⟨rfl,MC,?_⟩;refine m_nil ?_;clear Aq;clear MC;have z:G∉fp:=fun hx=>by have:=Ch _ hx;omega
      obtain⟨A4,fQ,fT,Ac⟩:=A.freeze;replace FO1:=FO1.subF fQ fT X;replace tQ:=fun b H=>(fT b H).elim (tQ b) (fun hv=>Fsh.up B2 b (A.2 b hv).1);replace I:=fun b H hl=>fQ b (I b H hl);replace uQ:Up w8 A4:=fun b H=>fQ b (uQ b H);clear A fQ fT;have A:=Ac;clear Ac;obtain⟨Bo,fQ,fT,fB⟩:∃Q9:Nat→Prop,(∀x,A4 x→Q9 x)∧(∀x,Q9 x→A4 x∨x=G)∧Q9 G:=⟨fun x=>A4 x∨x=G,fun _ h=>.inl h,fun _ h=>h,.inr rfl⟩;replace FO1:=FO1.subF (v:=.slice (some ⟨G,0,none⟩) 0 0) fQ (fun b H=>(fT b H).imp id (fun h=>by rw[h];rfl)) (fun x hx=>by simp[vblock]at hx;subst hx;exact z);replace A:=A.sub (fun b H _=>fQ b H);replace tQ:=fun b H=>(fT b H).elim (tQ b) (fun hv=>Fsh.up B2 b (hv ▸ A2));replace I:=fun b H hl=>fQ b (I b H hl);replace uQ:Up w8 Bo:=fun b H=>fQ b (uQ b H);have J:Pt tDrf 107 w8 Bo (.pointer (some ⟨G,0,none⟩)) Au:=⟨_,_,rfl,fB,Bl,tDrf_mk A1 A⟩;clear fQ fT fB;refine st _ (r_buildG (us:=[[(.pointer (some ⟨b0,0,none⟩))],[(str s)],[(.int .i64 c.most)],[(.pointer (some ⟨G,0,none⟩))]]) (cs:=(Wri.cells (({fs:=b0,name:=s,most:=c.most,d:=Au,waiting:=0,archived:=false}:Wri)) (.pointer (some ⟨G,0,none⟩)))) [(0,0,1),(1,1,1),(2,2,1),(3,3,1)] z102 pl102 rfl rfl ⟨rfl,rfl,rfl,(cells_one (pt_one J)),tV⟩ ⟨rfl,rfl,rfl,rfl,tV⟩ rfl rfl) (st_box (cs:=(Wri.cells (({fs:=b0,name:=s,most:=c.most,d:=Au,waiting:=0,archived:=false}:Wri)) (.pointer (some ⟨G,0,none⟩)))) rfl rfl ?_);intro Z Cy Az Bz E F;have C:Z∉fp:=fun hx=>by have:=(FO1.lt _ hx).1;omega
      have Br:Bp≠Z:=(by have:=R.lt;omega);obtain⟨Ct,U,y,K,S⟩:=exQ uQ Az Bz E;replace FO1:=FO1.sub U y;replace A:=A.sub U;replace J:=J.sub U;replace tQ:=fun b H=>tQ b (y b H);replace I:=fun b H hl=>U b (I b H hl) (lv hl M.size);replace Az:=lQ M.size Az;replace FO1:=FO1.md0 E;replace A:=A.md0 E;replace J:=J.md0 E;replace uQ:=uQ.md E;replace M:=M.step0 E;replace uQ:=S;clear S U y;refine asg rfl (nt (c_seq (c_block (ns (mv rfl (st_call fn51 rfl (oOff uQ FO1) ?_))))));rintro en Cp ⟨Cr,rfl,E,Aa⟩;refine⟨_,rfl,?_⟩;replace FO1:=FO1.md0 E;replace A:=A.md0 E;replace J:=J.md0 E;replace F:=F.md0 E;replace uQ:=uQ.md E;replace M:=M.step0 E;refine asg rfl (nt ?_);refine c_if rfl (fun Bg=>?_) (fun Bg=>?_)
      · (have e:=Bg);refine ns (asg rfl (asg rfl (nt (c_ret (r_block (r_then ?_))))));exact retL (vs:=[.pointer none,(.int .i64 ((18:Nat):Int))]) trivial rfl ⟨rfl,rfl,tV⟩ rfl ⟨18,f,_,_,M,⟨I,tQ,uQ⟩,D,(by omega),⟨0,0,0,by unfold createR;rw[if_pos (by rw[Aa];exact e)]⟩,.inl ⟨(by omega),rfl,FO1.up (by omega)⟩⟩
      · (have e:=Bg);refine c_seq ?_;have As:=F;refine c_mixT [(0,true),(2,true),(3,true),(4,true),(5,true),(6,true),(7,true),(8,true),(9,true),(1,false)] [10,11] (fun w'=>Md [] Cp w') mixed (by kernel_rfl) ?_;intro Cz N;refine⟨N.mono (by simp),?_⟩;have MC:=N.mono (T:=[]) (by simp);refine mo rfl (mo rfl (mz (fun w' hc=>r_nil rfl) (mz (fun w' hc=>r_field rfl off102_3) (mz (fun w' hc=>(r_loadBlk rfl one99 (As.md0 hc) rfl).to (b:=(.pointer (some ⟨G,0,none⟩))) rfl) ?_))));have O:=J;obtain⟨Cc,Cd,Bc,Ae,O,Bm⟩:=O
        cases Bc
        obtain⟨B3,rfl,Cw,L⟩:=tDrf_un Bm;refine mz (fun w' hc=>r_nil rfl) (mz (fun w' hc=>r_field rfl off107_0) (mz (fun w' hc=>(r_loadBlk rfl one45 (O.md0 hc) rfl).to (b:=B3) rfl) (mz (fun w' hc=>r_len rfl u45 L.shp) ?_)));replace FO1:=FO1.md0 N;replace A:=A.md0 N;replace J:=J.md0 N;replace F:=F.md0 N;replace O:=O.md0 N;replace L:=L.md0 N;replace uQ:=uQ.md N;replace M:=M.step0 N;refine m_e ?_ rfl;refine st_call fn44 rfl (oFree uQ FO1 (by omega)) ?_;rintro en C0 ⟨Bn,rfl,E,Cl,Ai⟩;refine⟨_,rfl,?_⟩;replace FO1:=FO1.md0 E;replace A:=A.md0 E;replace J:=J.md0 E;replace F:=F.md0 E;replace O:=O.md0 E;replace L:=L.md0 E;replace uQ:=uQ.md E;replace M:=M.step0 E;replace MC:=MC.step0 E;refine st_nil ⟨rfl,MC,?_⟩;refine m_nil ?_;clear As;clear MC;refine st _ (r_lt (a:=Bn) (b:=(((((({fs:=b0,name:=s,most:=c.most,d:=Au,waiting:=0,archived:=false}:Wri)).d).b).length:Nat):Int)) rfl rfl) (asg rfl (nt ?_));refine c_if rfl (fun Bh=>?_) (fun Bh=>?_)
        · (have Bu:=dT Bh);refine ns (asg rfl (asg rfl (nt (c_ret (r_block (r_then ?_))))));exact retL (vs:=[.pointer none,(.int .i64 ((15:Nat):Int))]) trivial rfl ⟨rfl,rfl,tV⟩ rfl ⟨15,f,_,_,M,⟨I,tQ,uQ⟩,D,(by omega),⟨0,0,0,by unfold createR;rw[if_neg (by rw[Aa];simp[e]),if_pos (by rw[Ai,l];omega)]⟩,.inl ⟨(by omega),rfl,FO1.up (by omega)⟩⟩
        · (have Bu:=dF Bh);refine c_skip (n_block (c_then (ns (mv rfl (mv rfl (st_call fn30 rfl (oMake uQ FO1 s (by omega) (by omega)) ?_))))));rintro en C1 ⟨P,rfl,Cm,Ci,Ax,B9,E,⟨U,y,S⟩,o,W,Ab⟩;refine⟨_,rfl,?_⟩;have hS:∀b∈fp,¬B9 b:=fun b H hq=>(FO1.lt b H).2 (y b hq);replace A:=(A.sub U).md E hS;replace J:=(J.sub U).md E hS;have Ak:Z∉Ax:=fun h=>(o _ h).elim C (fun h=>by have:=F.lt;omega);replace K:=fun hh=>K (y _ hh);replace F:=F.md E C;replace C:=Ak;clear Ak;replace Ae:=U _ Ae O.lt;replace O:=O.md E (fun h9=>hS _ h9 Ae);replace L:=(L.sub U).md E hS;have r9:∀x∈Ax,Fsh fp w x:=fun x hx=>(o x hx).elim (D x) (Fsh.new M x);replace tQ:=fun b H=>tQ b (y b H);replace I:=fun b H hl=>U b (I b H hl) (lv hl M.size);replace M:=M.step E D;clear uQ D FO1;have uQ:=S;have D:=r9;have FO1:=W;have Ar:=E;clear S r9 W U y hS o E;clear Ar;replace FO1:FsO (k+1) _ _ _ _ _:=FO1;obtain⟨A5,A6,Ab⟩:=Ab;refine asg rfl (nt (c_seq (ns (mv rfl (st _ (r_eqN (a:=P) (b:=0) rfl rfl) (nt ?_))))));refine c_if rfl (fun Bi=>?_) (fun Bi=>?_)
          · (have Bv:=dT Bi);refine c_region (mv rfl (mv rfl (mv rfl (sn rfl (sf rfl off102_3 (sl (u:=(.pointer (some ⟨G,0,none⟩))) rfl one99 F rfl (sn rfl (sf rfl off107_0 (sl (u:=B3) rfl one45 O rfl (st_call fn34 rfl (oWrite uQ FO1 s (0) (by omega) L (by omega) (by omega)) ?_))))))))));rintro en C2 ⟨V,rfl,Cn,Cj,Ay,Ca,E,⟨U,y,S⟩,o,W,Aj⟩;refine⟨_,rfl,?_⟩;have hS:∀b∈Ax,¬Ca b:=fun b H hq=>(FO1.lt b H).2 (y b hq);replace A:=(A.sub U).md E hS;replace J:=(J.sub U).md E hS;have Ak:Z∉Ay:=fun h=>(o _ h).elim C (fun h=>by have:=F.lt;omega);replace K:=fun hh=>K (y _ hh);replace F:=F.md E C;replace C:=Ak;clear Ak;replace L:=(L.sub U).md E hS;have r9:∀x∈Ay,Fsh fp w x:=fun x hx=>(o x hx).elim (D x) (Fsh.new M x);replace tQ:=fun b H=>tQ b (y b H);replace I:=fun b H hl=>U b (I b H hl) (lv hl M.size);replace M:=M.step E D;clear uQ D FO1;have uQ:=S;have D:=r9;have FO1:=W;have Ar:=E;clear S r9 W U y hS o E;clear Ar;replace FO1:FsO (k+2) _ _ _ _ _:=FO1;obtain⟨Bk,Aj⟩:=Aj;refine asg rfl (nt (c_seq (ns (mv rfl (st _ (r_eqN (a:=V) (b:=0) rfl rfl) (nt ?_))))));refine c_if rfl (fun Ao=>?_) (fun Ao=>?_)
            · (have A0:=dT Ao);refine c_region (mv rfl (mv rfl (st_call fn52 rfl (oSync uQ FO1 s (by omega) (by omega)) ?_)));rintro en C3 ⟨p,rfl,Co,B0,A7,Cb,E,⟨U,y,S⟩,o,W,A8⟩;refine⟨_,rfl,?_⟩;have hS:∀b∈Ay,¬Cb b:=fun b H hq=>(FO1.lt b H).2 (y b hq);replace A:=(A.sub U).md E hS;replace J:=(J.sub U).md E hS;have Ak:Z∉A7:=fun h=>(o _ h).elim C (fun h=>by have:=F.lt;omega);replace K:=fun hh=>K (y _ hh);replace F:=F.md E C;replace C:=Ak;clear Ak;replace L:=(L.sub U).md E hS;have r9:∀x∈A7,Fsh fp w x:=fun x hx=>(o x hx).elim (D x) (Fsh.new M x);replace tQ:=fun b H=>tQ b (y b H);replace I:=fun b H hl=>U b (I b H hl) (lv hl M.size);replace M:=M.step E D;clear uQ D FO1;have uQ:=S;have D:=r9;have FO1:=W;have Ar:=E;clear S r9 W U y hS o E;clear Ar;replace FO1:FsO (k+3) _ _ _ _ _:=FO1;refine asg rfl (nt (c_seq (ns (mv rfl (st _ (r_neN (a:=p) (b:=0) rfl rfl) (nt ?_))))));refine c_if rfl (fun g=>?_) (fun g=>?_)
              · (have Ah:=dT g);refine ns (mv rfl (asg rfl (asg rfl (nt (c_ret (r_then ?_))))));exact retL (vs:=[.pointer none,(.int .i64 p)]) trivial rfl ⟨rfl,rfl,tV⟩ rfl ⟨p,B0,_,_,M,⟨I,tQ,uQ⟩,D,(by omega),⟨A5,A6,Bk,by unfold createR;rw[if_neg (by rw[Aa];simp[e]),if_neg (by rw[Ai,l];omega),l];exact(stepW_0 (((stepW_0 (Ab.trans (by rw[show P=0 by omega]))).trans Aj).trans (by rw[show V=0 by omega]))).trans A8⟩,.inl ⟨(by omega),rfl,FO1.up (by omega)⟩⟩
              · (have Ah:=dF g);refine c_skip (c_then (ns (mv rfl (asg rfl (asg rfl (nt (c_ret ?_)))))));have rz:p=0:=(by omega);exact retL (vs:=[.pointer (some ⟨Z,0,none⟩),(.int .i64 ((0:Nat):Int))]) trivial rfl ⟨rfl,rfl,tV⟩ rfl ⟨p,B0,_,_,M,⟨I,tQ,uQ⟩,D,(by omega),⟨A5,A6,Bk,by unfold createR;rw[if_neg (by rw[Aa];simp[e]),if_neg (by rw[Ai,l];omega),l];exact(stepW_0 (((stepW_0 (Ab.trans (by rw[show P=0 by omega]))).trans Aj).trans (by rw[show V=0 by omega]))).trans A8⟩,.inr ⟨rz,Z,(by omega),rfl,_,_,rfl,FO1.up (by omega),C,(by rw[l];exact F),K,rfl,⟨by show c.most<_;omega,by show 0<_;omega⟩,(by rw[l];exact J)⟩⟩
            · (have A0:=dF Ao);refine c_skip (c_then (c_seq (ns (mv rfl (st _ (r_neN (a:=V) (b:=0) rfl rfl) (nt ?_))))));refine c_if rfl (fun g=>?_) (fun g=>?_)
              · (have Ah:=dT g);refine ns (mv rfl (asg rfl (asg rfl (nt (c_ret (r_then ?_))))));exact retL (vs:=[.pointer none,(.int .i64 V)]) trivial rfl ⟨rfl,rfl,tV⟩ rfl ⟨V,Cj,_,_,M,⟨I,tQ,uQ⟩,D,(by omega),⟨A5,A6,Bk,by unfold createR;rw[if_neg (by rw[Aa];simp[e]),if_neg (by rw[Ai,l];omega),l];exact stepW_c ((stepW_0 (Ab.trans (by rw[show P=0 by omega]))).trans Aj) (by omega)⟩,.inl ⟨(by omega),rfl,FO1.up (by omega)⟩⟩
              · (have Ah:=dF g);exfalso;omega
          · (have Bv:=dF Bi);refine c_skip (c_then (c_seq (ns (mv rfl (st _ (r_eqN (a:=P) (b:=0) rfl rfl) (nt ?_))))));refine c_if rfl (fun Ao=>?_) (fun Ao=>?_)
            · (have A0:=dT Ao);exfalso;omega
            · (have A0:=dF Ao);refine c_skip (c_then (c_seq (ns (mv rfl (st _ (r_neN (a:=P) (b:=0) rfl rfl) (nt ?_))))));refine c_if rfl (fun g=>?_) (fun g=>?_)
              · (have Ah:=dT g);refine ns (mv rfl (asg rfl (asg rfl (nt (c_ret (r_then ?_))))));exact retL (vs:=[.pointer none,(.int .i64 P)]) trivial rfl ⟨rfl,rfl,tV⟩ rfl ⟨P,Ci,_,_,M,⟨I,tQ,uQ⟩,D,(by omega),⟨A5,A6,0,by unfold createR;rw[if_neg (by rw[Aa];simp[e]),if_neg (by rw[Ai,l];omega),l];exact stepW_c (stepW_c Ab (by omega)) (by omega)⟩,.inl ⟨(by omega),rfl,FO1.up (by omega)⟩⟩
              · (have Ah:=dF g);exfalso;omega
end Go.Proofs.YtfadcpfgenjbeaaGreat
namespace Go.Proofs.YtfadcpfgenjbeaaGreat
open Go Go.Shelf
def sortPr_ren:Go.Shelf.Ren:=⟨fun|6=>102|15=>142|14=>148|28=>193|29=>194|20=>196|21=>197|22=>198|23=>199|24=>200|25=>201|26=>202|27=>203|46=>237|47=>233|48=>234|49=>238|50=>239|57=>249|n=>n,fun|22=>47|24=>91|25=>179|3=>3|39=>72|0=>0|53=>103|55=>23|4=>4|46=>268|45=>267|50=>273|5=>5|9=>9|66=>306|70=>309|76=>323|77=>65|n=>n,fun|n=>n⟩
theorem sortPr:Go.Proofs.SlLaysF0.n6 Tryz.prog sortPr_ren:={
  mixed:=by kernel_rfl
  f6:=⟨Tryz.f102.name,by decide,Tryz.func102.trans (congrArg some (by kernel_rfl))⟩
  f14:=⟨Tryz.f148.name,by decide,Tryz.func148.trans (congrArg some (by kernel_rfl))⟩
  f15:=Tryz.func142.trans (congrArg some (by kernel_rfl))
  f20:=⟨Tryz.f196.name,by decide,Tryz.func196.trans (congrArg some (by kernel_rfl))⟩
  f21:=⟨Tryz.f197.name,by decide,Tryz.func197.trans (congrArg some (by kernel_rfl))⟩
  f22:=⟨Tryz.f198.name,by decide,Tryz.func198.trans (congrArg some (by kernel_rfl))⟩
  f23:=⟨Tryz.f199.name,by decide,Tryz.func199.trans (congrArg some (by kernel_rfl))⟩
  f24:=⟨Tryz.f200.name,by decide,Tryz.func200.trans (congrArg some (by kernel_rfl))⟩
  f25:=⟨Tryz.f201.name,by decide,Tryz.func201.trans (congrArg some (by kernel_rfl))⟩
  f26:=⟨Tryz.f202.name,by decide,Tryz.func202.trans (congrArg some (by kernel_rfl))⟩
  f27:=⟨Tryz.f203.name,by decide,Tryz.func203.trans (congrArg some (by kernel_rfl))⟩
  f28:=Tryz.func193.trans (congrArg some (by kernel_rfl))
  f29:=Tryz.func194.trans (congrArg some (by kernel_rfl))
  f46:=⟨Tryz.f237.name,by decide,Tryz.func237.trans (congrArg some (by kernel_rfl))⟩
  f47:=Tryz.func233.trans (congrArg some (by kernel_rfl))
  f48:=Tryz.func234.trans (congrArg some (by kernel_rfl))
  f49:=⟨Tryz.f238.name,by decide,Tryz.func238.trans (congrArg some (by kernel_rfl))⟩
  f50:=⟨Tryz.f239.name,by decide,Tryz.func239.trans (congrArg some (by kernel_rfl))⟩
  f57:=⟨Tryz.f249.name,by decide,Tryz.func249.trans (congrArg some (by kernel_rfl))⟩
  t0:=Tryz.underlying0
  a0:=Tryz.isAgg0
  z0:=Tryz.sizeOf0
  v0:=Tryz.zeroValue0
  t3:=Tryz.underlying3
  a3:=Tryz.isAgg3
  z3:=Tryz.sizeOf3
  v3:=Tryz.zeroValue3
  t4:=Tryz.underlying4
  a4:=Tryz.isAgg4
  z4:=Tryz.sizeOf4
  v4:=Tryz.zeroValue4
  t5:=Tryz.underlying5
  a5:=Tryz.isAgg5
  z5:=Tryz.sizeOf5
  v5:=Tryz.zeroValue5
  t9:=Tryz.underlying9
  a9:=Tryz.isAgg9
  z9:=Tryz.sizeOf9
  v9:=Tryz.zeroValue9
  t22:=Tryz.underlying47
  a22:=Tryz.isAgg47
  z22:=Tryz.sizeOf47
  v22:=Tryz.zeroValue47
  t25:=Tryz.underlying179
  a25:=Tryz.isAgg179
  z25:=Tryz.sizeOf179
  v25:=Tryz.zeroValue179
  t39:=Tryz.underlying72
  a39:=Tryz.isAgg72
  z39:=Tryz.sizeOf72
  v39:=Tryz.zeroValue72
  t45:=Tryz.underlying267
  a45:=Tryz.isAgg267
  z45:=Tryz.sizeOf267
  v45:=Tryz.zeroValue267
  t46:=Tryz.underlying268
  a46:=Tryz.isAgg268
  z46:=Tryz.sizeOf268
  v46:=Tryz.zeroValue268
  t50:=Tryz.underlying273
  a50:=Tryz.isAgg273
  z50:=Tryz.sizeOf273
  v50:=Tryz.zeroValue273
  t53:=Tryz.underlying103
  a53:=Tryz.isAgg103
  z53:=Tryz.sizeOf103
  v53:=Tryz.zeroValue103
  t55:=Tryz.underlying23
  a55:=Tryz.isAgg23
  z55:=Tryz.sizeOf23
  v55:=Tryz.zeroValue23
  t66:=Tryz.underlying306
  a66:=Tryz.isAgg306
  z66:=Tryz.sizeOf306
  v66:=Tryz.zeroValue306
  t70:=Tryz.underlying309
  a70:=Tryz.isAgg309
  z70:=Tryz.sizeOf309
  v70:=Tryz.zeroValue309
  t76:=Tryz.underlying323
  a76:=Tryz.isAgg323
  z76:=Tryz.sizeOf323
  v76:=Tryz.zeroValue323
  t77:=Tryz.underlying65
  a77:=Tryz.isAgg65
  z77:=Tryz.sizeOf65
  v77:=Tryz.zeroValue65}
end Go.Proofs.YtfadcpfgenjbeaaGreat
namespace Go.Wk
open Go Go.RowKit Go.Sort Go.Proofs

abbrev RPr:={p:Pr // right p.pb=true}
instance:Inhabited RPr:=⟨⟨{name:=[65],value:=[]},by decide⟩⟩
def encP (x:RPr):List Value:=Pr.cells x.1
theorem encP_one (x:RPr):∀v∈encP x,v.oneCell'=true:=by
  intro v A;simp[encP,Pr.cells]at A;rcases A with rfl|rfl <;> rfl
def cfP (x y:RPr):Int:=cmpS (whole x.1.pb) (whole y.1.pb)
theorem ltP (x y:RPr):ltOf cfP x y=Op.bytesLess (whole x.1.pb) (whole y.1.pb):=cmpS_neg _ _
theorem swoP:SWO (ltOf cfP) where
  irrefl x:=by rw[ltP];exact bl_irr _
  trans x y z h1 h2:=by rw[ltP]at *;exact bl_trans h1 h2
  ntrans x y z h1 h2:=by
    rw[ltP]at *
    cases h3:Op.bytesLess (whole x.1.pb) (whole z.1.pb)with
    | false=>rfl
    | true =>
      cases h4:Op.bytesLess (whole y.1.pb) (whole x.1.pb)with
      | true=>have:=bl_trans h4 h3;rw[h2]at this;cases this
      | false=>rw[bl_tri h1 h4,h2]at h3;cases h3
theorem totP (x y:RPr) (h1:ltOf cfP x y=false) (h2:ltOf cfP y x=false):x=y:=by
  rw[ltP]at h1 h2
  exact Subtype.ext (pb_inj.1 (whole_inj x.2 y.2 (bl_tri h1 h2)))
theorem sortF_sub (l:List RPr):(l.mergeSort fun x y=>!(ltOf cfP) y x).map Subtype.val=sortF (l.map Subtype.val):=by
  unfold sortF
  exact List.map_mergeSort fun a _ b _=>by rw[ltP];rfl
theorem lift_right:∀(l:List Pr),(∀p∈l,right p.pb=true)→∃l':List RPr,l'.map Subtype.val=l
  | [],_=>⟨[],rfl⟩
  | p :: r,h=>by
    obtain⟨r',hr⟩:=lift_right r fun q hq=>h q (by simp[hq])
    exact⟨⟨p,h p (by simp)⟩ :: r',by simp[hr]⟩
theorem flatK_toList (d:List RPr):(flatK encP 2 d.toArray).toList=(d.map Subtype.val).flatMap Pr.cells:=by
  apply List.ext_getElem?
  intro t
  have F:(flatK encP 2 d.toArray).size=d.length*2:=by simp
  have G:((d.map Subtype.val).flatMap Pr.cells).length=d.length*2:=by rw[flat_len];simp
  by_cases ht:t<d.length*2
  · have A:=get_flatK encP 2 d.toArray t (by simpa using ht)
    have C:t/2<d.length:=by omega
    have D:d.toArray[t/2]! = d[t/2]:=by rw[getElem!_pos d.toArray (t/2) (by simpa using C)];simp
    rw[D]at A
    have E:(encP d[t/2])[t%2]! = ((encP d[t/2])[t%2]'(by have:(encP d[t/2]).length=2:=rfl;omega)):=getElem!_pos (encP d[t/2]) (t%2) _
    rw[E]at A
    have B:=flat_get (xs:=d.map Subtype.val) (i:=t/2) (j:=t%2) (x:=d[t/2].1) (u:=(encP d[t/2])[t%2]'(by have:(encP d[t/2]).length=2:=rfl;omega)) (by simp[C]) (by rw[List.getElem?_eq_getElem (by have:(Pr.cells d[t/2].1).length=2:=rfl;omega)];rfl)
    rw[show t/2*2+t%2=t by omega]at B
    rw[B,Array.getElem?_toList,← A,getElem!_pos _ t (by simpa using ht)]
    exact Array.getElem?_eq_getElem _
  · rw[List.getElem?_eq_none (by simpa using Nat.le_of_not_lt ht),List.getElem?_eq_none (by omega)]
theorem Rw.holds {w:World} {b cap:Nat} {d:List RPr} (h:Rw w b cap (d.map Subtype.val)):HoldsK encP 2 w b 0 d.toArray:=by
  obtain⟨A,B,F,G,C⟩:=h
  intro j E
  have hj':j<d.length*2:=by simpa using E
  rw[Nat.zero_add,B.cell,B.frozen]
  refine⟨?_,rfl⟩
  have D:(A.take ((d.map Subtype.val).length*2))[j]? = A[j]?:=by rw[List.getElem?_take,if_pos (by simpa using hj')]
  rw[← D,C,← flatK_toList,Array.getElem?_toList,getElem!_pos _ j (by simpa using hj')]
  exact Array.getElem?_eq_getElem _
theorem Rw.sorted {w:World} {b cap n:Nat} {d d':List RPr} {os:Array Obj} (h:Rw w b cap (d.map Subtype.val)) (hl:d'.length=d.length) :
    Md [b] w (sortWorldK encP 2 w b 0 n d'.toArray os)∧Rw (sortWorldK encP 2 w b 0 n d'.toArray os) b cap (d'.map Subtype.val):=by
  obtain⟨A,D,F,E,J⟩:=h
  have G:=D.lt
  have C:(sortWorldK encP 2 w b 0 n d'.toArray os).heap[b]? = some (.cells (putCells id 0 (flatK encP 2 d'.toArray) A.toArray) 91 (0,0)):=by
    unfold sortWorldK grow putRowK putRow mapBlock
    simp only[Sort.ahead]
    rw[Array.getElem?_append_left (by simpa using G),Array.getElem?_modify,if_pos rfl]
    have:w.heap[b]? = some (.cells A.toArray 91 (0,0)):=D
    rw[this]
    rfl
  refine⟨⟨rfl,rfl,rfl,?_,?_⟩,(putCells id 0 (flatK encP 2 d'.toArray) A.toArray).toList,by unfold Blk;rw[C],?_,?_,?_⟩
  · simp[sortWorldK,grow,putRowK,putRow,mapBlock,Sort.ahead]
  · intro k I B
    simp only[List.mem_singleton]at B
    unfold sortWorldK grow putRowK putRow mapBlock
    simp only[Sort.ahead]
    rw[Array.getElem?_append_left (by simpa using I),Array.getElem?_modify,if_neg (fun h=>B h.symm)]
  · simp[putCells,F]
  · simp at E ⊢;omega
  · rw[← flatK_toList]
    have B:(flatK encP 2 d'.toArray).size=d'.length*2:=by simp
    apply List.ext_getElem?
    intro t
    simp only[List.length_map]at E ⊢
    by_cases ht:t<d'.length*2
    · rw[List.getElem?_take,if_pos ht,Array.getElem?_toList,Array.getElem?_toList]
      unfold putCells
      rw[Array.getElem?_mapIdx]
      have H:t<A.length:=by omega
      simp only[List.getElem?_toArray,List.getElem?_eq_getElem H,Option.map_some,Nat.zero_le,true_and,Nat.zero_add,B,ht,if_true,Nat.sub_zero,id]
      rw[getElem!_pos _ t (by simpa using ht)]
      exact(Array.getElem?_eq_getElem _).symm
    · rw[List.getElem?_eq_none (by simp;omega),List.getElem?_eq_none (by simp;omega)]
end Go.Wk
namespace Go.Proofs.YtfadcpfgenjbeaaGreat
open Go Go.Wk Go.RowKit
set_option linter.unusedVariables false
set_option linter.unusedSimpArgs false
attribute [local irreducible] wpList wpQuiet wpStill wpMix Code.wp Calls bodyPost

theorem compact_any {w:World} {Q lo:Nat→Prop} {v:Value} {xs:List Pr} (h0:Ow tPr 91 lo w Q v xs) :
    Calls Tryz.prog 104 #[v] w fun en w'=>∃v',en = .returned v'∧Md (vblock v).toList w w'∧vblock v'=vblock v∧Ow tPr 91 lo w' Q v' (compactF xs):=by
  have L:=h0.read.len63;refine enter (n:=61) Tryz.func104 rfl rfl rfl ?_;intro B;refine ns (asg rfl (nt (c_seq (ns (mv rfl (sL rfl u47 h0.shp (st _ (r_ltN (a:=xs.length) (b:=2) rfl rfl) (nt ?_))))))));refine c_if rfl (fun h8=>?_) (fun h8=>?_)
  · have Z:=dT h8
    refine ns (mv rfl (asg rfl (nt (c_ret (r_then ?_)))));exact ret1 trivial rfl rfl ⟨_,rfl,Md.refl _ w,rfl,(compact_short Z).symm ▸ h0⟩
  · have Z:=dF h8
    obtain⟨b,A,rfl,E,C,d,hQ⟩:=h0.rw_ (by omega);clear h0;have c:xs.length≤A:=(by obtain⟨_,_,_,h,_⟩:=C;exact h);have P:Shp (.slice (some ⟨b,0,none⟩) xs.length A) xs.length:=⟨_,_,rfl,c,E,by simp⟩;refine c_skip (c_then (c_seq (ns (asg rfl (nt (c_block ?_))))));have M:=Md.refl [b] w;refine loop1 (fun(i:Nat)=>[(3,(.int .i64 i)),(0,.slice (some ⟨b,0,none⟩) xs.length A)]) (fun(i:Nat) w'=>Md [b] w w'∧Rw w' b A xs∧1≤i∧i≤xs.length∧xs.take i ++ ddF (xs.getD (i-1) {name:=[],value:=[]}) (xs.drop i)=compactF xs) (fun(i:Nat)=>xs.length-i) (x0:=1) ?_ ?_ ?_
    · exact⟨rfl,rfl,tV⟩
    · exact⟨M,C,Nat.le_refl _,by omega,compact_start (by omega)⟩
    · clear M C
      rintro i B w1 ⟨M,C,Am,Ao,W⟩;refine c_seq (ns (mv rfl (mv rfl (sL rfl u47 P (st _ (r_ltN (a:=i) (b:=xs.length) rfl rfl) (nt ?_))))));refine c_if rfl (fun R=>?_) (fun R=>?_)
      · have N:=dT R
        refine c_skip (c_then (c_seq (c_block (c_seq ?_))));obtain⟨x,e⟩:=getE (l:=xs) (i:=i) N;obtain⟨y,hy⟩:=getE (l:=xs) (i:=i-1) (by omega);have D:=C;refine c_mixT (ml 9) [9] (fun w'=>Md [] w1 w') mixed (by kernel_rfl) ?_;intro w3 F;refine⟨F.mono (by simp),?_⟩;refine mo rfl (mo rfl (mz (fun w' E=>r_indexN (i:=i) 2 rfl rfl u47 el91 P (by omega)) (mz (fun w' E=>r_loadEA (kk:=i*2) (Pr.cells x) 0 rfl rfl (by exact agg91) ((D.at_ e (by omega)).md0 E) rfl) (mo rfl (mo rfl (mz (fun w' E=>r_subN (a:=i) (b:=1) 9223372036854775808 rfl rfl rfl (by omega)) (mz (fun w' E=>r_indexN (i:=i-1) 2 rfl rfl u47 el91 P (by omega)) (mz (fun w' E=>r_loadEA (kk:=(i-1)*2) (Pr.cells y) 0 rfl rfl (by exact agg91) ((D.at_ hy (by omega)).md0 E) rfl) (m_nil ?_)))))))));replace C:=C.md0 F;replace M:=M.step0 F;clear D;refine st _ (r_eqlPr (p:=x) (q:=y) pair91 u9 rfl rfl) (nt ?_);rw[dd_step e,pr_getD hy]at W;refine c_if rfl (fun S=>?_) (fun S=>?_)
        · have G:=dT S
          rw[if_pos G]at W;have J:Shp (.slice (some ⟨b,i*2,none⟩) (xs.length-i) (A-i)) (xs.length-i):=⟨_,_,rfl,by omega,by omega,by simp⟩;refine ns (mv rfl (mv rfl (st _ (RunV.to (b:=.slice (some ⟨b,i*2,none⟩) (xs.length-i) (A-i)) (by exact r_sliceZ 2 i xs.length u47 el91 rfl P (by omega) (by omega) ⟨_,rfl⟩ rfl) (subz_tail (by omega))) (asg rfl (nt (c_seq (ns (asg rfl (nt (c_block ?_))))))))))
          refine loop3 (fun(K:List Pr) (j:Nat) (k:Nat)=>[(3,(.int .i64 j)),(5,(.int .i64 k)),(0,.slice (some ⟨b,0,none⟩) xs.length A),(4,.slice (some ⟨b,i*2,none⟩) (xs.length-i) (A-i))])
            (fun(K:List Pr) (j:Nat) (k:Nat) w'=>Md [b] w w'∧Rw w' b A K∧K.length=xs.length∧i≤j∧j+1≤i+k∧i+k≤xs.length∧(∀q,i+k-1≤q→K[q]? = xs[q]?)∧K.take j ++ ddF (xs.getD (i+k-1) {name:=[],value:=[]}) (xs.drop (i+k))=compactF xs)
            (fun(K:List Pr) (j:Nat) (k:Nat)=>xs.length-k) (x0:=xs) (x1:=i) (x2:=1) ?_ ?_ ?_
          · exact⟨rfl,rfl,rfl,rfl,tV⟩
          · exact⟨M,C,rfl,Nat.le_refl _,Nat.le_refl _,by omega,fun q _=>rfl,by rw[Nat.add_sub_cancel,pr_getD e];exact W⟩
          · clear M C
            rintro K j k B w4 ⟨M,C,hl,Ap,Aq,hk,f,O⟩;have Al:Shp (.slice (some ⟨b,0,none⟩) xs.length A) xs.length:=P;refine c_seq (ns (mv rfl (mv rfl (sL rfl u47 J (st _ (r_ltN (a:=k) (b:=xs.length-i) rfl rfl) (nt ?_))))));refine c_if rfl (fun T=>?_) (fun T=>?_)
            · have Y:=dT T
              refine c_skip (c_then (c_seq (c_block (c_seq ?_))));obtain⟨s,g⟩:=getE (l:=xs) (i:=i+k) (by omega);obtain⟨t,ht⟩:=getE (l:=xs) (i:=i+k-1) (by omega);have hs':=(f (i+k) (by omega)).trans g;have ht':=(f (i+k-1) (by omega)).trans ht;have D:=C;refine c_mixT (ml 9) [9] (fun w'=>Md [] w4 w') mixed (by kernel_rfl) ?_;intro w5 F;refine⟨F.mono (by simp),?_⟩;refine mo rfl (mo rfl (mz (fun w' E=>r_indexN (i:=k) 2 rfl rfl u47 el91 J (by omega)) (mz (fun w' E=>r_loadEA (kk:=k*2) (Pr.cells s) 0 rfl rfl (by exact agg91) ((D.at_ hs' (by omega)).md0 E) rfl) (mo rfl (mo rfl (mz (fun w' E=>r_subN (a:=k) (b:=1) 9223372036854775808 rfl rfl rfl (by omega)) (mz (fun w' E=>r_indexN (i:=k-1) 2 rfl rfl u47 el91 J (by omega)) (mz (fun w' E=>r_loadEA (kk:=(k-1)*2) (Pr.cells t) 0 rfl rfl (by exact agg91) ((D.at_ ht' (by omega)).md0 E) rfl) (m_nil ?_)))))))));replace C:=C.md0 F;replace M:=M.step0 F;clear D;refine st _ (r_neqPr (p:=s) (q:=t) pair91 u9 rfl rfl) (nt ?_);rw[dd_step g,pr_getD ht]at O;refine c_if rfl (fun U=>?_) (fun U=>?_)
              · have H:¬s.pb=t.pb:=by simpa using U
                rw[if_neg H]at O;refine ns (mv rfl (mv rfl (mv rfl (mv rfl (st _ (r_indexN (i:=k) 2 rfl rfl u47 el91 J (by omega)) (st _ (r_loadEA (kk:=k*2) (Pr.cells s) 0 rfl rfl (by exact agg91) (C.at_ hs' (by omega)) rfl) (st _ ((r_indexN (i:=j) 2 rfl rfl u47 el91 P (by omega)).to (b:=.pointer (some ⟨b,j*2,none⟩)) (by simp[elemp,Addr.add_mk])) ?_)))))));obtain⟨Aa,hB,X,I⟩:=C.into (i:=j) (z:=s) (by omega);refine st_storeAgg (b:=b) (j:=j*2) (us:=Pr.cells s) rfl rfl (by exact agg91) (fun u r=>one_cells rfl u r) hB X ?_;intro w6 hm V;replace C:=I _ V;replace M:=M.step1' hm (by simp);refine nt (c_region (mv rfl (st _ (r_addN (a:=j) (b:=1) 9223372036854775808 rfl rfl rfl (by omega)) (asg rfl (st_nil (n_block (c_then (c_region (mv rfl (st _ (r_addN (a:=k) (b:=1) 9223372036854775808 rfl rfl rfl (by omega)) (asg rfl (nt ?_))))))))))));refine next3 (x0:=K.set j s) (x1:=j+1) (x2:=k+1) (by omega) ⟨(fitI rfl (by omega)),(fitI rfl (by omega)),rfl,rfl,tV⟩ ⟨M,C,by simpa using hl,by omega,by omega,by omega,fun q Af=>by rw[List.getElem?_set_ne (by omega)];exact f q (by omega),?_⟩;rw[show i+(k+1)-1=i+k by omega,pr_getD g,show i+(k+1)=i+k+1 by omega,take_set_succ (by omega),List.append_assoc];exact O
              · have H:s.pb=t.pb:=by simpa using U
                rw[if_pos H]at O;refine c_skip (n_block (c_then (c_region (mv rfl (st _ (r_addN (a:=k) (b:=1) 9223372036854775808 rfl rfl rfl (by omega)) (asg rfl (nt ?_)))))));refine next3 (x0:=K) (x1:=j) (x2:=k+1) (by omega) ⟨rfl,(fitI rfl (by omega)),rfl,rfl,tV⟩ ⟨M,C,hl,by omega,by omega,by omega,fun q Af=>f q (by omega),?_⟩;rw[show i+(k+1)-1=i+k by omega,pr_getD g,show i+(k+1)=i+k+1 by omega];exact O
            · have Y:=dF T
              rw[dd_end (by omega),List.append_nil]at O;refine c_exit (x_then (x_then (x_hit (c_then (ns (mv rfl (mv rfl (st _ (RunV.to (b:=.slice (some ⟨b,j*2,none⟩) (xs.length-j) (A-j)) (by exact r_sliceZ 2 j xs.length u47 el91 rfl P (by omega) (by omega) ⟨_,rfl⟩ rfl) (subz_tail (by omega))) ?_))))))));obtain⟨Aa,hB,X,I⟩:=C.clear (i:=j) (m:=xs.length-j) (by omega) (by omega);refine st_clear (o:=j*2) (m:=xs.length-j) u47 z91 (by intro u r;simp at r;subst r;rfl) rfl (by omega) hB X ?_;intro w6 us hm Ag V;replace C:=I _ us Ag V;rw[O]at C;replace M:=M.step1' hm (by simp);refine nt (ns (mv rfl (mv rfl (st _ (RunV.to (b:=.slice (some ⟨b,0,none⟩) j A) (by exact r_sliceZ 2 0 j u47 el91 rfl P (by omega) (by omega) rfl ⟨_,rfl⟩) (subz_head (by omega))) (asg rfl (nt (c_ret ?_)))))))
              repeat (first|refine r_then ?_|refine r_block ?_)
              have Ad:j=(compactF xs).length:=(by rw[← O,List.length_take];omega);refine ret1 trivial rfl rfl ⟨_,rfl,M,rfl,?_⟩;rw[Ad];exact C.ow E d hQ
        · have G:=dF S
          rw[if_neg G]at W;refine c_skip (n_block (c_then (c_region (mv rfl (st _ (r_addN (a:=i) (b:=1) 9223372036854775808 rfl rfl rfl (by omega)) (asg rfl (nt ?_)))))));refine next1 (x0:=(i+1)) (by omega) ⟨(fitI rfl (by omega)),rfl,tV⟩ ⟨M,C,by omega,by omega,?_⟩;rw[Nat.add_sub_cancel,pr_getD e,List.take_add_one,e,Option.toList_some,List.append_assoc];exact W
      · have N:=dF R
        rw[dd_end (by omega),List.append_nil,List.take_of_length_le (by omega)]at W;refine c_exit (x_then (x_then (x_hit (c_then (ns (mv rfl (asg rfl (nt (c_ret ?_)))))))))
        repeat (first|refine r_then ?_|refine r_block ?_)
        refine ret1 trivial rfl rfl ⟨_,rfl,M,rfl,?_⟩;rw[← W];exact C.ow E d hQ
end Go.Proofs.YtfadcpfgenjbeaaGreat
