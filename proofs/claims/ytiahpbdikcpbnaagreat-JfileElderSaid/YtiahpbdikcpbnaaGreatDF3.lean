/- Part 3 of what the walk of a law stands on: ImT9, GoLP, ImT10, ImT11, ImT12, ImT13, ImT14, LinkP, LinkQ, ImT15, ImT16, ImT17, LwP, JfP, BhP, ElP, ElQ, EqI, VWi, WHash, VHash. No statement is proved here. -/
import Derived.Test.YtiahpbdikcpbnaaGreatDF2
import Derived.Test.YtiahpbdikcpbnaaGreatRows
set_option linter.unusedVariables false
set_option linter.unusedSimpArgs false
namespace Go.Wk
open Go Go.RowKit
theorem mem_get {l:List Nat} {a:Nat} (h:a∈l):∃i:Nat,l[i]? = some a:=List.mem_iff_getElem?.1 h
theorem sub_of {m:Mk} {l l':List Ob} {n:Nat} (h:l'=l∨l'=l ++ [(⟨m.b.length,6,24+8*n⟩:Ob)]):∃t,l'=l ++ t∧∀o∈t,o.kind=6∧m.b.length≤o.pos:=by
  rcases h with h|h
  · exact⟨[],by simp[h],by simp⟩
  exact⟨_,h,by intro o A;simp at A;subst A;exact⟨rfl,Nat.le_refl _⟩⟩
theorem ImgC.link {m m':Mk} {l l':List Ob} {es:List EntG} {mp:List Nat} {f:Nat→List Nat} {x:Nat} {av:List Nat} {m1:Mk} (h:ImgC m l es mp f) (L:Linked m m1 l l' 176 m.main av mp x)
    (hb:m'.b=m1.b) (hc:m'.c=m1.c) (hd:m'.datas=m1.datas) (hf:m'.fields=m1.fields) (hm':m'.main=av) (hn:m'.num 2=m1.num 2∧m'.num 4=m1.num 4):ImgC m' l' es (mp ++ [x]) f:=by
  obtain⟨X,Y,Z,n,p,T⟩:=L.same
  obtain⟨t,M,S⟩:=sub_of L.sub
  have hO':=L.objs
  have H:∀o∈l,o∈l':=fun o D=>by rw[M];exact List.mem_append_left _ D
  have N:=L.eff
  have I:∀a,LinkS 176 av a→Mild l a:=fun a C=>(linkS_mild hO' C L.chain.ob (mild_head hO' (by decide))).mono H
  have E:∀c∈av,c∈m.main∨c=m.b.length:=fun c hc=>by
    rcases L.arr with e|e
    · rw[e]at hc;exact .inl hc
    · rw[e,List.mem_append,List.mem_singleton]at hc;exact hc
  have F:∀c∈av,∀o∈l',o.kind≠6→c≠o.pos:=fun c hc o D hk e=>by
    obtain⟨i,B⟩:=mem_get hc
    rcases hO'.sep D (L.chain.ob i c B)with G|G|G
    · subst G;exact hk rfl
    · have:=up8_ge o.size;have:=(hO'.mem D).size.1;simp only at G;omega
    · rw[up8_arr]at G;simp only at G;omega
  have K:m'.datas=m.datas:=hd.trans Y
  refine⟨h.stat.keep (by rw[hb];exact hO') ⟨t,M,fun o D=>by have:=(S o D).1;omega⟩ (by rw[hb];exact N) I (hc.trans X) (hf.trans Z) ⟨hn.1.trans (T 2 (by decide) (by decide) (by decide)),hn.2.trans (T 4 (by decide) (by decide) (by decide))⟩ (by rw[K];exact DSame.refl _),by rw[hb,hm'];exact L.chain,fun i k B=>?_,⟨fun i k B a C hc=>?_,by rw[K];exact h.own.one⟩,fun g U=>by rw[hb];exact(h.ent g U).eff h.stat.objs N I H,by rw[M,filter_app fun o D=>by have:=(S o D).1;omega];exact h.kin⟩
  · rw[K]at B
    have J:=h.stat.data k (List.mem_of_getElem? B)
    have d:=up8_ge (64+k.text.length)
    have V:272≤k.pos:=(h.stat.objs.mem J.ob).ge
    rw[hb]
    refine(h.dat i k B).eff J h.stat.objs N H (fun a C=>?_) (fun j y R a C=>?_)
    · rcases linkS_at hO' C L.chain.ob (H _ J.ob) (fun c hc=>F c hc _ (H _ J.ob) (by simp))with A|A|A
      · omega
      · simp only at A;omega
      simp only at A;omega
    have Q:=(h.dat i k B).chain.ob j y R
    have O:=(h.dat i k B).chain.le h.stat.objs R
    have P:∀c∈av,c≠y:=fun c hc e=>by
      subst e
      rcases E c hc with A|A
      · exact h.own.main i k B c (List.mem_of_getElem? R) A
      · omega
    rcases linkS_at hO' C L.chain.ob (H _ Q) P with A|A|A
    · omega
    · simp only at A;omega
    rw[up8_arr]at A;simp only at A;omega
  rw[K]at B;rw[hm']at hc
  rcases E a hc with A|A
  · exact h.own.main i k B a C A
  obtain⟨j,W⟩:=mem_get C
  have O:=(h.dat i k B).chain.le h.stat.objs W
  omega
theorem hard_cases {k:Known} {av:List Nat} {a:Nat} (h:Hard k av a):(k.pos+40≤a∧a+8≤k.pos+64)∨LinkS (k.pos+48) av a:=by
  rcases h with h|h|h
  · left;omega
  · left;omega
  exact .inr h
theorem ImgC.hang {m m':Mk} {l l':List Ob} {es:List EntG} {mp:List Nat} {f:Nat→List Nat} {i e:Nat} {k k':Known} (h:ImgC m l es mp f) (hi:m.datas[i]? = some k) (H:Hung m m' l l' i e k k' (f i)):ImgC m' l' es mp (fun j=>if j=i then f i ++ [e]else f j):=by
  obtain⟨s1,s3,s4,s5,s6⟩:=H.same
  obtain⟨t,u,ht⟩:=H.sub
  have J:=H.objs
  have M:∀o∈l,o∈l':=fun o N=>by rw[u];exact List.mem_append_left _ N
  have p:=H.eff
  have T:=h.stat.data k (List.mem_of_getElem? hi)
  have hu:=up8_ge (64+k.text.length)
  have Ah:272≤k.pos:=(h.stat.objs.mem T.ob).ge
  have v:DSame m.datas m'.datas:=by rw[H.dat];exact DSame.set hi H.pos.1 H.pos.2.1
  have ob':=H.more.chain.ob
  have K:∀c∈k'.arrays,c∈k.arrays∨c=m.b.length:=fun c G=>by
    rcases H.arr with e|e
    · rw[e]at G;exact .inl G
    · rw[e,List.mem_append,List.mem_singleton]at G;exact G
  have Q:∀c∈k'.arrays,∀o∈l',o.kind≠6→c≠o.pos:=fun c G o N hk e=>by
    obtain⟨i,hi⟩:=mem_get G
    rcases J.sep N (ob' i c hi)with C|C|C
    · subst C;exact hk rfl
    · have:=up8_ge o.size;have:=(J.mem N).size.1;simp only at C;omega
    · rw[up8_arr]at C;simp only at C;omega
  -- what is written stands E from another object's inside
  have E:∀o∈l',o.pos≠k.pos→(∀c∈k'.arrays,c≠o.pos)→∀a,Hard k k'.arrays a→a+8≤o.pos∨o.pos+up8 o.size≤a:=fun o N x G a F=>by
    have Ak:o.pos+up8 o.size≤k.pos∨k.pos+up8 (64+k.text.length)≤o.pos:=by
      rcases J.sep N (M _ T.ob)with C|C|C
      · exact absurd (congrArg Ob.pos C) x
      · exact .inl C
      · exact .inr C
    rcases hard_cases F with B|B
    · omega
    · rcases linkS_at J B (by rw[← H.pos.1]at *;exact ob') N G with d|d
      · omega
      · exact d
  have U:∀a,Hard k k'.arrays a→Mild l a:=fun a F=>by
    have hw:∀q,k.pos+40≤q→q+8≤k.pos+64→Mild l' q:=fun q B d=>mild_of J (M _ T.ob) (by simp only;omega) (by simp only;omega) (by simp) (by simp only;omega) (by simp)
    rcases hard_cases F with B|B
    · exact(hw a B.1 B.2).mono M
    · exact(linkS_mild J B ob' (hw _ (by omega) (by omega))).mono M
  have A:∀(j:Nat) (y:Known),m'.datas[j]? = some y→(j=i∧y=k')∨(j≠i∧m.datas[j]? = some y):=fun j y D=>by
    rw[H.dat]at D
    by_cases I:i=j
    · subst I
      rw[List.getElem?_set_self (List.getElem?_eq_some_iff.1 hi).1]at D
      exact .inl ⟨rfl,by simpa using D.symm⟩
    · rw[List.getElem?_set_ne I]at D
      exact .inr ⟨fun e=>I e.symm,D⟩
  have R:=h.stat.keep J ⟨t,u,fun o N=>by have:=(ht o N).1;omega⟩ p U s1 s3 ⟨s6 2 (by decide) (by decide) (by decide),s6 4 (by decide) (by decide) (by decide)⟩ v
  refine⟨R,?_,fun j y D=>?_,⟨fun j y D a F G=>?_,fun j S y Z a D L F P=>?_⟩,fun g hg=>(h.ent g hg).eff h.stat.objs p U M,by rw[u,filter_app fun o N=>by have:=(ht o N).1;omega];exact h.kin⟩
  · rw[s4]
    refine h.main.eff h.stat.objs (main_src l) (Nat.le_refl _) p M (fun a F=>?_) (fun j y hy a F=>?_)
    · rcases hard_cases F with B|B|⟨j,c,B,d,h3⟩
      · omega
      · omega
      have:=H.more.chain.le J B;omega
    have O:=h.main.ob j y hy
    have w:=h.main.le h.stat.objs hy
    have:=E _ (M _ O) (fun e=>by
      have:=h.stat.objs.sep O T.ob
      rcases this with C|C|C
      · cases C
      · rw[up8_arr]at C;simp only at C e;omega
      · simp only at C e;omega) (fun c G e=>by
      simp only at e;subst e
      rcases K c G with B|B
      · exact h.own.main i k hi c B (List.mem_of_getElem? hy)
      · omega) a F
    rw[up8_arr]at this
    simp only at this;omega
  · rcases A j y D with⟨rfl,rfl⟩|⟨I,D⟩
    · rw[if_pos rfl];exact H.more
    rw[if_neg I]
    have r:=h.stat.data y (List.mem_of_getElem? D)
    have Al:=up8_ge (64+y.text.length)
    have Aa:y.pos≠k.pos:=fun e=>I (h.stat.one j i y k D hi (.inl e))
    refine(h.dat j y D).eff r h.stat.objs p M (fun a F=>?_) (fun n z X a F=>?_)
    · have:=E _ (M _ r.ob) Aa (fun c G=>Q c G _ (M _ r.ob) (by simp)) a F
      simp only at this;omega
    have O:=(h.dat j y D).chain.ob n z X
    have w:=(h.dat j y D).chain.le h.stat.objs X
    have:=E _ (M _ O) (fun e=>by
      have:=h.stat.objs.sep O T.ob
      rcases this with C|C|C
      · cases C
      · rw[up8_arr]at C;simp only at C e;omega
      · simp only at C e;omega) (fun c G e=>by
      simp only at e;subst e
      rcases K c G with B|B
      · exact I (h.own.one j i y k c D hi (List.mem_of_getElem? X) B)
      · omega) a F
    rw[up8_arr]at this
    simp only at this;omega
  · rw[s4]at G
    rcases A j y D with⟨rfl,rfl⟩|⟨I,D⟩
    · rcases K a F with B|B
      · exact h.own.main j k hi a B G
      obtain⟨n,hn⟩:=mem_get G
      have:=h.main.le h.stat.objs hn;omega
    exact h.own.main j y D a F G
  have Y:∀(n:Nat) (z:Known),m.datas[n]? = some z→m.b.length∉z.arrays:=fun n z X W=>by
    obtain⟨q,hq⟩:=mem_get W
    have:=(h.dat n z X).chain.le h.stat.objs hq;omega
  rcases A j y D with⟨rfl,rfl⟩|⟨I,D⟩
  · rcases A S Z L with⟨rfl,rfl⟩|⟨V,L⟩
    · rfl
    rcases K a F with B|B
    · exact h.own.one j S k Z a hi L B P
    subst B;exact absurd P (Y S Z L)
  rcases A S Z L with⟨rfl,rfl⟩|⟨V,L⟩
  · rcases K a P with B|B
    · exact h.own.one j S y k a D hi F B
    subst B;exact absurd F (Y j y D)
  exact h.own.one j S y Z a D L F P
end Go.Wk
namespace Go.Wk
open Go
abbrev plt (p q:Pr):Prop:=Op.bytesLess (whole p.pb) (whole q.pb)=true
theorem plt_irr (p:Pr):¬plt p p:=by unfold plt;rw[bl_irr];simp
theorem plt_trans {p q r:Pr} (h:plt p q) (k:plt q r):plt p r:=bl_trans h k
theorem plt_tri {p q:Pr} (hp:right p.pb=true) (hq:right q.pb=true) (h:¬plt p q) (k:¬plt q p):p=q :=
  pb_inj.1 (whole_inj hp hq (bl_tri (by simpa [plt]using h) (by simpa [plt]using k)))
abbrev Asc (l:List Pr):Prop:=l.Pairwise plt
theorem asc_ext:∀{l m:List Pr},Asc l→Asc m→(∀p,p∈l↔p∈m)→l=m
  | [],[],_,_,_=>rfl
  | [],b :: m,_,_,h=>by have:=(h b).2 (by simp);simp at this
  | a :: l,[],_,_,h=>by have:=(h a).1 (by simp);simp at this
  | a :: l,b :: m,hl,hm,h=>by
    obtain⟨hl1,hl2⟩:=List.pairwise_cons.1 hl
    obtain⟨hm1,hm2⟩:=List.pairwise_cons.1 hm
    have e:a=b:=by
      rcases List.mem_cons.1 ((h a).1 (by simp))with e|A
      · exact e
      · rcases List.mem_cons.1 ((h b).2 (by simp))with e|C
        · exact e.symm
        · exact absurd (plt_trans (hl1 b C) (hm1 a A)) (plt_irr a)
    subst e
    congr 1
    refine asc_ext hl2 hm2 fun p=>⟨fun B=>?_,fun B=>?_⟩
    · rcases List.mem_cons.1 ((h p).1 (by simp[B]))with rfl|A
      · exact absurd (hl1 p B) (plt_irr p)
      · exact A
    · rcases List.mem_cons.1 ((h p).2 (by simp[B]))with rfl|A
      · exact absurd (hm1 p B) (plt_irr p)
      · exact A
def ins' (p:Pr):List Pr→List Pr
  | []=>[p]
  | q :: r=>if Op.bytesLess (payload q) (payload p)=true then q :: ins' p r else if q.pb=p.pb then q :: r else p :: q :: r
theorem rank_succ (t:Ly) (o:List Pr) (k:Nat):rankF t o (k+1)=rankF t o k+1:=by
  induction o generalizing k with
  | nil=>rfl
  | cons q r ih=>unfold rankF;split <;> simp[ih]
theorem rank_le (t:Ly) (o:List Pr):rankF t o 0≤o.length:=by
  induction o with
  | nil=>simp[rankF]
  | cons q r ih=>unfold rankF;split <;> simp[rank_succ,ih]
theorem shift_len:∀(n j:Nat) (o:List Pr),(shiftF n j o).length=o.length
  | 0,_,_=>rfl
  | n+1,j,o=>by unfold shiftF;rw[shift_len n];simp
theorem shift_get:∀(n j:Nat) (o:List Pr),n≤j→j<o.length→∀i,i<o.length→(shiftF n j o)[i]? = if j-n<i∧i≤j then o[i-1]? else o[i]?
  | 0,j,o,_,_,i,_=>by simp[shiftF];intro h1 h2;omega
  | n+1,j,o,hn,hj,i,hi=>by
    unfold shiftF
    have hd:o.getD (j-1) {name:=[],value:=[]}=o[j-1]:=by simp[List.getD,show j-1<o.length by omega]
    rw[shift_get n (j-1) _ (by omega) (by simp;omega) i (by simpa using hi),hd]
    by_cases h1:j-1-n<i∧i≤j-1
    · rw[if_pos h1,if_pos (by omega),List.getElem?_set_ne (by omega)]
    · rw[if_neg h1]
      by_cases h2:i=j
      · subst h2
        rw[if_pos (by omega),List.getElem?_set_self hj,List.getElem?_eq_getElem (show i-1<o.length by omega)]
      · rw[if_neg (by omega),List.getElem?_set_ne (by omega)]
theorem shift_set (o:List Pr) (k:Nat) (p d:Pr) (hk:k≤o.length):(shiftF (o.length-k) o.length (o ++ [d])).set k p=o.take k ++ p :: o.drop k:=by
  apply List.ext_getElem?
  intro i
  have A:(shiftF (o.length-k) o.length (o ++ [d])).length=o.length+1:=by rw[shift_len];simp
  by_cases hi:i<o.length+1
  · by_cases h1:i=k
    · subst h1
      rw[List.getElem?_set_self (by omega),List.getElem?_append_right (by simp;omega)]
      simp[Nat.min_eq_left hk]
    rw[List.getElem?_set_ne (Ne.symm h1),shift_get _ _ _ (by omega) (by simp) i (by simp;omega)]
    by_cases h2:o.length-(o.length-k)<i∧i≤o.length
    · rw[if_pos h2,List.getElem?_append_left (by omega),List.getElem?_append_right (by simp;omega)]
      simp only[List.length_take,Nat.min_eq_left hk]
      obtain⟨m,rfl⟩:∃m,i=k+1+m:=⟨i-(k+1),by omega⟩
      rw[show k+1+m-k=m+1 by omega,List.getElem?_cons_succ,List.getElem?_drop]
      congr 1;omega
    rw[if_neg h2,List.getElem?_append_left (by omega),List.getElem?_append_left (by simp;omega),List.getElem?_take,if_pos (by omega)]
  rw[List.getElem?_eq_none (by simp[A];omega),List.getElem?_eq_none (by simp;omega)]
theorem ins_eq (p:Pr) (o:List Pr):insF p o=ins' p o:=by
  have A:∀o:List Pr,(rankF (payload p) o 0<o.length∧(o.getD (rankF (payload p) o 0) {name:=[],value:=[]}).pb=p.pb→ins' p o=o) ∧
      (¬(rankF (payload p) o 0<o.length∧(o.getD (rankF (payload p) o 0) {name:=[],value:=[]}).pb=p.pb)→ins' p o=o.take (rankF (payload p) o 0) ++ p :: o.drop (rankF (payload p) o 0)):=by
    intro o
    induction o with
    | nil=>simp[rankF,ins']
    | cons q r ih =>
      unfold rankF ins'
      by_cases h1:Op.bytesLess (payload q) (payload p)=true
      · rw[if_pos h1,if_pos h1,rank_succ]
        simp only[List.length_cons,Nat.add_lt_add_iff_right,List.getD_cons_succ,List.take_succ_cons,List.drop_succ_cons,List.cons_append,List.cons.injEq,true_and]
        exact ih
      · rw[if_neg h1,if_neg h1]
        simp only[List.length_cons,Nat.zero_lt_succ,true_and,List.getD_cons_zero,List.take_zero,List.drop_zero,List.nil_append]
        exact⟨fun h=>if_pos h,fun h=>if_neg h⟩
  unfold insF
  simp only
  split
  · rename_i h;exact((A o).1 h).symm
  rename_i h;rw[shift_set _ _ _ _ (rank_le _ _)];exact((A o).2 h).symm
theorem mem_ins {p q:Pr} {o:List Pr}:q∈ins' p o↔q=p∨q∈o:=by
  induction o with
  | nil=>simp[ins']
  | cons x r ih =>
    unfold ins'
    split
    · simp[ih];constructor
      · rintro(h|h|h) <;> simp[h]
      · rintro(h|h|h) <;> simp[h]
    · split
      · rename_i h;rw[pb_inj]at h;subst h;simp
      · simp
theorem asc_ins {p:Pr} {o:List Pr} (hp:right p.pb=true) (ho:∀q∈o,right q.pb=true) (h:Asc o):Asc (ins' p o):=by
  induction o with
  | nil=>simp[ins']
  | cons x r ih =>
    obtain⟨C,D⟩:=List.pairwise_cons.1 h
    unfold ins'
    split
    · rename_i hx
      refine List.pairwise_cons.2 ⟨fun q A=>?_,ih (fun q A=>ho q (by simp[A])) D⟩
      rcases mem_ins.1 A with rfl|A
      · exact hx
      · exact C q A
    · rename_i hx
      split
      · exact h
      · rename_i hne
        have B:plt p x:=by
          cases hb:Op.bytesLess (whole p.pb) (whole x.pb)with
          | true=>exact hb
          | false=>exact absurd (pb_inj.2 (plt_tri (ho x (by simp)) hp hx (by simp[plt,hb]))) hne
        refine List.pairwise_cons.2 ⟨fun q A=>?_,h⟩
        rcases List.mem_cons.1 A with rfl|A
        · exact B
        · exact plt_trans B (C q A)
theorem goL_all:∀(l o x:List Pr),goL l o=(x,0)→(∀q∈o,right q.pb=true)→Asc o→Asc x∧(∀q∈x,right q.pb=true)∧(∀q,q∈x↔q∈o∨q∈l)∧x.length≤16
  | [],o,x,h,hr,ha=>by
    unfold goL at h
    split at h
    · simp at h
    · rename_i hl
      obtain⟨rfl,_⟩:=Prod.mk.inj h
      exact⟨ha,hr,by simp,by omega⟩
  | p :: r,o,x,h,hr,ha=>by
    unfold goL at h
    split at h
    · rename_i h1;exact absurd (Prod.mk.inj h).2 h1
    · rename_i h1
      have hp:right p.pb=true:=joinF_right.1 (Classical.not_not.1 h1)
      rw[ins_eq]at h
      obtain⟨g1,g2,g3,g4⟩:=goL_all r _ x h (fun q hq=>by
        rcases mem_ins.1 hq with rfl|hq
        · exact hp
        · exact hr q hq) (asc_ins hp hr ha)
      refine⟨g1,g2,fun q=>?_,g4⟩
      rw[g3,mem_ins,List.mem_cons]
      constructor
      · rintro((h|h)|h)
        · exact .inr (.inl h)
        · exact .inl h
        · exact .inr (.inr h)
      · rintro(h|h|h)
        · exact .inl (.inr h)
        · exact .inl (.inl h)
        · exact .inr h
theorem listF_all {l x:List Pr} (h:listF l=(x,0)):Asc x∧(∀q∈x,right q.pb=true)∧(∀q,q∈x↔q∈l)∧x.length≤16∧x≠[]:=by
  unfold listF at h
  split at h
  · simp at h
  rename_i h0
  obtain⟨B,C,A,D⟩:=goL_all l [] x h (by simp) List.Pairwise.nil
  refine⟨B,C,by simpa using A,D,?_⟩
  rintro rfl
  cases l with
  | nil=>simp at h0
  | cons y r=>exact absurd ((A y).2 (by simp)) (by simp)
end Go.Wk
namespace Go.Wk
open Go Go.RowKit
def textAt (ds:List Known) (i:Nat):List UInt8:=(ds.getD i known0).text
def DExt (ds ds':List Known):Prop:=∀(i:Nat) (k:Known),ds[i]? = some k→∃k',ds'[i]? = some k'∧k'.pos=k.pos∧k'.text=k.text
theorem DExt.refl (ds:List Known):DExt ds ds:=fun _ k h=>⟨k,h,rfl,rfl⟩
theorem DExt.trans {a b c:List Known} (h:DExt a b) (k:DExt b c):DExt a c:=fun i x hx=>by
  obtain⟨y,h1,h2,h3⟩:=h i x hx
  obtain⟨z,h4,h5,h6⟩:=k i y h1
  exact⟨z,h4,h5.trans h2,h6.trans h3⟩
theorem DSame.ext {a b:List Known} (h:DSame a b):DExt a b:=fun i k hk=>by
  have hl:=(List.getElem?_eq_some_iff.1 hk).1
  obtain⟨k',hk'⟩:∃k',b[i]? = some k':=⟨_,List.getElem?_eq_getElem (by rw[h.len];exact hl)⟩
  obtain⟨k0,h1,h2,h3⟩:=h.get i k' hk'
  rw[hk]at h1;cases h1
  exact⟨k',hk',h2,h3⟩
theorem DExt.at {a b:List Known} (h:DExt a b) {i:Nat} (hi:i<a.length):i<b.length∧posAt b i=posAt a i∧textAt b i=textAt a i:=by
  obtain⟨D,A,B,C⟩:=h i _ (List.getElem?_eq_getElem hi)
  refine⟨(List.getElem?_eq_some_iff.1 A).1,?_,?_⟩
  · unfold posAt;simp only[List.getD_eq_getElem?_getD,A,List.getElem?_eq_getElem hi,Option.getD_some];exact B
  unfold textAt;simp only[List.getD_eq_getElem?_getD,A,List.getElem?_eq_getElem hi,Option.getD_some];exact C
theorem DataIm.ext {m m':Mk} {l l':List Ob} {i:Nat} {t:Ly} (d:DataIm m m' l l' i t):DExt m.datas m'.datas:=by
  rcases d.new with e|⟨s,p,e,_⟩
  · rw[e];exact DExt.refl _
  rw[e];exact fun j k A=>⟨k,by rw[List.getElem?_append_left (List.getElem?_eq_some_iff.1 A).1];exact A,rfl,rfl⟩
theorem textAt_get {ds:List Known} {i:Nat} {k:Known} (h:ds[i]? = some k):textAt ds i=k.text∧posAt ds i=k.pos:=by
  unfold textAt posAt
  simp only[List.getD_eq_getElem?_getD,h,Option.getD_some,and_self]
theorem backF_spec (ds:List Known) (p:Nat) (od:List Nat):∀n,n≤od.length→(∀j,backF ds p od n≤j→j<n→p<posAt ds (od.getD j 0))∧(0<backF ds p od n→posAt ds (od.getD (backF ds p od n-1) 0)≤p)
  | 0,_=>⟨fun j h1 h2=>by omega,fun h=>by simp[backF]at h⟩
  | n+1,hn=>by
    rw[backF]
    split
    · rename_i hp
      obtain⟨g1,g2⟩:=backF_spec ds p od n (by omega)
      refine⟨fun j h1 h2=>?_,g2⟩
      by_cases hj:j=n
      · subst hj;exact hp
      · exact g1 j h1 (by omega)
    · rename_i hp
      exact⟨fun j h1 h2=>by omega,fun _=>by simp only[Nat.add_sub_cancel];omega⟩
theorem pairwise_split {α:Type} {R:α→α→Prop} {l:List α} {n:Nat} {x:α} (h:l.Pairwise R) (h1:∀y∈l.take n,R y x) (h2:∀y∈l.drop n,R x y):(l.take n ++ [x] ++ l.drop n).Pairwise R:=by
  rw[List.append_assoc,List.singleton_append]
  refine List.pairwise_append.2 ⟨h.take,List.pairwise_cons.2 ⟨h2,h.drop⟩,fun a C b A=>?_⟩
  rcases List.mem_cons.1 A with rfl|A
  · exact h1 a C
  have B:=h
  rw[← List.take_append_drop n l]at B
  exact(List.pairwise_append.1 B).2.2 a C b A
theorem place_sorted {ds:List Known} {k:Nat} {od:List Nat} (h:od.Pairwise fun a b=>posAt ds a<posAt ds b) (hk:∀i∈od,posAt ds i≠posAt ds k):(placeF ds k od).Pairwise fun a b=>posAt ds a<posAt ds b:=by
  obtain⟨E,F⟩:=backF_spec ds (posAt ds k) od od.length (Nat.le_refl _)
  have I:=backF_le ds (posAt ds k) od od.length
  unfold placeF
  simp only
  generalize backF ds (posAt ds k) od od.length=n at *
  refine pairwise_split h (fun y D=>?_) (fun y D=>?_)
  · obtain⟨i,B⟩:=List.mem_iff_getElem?.1 D
    rw[List.getElem?_take]at B
    split at B
    · rename_i hin
      have G:=hk y (List.mem_of_getElem? B)
      have C:=(List.getElem?_eq_some_iff.1 B).1
      have J:=F (by omega)
      have A:od[n-1]? = some (od.getD (n-1) 0):=by simp[List.getD,List.getElem?_eq_getElem (show n-1<od.length by omega)]
      have:posAt ds y≤posAt ds (od.getD (n-1) 0):=by
        by_cases he:i=n-1
        · subst he;rw[B]at A;have:=Option.some.inj A;rw[← this];exact Nat.le_refl _
        · have H:=List.pairwise_iff_getElem.1 h i (n-1) C (by omega) (by omega)
          rw[List.getElem?_eq_getElem C]at B
          rw[List.getElem?_eq_getElem (show n-1<od.length by omega)]at A
          rw[Option.some.inj B,Option.some.inj A]at H
          omega
      omega
    cases B
  obtain⟨i,B⟩:=List.mem_iff_getElem?.1 D
  rw[List.getElem?_drop]at B
  have C:=(List.getElem?_eq_some_iff.1 B).1
  have:=E (n+i) (by omega) C
  rw[List.getD_eq_getElem?_getD,B]at this
  exact this
theorem place_perm (ds:List Known) (k:Nat) (od:List Nat):(placeF ds k od).Perm (k :: od):=by
  unfold placeF
  simp only
  generalize backF ds (posAt ds k) od od.length=n
  rw[List.append_assoc,List.singleton_append]
  have:=List.perm_middle (a:=k) (l₁:=od.take n) (l₂:=od.drop n)
  rw[List.take_append_drop]at this
  exact this
structure Whos (m:Mk) (dl:List Pr) (ps:List (List UInt8)) (od:List Nat):Prop where
  eq:ps=dl.map payload
  lt:∀i∈od,i<m.datas.length
  perm:(od.map (textAt m.datas)).Perm ps
  asc:od.Pairwise fun a b=>posAt m.datas a<posAt m.datas b
theorem payload_inj {p q:Pr} (hp:right p.pb=true) (hq:right q.pb=true) (h:payload p=payload q):p=q:=by
  have A:=(split_whole ((joinC_right _).2 hp)).2
  have B:=(split_whole ((joinC_right _).2 hq)).2
  have C:whole p.pb=whole q.pb:=h
  rw[C,B]at A
  exact(pb_inj.1 A).symm
theorem whos_step {m m':Mk} {l l':List Ob} {dl:List Pr} {ps:List (List UInt8)} {od:List Nat} {i:Nat} {x:Pr} (h:Whos m dl ps od) (hs:Stat m l) (d:DataIm m m' l l' i (payload x)) (hn:payload x∉dl.map payload) :
    Whos m' (dl ++ [x]) (ps ++ [(m'.datas.getD i known0).text]) (placeF m'.datas i od):=by
  have C:=d.ext
  obtain⟨k,hk,E⟩:=d.got
  obtain⟨F,L⟩:=textAt_get hk
  have J:=(List.getElem?_eq_some_iff.1 hk).1
  have G:(m'.datas.getD i known0).text=payload x:=F.trans E
  have A:od.map (textAt m'.datas)=od.map (textAt m.datas):=List.map_congr_left fun j B=>(C.at (h.lt j B)).2.2
  have D:i∉od:=fun K=>by
    have H:textAt m'.datas i∈od.map (textAt m'.datas):=List.mem_map.2 ⟨i,K,rfl⟩
    rw[A]at H
    have:=h.perm.subset H
    rw[h.eq,F,E]at this
    exact hn this
  refine⟨by rw[G,h.eq];simp,fun j B=>?_,?_,?_⟩
  · rcases place_mem B with rfl|B
    · exact J
    exact(C.at (h.lt j B)).1
  · refine((place_perm m'.datas i od).map _).trans ?_
    rw[List.map_cons,A,F,E,G]
    exact(List.Perm.cons _ h.perm).trans (List.perm_append_comm (l₁:=[payload x]))
  refine place_sorted ?_ fun j B e=>?_
  · refine List.Pairwise.imp_of_mem (fun {a b} ha hb hab=>?_) h.asc
    rw[(C.at (h.lt a ha)).2.1,(C.at (h.lt b hb)).2.1];exact hab
  obtain⟨y,I⟩:∃y,m'.datas[j]? = some y:=⟨_,List.getElem?_eq_getElem (C.at (h.lt j B)).1⟩
  rw[(textAt_get I).2,L]at e
  have:=d.stat.one j i y k I hk (.inl e)
  subst this;exact D B
structure DatasIm (m m':Mk) (l l':List Ob) (es:List EntG) (mp:List Nat) (f:Nat→List Nat):Prop where
  img:ImgC m' l' es mp f
  ext:DExt m.datas m'.datas
  same:m'.c=m.c∧m'.main=m.main∧∀i,i≠6→i≠7→i<15→m'.num i=m.num i
  len:m.datas.length≤m'.datas.length
theorem datasL_im:∀(fs dl:List Pr) (m:Mk) (l:List Ob) (ps:List (List UInt8)) (od:List Nat) (es:List EntG) (mp:List Nat) (f:Nat→List Nat),ImgC m l es mp f→(∀i,m.datas.length≤i→f i=[])→Whos m dl ps od→(∀q∈fs,BD q)→((dl ++ fs).map payload).Nodup →
    ∃l',DatasIm m (datasL fs m ps od).2.2 l l' es mp f∧Whos (datasL fs m ps od).2.2 (dl ++ fs) (datasL fs m ps od).1 (datasL fs m ps od).2.1
  | [],dl,m,l,ps,od,es,mp,f,h,hf,hw,_,_=>⟨l,⟨h,DExt.refl _,⟨rfl,rfl,fun _ _ _ _=>rfl⟩,Nat.le_refl _⟩,by rw[List.append_nil];exact hw⟩
  | x :: r,dl,m,l,ps,od,es,mp,f,h,hf,hw,hb,hnd=>by
    obtain⟨l1,d⟩:=data_im h.stat x (hb x (by simp))
    have hx:payload x∉dl.map payload:=fun hm=>by
      rw[List.map_append,List.map_cons]at hnd
      exact(List.nodup_append.1 hnd).2.2 _ hm _ (by simp) rfl
    have g:=h.soft d hf
    have w:=whos_step hw h.stat d hx
    have hle:m.datas.length≤(m.data x).2.datas.length:=by
      rcases d.new with e|⟨s,p,e,_⟩ <;> rw[e] <;> simp
    obtain⟨l',A,E⟩:=datasL_im r (dl ++ [x]) (m.data x).2 l1 _ _ es mp f g (fun i G=>hf i (by omega)) w (fun q F=>hb q (by simp[F])) (by rw[List.append_assoc];exact hnd)
    rw[List.append_assoc]at E
    refine⟨l',⟨A.img,d.ext.trans A.ext,⟨A.same.1.trans d.step.same.1,A.same.2.1.trans d.step.same.2.1,fun i B C D=>(A.same.2.2 i B C D).trans (d.step.same.2.2 i B C D)⟩,lj hle A.len⟩,E⟩
end Go.Wk
namespace Go.Wk
open Go Go.RowKit
theorem xorF_perm:∀{a b:List (List UInt8)},a.Perm b→∀v,xorF v a=xorF v b:=by
  intro a b h
  induction h with
  | nil=>exact fun _=>rfl
  | cons x _ ih=>exact fun v=>ih _
  | swap x y l=>intro v;simp only[xorF];congr 1;rw[Nat.xor_assoc,Nat.xor_assoc,Nat.xor_comm (lookN y)]
  | trans _ _ ih1 ih2=>exact fun v=>(ih1 v).trans (ih2 v)
theorem xorF_lt:∀(l:List (List UInt8)) (v:Nat),v<18446744073709551616→xorF v l<18446744073709551616
  | [],_,h=>h
  | x :: r,v,h=>xorF_lt r _ (xor64_lt h (lookN_lt x))
structure HangsIm (m m':Mk) (l':List Ob) (es:List EntG) (mp:List Nat) (f:Nat→List Nat) (e n:Nat) (od:List Nat):Prop where
  img:ImgC m' l' es mp (fun j=>if j∈od then f j ++ [e]else f j)
  ds:DSame m.datas m'.datas
  same:m'.c=m.c∧m'.fields=m.fields∧m'.main=m.main∧m'.depth=m.depth∧∀i,i≠6→i≠7→i≠18→m'.num i=m.num i
  top:m'.b.length≤m.b.length+2100*n
  ge:m.b.length≤m'.b.length
theorem DSame.trans {a b c:List Known} (h:DSame a b) (k:DSame b c):DSame a c:=⟨k.len.trans h.len,fun i x hx=>by
  obtain⟨y,h1,h2,h3⟩:=k.get i x hx
  obtain⟨z,h4,h5,h6⟩:=h.get i y h1
  exact⟨z,h4,h2.trans h5,h3.trans h6⟩⟩
theorem hangE_im {es:List EntG} {mp:List Nat} {e:Nat} (he:e<18446744073709551616):∀(od:List Nat) (m:Mk) (l:List Ob) (f:Nat→List Nat),ImgC m l es mp f→(∀i∈od,i<m.datas.length)→od.Nodup→(∀i∈od,(f i).length<900000)→m.b.length+2100*od.length<900000 →
    ∃l',HangsIm m (hangE e od m) l' es mp f e od.length od
  | [],m,l,f,h,_,_,_,_=>⟨l,⟨by simp only[List.not_mem_nil,if_false];exact h,DSame.refl _,⟨rfl,rfl,rfl,rfl,fun _ _ _ _=>rfl⟩,Nat.le_refl _,Nat.le_refl _⟩⟩
  | i :: r,m,l,f,h,hi,hn,hl,hb=>by
    obtain⟨k,hk⟩:∃k,m.datas[i]? = some k:=⟨_,List.getElem?_eq_getElem (hi i (by simp))⟩
    simp only[List.length_cons]at hb
    obtain⟨l1,k1,H⟩:=hang_one (e:=e) h.stat.objs hk (h.stat.data k (List.mem_of_getElem? hk)) (h.dat i k hk) (by omega) he (by have:=hl i (by simp);omega)
    have g:=h.hang hk H
    have hd1:DSame m.datas (hang1 e i m).datas:=by rw[H.dat];exact DSame.set hk H.pos.1 H.pos.2.1
    have T:=H.top
    obtain⟨J,K,L,M,N⟩:=H.same
    rw[hangE_cons]
    rw[List.nodup_cons]at hn
    have I:∀j∈r,(if j=i then f i ++ [e]else f j)=f j:=fun j A=>if_neg (by rintro rfl;exact hn.1 A)
    obtain⟨l',B⟩:=hangE_im he r (hang1 e i m) l1 _ g (fun j A=>by rw[hd1.len];exact hi j (by simp[A])) hn.2 (fun j A=>by simp only[I j A];exact hl j (by simp[A])) (by omega)
    obtain⟨O,P,Q,R,S⟩:=B.same
    have F:=B.top
    refine⟨l',⟨?_,hd1.trans B.ds,⟨O.trans J,P.trans K,Q.trans L,R.trans M,fun j D E C=>(S j D E C).trans (N j D E C)⟩,by simp only[List.length_cons];omega,lj H.eff.len B.ge⟩⟩
    have G:(fun j=>if j∈i :: r then f j ++ [e]else f j)=fun j=>if j∈r then(if j=i then f i ++ [e]else f j) ++ [e]else if j=i then f i ++ [e]else f j:=by
      funext j
      by_cases A:j=i
      · subst A;simp[hn.1]
      · simp[A]
    rw[G]
    exact B.img
def places (es:List EntG) (i:Nat):List Nat:=(es.filter fun g=>decide (i∈g.who)).map EntG.pos
theorem places_app (es:List EntG) (g:EntG) (i:Nat):places (es ++ [g]) i=if i∈g.who then places es i ++ [g.pos]else places es i:=by
  unfold places
  rw[List.filter_append,List.map_append]
  by_cases h:i∈g.who
  · rw[if_pos h];simp[h]
  rw[if_neg h];simp[h]
theorem places_len (es:List EntG) (i:Nat):(places es i).length≤es.length:=by unfold places;rw[List.length_map];exact List.length_filter_le _ _
structure EntW (m:Mk) (g:EntG):Prop where
  lt:∀i∈g.who,i<m.datas.length
  items:g.ent.items=g.who.map fun i=>{pos:=posAt m.datas i,hash:=hashM m (textAt m.datas i)}
  asc:g.who.Pairwise fun a b=>posAt m.datas a<posAt m.datas b
  xor:g.ent.xor=xorF 0 (g.who.map (textAt m.datas))
  ok:Ent.ok g.ent∧g.ent.seq≠0
  len:1≤g.who.length∧g.who.length≤16
structure RecG (m:Mk) (g:EntG) (r:Rec):Prop where
  seq:g.ent.seq=r.seq
  real:g.ent.real=r.real
  mono:g.ent.mono=r.mono
  boot:g.ent.boot=r.boot
  fields:(g.who.map (textAt m.datas)).Perm (r.fields.map payload)
  asc:Asc r.fields
  right:∀q∈r.fields,right q.pb=true
theorem EntW.ext {m m':Mk} {g:EntG} (h:EntW m g) (hd:DExt m.datas m'.datas) (hc:m'.c=m.c):EntW m' g:=by
  have B:∀t,hashM m' t=hashM m t:=fun t=>by unfold hashM;rw[hc]
  refine⟨fun i A=>(hd.at (h.lt i A)).1,?_,?_,?_,h.ok,h.len⟩
  · rw[h.items]
    exact List.map_congr_left fun i A=>by rw[(hd.at (h.lt i A)).2.1,(hd.at (h.lt i A)).2.2,B]
  · exact List.Pairwise.imp_of_mem (fun {a b} ha hb hab=>by rw[(hd.at (h.lt a ha)).2.1,(hd.at (h.lt b hb)).2.1];exact hab) h.asc
  rw[h.xor]
  congr 1
  exact(List.map_congr_left fun i A=>(hd.at (h.lt i A)).2.2).symm
theorem RecG.ext {m m':Mk} {g:EntG} {r:Rec} (h:RecG m g r) (w:EntW m g) (hd:DExt m.datas m'.datas):RecG m' g r:=by
  refine⟨h.seq,h.real,h.mono,h.boot,?_,h.asc,h.right⟩
  have:g.who.map (textAt m'.datas)=g.who.map (textAt m.datas):=List.map_congr_left fun i A=>(hd.at (w.lt i A)).2.2
  rw[this];exact h.fields
structure Img (m:Mk) (l:List Ob) (es:List EntG):Prop where
  c:ImgC m l es (es.map EntG.pos) (places es)
  n8:m.num 8=es.length
  n9:m.num 9<18446744073709551616
  n11:m.num 11=m.main.getD 0 0
  who:∀g∈es,EntW m g
  txt:∀k∈m.datas,∃q:Pr,right q.pb=true∧k.text=payload q
theorem places_nil {es:List EntG} {m:Mk} (h:∀g∈es,EntW m g) (i:Nat) (hi:m.datas.length≤i):places es i=[]:=by
  unfold places
  rw[List.map_eq_nil_iff,List.filter_eq_nil_iff]
  intro g A
  simp only[decide_eq_true_eq]
  intro B
  have:=(h g A).lt i B
  omega
theorem ImgC.to {m m':Mk} {l:List Ob} {es:List EntG} {mp:List Nat} {f:Nat→List Nat} (h:ImgC m l es mp f) (hb:m'.b=m.b) (hc:m'.c=m.c) (hd:m'.datas=m.datas) (hf:m'.fields=m.fields) (hm:m'.main=m.main) (hn:m'.num 2=m.num 2∧m'.num 4=m.num 4):ImgC m' l es mp f:=by
  have B:∀t,hashM m' t=hashM m t:=fun t=>by unfold hashM;rw[hc]
  obtain⟨⟨C,D,E,F,G,H,I,J,K,A⟩,L,M,⟨N,O⟩,P,Q⟩:=h
  exact⟨⟨by rw[hb];exact C,by rw[hc];exact D,by rw[hc];exact E,hn.1.trans F,by rw[hc];exact hn.2.trans G,by rw[hc];exact H,fun k hk=>by rw[hb,B];exact I k (hd ▸ hk),fun k hk=>by rw[hb,B];exact J k (hf ▸ hk),by rw[hd];exact K,by rw[hd];exact A⟩,by rw[hb,hm];exact L,by rw[hb,hd];exact M,⟨by rw[hd,hm];exact N,by rw[hd];exact O⟩,by rw[hb];exact P,Q⟩
end Go.Wk
namespace Go.Wk
open Go Go.RowKit
theorem finM_num (z:Mk) (n seq real mono e:Nat) (boot:Ly) (i:Nat) (h:i≠8∧i≠9∧i≠10∧i≠12∧i≠13∧i≠14):(finM z n seq real mono e boot).num i=z.num i:=by
  unfold finM
  simp only
  have A:(if n=0 then(z.setN 10 seq).setN 12 real else z).num i=z.num i:=by
    split
    · rw[num_setN (by omega),num_setN (by omega)]
    · rfl
  generalize (if n=0 then(z.setN 10 seq).setN 12 real else z)=y at *
  rw[← A]
  show((((y.setN 8 ((y.num 8+1)%18446744073709551616)).setN 9 seq).setN 13 real).setN 14 mono).num i=y.num i
  rw[num_setN (by omega),num_setN (by omega),num_setN (by omega),num_setN (by omega)]
theorem asc_nodup {ds:List Known} {od:List Nat} (h:od.Pairwise fun a b=>posAt ds a<posAt ds b):od.Nodup :=
  List.Pairwise.imp (fun {a b} hab e=>by subst e;exact Nat.lt_irrefl _ hab) h
theorem asc_payload {fs:List Pr} (h:Asc fs) (hr:∀q∈fs,right q.pb=true):(fs.map payload).Nodup:=by
  unfold List.Nodup
  rw[List.pairwise_map]
  exact List.Pairwise.imp_of_mem (fun {a b} ha hb hab e=>by
    have:=payload_inj (hr a ha) (hr b hb) e
    subst this;exact plt_irr _ hab) h
theorem datasL_txt:∀(fs:List Pr) (m:Mk) (ps:List (List UInt8)) (od:List Nat),∀k∈(datasL fs m ps od).2.2.datas,k∈m.datas∨∃q∈fs,k.text=payload q
  | [],m,_,_,k,hk=>.inl hk
  | x :: r,m,ps,od,k,hk=>by
    rcases datasL_txt r (m.data x).2 _ _ k hk with h|⟨q,h1,h2⟩
    · rcases data_text k h with h|h
      · exact .inl h
      · exact .inr ⟨x,by simp,h⟩
    · exact .inr ⟨q,by simp[h1],h2⟩
structure AppIm (m m':Mk) (l':List Ob) (es:List EntG) (g:EntG) (r:Rec):Prop where
  img:Img m' l' (es ++ [g])
  rcd:RecG m' g r
  ext:DExt m.datas m'.datas
  c:m'.c=m.c
  seq:r.seq=m.num 9+1∧m'.num 9=r.seq
  ge:m.b.length≤g.pos
  main:∃t,m'.main=m.main ++ t
  len:m.b.length≤m'.b.length
  num:∀i,i≤5→m'.num i=m.num i
theorem append_im {m m':Mk} {l:List Ob} {es:List EntG} {raw:List Pr} {real mono s:Nat} {boot:Ly} (h:Img m l es) (ok:MkOk m) (h20:m.h.n.length=20) (hb:boot.length=16) (hr:real<18446744073709551616∧mono<18446744073709551616) (ha:m.append raw real mono boot=(s,0,m')) :
    ∃l' g fs,listF raw=(fs,0)∧AppIm m m' l' es g {seq:=s,real:=real,mono:=mono,boot:=boot,fields:=fs}:=by
  rcases hl:listF raw with⟨fs,c⟩
  by_cases G:c≠0
  · have e:m.append raw real mono boot=(0,c,m):=by unfold Mk.append;simp only[hl];rw[if_pos G]
    rw[e]at ha
    exact absurd (congrArg (fun x=>x.2.1) ha) G
  have Ah:=Classical.not_not.1 G
  subst Ah
  by_cases v:m.num 9=18446744073709551615
  · have e:m.append raw real mono boot=(0,1,m):=by unfold Mk.append;simp only[hl];rw[if_neg G,if_pos v]
    rw[e]at ha
    have:=congrArg (fun x=>x.2.1) ha
    simp at this
  obtain⟨J,A,A6,Ap,Aq⟩:=listF_all hl
  obtain⟨bd,_⟩:=listF_bd hl
  have D:=datasL_ok fs m [] [] 0 (datas_start ok) bd
  obtain⟨l1,Q,W⟩:=datasL_im fs [] m l [] [] es (es.map EntG.pos) (places es) h.c (fun i I=>places_nil h.who i I) ⟨rfl,by simp,by simp,List.Pairwise.nil⟩ bd (by rw[List.nil_append];exact asc_payload J A)
  have nl:=nl_datasL fs m [] []
  have tx:=datasL_txt fs m [] []
  rcases hd:datasL fs m [] []with⟨ps,F,x⟩
  rw[hd,Nat.zero_add]at D
  rw[hd]at Q W nl tx
  rw[List.nil_append]at W
  simp only at D Q W nl tx
  have s1:=ok.small
  have s4:=ok.nb
  have d2:=D.app.le
  have d5:=D.len.1
  have Ac:=D.app.ge
  obtain⟨c1,c2,c3⟩:=Q.same
  have n9:x.num 9=m.num 9:=c3 9 (by decide) (by decide) (by decide)
  have n8:x.num 8=m.num 8:=c3 8 (by decide) (by decide) (by decide)
  have O:=h.n8
  have Bw:=h.n9
  have Bv:es.length≤40000:=by
    have:m.n8=es.length:=O
    omega
  have Ak:=asc_nodup W.asc
  have B:(x.num 9+1)%18446744073709551616=m.num 9+1:=by rw[n9];exact Nat.mod_eq_of_lt (by omega)
  generalize hE:({seq:=(x.num 9+1)%18446744073709551616,real:=real,mono:=mono,boot:=boot,xor:=xorF 0 ps,items:=itemsL x F}:Ent)=E
  have eE:E.seq=m.num 9+1∧E.real=real∧E.mono=mono∧E.boot=boot∧E.xor=xorF 0 ps∧E.items=itemsL x F:=by subst hE;exact⟨B,rfl,rfl,rfl,rfl,rfl⟩
  obtain⟨q1,q2,q3,q4,q5,q6⟩:=eE
  have ei:E.items.length=F.length:=by rw[q6];simp[itemsL]
  have eb:E.boot.length=16:=by rw[q4];exact hb
  have wx:EntW x ⟨x.b.length,E,F⟩:=by
    refine⟨W.lt,q6,W.asc,?_,⟨⟨?_,?_,?_,eb,?_⟩,?_⟩,?_⟩
    · simp only;rw[q5];exact xorF_perm W.perm.symm 0
    · simp only;rw[q1];omega
    · simp only;rw[q2];exact hr.1
    · simp only;rw[q3];exact hr.2
    · simp only;rw[q5];exact xorF_lt _ _ (by decide)
    · simp only;rw[q1];omega
    · simp only;rw[d5];exact⟨List.length_pos_iff.2 Aq,Ap⟩
  have rx:RecG x ⟨x.b.length,E,F⟩ {seq:=m.num 9+1,real:=real,mono:=mono,boot:=boot,fields:=fs}:=by
    refine⟨q1,q2,q3,q4,?_,J,A⟩
    simp only;rw[← W.eq];exact W.perm
  have S:=Q.img.entry (E:=E) (who:=F) eb (by omega)
  have f:=(object_spec x (putEntryF E))
  have p:=object_same x (putEntryF E)
  have o:∀i,i≠6→i≠7→(x.object (putEntryF E)).2.num i=x.num i:=fun i h6 h7=>by
    simp only[Mk.object]
    rw[num_setN (by omega),num_setN (by omega)];rfl
  have Z:=nl_object x (putEntryF E)
  have el:=putEntryF_len E eb
  rcases ho:x.object (putEntryF E)with⟨e,C⟩
  rw[ho]at S f p o Z
  simp only at S f p o Z
  have Ai:e=x.b.length:=f.1
  subst Ai
  have Ar:C.num 8=(es.map EntG.pos).length:=by rw[o 8 (by decide) (by decide),n8,O,List.length_map]
  have Bx:x.b.length<100000:=by omega
  obtain⟨l3,L⟩:=link_im (x:=x.b.length) S.stat.objs S.main (main_src _) (by have:=f.2.1;omega) (by omega)
  rw[← Ar]at L
  have d:=nl_link C C.main (C.num 8) 176 x.b.length
  rcases hk:C.link C.main (C.num 8) 176 x.b.length with⟨a,t,K⟩
  rw[hk]at L d
  simp only at L d
  have w:=append_done (real:=real) (mono:=mono) (boot:=boot) hl G v hd (by rw[hE];exact ho) hk rfl
  obtain⟨Y,U⟩:∃Y,Y=(let m4:=({K with main:=a}:Mk).setN 11 (a.getD 0 0);({m4 with h:={m4.h with tailArray:=lastN a%4294967296,tailItems:=t%4294967296}}:Mk)):=⟨_,rfl⟩
  have r:∀i,i≠11→Y.num i=K.num i:=fun i I=>by subst U;exact getD_set_ne' (by omega)
  have y:Y.num 11=a.getD 0 0:=by subst U;exact getD_set_eq' (by show 11<K.h.n.length;omega)
  have Ys:Y.b=K.b∧Y.c=K.c∧Y.datas=K.datas∧Y.fields=K.fields∧Y.main=a∧Y.h.n.length=K.h.n.length:=by subst U;exact⟨rfl,rfl,rfl,rfl,rfl,by simp[Mk.setN]⟩
  rw[← U]at w
  clear U
  obtain⟨y1,y2,y3,y4,y5,y6⟩:=Ys
  have I3:=S.link L y1 y2 y3 y4 y5 ⟨r 2 (by decide),r 4 (by decide)⟩
  obtain⟨t1,t2,t3,t4,t5,t6⟩:=L.same
  have A7:=L.top
  have M:Y.datas=x.datas:=by rw[y3,t2,p.2.1]
  have Aj:x.b.length<18446744073709551616:=by omega
  have Ba:=f.2.1
  obtain⟨l4,H⟩:=hangE_im (e:=x.b.length) Aj F Y l3 _ I3 (fun i I=>by rw[M];exact W.lt i I) Ak (fun i _=>by have:=places_len es i;omega) (by rw[y1];omega)
  have B3:=nl_hangE x.b.length F Y
  generalize hangE x.b.length F Y=z at *
  replace w:m.append raw real mono boot=if z.c.most<z.b.length then(0,15,m)else((x.num 9+1)%18446744073709551616,0,finM z (C.num 8) ((x.num 9+1)%18446744073709551616) real mono x.b.length boot):=w
  rw[w]at ha
  split at ha
  · have:=congrArg (fun x=>x.2.1) ha;simp at this
  obtain⟨k1,k2,k3,k4,k5,R2,R4,kl,k8⟩:=finM_spec z (C.num 8) ((x.num 9+1)%18446744073709551616) real mono x.b.length boot
  have k5':=fun i (I:i≤5)=>finM_num z (C.num 8) ((x.num 9+1)%18446744073709551616) real mono x.b.length boot i (by omega)
  have Al:=finM_num z (C.num 8) ((x.num 9+1)%18446744073709551616) real mono x.b.length boot 11 (by decide)
  obtain⟨V,Af⟩:=Prod.mk.inj ha
  have Ag:=(Prod.mk.inj Af).2
  rw[B]at V
  generalize finM z (C.num 8) ((x.num 9+1)%18446744073709551616) real mono x.b.length boot=R at *
  subst Ag
  subst V
  obtain⟨z1,z2,z3,z4,z5⟩:=H.same
  have zl:z.h.n.length=20:=by omega
  have R8:=(k8 zl).1
  have R9:=(k8 zl).2
  have z8:z.num 8=es.length:=by rw[z5 8 (by decide) (by decide) (by decide),r 8 (by decide),t6 8 (by decide) (by decide) (by decide),o 8 (by decide) (by decide),n8,O]
  have Ad:DExt x.datas z.datas:=by have:=H.ds.ext;rw[M]at this;exact this
  have N:DExt x.datas R.datas:=by rw[k3];exact Ad
  have cR:R.c=x.c:=by rw[k2,z1,y2,t1,p.1]
  have T:DExt m.datas R.datas:=Q.ext.trans N
  refine⟨l4,⟨x.b.length,E,F⟩,fs,rfl,⟨⟨?_,?_,?_,?_,?_,?_⟩,rx.ext wx N,T,by rw[cR,c1],⟨rfl,by rw[R9,B]⟩,Ac,?_,?_,fun i I=>?_⟩⟩
  · have:=H.img.to (m':=R) k1 k2 k3 k4 k5 ⟨R2,R4⟩
    rw[List.map_append]
    have ef:places (es ++ [⟨x.b.length,E,F⟩])=fun j=>if j∈F then places es j ++ [x.b.length]else places es j:=funext fun j=>places_app es ⟨x.b.length,E,F⟩ j
    rw[ef]
    exact this
  · show R.n8=_
    rw[R8,show z.n8=es.length from z8,List.length_append,Nat.mod_eq_of_lt (by omega)]
    rfl
  · rw[R9,B];omega
  · rw[Al,k5,z5 11 (by decide) (by decide) (by decide),y,z3,y5]
  · intro g P
    rcases List.mem_append.1 P with P|P
    · exact(h.who g P).ext T (by rw[cR,c1])
    simp at P;subst P
    exact wx.ext N cR
  · intro k hk
    rw[k3]at hk
    obtain⟨i,I⟩:=List.mem_iff_getElem?.1 hk
    obtain⟨k0,h0,_,ht⟩:=H.ds.get i k I
    rw[M]at h0
    rcases tx k0 (List.mem_of_getElem? h0)with u|⟨q,u,G⟩
    · obtain⟨q,G,v⟩:=h.txt k0 u
      exact⟨q,G,ht.trans v⟩
    exact⟨q,A q u,ht.trans G⟩
  · rw[k5,z3,y5]
    have X:C.main=m.main:=by rw[p.2.2.2,c2]
    rcases L.arr with e|e
    · exact⟨[],by rw[e,X,List.append_nil]⟩
    exact⟨_,by rw[e,X]⟩
  · rw[k1]
    have u:=L.eff.len
    have G:=H.ge
    rw[y1]at G
    omega
  rw[k5' i I,z5 i (by omega) (by omega) (by omega),r i (by omega),t6 i (by omega) (by omega) (by omega),o i (by omega) (by omega),c3 i (by omega) (by omega) (by omega)]
end Go.Wk
namespace Go.Wk
open Go Go.RowKit
def hk (m:Mk):Nat × Nat × Nat × List UInt8:=(m.h.compat,m.h.incompat,m.h.state,m.h.file)
theorem hk_h {m M:Mk} (h:M.h=m.h):hk M=hk m:=by unfold hk;rw[h]
theorem hk_hang (m:Mk) (l:List Known) (t p s:Nat):hk (m.hang l t p s).2=hk m:=by unfold hk;rw[(hang_eq m l t p s).1]
theorem hk_field (m:Mk) (x:Ly):hk (m.field x).2=hk m:=by
  unfold Mk.field
  split
  · rfl
  simp only
  have B:hk (m.object (putFieldF {hash:=hashN m.c.keyed m.c.file x,nextHash:=0,dat:=0,payload:=x})).2=hk m:=rfl
  generalize m.object (putFieldF {hash:=hashN m.c.keyed m.c.file x,nextHash:=0,dat:=0,payload:=x})=r at *
  obtain⟨p,A⟩:=r
  simp only at B ⊢
  have C:=hk_hang A A.fields (A.num 4) p (hashN m.c.keyed m.c.file x%A.c.fieldSlots)
  generalize A.hang A.fields (A.num 4) p (hashN m.c.keyed m.c.file x%A.c.fieldSlots)=r at *
  obtain⟨n,D⟩:=r
  exact C.trans B
theorem hk_data (m:Mk) (x:Pr):hk (m.data x).2=hk m:=by
  unfold Mk.data
  split
  · rfl
  simp only
  have C:hk (m.object (putDataF {hash:=hashN m.c.keyed m.c.file (payload x),nextHash:=0,nextField:=0,entry:=0,array:=0,count:=0,payload:=payload x})).2=hk m:=rfl
  generalize m.object (putDataF {hash:=hashN m.c.keyed m.c.file (payload x),nextHash:=0,nextField:=0,entry:=0,array:=0,count:=0,payload:=payload x})=r at *
  obtain⟨p,A⟩:=r
  simp only at C ⊢
  have D:=hk_hang A A.datas (A.num 2) p (hashN m.c.keyed m.c.file (payload x)%A.c.dataSlots)
  generalize A.hang A.datas (A.num 2) p (hashN m.c.keyed m.c.file (payload x)%A.c.dataSlots)=r at *
  obtain⟨n,B⟩:=r
  simp only at D ⊢
  generalize hx5:({(B.setN 19 (max (B.num 19) n)).setN 15 (((B.setN 19 (max (B.num 19) n)).num 15+1)%18446744073709551616)with datas:=((B.setN 19 (max (B.num 19) n)).setN 15 (((B.setN 19 (max (B.num 19) n)).num 15+1)%18446744073709551616)).datas ++ [({text:=payload x,pos:=p,slot:=hashN m.c.keyed m.c.file (payload x)%A.c.dataSlots,count:=0,arrays:=[]}:Known)]}:Mk)=m5
  have E:hk m5=hk B:=by subst hx5;rfl
  have F:=hk_field m5 x.name
  generalize m5.field x.name=r at *
  obtain⟨k,G⟩:=r
  exact F.trans (E.trans (D.trans C))
theorem hk_datasL:∀(l:List Pr) (m:Mk) (ps:List (List UInt8)) (od:List Nat),hk (datasL l m ps od).2.2=hk m
  | [],_,_,_=>rfl
  | x :: r,m,ps,od=>(hk_datasL r _ _ _).trans (hk_data m x)
theorem hk_link (m:Mk) (a:List Nat) (n src item:Nat):hk (m.link a n src item).2.2=hk m:=by
  unfold Mk.link
  generalize roomsL a 0 0 0=r
  obtain⟨A,C⟩:=r
  simp only
  split
  · have B:hk (m.object (putArrayF {next:=0,items:=List.replicate (roomF (a.length:Int)) 0})).2=hk m:=rfl
    generalize m.object (putArrayF {next:=0,items:=List.replicate (roomF (a.length:Int)) 0})=r at *
    obtain⟨p,D⟩:=r
    simp only at B ⊢
    split
    · exact B
    exact B
  rfl
theorem hk_hangE (e:Nat):∀(od:List Nat) (m:Mk),hk (hangE e od m)=hk m
  | [],_=>rfl
  | i :: r,m=>by
    rw[hangE_cons,hk_hangE e r]
    unfold hang1
    simp only
    split
    · exact hk_h rfl
    · have g:=hk_link m (m.datas.getD i known0).arrays ((m.datas.getD i known0).count-1) ((m.datas.getD i known0).pos+48) e
      generalize m.link (m.datas.getD i known0).arrays ((m.datas.getD i known0).count-1) ((m.datas.getD i known0).pos+48) e=r at *
      obtain⟨a,t,m1⟩:=r
      exact(hk_h rfl).trans g
theorem hk_finM (z:Mk) (n seq real mono e:Nat) (boot:Ly):hk (finM z n seq real mono e boot)=hk z:=by
  unfold finM
  simp only
  generalize hy:(if n=0 then(z.setN 10 seq).setN 12 real else z)=y
  have:hk y=hk z:=by subst hy;split <;> rfl
  exact this
theorem hk_append (m:Mk) (raw:List Pr) (real mono:Nat) (boot:Ly):hk (m.append raw real mono boot).2.2=hk m∧((m.append raw real mono boot).2.1≠0→(m.append raw real mono boot).2.2=m):=by
  rcases hl:listF raw with⟨l,c⟩
  by_cases h2:c≠0
  · have e:m.append raw real mono boot=(0,c,m):=by unfold Mk.append;simp only[hl];rw[if_pos h2]
    rw[e];exact⟨rfl,fun _=>rfl⟩
  by_cases h3:m.num 9=18446744073709551615
  · have e:m.append raw real mono boot=(0,1,m):=by unfold Mk.append;simp only[hl];rw[if_neg h2,if_pos h3]
    rw[e];exact⟨rfl,fun _=>rfl⟩
  have E:=hk_datasL l m [] []
  rcases hd:datasL l m [] []with⟨I,D,x⟩
  rw[hd]at E
  have F:hk (x.object (putEntryF {seq:=(x.num 9+1)%18446744073709551616,real:=real,mono:=mono,boot:=boot,xor:=xorF 0 I,items:=itemsL x D})).2=hk x:=rfl
  rcases ho:x.object (putEntryF {seq:=(x.num 9+1)%18446744073709551616,real:=real,mono:=mono,boot:=boot,xor:=xorF 0 I,items:=itemsL x D})with⟨e,A⟩
  rw[ho]at F
  have G:=hk_link A A.main (A.num 8) 176 e
  rcases hk3:A.link A.main (A.num 8) 176 e with⟨a,t,C⟩
  rw[hk3]at G
  simp only at E F G
  have B:m.append raw real mono boot=_:=append_done (real:=real) (mono:=mono) (boot:=boot) hl h2 h3 hd ho hk3 rfl
  have H:=hk_hangE e D (let m4:=({C with main:=a}:Mk).setN 11 (a.getD 0 0);{m4 with h:={m4.h with tailArray:=lastN a%4294967296,tailItems:=t%4294967296}})
  have J:hk (let m4:=({C with main:=a}:Mk).setN 11 (a.getD 0 0);({m4 with h:={m4.h with tailArray:=lastN a%4294967296,tailItems:=t%4294967296}}:Mk))=hk C:=rfl
  rw[J]at H
  generalize hangE e D (let m4:=({C with main:=a}:Mk).setN 11 (a.getD 0 0);{m4 with h:={m4.h with tailArray:=lastN a%4294967296,tailItems:=t%4294967296}})=z at B H
  replace B:m.append raw real mono boot=if z.c.most<z.b.length then(0,15,m)else((x.num 9+1)%18446744073709551616,0,finM z (A.num 8) ((x.num 9+1)%18446744073709551616) real mono e boot):=B
  rw[B]
  split
  · exact⟨rfl,fun _=>rfl⟩
  refine⟨?_,fun h=>absurd rfl h⟩
  show hk (finM _ _ _ _ _ _ _)=_
  rw[hk_finM,H,G,F,E]
theorem slots_zero (n:Nat):slotsF (List.replicate n {first:=0,tail:=0})=nums (List.replicate (2*n) 0):=by
  induction n with
  | zero=>rfl
  | succ n ih =>
    rw[List.replicate_succ,slotsF,ih,show 2*(n+1)=(2*n+1)+1 by omega,List.replicate_succ,List.replicate_succ]
    simp[nums]
theorem tabB {k:Nat} (hk:k=4∨k=5) (n:Nat):(∃r,putTableF k (List.replicate n {first:=0,tail:=0})=hdr k (16+16*n) ++ r)∧(putTableF k (List.replicate n {first:=0,tail:=0})).length=16+16*n ∧
    ∀i,i<2*n→at8 (putTableF k (List.replicate n {first:=0,tail:=0})) (16+8*i)=0:=by
  have e:putTableF k (List.replicate n {first:=0,tail:=0})=putF k (nums (List.replicate (2*n) 0) ++ []):=by
    unfold putTableF;rw[if_neg (by omega),slots_zero,List.append_nil]
  obtain⟨A,B,C,_⟩:=objB (k:=k) (by omega) (List.replicate (2*n) 0) [] (fun v E=>by rw[(List.mem_replicate.1 E).2];decide)
  rw[← e]at A B C
  simp only[List.length_replicate,List.length_nil,Nat.add_zero]at A B
  rw[show 16+8*(2*n)=16+16*n by omega]at A B
  exact⟨A,by rw[B];unfold up8;omega,fun i D=>C i 0 (by rw[List.getElem?_replicate,if_pos D])⟩
def objs0 (c:Cfg):List Ob:=[⟨272,4,16+16*c.dataSlots⟩,⟨288+16*c.dataSlots,5,16+16*c.fieldSlots⟩]
structure HeadI (m:Mk):Prop where
  hk:hk m=(2,if m.c.keyed then 4 else 0,1,m.c.file)
  n0:m.num 0=272
  n3:m.num 3=16*m.c.dataSlots
  n5:m.num 5=16*m.c.fieldSlots
theorem newMk_im {c:Cfg} {t:Nat} (h:c.dataSlots≤10∧c.fieldSlots≤10) (h1:1≤c.dataSlots∧1≤c.fieldSlots) (ht:t<1000000):Img (newMk c t) (objs0 c) []∧HeadI (newMk c t)∧(newMk c t).num 9=t:=by
  obtain⟨⟨R,H⟩,I,_⟩:=tabB (k:=4) (.inl rfl) c.dataSlots
  obtain⟨⟨S,J⟩,K,_⟩:=tabB (k:=5) (.inr rfl) c.fieldSlots
  have E:(newMk c t).b=List.replicate 272 0 ++ putTableF 4 (List.replicate c.dataSlots {first:=0,tail:=0}) ++ putTableF 5 (List.replicate c.fieldSlots {first:=0,tail:=0}):=rfl
  have A:(newMk c t).h.n=(((((((((List.replicate 20 0).set 0 272).set 2 288).set 3 (16*c.dataSlots)).set 4 ((List.replicate 272 (0:UInt8) ++ putTableF 4 (List.replicate c.dataSlots {first:=0,tail:=0})).length+16)).set 5 (16*c.fieldSlots)).set 6 ((List.replicate 272 (0:UInt8) ++ putTableF 4 (List.replicate c.dataSlots {first:=0,tail:=0})).length)).set 7 2).set 9 t):=rfl
  have D:(List.replicate 272 (0:UInt8) ++ putTableF 4 (List.replicate c.dataSlots {first:=0,tail:=0})).length=288+16*c.dataSlots:=by rw[List.length_append,List.length_replicate,I];omega
  have M:(newMk c t).b.length=304+16*c.dataSlots+16*c.fieldSlots:=by rw[E,List.length_append,D,K];omega
  rw[D]at A
  have num:∀i,(newMk c t).num i=(newMk c t).h.n.getD i 0:=fun _=>rfl
  generalize hT4:putTableF 4 (List.replicate c.dataSlots {first:=0,tail:=0})=T4 at *
  generalize hT5:putTableF 5 (List.replicate c.fieldSlots {first:=0,tail:=0})=T5 at *
  have O:seg (newMk c t).b 272 16=hdr 4 (16+16*c.dataSlots):=by
    rw[E,List.append_assoc,seg_skip (by rw[List.length_replicate];exact Nat.le_refl _),List.length_replicate,Nat.sub_self,H,List.append_assoc]
    exact seg_take _ _ (hdr_len _ _).symm
  have P:seg (newMk c t).b (288+16*c.dataSlots) 16=hdr 5 (16+16*c.fieldSlots):=by
    rw[E,seg_skip (by omega),D,Nat.sub_self,J]
    exact seg_take _ _ (hdr_len _ _).symm
  have Q:up8 (16+16*c.dataSlots)=16+16*c.dataSlots:=by unfold up8;omega
  have u5:up8 (16+16*c.fieldSlots)=16+16*c.fieldSlots:=by unfold up8;omega
  have L:Objs (newMk c t).b 272 (objs0 c) (newMk c t).b.length:=by
    refine⟨rfl,by simp,by simp,by simp only;omega,by simp only;omega,O,?_⟩
    simp only[Q]
    rw[show 272+(16+16*c.dataSlots)=288+16*c.dataSlots by omega]
    refine⟨rfl,by simp,by simp,by simp only;omega,by simp only;omega,P,?_⟩
    simp only[u5,Objs]
    rw[M];omega
  have B:(newMk c t).datas=[]:=rfl
  have N:(newMk c t).fields=[]:=rfl
  have G:(newMk c t).main=[]:=rfl
  have F:(newMk c t).c=c:=rfl
  have C:at8 (newMk c t).b 176=0:=by
    rw[E,at8_app (by rw[D];omega),at8_app (by rw[List.length_replicate];omega)]
    show leN (((List.replicate 272 0).drop 176).take 8)=0
    rw[List.drop_replicate,List.take_replicate]
    rfl
  refine⟨⟨⟨⟨L,by rw[F];simp[objs0],by rw[F];simp[objs0],by rw[num,A];rfl,by rw[num,A];simp only[F];show _+16=_;omega,by rw[F];exact h1,by rw[B];simp,by rw[N];simp,by rw[B];simp,by simp[objs0]⟩,?_,by rw[B];simp,⟨by rw[B];simp,by rw[B];simp⟩,by simp,by simp[objs0]⟩,by rw[num,A];rfl,by rw[num,A];show t<_;omega,by rw[num,A,G];rfl,by simp,by rw[B];simp⟩,⟨rfl,by rw[num,A];rfl,by rw[num,A];rfl,by rw[num,A];rfl⟩,by rw[num,A];rfl⟩
  rw[G]
  exact⟨C,by simp,by simp,by simp,by simp,Nat.le_refl _,Nat.le_refl _⟩
end Go.Wk
namespace Go.Wk
open Go Go.RowKit
structure MkIm (m:Mk) (l:List Ob) (es:List EntG) (rs:List Rec):Prop where
  img:Img m l es
  ok:MkOk m
  h20:m.h.n.length=20
  hd:HeadI m
  len:es.length=rs.length
  rcd:∀(i:Nat) (g:EntG) (r:Rec),es[i]? = some g→rs[i]? = some r→RecG m g r
  rise:rs.Pairwise fun a b=>a.seq<b.seq
  top:∀r∈rs,1≤r.seq∧r.seq≤m.num 9
structure MkOn (m m':Mk) (es es':List EntG) (rs rs':List Rec):Prop where
  es:∃t,es'=es ++ t
  rs:∃t,rs'=rs ++ t
  main:∃t,m'.main=m.main ++ t
  ext:DExt m.datas m'.datas
  c:m'.c=m.c
  len:m.b.length≤m'.b.length
  num:∀i,i≤5→m'.num i=m.num i
theorem MkOn.refl (m:Mk) (es:List EntG) (rs:List Rec):MkOn m m es es rs rs:=⟨⟨[],by simp⟩,⟨[],by simp⟩,⟨[],by simp⟩,DExt.refl _,rfl,Nat.le_refl _,fun _ _=>rfl⟩
theorem MkOn.trans {a b c:Mk} {es es' es'':List EntG} {rs rs' rs'':List Rec} (h:MkOn a b es es' rs rs') (k:MkOn b c es' es'' rs' rs''):MkOn a c es es'' rs rs'':=by
  obtain⟨H,B⟩:=h.es;obtain⟨K,E⟩:=k.es
  obtain⟨I,C⟩:=h.rs;obtain⟨L,F⟩:=k.rs
  obtain⟨J,D⟩:=h.main;obtain⟨u3,G⟩:=k.main
  exact⟨⟨H ++ K,by rw[E,B,List.append_assoc]⟩,⟨I ++ L,by rw[F,C,List.append_assoc]⟩,⟨J ++ u3,by rw[G,D,List.append_assoc]⟩,h.ext.trans k.ext,k.c.trans h.c,lj h.len k.len,fun i A=>(k.num i A).trans (h.num i A)⟩
theorem listF_self {x fs:List Pr} (h:listF x=(fs,0)) (ha:Asc x):fs=x:=by
  obtain⟨A,_,B,_⟩:=listF_all h
  exact asc_ext A ha B
theorem goL_err:∀(l o x:List Pr) (c:Nat),goL l o=(x,c)→c≠0→x=[]
  | [],o,x,c,h,hc=>by
    unfold goL at h
    split at h
    · exact(Prod.mk.inj h).1.symm
    · exact absurd (Prod.mk.inj h).2.symm hc
  | p :: r,o,x,c,h,hc=>by
    unfold goL at h
    split at h
    · exact(Prod.mk.inj h).1.symm
    · exact goL_err r _ x c h hc
theorem listF_asc (l:List Pr):Asc (listF l).1:=by
  rcases h:listF l with⟨x,c⟩
  by_cases hc:c=0
  · subst hc;exact(listF_all h).1
  unfold listF at h
  split at h
  · rw[← (Prod.mk.inj h).1];exact List.Pairwise.nil
  rw[goL_err _ _ _ _ h hc];exact List.Pairwise.nil
theorem app_get' {α:Type} {l:List α} {p a:α} {k:Nat} (h:(l ++ [p])[k]? = some a):(k<l.length∧l[k]? = some a)∨(k=l.length∧a=p):=by
  rcases Nat.lt_or_ge k l.length with hk|hk
  · rw[List.getElem?_append_left hk]at h;exact .inl ⟨hk,h⟩
  have B:=(List.getElem?_eq_some_iff.1 h).1
  simp at B
  rw[List.getElem?_append_right hk,show k-l.length=0 by omega]at h
  exact .inr ⟨by omega,by simpa using h.symm⟩
theorem step_im {m m':Mk} {l:List Ob} {es:List EntG} {rs:List Rec} {r:Rec} {s:Nat} (h:MkIm m l es rs) (hr:r.seq=(m.num 9+1)%18446744073709551616) (hb:r.boot.length=16) (hn:r.real<18446744073709551616∧r.mono<18446744073709551616) (hf:Asc r.fields) (ha:m.append r.fields r.real r.mono r.boot=(s,0,m')) :
    ∃l' es',MkIm m' l' es' (rs ++ [r])∧MkOn m m' es es' rs (rs ++ [r]):=by
  have C:=nl_append m r.fields r.real r.mono r.boot
  have ok':=append_ok (raw:=r.fields) (real:=r.real) (mono:=r.mono) h.ok hb (C.trans h.h20)
  have D:=(hk_append m r.fields r.real r.mono r.boot).1
  rw[ha]at C ok' D
  obtain⟨l',g,S,O,A⟩:=append_im h.img h.ok h.h20 hb hn ha
  have H:=listF_self O hf
  subst H
  have T:=h.img.n9
  have P:s=m.num 9+1:=A.seq.1
  have n9':m'.num 9=s:=A.seq.2
  have R:=A.img.n9
  have F:r.seq=s:=by rw[hr,P];exact Nat.mod_eq_of_lt (by omega)
  have I:({seq:=s,real:=r.real,mono:=r.mono,boot:=r.boot,fields:=r.fields}:Rec)=r:=by cases r;simp only at F;subst F;rfl
  have A':=A.rcd
  rw[I]at A'
  refine⟨l',es ++ [g],⟨A.img,ok',C.trans h.h20,⟨?_,?_,?_,?_⟩,by simp[h.len],fun i J Q N E=>?_,?_,fun y B=>?_⟩,⟨⟨_,rfl⟩,⟨_,rfl⟩,A.main,A.ext,A.c,A.len,A.num⟩⟩
  · rw[D,h.hd.hk,A.c]
  · rw[A.num 0 (by decide)];exact h.hd.n0
  · rw[A.num 3 (by decide),A.c];exact h.hd.n3
  · rw[A.num 5 (by decide),A.c];exact h.hd.n5
  · rcases app_get' N with⟨M,K⟩|⟨M,rfl⟩
    · rcases app_get' E with⟨_,G⟩|⟨G,_⟩
      · exact(h.rcd i J Q K G).ext (h.img.who J (List.mem_of_getElem? K)) A.ext
      have:=h.len;omega
    rcases app_get' E with⟨G,_⟩|⟨_,rfl⟩
    · have:=h.len;omega
    exact A'
  · refine List.pairwise_append.2 ⟨h.rise,by simp,fun y B z L=>?_⟩
    simp at L;subst L
    have:=(h.top y B).2;omega
  rw[n9']
  rcases List.mem_append.1 B with B|B
  · have:=h.top y B;omega
  simp at B;subst B;omega
theorem record_all (s:Sq) (n:Nat):(s.record n).1.seq=n∧(s.record n).1.boot.length=16∧((s.record n).1.real<18446744073709551616∧(s.record n).1.mono<18446744073709551616)∧Asc (s.record n).1.fields:=by
  refine⟨?_,record_boot s n,?_⟩
  · rcases h1:s.pairs 4 with⟨F,A⟩
    rcases h2:A.num 40 with⟨a,B⟩
    rcases h3:B.num 9 with⟨b,C⟩
    rcases h4:C.num 3 with⟨c,G⟩
    simp only[Sq.record,h1,h2,h3,h4]
  rcases h1:s.pairs 4 with⟨F,A⟩
  rcases h2:A.num 40 with⟨a,B⟩
  rcases h3:B.num 9 with⟨b,C⟩
  rcases h4:C.num 3 with⟨c,G⟩
  have D:=A.num_le 40
  have E:=B.num_le 9
  rw[h2]at D;rw[h3]at E
  simp only[Sq.record,h1,h2,h3,h4]
  simp only at D E
  exact⟨by omega,listF_asc F⟩
theorem makerL_im:∀(n:Nat) (s:Sq) (m:Mk) (l:List Ob) (es:List EntG) (rs:List Rec),MkIm m l es rs →
    ∃l' es',MkIm (makerL n s m rs).1 l' es' (makerL n s m rs).2.1∧MkOn m (makerL n s m rs).1 es es' rs (makerL n s m rs).2.1∧(makerL n s m rs).2.1.length≤rs.length+n
  | 0,s,m,l,es,rs,h=>⟨l,es,h,MkOn.refl _ _ _,Nat.le_refl _⟩
  | n+1,s,m,l,es,rs,h=>by
    unfold makerL
    split
    · have hr:=record_all s ((m.num 9+1)%18446744073709551616)
      rcases hrec:s.record ((m.num 9+1)%18446744073709551616)with⟨r,s1⟩
      rw[hrec]at hr
      have hk:=(hk_append m r.fields r.real r.mono r.boot).2
      rcases ha:m.append r.fields r.real r.mono r.boot with⟨e,c,m1⟩
      rw[ha]at hk
      simp only[ha]
      split
      · rename_i hc
        have:=hk hc
        simp only at this
        subst this
        exact⟨l,es,h,MkOn.refl _ _ _,Nat.le_add_right _ _⟩
      · rename_i hc
        have hc0:c=0:=Classical.not_not.1 hc
        subst hc0
        obtain⟨l1,es1,g1,g2⟩:=step_im h hr.1 hr.2.1 hr.2.2.1 hr.2.2.2 ha
        obtain⟨l',es',k1,k2,k3⟩:=makerL_im n s1 m1 l1 es1 _ g1
        exact⟨l',es',k1,g2.trans k2,by rw[List.length_append]at k3;simp only[List.length_singleton]at k3;omega⟩
    · exact⟨l,es,h,MkOn.refl _ _ _,Nat.le_add_right _ _⟩
theorem maker_im {s s':Sq} {most:Nat} {m:Mk} {rs:List Rec} (h:s.maker most=(m,rs,s')):∃l es,MkIm m l es rs∧rs.length≤most:=by
  have A:=config_ok s
  rcases h1:s.config with⟨c,E⟩
  rcases h2:E.num 6 with⟨t,H⟩
  rw[h1]at A
  have B:=E.num_le 6
  rw[h2]at B
  simp only at B A
  simp only[Sq.maker,h1,h2]at h
  obtain⟨F,G,I⟩:=newMk_im (c:=c) (t:=t) A.1 A.2.1 (by omega)
  obtain⟨l,es,C,_,D⟩:=makerL_im most H (newMk c t) (objs0 c) [] [] ⟨F,newMk_ok A.1 A.2.1 A.2.2,rfl,G,rfl,by simp,List.Pairwise.nil,by simp⟩
  rw[h]at C D
  exact⟨l,es,C,by simpa using D⟩
end Go.Wk
namespace Go.Wk
open Go Go.RowKit
def fieldOne (P:Program) (s:TypeId) (f:Nat):Option Nat :=
  match P.underlying s with
  | some (.struct fs)=>match fs[f]? with
    | some x=>cond (isOne P x.type) (some x.offset) none
    | none=>none
  | _=>none
section
variable {P:Program} {n:Nat} {A:Fr n} {D:List Deferred} {l:List (Nat × Value)} {w:World} {d:Option Tmp} {ty:TypeId} {ps:String} {af:Array Edge} {g:Option (Nat × Bool)}
theorem r_fieldV {x:Operand} {s:TypeId} {f off:Nat} {cs:List Value} {u:Value} (hf:fieldOne P s f=some off) (hx:ev n l x=some (.agg cs.toArray)) (hc:cs[off]? = some u) :
    RunV P ⟨d,.field s x f,ty,ps,af,g⟩ (over A D l).eval w u:=by
  unfold fieldOne at hf
  split at hf
  · rename_i fs hu
    split at hf
    · rename_i y hy
      cases h1:isOne P y.type with
      | false=>rw[h1]at hf;cases hf
      | true =>
        rw[h1]at hf
        simp only[cond_true,Option.some.injEq]at hf
        subst hf
        simp[RunV,execOp,ev_eval hx,Instr.field,run_underlying hu,hy,part,run_isAgg_one h1,asAgg,hc]
    cases hf
  cases hf
end
structure Lst where
  out:List Nat
  cur:Nat
  ahead:Nat
def Lst.cells (x:Lst) (v0:Value):List Value :=
  [v0] ++ ([(.int .u64 x.cur)] ++ ([(.int .u64 x.ahead)]))
def Lst.ok (x:Lst):Prop:=x.cur<18446744073709551616∧x.ahead<18446744073709551616
theorem Lst.one {x:Lst} {v0:Value} (h0:v0.oneCell'=true):(x.cells v0).all (fun u=>u.oneCell')=true:=(ones_app (ones_1 h0) (ones_app rfl rfl))
theorem open_empty:(openF (imageOf [] 0)).2=0∧((openF (imageOf [] 0)).1.map fun y=>y.h.n.getD 8 0)=some 0:=by decide +kernel
theorem open_emptyE {x:Option PView} {c:Nat} (h:openF (imageOf [] 0)=(x,c)):c=0∧∃y,x=some y∧y.h.n.getD 8 0=0:=by
  have A:=open_empty
  rw[h]at A
  obtain⟨C,B⟩:=A
  cases x with
  | none=>simp at B
  | some y=>exact⟨C,y,rfl,by simpa using B⟩
theorem img_len:(imageOf [] 0).length≤1000:=by decide +kernel
section
variable {P:Program} {n:Nat} {A:Fr n} {D:List Deferred} {l:List (Nat × Value)} {w:World} {d:Option Tmp} {ty:TypeId} {ps:String} {af:Array Edge} {g:Option (Nat × Bool)}
end
end Go.Wk
namespace Go.Wk
open Go Go.RowKit
def lastF (out:List Nat):Nat:=out.getLast?.getD 0
def itemF (out:List Nat) (x:Nat):Nat:=if out≠[]∧x≤lastF out then 13 else 0
def entI (b:Ly) (most:Nat):List Nat→List Nat→List Nat × Nat
  | [],out=>(out,0)
  | x :: r,out=>if most≤out.length then(out,0)else if x=0∨b.length≤x then(out,2)else if itemF out x≠0 then(out,13)else entI b most r (out ++ [x])
def entL (s:Nat) (b:Ly) (most p ahead:Nat) (out:List Nat):List Nat × Nat :=
  if most≤out.length then(out,0)
  else if p=0∨b.length≤p then(out,14)
  else if p≤ahead then(out,12)
  else if(arrAt s b p).2≠0 then(out,(arrAt s b p).2)
  else if(entI b most (arrAt s b p).1.items out).2≠0 then entI b most (arrAt s b p).1.items out
  else entL s b most (arrAt s b p).1.next p (entI b most (arrAt s b p).1.items out).1
termination_by b.length-ahead
decreasing_by omega
def nothF (b:Ly) (x:Nat):Bool:=decide (x=0∨b.length≤x)
def arrayF (s:Nat) (b:Ly) (l:Lst):List Nat × Nat × Lst :=
  if l.cur≤l.ahead then([],12,l)else((arrAt s b l.cur).1.items,(arrAt s b l.cur).2,{l with cur:=(arrAt s b l.cur).1.next,ahead:=l.cur})
def itF (l:Lst) (x:Nat):Nat × Lst:=if itemF l.out x≠0 then(13,l)else(0,{l with out:=l.out ++ [x]})
theorem item_13 {out:List Nat} {x y:Nat} (h:out[out.length-1]? = some y) (hx:x≤y):itemF out x≠0:=by
  unfold itemF lastF
  have A:out≠[]:=by rintro rfl;simp at h
  rw[List.getLast?_eq_getElem?,h,if_pos ⟨A,hx⟩]
  decide
theorem item_0 {out:List Nat} {x y:Nat} (h:out[out.length-1]? = some y) (hx:¬x≤y):itemF out x=0:=by
  unfold itemF lastF
  rw[List.getLast?_eq_getElem?,h,if_neg (fun h=>hx h.2)]
theorem item_e {out:List Nat} {x:Nat} (h:¬0<out.length):itemF out x=0:=by
  unfold itemF
  rw[if_neg (fun A=>A.1 (List.eq_nil_of_length_eq_zero (by omega)))]
def Rise (b:Ly) (out:List Nat):Prop:=out.length≤lastF out∧lastF out<b.length+1
theorem rise_nil (b:Ly):Rise b []:=⟨Nat.le_refl _,Nat.succ_pos _⟩
theorem rise_len {b:Ly} {out:List Nat} (h:Rise b out):out.length≤b.length:=by have:=h.1;have:=h.2;omega
theorem noth_of {b:Ly} {x:Nat} (h:nothF b x=false):x≠0∧x<b.length:=by
  unfold nothF at h
  have:=dF h
  omega
theorem last_app (out:List Nat) (x:Nat):lastF (out ++ [x])=x:=by simp[lastF]
theorem rise_step {b:Ly} {l l':Lst} {x c:Nat} (h:Rise b l.out) (hi:itF l x=(c,l')) (hc:¬c≠0) (hn:nothF b x=false):Rise b l'.out∧l'.out=l.out ++ [x]∧l'.cur=l.cur∧l'.ahead=l.ahead∧itemF l.out x=0:=by
  have D:=noth_of hn
  unfold itF at hi
  split at hi
  · exact absurd (congrArg Prod.fst hi) (by omega)
  rename_i h2
  have e:=congrArg Prod.snd hi
  simp only at e
  subst e
  refine⟨⟨?_,?_⟩,rfl,rfl,rfl,by omega⟩
  · simp only[last_app,List.length_append,List.length_singleton]
    have A:itemF l.out x=0:=by omega
    unfold itemF at A
    have C:=h.1
    by_cases hn:l.out=[]
    · rw[hn];simp;omega
    have:¬x≤lastF l.out:=fun B=>by rw[if_pos ⟨hn,B⟩]at A;cases A
    omega
  simp only[last_app];omega
theorem arr_go {s c:Nat} {b:Ly} {l l':Lst} {items:List Nat} (ha:arrayF s b l=(items,c,l')) (hc:¬c≠0):l.ahead<l.cur∧l'.out=l.out∧l'.ahead=l.cur∧l'.cur=(arrAt s b l.cur).1.next∧items=(arrAt s b l.cur).1.items∧(arrAt s b l.cur).2=0:=by
  unfold arrayF at ha
  split at ha
  · exact absurd (congrArg (fun x=>x.2.1) ha) (by simp;omega)
  rename_i h
  simp only[Prod.mk.injEq]at ha
  obtain⟨rfl,A,rfl⟩:=ha
  exact⟨by omega,rfl,rfl,rfl,rfl,by omega⟩
theorem arr_out {s c:Nat} {b:Ly} {l l':Lst} {items:List Nat} (ha:arrayF s b l=(items,c,l')):l'.out=l.out:=by
  unfold arrayF at ha
  split at ha <;> (simp only[Prod.mk.injEq]at ha;obtain⟨_,_,rfl⟩:=ha;rfl)
theorem entL_end {s most p a:Nat} {b:Ly} {out:List Nat} (h:¬out.length<most):entL s b most p a out=(out,0):=by rw[entL,if_pos (by omega)]
theorem entL_14 {s most p a:Nat} {b:Ly} {out:List Nat} (h:out.length<most) (hn:nothF b p=true):entL s b most p a out=(out,14):=by
  rw[entL,if_neg (by omega),if_pos (by simpa [nothF]using hn)]
theorem entL_err {s most c:Nat} {b:Ly} {l l':Lst} {items:List Nat} (h:l.out.length<most) (hn:nothF b l.cur=false) (ha:arrayF s b l=(items,c,l')) (hc:c≠0):entL s b most l.cur l.ahead l.out=(l'.out,c):=by
  have A:=noth_of hn
  rw[arr_out ha]
  rw[entL,if_neg (by omega),if_neg (by omega)]
  unfold arrayF at ha
  split at ha
  · rename_i h1;rw[if_pos h1];simp only[Prod.mk.injEq]at ha;rw[ha.2.1]
  rename_i h1;rw[if_neg h1];simp only[Prod.mk.injEq]at ha;rw[← ha.2.1]at hc ⊢;rw[if_pos hc]
theorem entL_ok {s most c:Nat} {b:Ly} {l l':Lst} {items:List Nat} (h:l.out.length<most) (hn:nothF b l.cur=false) (ha:arrayF s b l=(items,c,l')) (hc:¬c≠0) :
    entL s b most l.cur l.ahead l.out=if(entI b most items l.out).2≠0 then entI b most items l.out else entL s b most l'.cur l'.ahead (entI b most items l.out).1:=by
  have G:=noth_of hn
  obtain⟨D,E,A,B,C,F⟩:=arr_go ha hc
  rw[entL,if_neg (by omega),if_neg (by omega),if_neg (by omega),if_neg (by omega),A,B,C]
theorem ent_go {s most c i:Nat} {b:Ly} {l l':Lst} {items out2:List Nat} {r r1:List Nat × Nat} (h0:entL s b most l.cur l.ahead l.out=r) (h:l.out.length<most) (hn:nothF b l.cur=false) (ha:arrayF s b l=(items,c,l')) (hc:¬c≠0)
    (h1o:entI b most (items.drop 0) l'.out=r1) (h1:entI b most (items.drop i) out2=r1) (he:entI b most (items.drop i) out2=(out2,0)):entL s b most l'.cur l'.ahead out2=r:=by
  have A:entI b most items l.out=(out2,0):=by rw[← arr_out ha];exact h1o.trans (h1.symm.trans he)
  rw[entL_ok h hn ha hc,A,if_neg (by simp)]at h0
  exact h0
theorem ent_stop {s most c i k:Nat} {b:Ly} {l l':Lst} {items out2 out3:List Nat} {r r1:List Nat × Nat} (h0:entL s b most l.cur l.ahead l.out=r) (h:l.out.length<most) (hn:nothF b l.cur=false) (ha:arrayF s b l=(items,c,l')) (hc:¬c≠0)
    (h1o:entI b most (items.drop 0) l'.out=r1) (h1:entI b most (items.drop i) out2=r1) (he:entI b most (items.drop i) out2=(out3,k)) (hk:k≠0):r=(out3,k):=by
  have A:entI b most items l.out=(out3,k):=by rw[← arr_out ha];exact h1o.trans (h1.symm.trans he)
  rw[entL_ok h hn ha hc,A,if_pos hk]at h0
  exact h0.symm
theorem entI_end {most i:Nat} {b:Ly} {items out:List Nat} (h:¬i<items.length):entI b most (items.drop i) out=(out,0):=by rw[List.drop_eq_nil_of_le (by omega)];rfl
theorem entI_full {most:Nat} {b:Ly} {items out:List Nat} (h:most≤out.length):entI b most items out=(out,0):=by
  cases items with
  | nil=>rfl
  | cons x r=>unfold entI;rw[if_pos h]
theorem drop_cons {items:List Nat} {i x:Nat} (h:items[i]? = some x):items.drop i=x :: items.drop (i+1):=by
  obtain⟨A,B⟩:=List.getElem?_eq_some_iff.1 h
  rw[← B];exact(List.drop_eq_getElem_cons A)
theorem entI_2 {most i x:Nat} {b:Ly} {items out:List Nat} (h:items[i]? = some x) (hm:¬most≤out.length) (hn:nothF b x=true):entI b most (items.drop i) out=(out,2):=by
  rw[drop_cons h,entI,if_neg hm,if_pos (by simpa [nothF]using hn)]
theorem entI_13 {most i x c:Nat} {b:Ly} {items:List Nat} {l l':Lst} (h:items[i]? = some x) (hm:¬most≤l.out.length) (hn:nothF b x=false) (hi:itF l x=(c,l')) (hc:c≠0):entI b most (items.drop i) l.out=(l'.out,c):=by
  have A:=noth_of hn
  rw[drop_cons h,entI,if_neg hm,if_neg (by omega)]
  unfold itF at hi
  split at hi
  · rename_i h2;rw[if_pos h2];simp only[Prod.mk.injEq]at hi;rw[← hi.1,← hi.2]
  exact absurd (congrArg Prod.fst hi).symm hc
theorem entI_step {most i x c:Nat} {b:Ly} {items:List Nat} {l l':Lst} (h:items[i]? = some x) (hm:¬most≤l.out.length) (hn:nothF b x=false) (hi:itF l x=(c,l')) (hc:¬c≠0):entI b most (items.drop i) l.out=entI b most (items.drop (i+1)) l'.out:=by
  have A:=noth_of hn
  rw[drop_cons h,entI,if_neg hm,if_neg (by omega)]
  unfold itF at hi
  split at hi
  · exact absurd (congrArg Prod.fst hi) (by omega)
  rename_i h2;rw[if_neg h2];simp only[Prod.mk.injEq]at hi;rw[← hi.2]
def entsF (s:Nat) (b:Ly) (most p:Nat):List Nat × Nat:=entL s b most p 0 []
end Go.Wk
namespace Go.Wk
open Go Go.RowKit
def roomL (items:List Nat) (c r:Nat):List Nat:=(List.range r).map fun j=>items.getD (c+j) 0
theorem roomL_succ (items:List Nat) (c r:Nat):roomL items c (r+1)=items.getD c 0 :: roomL items (c+1) r:=by
  unfold roomL
  rw[List.range_succ_eq_map,List.map_cons,List.map_map]
  congr 1
  exact List.map_congr_left fun j _=>by simp only[Function.comp];congr 1;omega
theorem arr_of {b:Ly} {l:List Ob} {src:Nat} {av items:List Nat} (h:Chain b l src av items) (hO:Objs b 272 l b.length) {k a:Nat} (ha:av[k]? = some a):arrAt 272 b a=({next:=av.getD (k+1) 0,items:=roomL items (cum k) (roomF (k:Int))},0):=by
  have D:=hO.mem (h.ob k a ha)
  have C:=h.le hO ha
  have E:=roomF_ge (k:=(k:Int)) (by omega)
  have A:=frame_ob D (by decide) (by simp only;omega)
  simp only at A
  unfold arrAt
  rw[if_neg (by omega)]
  unfold readArrF
  rw[A]
  simp only
  rw[if_neg (by simp),if_neg (by simp),if_neg (by omega),show(24+8*roomF (k:Int)-24)/8=roomF (k:Int)by omega,h.next k a ha]
  congr 2
  unfold numsAt roomL
  exact List.map_congr_left fun j B=>h.item k a j ha (List.mem_range.1 B)
structure Items (b:Ly) (items:List Nat):Prop where
  ok:∀x∈items,x≠0∧x<b.length
  asc:items.Pairwise (· < ·)
theorem Items.get {b:Ly} {items:List Nat} (h:Items b items) {i:Nat} (hi:i<items.length):items.getD i 0≠0∧items.getD i 0<b.length:=by
  have:items.getD i 0∈items:=by rw[List.getD_eq_getElem?_getD,List.getElem?_eq_getElem hi];exact List.getElem_mem hi
  exact h.ok _ this
theorem Items.lt {b:Ly} {items:List Nat} (h:Items b items) {i j:Nat} (hij:i<j) (hj:j<items.length):items.getD i 0<items.getD j 0:=by
  rw[List.getD_eq_getElem?_getD,List.getD_eq_getElem?_getD,List.getElem?_eq_getElem (by omega),List.getElem?_eq_getElem hj]
  exact List.pairwise_iff_getElem.1 h.asc i j (by omega) hj hij
theorem take_last {items:List Nat} {c:Nat} (h0:0<c) (hc:c≤items.length):lastF (items.take c)=items.getD (c-1) 0:=by
  unfold lastF
  rw[List.getLast?_eq_getElem?,List.length_take,List.getElem?_take,Nat.min_eq_left hc,if_pos (by omega),List.getD_eq_getElem?_getD]
theorem item_ok {b:Ly} {items:List Nat} (h:Items b items) {c:Nat} (hc:c<items.length):itemF (items.take c) (items.getD c 0)=0:=by
  unfold itemF
  by_cases h0:c=0
  · subst h0;simp
  rw[take_last (by omega) (by omega),if_neg]
  have:=h.lt (i:=c-1) (j:=c) (by omega) hc
  omega
theorem take_succ' {items:List Nat} {c:Nat} (hc:c<items.length):items.take c ++ [items.getD c 0]=items.take (c+1):=by
  rw[List.take_add_one,List.getD_eq_getElem?_getD,List.getElem?_eq_getElem hc];rfl
theorem getD_end {items:List Nat} {c:Nat} (hc:items.length≤c):items.getD c 0=0:=by rw[List.getD_eq_getElem?_getD,List.getElem?_eq_none hc];rfl
theorem entI_room {b:Ly} {items:List Nat} {most:Nat} (h:Items b items):∀(r c:Nat),c≤items.length→c≤most →
    entI b most (roomL items c r) (items.take c)=if most≤items.length∨c+r≤items.length then(items.take (min most (c+r)),0)else(items,2)
  | 0,c,hc,hm=>by
    show(items.take c,0)=_
    rw[if_pos (.inr (by omega)),Nat.add_zero,Nat.min_eq_right hm]
  | r+1,c,hc,hm=>by
    have hl:(items.take c).length=c:=by rw[List.length_take];omega
    rw[roomL_succ,entI,hl]
    by_cases h1:most≤c
    · rw[if_pos h1,if_pos (.inl (by omega)),Nat.min_eq_left (by omega),show most=c by omega]
    · rw[if_neg h1]
      by_cases h2:c<items.length
      · have A:=h.get h2
        rw[if_neg (by omega),item_ok h h2,if_neg (by simp),take_succ' h2,entI_room h r (c+1) (by omega) (by omega),show c+1+r=c+(r+1)by omega]
      · rw[getD_end (by omega),if_pos (.inl rfl),if_neg (by omega),List.take_of_length_le (by omega)]
end Go.Wk
namespace Go.Wk
open Go Go.RowKit
theorem text_pos {m:Mk} (h:∀k∈m.datas,∃q:Pr,right q.pb=true∧k.text=payload q) {k:Known} (hk:k∈m.datas):1≤k.text.length:=by
  obtain⟨q,_,A⟩:=h k hk
  have:=payload_len q
  rw[A];omega
def datOf (m:Mk) (k:Known) (ps:List Nat):Dat:={hash:=hashM m k.text,nextHash:=at8 m.b (k.pos+24),nextField:=at8 m.b (k.pos+32),entry:=ps.getD 0 0,array:=k.arrays.getD 0 0,count:=ps.length,payload:=k.text}
theorem dat_of {m:Mk} {l:List Ob} {es:List EntG} {mp:List Nat} {f:Nat→List Nat} {i:Nat} {k:Known} (h:ImgC m l es mp f) (hk:m.datas[i]? = some k) (ht:1≤k.text.length):datAt 272 m.b k.pos=(datOf m k (f i),0):=by
  have G:=h.stat.objs
  have C:=h.stat.data k (List.mem_of_getElem? hk)
  have A:=h.dat i k hk
  have B:=G.mem C.ob
  have H:=up8_ge (64+k.text.length)
  have E:=B.ge
  have F:=B.le
  simp only at E F
  unfold datAt
  rw[if_neg (by omega)]
  have D:=obj_ob (k:=1) (n:=6) B (by decide) (by simp only;omega) rfl (by simp only;omega)
  simp only at D
  rw[(readDat_of D).2 (by simp) |>.2]
  rw[show k.pos+16+8*6=k.pos+64 by omega,show 64+k.text.length-(16+8*6)=k.text.length by omega,C.text]
  congr 1
  have e:numsAt m.b (k.pos+16) 6=[at8 m.b (k.pos+16),at8 m.b (k.pos+24),at8 m.b (k.pos+32),at8 m.b (k.pos+40),at8 m.b (k.pos+48),at8 m.b (k.pos+56)]:=rfl
  rw[e,C.hash,A.ent,A.chain.word,A.word]
  rfl
theorem pay_of {m:Mk} {l:List Ob} {es:List EntG} {mp:List Nat} {f:Nat→List Nat} {i:Nat} {k:Known} (h:ImgC m l es mp f) (hk:m.datas[i]? = some k) (ht:1≤k.text.length):payAt m.c.keyed m.c.file 272 m.b k.pos=(datOf m k (f i),0) :=
  pay_yes (dat_of h hk ht) (n:=hashM m k.text) rfl rfl
theorem items_at:∀{l:List Itm} {i:Nat} {x:Itm},l[i]? = some x→x.pos<18446744073709551616→x.hash<18446744073709551616→at8 (itemsF l) (16*i)=x.pos∧at8 (itemsF l) (16*i+8)=x.hash
  | [],_,_,h,_,_=>by simp at h
  | y :: l,0,x,h,h1,h2=>by
    simp at h;subst h
    exact⟨at8_nums (l:=[y.pos,y.hash]) (i:=0) rfl h1,at8_nums (l:=[y.pos,y.hash]) (i:=1) rfl h2⟩
  | y :: l,i+1,x,h,h1,h2=>by
    have hl:(nums [y.pos,y.hash]).length=16:=rfl
    obtain⟨g1,g2⟩:=items_at (l:=l) (i:=i) (by simpa using h) h1 h2
    rw[itemsF,at8_skip (by omega),at8_skip (by omega),hl,show 16*(i+1)-16=16*i by omega,show 16*(i+1)+8-16=16*i+8 by omega]
    exact⟨g1,g2⟩
theorem itm_bd {m:Mk} {l:List Ob} {g:EntG} (hs:Stat m l) (w:EntW m g) (hb:m.b.length<1000000) {x:Itm} (hx:x∈g.ent.items):x.pos<18446744073709551616∧x.hash<18446744073709551616:=by
  rw[w.items]at hx
  obtain⟨i,A,rfl⟩:=List.mem_map.1 hx
  have B:=w.lt i A
  have hk:m.datas[i]? = some m.datas[i]:=List.getElem?_eq_getElem B
  have:=(hs.objs.mem (hs.data _ (List.mem_of_getElem? hk)).ob).le
  have:=up8_ge (64+(m.datas[i]).text.length)
  simp only at this ⊢
  rw[(textAt_get hk).2]
  exact⟨by simp only at *;omega,hashM_lt _ _⟩
theorem ent_of {m:Mk} {l:List Ob} {es:List EntG} {mp:List Nat} {f:Nat→List Nat} {g:EntG} (h:ImgC m l es mp f) (w:EntW m g) (hg:g∈es) (hb:m.b.length<1000000):entAt 272 m.b g.pos=(g.ent,0):=by
  have Z:=h.stat.objs
  have O:=h.ent g hg
  have I:=Z.mem O.ob
  have hu:=up8_ge (64+16*g.ent.items.length)
  have V:=I.ge
  have W:=I.le
  have hn:g.ent.items.length=g.who.length:=by rw[w.items,List.length_map]
  have h3:=w.len
  obtain⟨⟨d,e,n,E,o⟩,p⟩:=w.ok
  simp only at V W
  unfold entAt
  rw[if_neg (by omega)]
  have G:=body_ob (k:=3) (ahead:=48) (item:=16) I (by decide) (by simp only;omega) rfl (by simp only;omega) (by simp only;omega)
  simp only at G
  unfold readEntF
  rw[G]
  simp only
  rw[if_neg (by simp)]
  -- the body
  have Y:seg m.b (g.pos+16) (64+16*g.ent.items.length-16)=nums [g.ent.seq,g.ent.real,g.ent.mono] ++ g.ent.boot ++ nums [g.ent.xor] ++ itemsF g.ent.items:=by
    rw[seg_part O.seg (by omega)]
    unfold putEntryF
    have H:(nums [g.ent.seq,g.ent.real,g.ent.mono] ++ g.ent.boot ++ nums [g.ent.xor] ++ itemsF g.ent.items).length=48+16*g.ent.items.length:=by simp[nums_len,items_len,E];omega
    rw[putF_hdr (by omega),List.append_assoc (hdr _ _),seg_skip (by rw[hdr_len];omega),hdr_len,Nat.sub_self]
    exact seg_take _ _ (by rw[H];omega)
  rw[Y]
  generalize hX:nums [g.ent.seq,g.ent.real,g.ent.mono] ++ g.ent.boot ++ nums [g.ent.xor] ++ itemsF g.ent.items=X
  have B:(nums [g.ent.seq,g.ent.real,g.ent.mono]).length=24:=rfl
  have Q:(nums [g.ent.xor]).length=8:=rfl
  have z:X.length=48+16*g.ent.items.length:=by rw[← hX];simp[nums_len,items_len,E];omega
  have A:X=nums [g.ent.seq,g.ent.real,g.ent.mono] ++ (g.ent.boot ++ (nums [g.ent.xor] ++ itemsF g.ent.items)):=by rw[← hX];simp only[List.append_assoc]
  have R:at8 X 0=g.ent.seq:=by rw[A];exact at8_nums (l:=[g.ent.seq,g.ent.real,g.ent.mono]) (i:=0) rfl d
  have u:at8 X 8=g.ent.real:=by rw[A];exact at8_nums (l:=[g.ent.seq,g.ent.real,g.ent.mono]) (i:=1) rfl e
  have J:at8 X 16=g.ent.mono:=by rw[A];exact at8_nums (l:=[g.ent.seq,g.ent.real,g.ent.mono]) (i:=2) rfl n
  have K:(X.drop 24).take 16=g.ent.boot:=by
    have:seg X 24 16=g.ent.boot:=by
      rw[A,seg_skip (by omega),B,Nat.sub_self]
      exact seg_take _ _ E.symm
    exact this
  have L:at8 X 40=g.ent.xor:=by
    rw[A,at8_skip (by omega),B,at8_skip (by omega),E]
    exact at8_nums (l:=[g.ent.xor]) (i:=0) rfl o
  have v:itemsAt X 48 ((X.length-48)/16)=g.ent.items:=by
    rw[z,show(48+16*g.ent.items.length-48)/16=g.ent.items.length by omega]
    apply List.ext_getElem?
    intro i
    unfold itemsAt
    rw[List.getElem?_map]
    by_cases hi:i<g.ent.items.length
    · rw[List.getElem?_range hi,List.getElem?_eq_getElem hi]
      have F:=itm_bd h.stat w hb (List.getElem_mem hi)
      obtain⟨S,T⟩:=items_at (List.getElem?_eq_getElem hi) F.1 F.2
      have r:at8 X (48+16*i)=(g.ent.items[i]).pos:=by
        rw[A,at8_skip (by omega),B,at8_skip (by omega),E,at8_skip (by omega),Q,show 48+16*i-24-16-8=16*i by omega];exact S
      have t:at8 X (48+16*i+8)=(g.ent.items[i]).hash:=by
        rw[A,at8_skip (by omega),B,at8_skip (by omega),E,at8_skip (by omega),Q,show 48+16*i+8-24-16-8=16*i+8 by omega];exact T
      simp only[Option.map_some,Option.some.injEq]
      rw[r,t]
    · rw[List.getElem?_eq_none (by simpa using hi),List.getElem?_eq_none (by omega)];rfl
  have U:entX X=g.ent:=by
    unfold entX
    rw[R,u,J,K,L,v]
  unfold entY
  rw[U,R,if_neg p,if_neg]
  intro P
  have:riseB g.ent.items=true:=by
    rw[riseB_iff]
    intro j x y C D
    rw[w.items]at C D
    rw[List.getElem?_map]at C D
    cases hwx:g.who[j]? with
    | none=>rw[hwx]at C;cases C
    | some a =>
      cases hwy:g.who[j+1]? with
      | none=>rw[hwy]at D;cases D
      | some c =>
        rw[hwx]at C;rw[hwy]at D
        simp only[Option.map_some,Option.some.injEq]at C D
        subst C;subst D
        simp only
        have M:=(List.getElem?_eq_some_iff.1 hwx)
        have N:=(List.getElem?_eq_some_iff.1 hwy)
        have:=List.pairwise_iff_getElem.1 w.asc j (j+1) M.1 N.1 (by omega)
        rw[M.2,N.2]at this
        exact this
  rw[this]at P;cases P
theorem split_of {q:Pr} (h:right q.pb=true):splitF (payload q)=(q,0):=by
  obtain⟨A,B⟩:=split_whole ((joinC_right _).2 h)
  have h1':splitC (payload q)=0:=A
  have h2':splitP (payload q)=q.pb:=B
  unfold splitF
  rw[h1',h2']
  rfl
theorem recGo_of {m:Mk} {l:List Ob} {es:List EntG} {mp:List Nat} {f:Nat→List Nat} (h:ImgC m l es mp f) (ht:∀k∈m.datas,∃q:Pr,right q.pb=true∧k.text=payload q):∀(ws:List Nat) (fs:List Pr) (all:List (List UInt8)),(∀i∈ws,i<m.datas.length) →
    ∃qs:List Pr,recGo m.c.keyed m.c.file 272 m.b (ws.map fun i=>{pos:=posAt m.datas i,hash:=hashM m (textAt m.datas i)}) fs all=((fs ++ qs,all ++ ws.map (textAt m.datas)),0)∧qs.map payload=ws.map (textAt m.datas)∧∀q∈qs,right q.pb=true
  | [],fs,all,_=>⟨[],by simp[recGo],rfl,by simp⟩
  | i :: r,fs,all,hw=>by
    have hl:=hw i (by simp)
    have hk:m.datas[i]? = some m.datas[i]:=List.getElem?_eq_getElem hl
    obtain⟨q,hq1,hq2⟩:=ht _ (List.mem_of_getElem? hk)
    have hp:=pay_of h hk (text_pos ht (List.mem_of_getElem? hk))
    obtain⟨t1,t2⟩:=textAt_get hk
    obtain⟨qs,g1,g2,g3⟩:=recGo_of h ht r (fs ++ [q]) (all ++ [textAt m.datas i]) (fun j hj=>hw j (by simp[hj]))
    refine⟨q :: qs,?_,by rw[List.map_cons,List.map_cons,g2,t1,hq2],fun y hy=>?_⟩
    · rw[List.map_cons,recGo]
      simp only[t2,hp]
      have e1:(datOf m m.datas[i] (f i)).payload=payload q:=hq2
      have e2:(datOf m m.datas[i] (f i)).hash=hashM m (textAt m.datas i):=by rw[t1];rfl
      rw[if_neg (by simp),if_neg (by rw[e2];simp),e1,split_of hq1]
      simp only
      rw[if_neg (by simp),← hq2,← t1,g1]
      simp
    · rcases List.mem_cons.1 hy with rfl|hy
      · exact hq1
      · exact g3 y hy
theorem rec_of {m:Mk} {l:List Ob} {es:List EntG} {mp:List Nat} {f:Nat→List Nat} {g:EntG} {r:Rec} (h:ImgC m l es mp f) (ht:∀k∈m.datas,∃q:Pr,right q.pb=true∧k.text=payload q) (w:EntW m g) (hg:g∈es) (hb:m.b.length<1000000) (hr:RecG m g r) :
    ∃fs,recF m.c.keyed m.c.file 272 m.b g.pos=({seq:=r.seq,real:=r.real,mono:=r.mono,boot:=r.boot,fields:=fs},0)∧fs.Perm r.fields:=by
  obtain⟨E,C,F,G⟩:=recGo_of h ht g.who [] [] w.lt
  rw[List.nil_append,List.nil_append]at C
  have L:g.ent.items.length=g.who.length:=by rw[w.items,List.length_map]
  have K:=w.len
  refine⟨E,?_,?_⟩
  · exact rec_ok (all:=g.who.map (textAt m.datas)) (n:=xorF 0 (g.who.map (textAt m.datas))) (ent_of h w hg hb) (by omega) ⟨hr.seq.symm,hr.real.symm,hr.mono.symm,hr.boot.symm⟩ (by rw[w.items];exact C) rfl w.xor
  have D:=hr.fields
  rw[← F]at D
  -- payloads are told apart
  have B:∀(a b:List Pr),(∀q∈a,right q.pb=true)→(∀q∈b,right q.pb=true)→(a.map payload).Perm (b.map payload)→a.Perm b:=by
    intro a b H hb A
    have e:∀(c:List Pr),(∀q∈c,right q.pb=true)→c=(c.map payload).map fun t=>(splitF t).1:=fun c I=>by
      rw[List.map_map]
      have:c.map ((fun t=>(splitF t).1) ∘ payload)=c.map id:=List.map_congr_left fun q J=>by simp[Function.comp,split_of (I q J)]
      rw[this,List.map_id]
    rw[e a H,e b hb]
    exact A.map _
  exact B E r.fields G hr.right D
end Go.Wk
namespace Go.Wk
open Go Go.RowKit
structure Opened (m:Mk) (B:Ly) (H:PHead) (l:List Ob) (es:List EntG):Prop where
  len:B.length=m.b.length
  read:readF B=(H,0)
  opn:openF B=(some {b:=B,h:=H},0)
  n:∀i,i<20→i≠1→H.n.getD i 0=m.num i
  key:H.incompat=if m.c.keyed then 4 else 0
  file:H.file=m.c.file
  img:ImgC {m with b:=B} l es (es.map EntG.pos) (places es)
theorem ImgC.bytes {m:Mk} {l:List Ob} {es:List EntG} {f:Nat→List Nat} {mp:List Nat} {B:Ly} (h:ImgC m l es mp f) (hl:B.length=m.b.length) (hB:Eff (fun a=>a+8≤272) m.b B) (hw:at8 B 176=m.main.getD 0 0):ImgC {m with b:=B} l es mp f:=by
  have C:=h.stat.objs
  have H:∀a,a+8≤272→Mild l a:=fun a A=>mild_head C A
  have hO':Objs B 272 l B.length:=by
    rw[hl];exact C.eff hB (Nat.le_refl _) fun o L a A=>by have:=(C.mem L).ge;omega
  have D:∀o∈l,o∈l:=fun _ h=>h
  refine⟨h.stat.keep hO' ⟨[],by simp,by simp⟩ hB H rfl rfl ⟨rfl,rfl⟩ (DSame.refl _),?_,fun i k E=>?_,⟨h.own.main,h.own.one⟩,fun g I=>(h.ent g I).eff C hB H D,h.kin⟩
  · refine⟨hw,h.main.ob,fun k a A=>?_,fun k a j A K=>?_,h.main.asc,h.main.lo,h.main.hi⟩
    · have:=h.main.le C A
      rw[hB.at8 (by omega) fun x F=>by omega];exact h.main.next k a A
    have:=h.main.le C A
    rw[hB.at8 (by omega) fun x F=>by omega];exact h.main.item k a j A K
  have G:=h.stat.data k (List.mem_of_getElem? E)
  have J:272≤k.pos:=(C.mem G.ob).ge
  exact(h.dat i k E).eff G C hB D (fun a A=>by omega) fun j x F a A=>by
    have:=(h.dat i k E).chain.le C F;omega
structure HeadB (B:Ly) (h:RHead):Prop where
  sign:B.take 8=signF
  incompat:at4 B 12=h.incompat
  state:(B.getD 16 0).toNat=h.state
  file:(B.drop 24).take 16=h.file
  n:∀i,i<20→at8 B (88+8*i)=h.n.getD i 0
theorem at4_skip {x y:Ly} {p:Nat} (h:x.length≤p):at4 (x ++ y) p=at4 y (p-x.length):=by
  show leN (seg (x ++ y) p 4)=leN (seg y (p-x.length) 4)
  rw[seg_skip h]
theorem at4_low {v:Nat} (r:Ly) (h:v<4294967296):at4 (low v 4 ++ r) 0=v:=by
  show leN (seg (low v 4 ++ r) 0 4)=v
  rw[seg_take _ _ (by rw[low_len]),leN_low]
  exact Nat.mod_eq_of_lt h
theorem at8_sk {x y:Ly} {p k:Nat} (hk:x.length=k) (h:k≤p):at8 (x ++ y) p=at8 y (p-k):=by rw[at8_skip (by omega),hk]
theorem head_bytes (h:RHead) (depth:Nat) (r:Ly) (ok:RHead.ok h) (hs:h.state<256):HeadB (headF h depth ++ r) h:=by
  obtain⟨L,F,M,C,G,H,I,⟨N,J⟩,_⟩:=ok
  have e:headF h depth ++ r=[76,80,75,83,72,72,82,72] ++ (low h.compat 4 ++ (low h.incompat 4 ++ ([UInt8.ofNat h.state,0,0,0,0,0,0,0] ++ (h.file ++ (h.machine ++ (h.boot ++ (h.seq ++ (nums h.n ++ (nums [depth] ++ (low h.tailArray 4 ++ (low h.tailItems 4 ++ (nums [h.tailEntry] ++ r)))))))))))):=by
    unfold headF;simp only[List.append_assoc]
  rw[e]
  refine⟨rfl,?_,?_,?_,fun i K=>?_⟩
  · rw[at4_skip (by simp),at4_skip (by simp[low_len])]
    simp only[low_len,List.length_cons,List.length_nil]
    exact at4_low _ F
  · have A:∀y:List UInt8,([76,80,75,83,72,72,82,72] ++ (low h.compat 4 ++ (low h.incompat 4 ++ y))).getD 16 0=y.getD 0 0:=fun y=>by
      have D:(low h.compat 4).length=4:=low_len _ _
      have E:(low h.incompat 4).length=4:=low_len _ _
      simp only[List.getD_eq_getElem?_getD]
      rw[List.getElem?_append_right (by simp),List.getElem?_append_right (by simp;omega),List.getElem?_append_right (by simp;omega),D,E]
      rfl
    rw[A]
    show(UInt8.ofNat h.state).toNat=_
    rw[UInt8.toNat_ofNat',Nat.mod_eq_of_lt (by omega)]
  · show seg _ 24 16=_
    rw[seg_skip (by simp),seg_skip (by simp[low_len]),seg_skip (by simp[low_len]),seg_skip (by simp[low_len])]
    simp only[low_len,List.length_cons,List.length_nil]
    exact seg_take _ _ C.symm
  rw[at8_sk (k:=8) rfl (by omega),at8_sk (k:=4) (low_len _ _) (by omega),at8_sk (k:=4) (low_len _ _) (by omega),at8_sk (k:=8) rfl (by omega),at8_sk (k:=16) C (by omega),at8_sk (k:=16) G (by omega),at8_sk (k:=16) H (by omega),at8_sk (k:=16) I (by omega),show 88+8*i-8-4-4-8-16-16-16-16=8*i by omega]
  have hi':i<h.n.length:=by omega
  have B:h.n[i]? = some (h.n.getD i 0):=by simp[List.getD,List.getElem?_eq_getElem hi']
  exact at8_nums B (J _ (List.mem_of_getElem? B))
theorem parse_n {b:Ly} {i:Nat} (h:i<21):(parseF b).n.getD i 0=at8 b (88+8*i):=by
  show(((List.range 21).map fun q=>if q<21 then at8 b (88+8*q)else 0)).getD i 0=_
  rw[List.getD_eq_getElem?_getD,List.getElem?_map,List.getElem?_range h]
  simp[h]
theorem image_bytes {m:Mk} {l:List Ob} {es:List EntG} {rs:List Rec} {st:Nat} (h:MkIm m l es rs) (hok:RHead.ok m.h) (hst:st≤2):HeadB (imageM m st) {m.h with state:=st,n:=m.h.n.set 1 (m.b.length-272)}∧(imageM m st).length=m.b.length∧Eff (fun a=>a+8≤272) m.b (imageM m st):=by
  have G:=h.img.c.stat.objs
  have J:=h.ok.small
  have D:=G.le
  have ok':RHead.ok {m.h with state:=st,n:=m.h.n.set 1 (m.b.length-272)}:=⟨hok.1,hok.2.1,(by show st<_;omega),hok.2.2.2.1,hok.2.2.2.2.1,hok.2.2.2.2.2.1,hok.2.2.2.2.2.2.1,nums_set hok.2.2.2.2.2.2.2.1 (by omega),hok.2.2.2.2.2.2.2.2⟩
  have F:=headF_len {m.h with state:=st,n:=m.h.n.set 1 (m.b.length-272)} m.depth ok'
  have E:=head_bytes {m.h with state:=st,n:=m.h.n.set 1 (m.b.length-272)} m.depth (m.b.drop 272) ok' (by show st<_;omega)
  have C:imageM m st=headF {m.h with state:=st,n:=m.h.n.set 1 (m.b.length-272)} m.depth ++ m.b.drop 272:=rfl
  rw[← C]at E
  have A:(imageM m st).length=m.b.length:=by rw[C,List.length_append,F,List.length_drop];omega
  have B:Eff (fun a=>a+8≤272) m.b (imageM m st):=by
    refine⟨by rw[A];exact Nat.le_refl _,fun q n K I=>?_⟩
    by_cases hn:n=0
    · subst hn;simp[seg]
    · have H:272≤q:=by
        by_cases h1:272≤q
        · exact h1
        · exfalso
          have:=I (min q 264) (by omega)
          omega
      rw[C,seg_skip (by omega),F]
      unfold seg
      rw[List.drop_drop,show 272+(q-272)=q by omega]
  exact⟨E,A,B⟩
theorem opened_of {m:Mk} {l:List Ob} {es:List EntG} {rs:List Rec} {st:Nat} {B:Ly} (h:MkIm m l es rs) (hst:st≤2) (hb:HeadB B {m.h with state:=st,n:=m.h.n.set 1 (m.b.length-272)}) (hlen:B.length=m.b.length) (hEff:Eff (fun a=>a+8≤272) m.b B):Opened m B (parseF B) l es:=by
  have L:=h.img.c.stat.objs
  have S:=h.ok.small
  have O:=L.le
  have A:∀i,i<20→i≠1→(parseF (B)).n.getD i 0=m.num i:=fun i R Q=>by
    rw[parse_n (by omega),hb.n i R]
    show(m.h.n.set 1 _).getD i 0=_
    rw[getD_set_ne' (by omega)];rfl
  have J:(parseF (B)).n.getD 1 0=m.b.length-272:=by
    rw[parse_n (by omega),hb.n 1 (by omega)]
    show(m.h.n.set 1 _).getD 1 0=_
    exact getD_set_eq' (by have:=h.h20;omega)
  have H:=h.hd.hk
  unfold hk at H
  simp only[Prod.mk.injEq]at H
  obtain⟨_,T,_,U⟩:=H
  have F:(parseF (B)).incompat=if m.c.keyed then 4 else 0:=hb.incompat.trans T
  have G:(parseF (B)).file=m.c.file:=hb.file.trans U
  have D:(parseF (B)).state=st:=hb.state
  have Y:=(L.mem h.img.c.stat.tab4).le
  have Z:=(L.mem h.img.c.stat.tab5).le
  have o:=up8_ge (16+16*m.c.dataSlots)
  have u5:=up8_ge (16+16*m.c.fieldSlots)
  simp only at Y Z
  have sl:=h.img.c.stat.slots
  have N:(parseF (B)).n.getD 0 0=272:=(A 0 (by decide) (by decide)).trans h.hd.n0
  have V:(parseF (B)).n.getD 2 0=288:=(A 2 (by decide) (by decide)).trans h.img.c.stat.n2
  have n3:(parseF (B)).n.getD 3 0=16*m.c.dataSlots:=(A 3 (by decide) (by decide)).trans h.hd.n3
  have W:(parseF (B)).n.getD 4 0=304+16*m.c.dataSlots:=(A 4 (by decide) (by decide)).trans h.img.c.stat.n4
  have X:(parseF (B)).n.getD 5 0=16*m.c.fieldSlots:=(A 5 (by decide) (by decide)).trans h.hd.n5
  have E:endF (parseF (B))=(m.b.length,true):=by
    unfold endF
    rw[N,J,Nat.mod_eq_of_lt (by omega),if_neg (by omega),show 272+(m.b.length-272)=m.b.length by omega]
  have M:amissF (parseF (B)) (B).length=0:=by
    unfold amissF
    rw[E,F,D,N,J,V,n3,W,X,hlen]
    have I:¬andNot (if m.c.keyed=true then 4 else 0) 4≠0:=by cases m.c.keyed <;> decide
    rw[if_neg I,if_neg (by omega),if_neg (by omega),if_neg (by simp)]
    have P:∀(p s e:Nat),p%8=0→s≠0→s%16=0→288≤p→p+s≤e→tableF (parseF (B)) p s e=0:=fun p s e Q d f g k=>by
      unfold tableF
      rw[N,if_neg (by omega),if_neg (by omega),if_neg (by omega)]
    simp only
    rw[P 288 _ _ (by omega) (by omega) (by omega) (by omega) (by omega),if_neg (by simp)]
    exact P _ _ _ (by omega) (by omega) (by omega) (by omega) (by omega)
  have C:readF (B)=(parseF (B),0):=by
    unfold readF
    have K:prefF (B) signF=true:=by
      unfold prefF
      rw[if_pos (by show 8≤_;omega)]
      exact decide_eq_true hb.sign
    rw[if_neg (by omega),if_neg (by rw[K];simp),M,if_neg (by simp)]
  refine⟨hlen,C,?_,A,F,G,h.img.c.bytes hlen hEff ?_⟩
  · unfold openF
    rw[C]
    simp only
    rw[if_neg (by simp),E]
    simp only
    rw[← hlen,List.take_length]
  have:=hb.n 11 (by decide)
  rw[show 88+8*11=176 by rfl]at this
  rw[this]
  exact(getD_set_ne' (l:=m.h.n) (i:=1) (j:=11) (v:=m.b.length-272) (by decide)).trans h.img.n11
theorem opened {m:Mk} {l:List Ob} {es:List EntG} {rs:List Rec} {st:Nat} (h:MkIm m l es rs) (hok:RHead.ok m.h) (hst:st≤2):Opened m (imageM m st) (parseF (imageM m st)) l es:=by
  obtain⟨A,B,C⟩:=image_bytes h hok hst
  exact opened_of h hst A B C
end Go.Wk
namespace Go.Wk
open Go Go.RowKit
theorem ents_0' {s p:Nat} {b:Ly}:entsF s b 0 p=([],0):=by unfold entsF;rw[entL_end (by simp)]
def sameRowF (a b:Rec):Bool:=decide (a.seq=b.seq) && (decide (a.real=b.real) && (decide (a.mono=b.mono) && (decide (a.boot=b.boot) && (allIn b.fields a.fields && allIn a.fields b.fields))))
theorem allIn_of {a b:List Pr} (h:∀q,q∈a→q∈b):allIn b a=true:=by
  induction a with
  | nil=>rfl
  | cons p r ih =>
    rw[allIn,if_pos (hasP_iff.2 (h p (by simp)))]
    exact ih fun q A=>h q (by simp[A])
theorem sameRow_of {a b:Rec} (h1:a.seq=b.seq) (h2:a.real=b.real) (h3:a.mono=b.mono) (h4:a.boot=b.boot) (h5:∀q,q∈a.fields↔q∈b.fields):sameRowF a b=true:=by
  unfold sameRowF
  rw[allIn_of fun q A=>(h5 q).1 A,allIn_of fun q A=>(h5 q).2 A]
  simp[h1,h2,h3,h4]
theorem keyed_of {H:PHead} {k:Bool} (h:H.incompat=if k then 4 else 0):decide (H.incompat &&& 4≠0)=k:=by rw[h];cases k<;>decide
section
variable {m:Mk} {B:Ly} {H:PHead} {l:List Ob} {es:List EntG} {rs:List Rec}
theorem pos_asc:∀{l:List Ob} {p e:Nat},Objs B p l e→(l.map Ob.pos).Pairwise (· < ·)
  | [],_,_,_=>List.Pairwise.nil
  | o :: r,p,e,h=>by
    obtain⟨h1,h2,h3,h4,h5,h6,h7⟩:=h
    have hu:=up8_ge o.size
    rw[List.map_cons]
    refine List.pairwise_cons.2 ⟨fun x hx=>?_,pos_asc h7⟩
    obtain⟨y,hy,rfl⟩:=List.mem_map.1 hx
    have:=(h7.mem hy).ge
    omega
theorem es_items {mp:List Nat} {f:Nat→List Nat} (h:ImgC m l es mp f):Items m.b (es.map EntG.pos):=by
  have A:=h.stat.objs
  refine⟨fun x F=>?_,?_⟩
  · obtain⟨g,E,rfl⟩:=List.mem_map.1 F
    have B:=A.mem (h.ent g E).ob
    have C:=B.ge
    have D:=B.le
    have:=up8_ge (64+16*g.ent.items.length)
    simp only at C D
    omega
  rw[← h.kin]
  exact((pos_asc A).sublist (List.filter_sublist.map _))
theorem EntW.bytes {m':Mk} {g:EntG} (h:EntW m g) (hd:m'.datas=m.datas) (hc:m'.c=m.c):EntW m' g:=h.ext (by rw[hd];exact DExt.refl _) hc
theorem num0 (im:MkIm m l es rs) (op:Opened m B H l es):H.n.getD 0 0=272:=(op.n 0 (by decide) (by decide)).trans im.hd.n0
def n3 (l:List Ob):Nat:=(l.filter fun o=>decide (o.kind=3)).length
end
def sameL:List Rec→List Rec→Bool
  | [],_=>true
  | a :: r,b :: s=>if sameRowF a b=true then sameL r s else false
  | _ :: _,[]=>false
def sameRowsF (a b:List Rec):Bool:=if a.length≠b.length then false else sameL a b
theorem sameL_end {a b:List Rec} {i:Nat} (h:¬i<a.length):sameL (a.drop i) b=true:=by rw[drop_end (by omega)];rfl
theorem sameL_step {a b:List Rec} {i:Nat} {x y:Rec} (h:a[i]? = some x) (k:b[i]? = some y):sameL (a.drop i) (b.drop i)=if sameRowF x y=true then sameL (a.drop (i+1)) (b.drop (i+1))else false:=by rw[drop_get h,drop_get k];rfl
theorem sameL_of:∀{a b:List Rec},a.length=b.length→(∀(i:Nat) (y r:Rec),a[i]? = some y→b[i]? = some r→sameRowF y r=true)→sameL a b=true
  | [],_,_,_=>rfl
  | x :: a,[],h,_=>by simp at h
  | x :: a,y :: b,h,hs=>by
    rw[sameL,if_pos (hs 0 x y rfl rfl)]
    exact sameL_of (by simpa using h) fun i z r hz hr=>hs (i+1) z r (by simpa using hz) (by simpa using hr)
theorem sameRows_of {a b:List Rec} (h:a.length=b.length) (hs:∀(i:Nat) (y r:Rec),a[i]? = some y→b[i]? = some r→sameRowF y r=true):sameRowsF a b=true:=by
  unfold sameRowsF;rw[if_neg (by omega)];exact sameL_of h hs
end Go.Wk
namespace Go.Wk
open Go Go.RowKit
theorem r_neqPN {P:Program} {n:Nat} {A:Fr n} {D:List Deferred} {l:List (Nat × Value)} {w:World} {d:Tmp} {ty:TypeId} {ps:String} {af:Array Edge} {x:Operand} {t u e:TypeId} {p:Addr} {g:Option (Nat × Bool)} (hx:ev n l x=some (.pointer (some p))) (hT:P.underlying t=some (.pointer e)) :
    RunV P ⟨some d,.binOp .neq t x (.const (.pointer none)) u,ty,ps,af,g⟩ (over A D l).eval w (.bool true):=by
  have E:P.underlying t=some (.pointer (P.pointee t)):=by rw[hT];simp[Program.pointee,hT]
  have h:=run_neq_pointer_nil (P:=P) w t (some p) E
  have B:(over A D l).eval (.const (.pointer none)) = .pointer none:=rfl
  have C:(eqGuard .neq t x (.const (.pointer none)) (.pointer (some p)) (.pointer none)).run P w = .ok () w:=by unfold eqGuard;simp
  simp[RunV,execOp,ev_eval hx,B,C,h]
def recV (v:PView) (p:Nat):Rec × Nat:=recF (decide (v.h.incompat &&& 4≠0)) v.h.file (v.h.n.getD 0 0) v.b p
def goodL (v:PView):List Nat→Nat→Nat→List Nat→List Nat
  | [],_,_,o=>o
  | p :: r,i,last,o=>if(recV v p).2=0∧last<(recV v p).1.seq then goodL v r (i+1) (recV v p).1.seq (o ++ [i])else goodL v r (i+1) last o
def jrecF (v:PView) (at_:List Nat) (i:Nat):Rec × Nat:=if i<at_.length then recV v (at_.getD i 0)else(rec0,2)
def recsL (v:PView) (at_:List Nat):List Nat→List Rec→List Rec × Bool
  | [],o=>(o,true)
  | i :: r,o=>if(jrecF v at_ i).2≠0 then([],false)else recsL v at_ r (o ++ [(jrecF v at_ i).1])
section
variable {v:PView} {at_ g o:List Nat} {i p last c:Nat} {r:Rec}
theorem goodL_end (h:¬i<at_.length):goodL v (at_.drop i) i last o=o:=by rw[drop_end (by omega)];rfl
theorem goodL_yes (h:at_[i]? = some p) (hr:recV v p=(r,c)) (hc:c=0) (hl:last<r.seq):goodL v (at_.drop i) i last o=goodL v (at_.drop (i+1)) (i+1) r.seq (o ++ [i]):=by
  subst hc;rw[drop_get h,goodL,hr,if_pos ⟨rfl,hl⟩]
theorem goodL_no (h:at_[i]? = some p) (hr:recV v p=(r,c)) (hc:¬(c=0∧last<r.seq)):goodL v (at_.drop i) i last o=goodL v (at_.drop (i+1)) (i+1) last o:=by
  rw[drop_get h,goodL,hr,if_neg hc]
theorem jrec_in (h:at_[i]? = some p):jrecF v at_ i=recV v p:=by
  have A:=(List.getElem?_eq_some_iff.1 h).1
  unfold jrecF;rw[if_pos A,List.getD_eq_getElem?_getD,h];rfl
def atF (at_:List Nat) (i:Nat):Nat × Nat:=if i<at_.length then(at_.getD i 0,0)else(0,2)
theorem at_in (h:at_[i]? = some p):atF at_ i=(p,0):=by
  have A:=(List.getElem?_eq_some_iff.1 h).1
  unfold atF;rw[if_pos A,List.getD_eq_getElem?_getD,h];rfl
theorem at_out (h:¬i<at_.length):atF at_ i=(0,2):=by unfold atF;rw[if_neg h]
theorem jrec_in2 {x:Rec × Nat} (h:atF at_ i=(p,c)) (hc:c=0) (hr:recV v p=x):jrecF v at_ i=x:=by
  unfold atF at h
  unfold jrecF
  split at h
  · rename_i hi;cases h;rw[if_pos hi];exact hr
  cases h;cases hc
theorem jrec_out2 (h:atF at_ i=(p,c)) (hc:c≠0):jrecF v at_ i=(rec0,c):=by
  unfold atF at h
  unfold jrecF
  split at h
  · cases h;exact absurd rfl hc
  rename_i hi;cases h;rw[if_neg hi]
theorem recsL_end {os:List Rec} (h:¬i<g.length):recsL v at_ (g.drop i) os=(os,true):=by rw[drop_end (by omega)];rfl
theorem recsL_no {os:List Rec} (h:g[i]? = some p) (hr:jrecF v at_ p=(r,c)) (hc:c≠0):recsL v at_ (g.drop i) os=([],false):=by rw[drop_get h,recsL,hr,if_pos hc]
theorem recsL_step {os:List Rec} (h:g[i]? = some p) (hr:jrecF v at_ p=(r,c)) (hc:¬c≠0):recsL v at_ (g.drop i) os=recsL v at_ (g.drop (i+1)) (os ++ [r]):=by rw[drop_get h,recsL,hr,if_neg hc]
structure Rising (v:PView) (at_:List Nat) (g:List Nat) (last:Nat):Prop where
  ok:∀i∈g,i<at_.length∧(jrecF v at_ i).2=0∧0<(jrecF v at_ i).1.seq∧(jrecF v at_ i).1.seq≤last
  asc:g.Pairwise fun a b=>(jrecF v at_ a).1.seq<(jrecF v at_ b).1.seq
theorem rising_nil:Rising v at_ [] 0:=⟨by simp,List.Pairwise.nil⟩
theorem good_rising:∀(n i last:Nat) (o:List Nat),i+n=at_.length→Rising v at_ o last→o.length≤i→∃last',Rising v at_ (goodL v (at_.drop i) i last o) last'∧(goodL v (at_.drop i) i last o).length≤at_.length
  | 0,i,last,o,h,hr,hl=>⟨last,by rw[goodL_end (by omega)];exact⟨hr,by omega⟩⟩
  | n+1,i,last,o,h,hr,hl=>by
    obtain⟨p,hp⟩:∃p,at_[i]? = some p:=⟨_,List.getElem?_eq_getElem (by omega)⟩
    rcases hv:recV v p with⟨r,c⟩
    by_cases hc:c=0∧last<r.seq
    · rw[goodL_yes hp hv hc.1 hc.2]
      have hj:jrecF v at_ i=(r,c):=(jrec_in hp).trans hv
      refine good_rising n (i+1) r.seq (o ++ [i]) (by omega) ⟨fun j hm=>?_,?_⟩ (by simp;omega)
      · rcases List.mem_append.1 hm with hm|hm
        · obtain⟨h1,h2,h3,h4⟩:=hr.ok j hm
          exact⟨h1,h2,h3,by omega⟩
        · simp at hm;subst hm;rw[hj];exact⟨by omega,hc.1,by simp only;omega,Nat.le_refl _⟩
      · refine List.pairwise_append.2 ⟨hr.asc,by simp,fun a ha b hb=>?_⟩
        simp at hb;subst hb
        have:=(hr.ok a ha).2.2.2
        rw[hj];simp only;omega
    · rw[goodL_no hp hv hc]
      exact good_rising n (i+1) last o (by omega) hr (by omega)
theorem recsL_all:∀(g:List Nat) (os:List Rec),(∀i∈g,(jrecF v at_ i).2=0)→recsL v at_ g os=(os ++ g.map fun i=>(jrecF v at_ i).1,true)
  | [],os,_=>by simp[recsL]
  | i :: r,os,h=>by
    rw[recsL,if_neg (by simpa using h i (by simp)),recsL_all r _ fun j hj=>h j (by simp[hj])]
    simp
end
section
variable {m:Mk} {B:Ly} {H:PHead} {l:List Ob} {es:List EntG} {rs:List Rec}
end
theorem good_len (v:PView) (at_:List Nat):(goodL v at_ 0 0 []).length≤at_.length:=by
  obtain⟨last,_,A⟩:=good_rising at_.length 0 0 [] (by omega) (rising_nil (v:=v) (at_:=at_)) (Nat.le_refl _)
  rwa [List.drop_zero]at A
theorem open_empty15:∃y,openF (imageOf [] 0)=(some y,0)∧y.h.n.getD 8 0=0:=by
  rcases h:openF (imageOf [] 0)with⟨x,c⟩
  obtain⟨rfl,y,rfl,A⟩:=open_emptyE h
  exact⟨y,rfl,A⟩
end Go.Wk
namespace Go.Wk
open Go Go.RowKit
theorem at4_app {b o:Ly} {p:Nat} (h:p+4≤b.length):at4 (b ++ o) p=at4 b p:=by
  show leN (seg (b ++ o) p 4)=leN (seg b p 4)
  rw[seg_app h]
theorem parse_app {b o:Ly} (h:272≤b.length):parseF (b ++ o)=parseF b:=by
  have A:(b ++ o).getD 16 0=b.getD 16 0:=by simp only[List.getD_eq_getElem?_getD];rw[List.getElem?_append_left (by omega)]
  have s:∀p,p+16≤272→((b ++ o).drop p).take 16=(b.drop p).take 16:=fun p D=>seg_app (b:=b) (o:=o) (p:=p) (n:=16) (by omega)
  have B:((List.range 21).map fun q=>if q<21 then at8 (b ++ o) (88+8*q)else 0)=(List.range 21).map fun q=>if q<21 then at8 b (88+8*q)else 0:=List.map_congr_left fun q C=>by rw[at8_app (by have:=List.mem_range.1 C;omega)]
  simp only[parseF,headUp]
  rw[at4_app (by omega),at4_app (by omega),at4_app (by omega),at4_app (by omega),at8_app (by omega),A,s 24 (by omega),s 40 (by omega),s 56 (by omega),s 72 (by omega),B]
section
variable {m:Mk} {B:Ly} {H:PHead} {l:List Ob} {es:List EntG} {rs:List Rec}
theorem open_end (op:Opened m B H l es):(endF H).1=B.length:=by
  obtain⟨C,_⟩:=read_end (e:=(endF H).1) (s:=(endF H).2) op.read rfl
  have h:=op.opn
  unfold openF at h
  rw[op.read]at h
  simp only[ne_eq,not_true_eq_false,if_false,Prod.mk.injEq,Option.some.injEq,and_true]at h
  have A:=congrArg (fun v:PView=>v.b.length) h
  simp only[List.length_take]at A
  omega
end
end Go.Wk
namespace Go.Wk
open Go Go.RowKit
section
variable {X:Ly} {e p n:Nat} {f:Frm}
theorem seg_pre (h:p+n≤e):seg (X.take e) p n=seg X p n:=by
  unfold seg;rw[List.drop_take,List.take_take,Nat.min_eq_left (by omega)]
theorem at8_pre (h:p+8≤e):at8 (X.take e) p=at8 X p:=by rw[at8_seg,at8_seg,seg_pre h]
theorem byteAt_pre (h:p<e):byteAt (X.take e) p=byteAt X p:=by
  unfold byteAt;simp only[List.getD_eq_getElem?_getD,List.getElem?_take,if_pos h]
theorem frame_pre (he:e≤X.length) (h:frameF X p=(f,0)) (hp:p+f.size≤e):frameF (X.take e) p=(f,0):=by
  have C:=frame_fine h
  have A:(X.take e).length=e:=by rw[List.length_take];omega
  unfold frameF at h ⊢
  rw[A,byteAt_pre (by omega),byteAt_pre (by omega),at8_pre (by omega)]
  by_cases h1:p%8≠0
  · rw[if_pos h1]at h;have:=congrArg Prod.snd h;simp at this
  rw[if_neg h1]at h ⊢
  by_cases h2:X.length<p∨X.length-p<16
  · rw[if_pos h2]at h;have:=congrArg Prod.snd h;simp at this
  rw[if_neg h2]at h
  rw[if_neg (by omega)]
  by_cases h3:byteAt X p<1∨7<byteAt X p
  · rw[if_pos h3]at h;have:=congrArg Prod.snd h;simp at this
  rw[if_neg h3]at h ⊢
  by_cases h4:byteAt X (p+1)≠0
  · rw[if_pos h4]at h;have:=congrArg Prod.snd h;simp at this
  rw[if_neg h4]at h ⊢
  by_cases h5:at8 X (p+8)<16
  · rw[if_pos h5]at h;have:=congrArg Prod.snd h;simp at this
  rw[if_neg h5]at h ⊢
  by_cases h6:X.length-p<at8 X (p+8)
  · rw[if_pos h6]at h;have:=congrArg Prod.snd h;simp at this
  rw[if_neg h6]at h
  have B:=congrArg (fun q:Frm × Nat=>q.1.size) h
  simp only at B
  rw[if_neg (by omega)]
  exact h
theorem dat_pre {s:Nat} (he:e≤X.length) (h:frameF X p=(f,0)) (hp:p+f.size≤e):datAt s (X.take e) p=datAt s X p:=by
  have B:=frame_fine h
  have A:(X.take e).length=e:=by rw[List.length_take];omega
  unfold datAt
  rw[A]
  by_cases h1:p<s
  · rw[if_pos (.inl h1),if_pos (.inl h1)]
  rw[if_neg (by omega),if_neg (by omega)]
  unfold readDatF
  rw[frame_pre he h hp,h]
  simp only
  by_cases h2:f.size≤64
  · rw[if_pos h2,if_pos h2]
  rw[if_neg h2,if_neg h2,at8_pre (by omega),at8_pre (by omega),at8_pre (by omega),at8_pre (by omega),at8_pre (by omega),at8_pre (by omega),
    show((X.take e).drop (p+64)).take (f.size-64)=(X.drop (p+64)).take (f.size-64)from seg_pre (by omega)]
theorem arr_pre {s:Nat} (he:e≤X.length) (h:frameF X p=(f,0)) (hp:p+f.size≤e):arrAt s (X.take e) p=arrAt s X p:=by
  have C:=frame_fine h
  have B:(X.take e).length=e:=by rw[List.length_take];omega
  unfold arrAt
  rw[B]
  by_cases h1:p<s
  · rw[if_pos (.inl h1),if_pos (.inl h1)]
  rw[if_neg (by omega),if_neg (by omega)]
  unfold readArrF
  rw[frame_pre he h hp,h]
  simp only
  by_cases h2:f.size≤24∨(f.size-24)%8≠0
  · rw[if_pos h2,if_pos h2]
  rw[if_neg h2,if_neg h2,at8_pre (by omega)]
  have:numsAt (X.take e) (p+24) ((f.size-24)/8)=numsAt X (p+24) ((f.size-24)/8):=by
    unfold numsAt
    exact List.map_congr_left fun i A=>by have:=List.mem_range.1 A;exact at8_pre (by omega)
  rw[this]
theorem ent_pre {s:Nat} (he:e≤X.length) (h:frameF X p=(f,0)) (hp:p+f.size≤e):entAt s (X.take e) p=entAt s X p:=by
  have B:=frame_fine h
  have A:(X.take e).length=e:=by rw[List.length_take];omega
  unfold entAt
  rw[A]
  by_cases h1:p<s
  · rw[if_pos (.inl h1),if_pos (.inl h1)]
  rw[if_neg (by omega),if_neg (by omega)]
  have:bodyF (X.take e) p 3 48 16=bodyF X p 3 48 16:=by
    unfold bodyF
    rw[frame_pre he h hp,h]
    simp only
    rw[List.take_take,Nat.min_eq_left (by omega)]
  unfold readEntF
  rw[this]
theorem recGo_pre {k:Bool} {g:Ly} {s:Nat} {Y:Ly}:∀(l:List Itm) (fs:List Pr) (all:List (List UInt8)),(∀x∈l,payAt k g s Y x.pos=payAt k g s X x.pos)→recGo k g s Y l fs all=recGo k g s X l fs all
  | [],_,_,_=>rfl
  | x :: r,fs,all,h=>by
    unfold recGo
    rw[h x (by simp),recGo_pre r _ _ fun y hy=>h y (by simp[hy])]
theorem rec_pre {k:Bool} {g:Ly} {s:Nat} {Y:Ly} (h1:entAt s Y p=entAt s X p) (h2:∀x∈(entAt s X p).1.items,payAt k g s Y x.pos=payAt k g s X x.pos):recF k g s Y p=recF k g s X p:=by
  unfold recF
  rw[h1,recGo_pre _ _ _ h2]
theorem pay_pre {k:Bool} {g:Ly} {s:Nat} (he:e≤X.length) (h:frameF X p=(f,0)) (hp:p+f.size≤e):payAt k g s (X.take e) p=payAt k g s X p:=by
  unfold payAt;rw[dat_pre he h hp]
end
theorem entI_big {b:Ly} {big:List Nat} {n:Nat} (hn:n≤big.length):∀(r c:Nat) (out:List Nat),out.length=c→entI b n (roomL big c r) out=entI b n (roomL (big.take n) c r) out
  | 0,_,_,_=>rfl
  | r+1,c,out,hc=>by
    rw[roomL_succ,roomL_succ]
    unfold entI
    by_cases h:n≤out.length
    · rw[if_pos h,if_pos h]
    · have e:(big.take n).getD c 0=big.getD c 0:=by
        simp only[List.getD_eq_getElem?_getD,List.getElem?_take];rw[if_pos (by omega)]
      rw[e,if_neg h,if_neg h]
      split
      · rfl
      · split
        · rfl
        · exact entI_big hn r (c+1) _ (by simp[hc])
theorem entL_elder {b:Ly} {av big:List Nat} {K n:Nat} (hn:n≤big.length) (hi:Items b (big.take n))
    (hA:∀k a:Nat,k<K→av[k]? = some a→arrAt 272 b a=({next:=av.getD (k+1) 0,items:=roomL big (cum k) (roomF (k:Int))},0)∧a≠0∧a<b.length)
    (asc:∀k a c:Nat,av[k]? = some a→av[k+1]? = some c→a<c) (hK:K≤av.length) (hc:n≤cum K):∀(d k ahead:Nat),k+d=K→(k=0→ahead=0)→(∀j,k=j+1→av[j]? = some ahead) →
    entL 272 b n (av.getD k 0) ahead ((big.take n).take (min n (cum k)))=(big.take n,0)
  | d,k,ahead,hd,h0,h1=>by
    have hlen:(big.take n).length=n:=by rw[List.length_take];omega
    have I:((big.take n).take (min n (cum k))).length=min n (cum k):=by rw[List.length_take,hlen];omega
    rw[entL,I]
    by_cases hm:n≤cum k
    · rw[Nat.min_eq_left hm,if_pos (Nat.le_refl _),List.take_of_length_le (by omega)]
    · rw[Nat.min_eq_right (by omega),if_neg (by omega)]
      match d with
      | 0 =>
        have:k=K:=by omega
        subst this;omega
      | d+1 =>
        obtain⟨a,B⟩:∃a,av[k]? = some a:=⟨_,List.getElem?_eq_getElem (by omega)⟩
        obtain⟨C,F,G⟩:=hA k a (by omega) B
        have H:ahead<a:=by
          by_cases hk0:k=0
          · have:=h0 hk0;omega
          · have:=h1 (k-1) (by omega)
            exact asc (k-1) ahead a this (by rw[show k-1+1=k by omega];exact B)
        rw[getD_some B,if_neg (by omega),if_neg (by omega),C]
        simp only
        have D:((big.take n).take (cum k)).length=cum k:=by rw[List.length_take,hlen];omega
        have A:n≤(big.take n).length∨cum k+roomF (k:Int)≤(big.take n).length:=.inl (by omega)
        have E:=entI_big (b:=b) hn (roomF (k:Int)) (cum k) _ D
        rw[entI_room hi _ _ (by omega) (by omega),if_pos A]at E
        rw[if_neg (by simp),E]
        simp only
        rw[if_neg (by simp),show cum k+roomF (k:Int)=cum (k+1)from rfl]
        exact entL_elder hn hi hA asc hK hc d (k+1) a (by omega) (by omega) (fun j J=>by rw[show j=k by omega];exact B)
theorem good_of {v:PView} {at_:List Nat} {rs:List Rec} (ln:at_.length=rs.length) (h:∀(i p:Nat) (r:Rec),at_[i]? = some p→rs[i]? = some r→∃y,recV v p=(y,0)∧sameRowF y r=true∧y.seq=r.seq) (rise:rs.Pairwise fun a b=>a.seq<b.seq):∀(n i last:Nat),i+n=at_.length→(∀r,rs[i]? = some r→last<r.seq)→goodL v (at_.drop i) i last (List.range i)=List.range at_.length
  | 0,i,last,hi,_=>by rw[goodL_end (by omega),show i=at_.length by omega]
  | n+1,i,last,hi,hl=>by
    obtain⟨p,hp⟩:∃p,at_[i]? = some p:=⟨_,List.getElem?_eq_getElem (by omega)⟩
    obtain⟨r,hr⟩:∃r,rs[i]? = some r:=⟨_,List.getElem?_eq_getElem (by omega)⟩
    obtain⟨y,y1,_,y3⟩:=h i p r hp hr
    rw[goodL_yes hp y1 rfl (by rw[y3];exact hl r hr),← List.range_succ]
    refine good_of ln h rise n (i+1) y.seq (by omega) fun r' hr'=>?_
    have h1:=(List.getElem?_eq_some_iff.1 hr)
    have h2:=(List.getElem?_eq_some_iff.1 hr')
    have:=List.pairwise_iff_getElem.1 rise i (i+1) h1.1 h2.1 (by omega)
    rw[h1.2,h2.2]at this
    rw[y3];exact this
theorem reads_of {v:PView} {at_:List Nat} {rs:List Rec} (ln:at_.length=rs.length) (h:∀(i p:Nat) (r:Rec),at_[i]? = some p→rs[i]? = some r→∃y,recV v p=(y,0)∧sameRowF y r=true∧y.seq=r.seq) (rise:rs.Pairwise fun a b=>a.seq<b.seq) (top:∀r∈rs,1≤r.seq):(recsL v at_ (goodL v at_ 0 0 []) []).2=true∧sameRowsF (recsL v at_ (goodL v at_ 0 0 []) []).1 rs=true:=by
  have F:=good_of ln h rise at_.length 0 0 (by omega) fun r B=>top r (List.mem_of_getElem? B)
  rw[List.drop_zero,List.range_zero]at F
  have D:∀i,i<at_.length→∃y r,jrecF v at_ i=(y,0)∧rs[i]? = some r∧sameRowF y r=true:=fun i A=>by
    obtain⟨p,I⟩:∃p,at_[i]? = some p:=⟨_,List.getElem?_eq_getElem A⟩
    obtain⟨r,B⟩:∃r,rs[i]? = some r:=⟨_,List.getElem?_eq_getElem (by omega)⟩
    obtain⟨y,M,N,_⟩:=h i p r I B
    exact⟨y,r,(jrec_in I).trans M,B,N⟩
  rw[F,recsL_all _ [] fun i A=>by obtain⟨y,r,J,_⟩:=D i (List.mem_range.1 A);rw[J]]
  refine⟨rfl,sameRows_of (by simp[ln]) fun i y r C B=>?_⟩
  rw[List.nil_append,List.getElem?_map]at C
  cases A:(List.range at_.length)[i]? with
  | none=>rw[A]at C;cases C
  | some j =>
    rw[A]at C
    obtain⟨H,G⟩:=List.getElem?_eq_some_iff.1 A
    simp at G H
    subst G
    obtain⟨P,O,K,E,L⟩:=D i H
    rw[B]at E
    cases E
    simp only[Option.map_some,Option.some.injEq,K]at C
    rw[← C];exact L
end Go.Wk
namespace Go.Wk
open Go Go.RowKit
theorem parse_take {b c:Ly} (hb:272≤b.length) (hc:272≤c.length) (h:c.take 272=b.take 272):parseF c=parseF b:=by
  rw[← List.take_append_drop 272 b,← List.take_append_drop 272 c,h,parse_app (by simp;omega),parse_app (by simp;omega)]
theorem read_head {b c:Ly} {h:PHead} (hr:readF b=(h,0)) (hc:b.length≤c.length) (ht:c.take 272=b.take 272):readF c=(h,0):=by
  obtain⟨C,I,G⟩:=read_fine hr
  have A:prefF b signF=true:=by
    cases hh:prefF b signF with
    | true=>rfl
    | false=>rw[readF_sign (by omega) hh]at hr;have:=congrArg Prod.snd hr;simp at this
  have B:prefF c signF=true:=by
    have e:signF.length=8:=rfl
    unfold prefF at A ⊢
    rw[e,if_pos (by omega)]at A
    have F:c.take 8=b.take 8:=by
      have:=congrArg (List.take 8) ht
      rwa [List.take_take,List.take_take]at this
    rw[e,if_pos (by omega),F];exact A
  have H:endF h=((endF h).1,(endF h).2):=rfl
  obtain⟨L,E⟩:=read_end hr H
  have D:amissF h c.length=0:=by
    have J:¬((endF h).2=false∨c.length<(endF h).1):=by rw[E];simp;omega
    have K:¬((endF h).2=false∨b.length<(endF h).1):=by rw[E];simp;omega
    rw[← G];simp only[amissF,if_neg J,if_neg K]
  unfold readF
  rw[if_neg (by omega),if_neg (by rw[B];simp),parse_take C (by omega) ht,I,if_neg (by rw[D];simp)]
section
variable {m m':Mk} {l l':List Ob} {es es':List EntG} {rs rs':List Rec}
theorem elder_open (im:MkIm m l es rs) (im':MkIm m' l' es' rs') (on:MkOn m m' es es' rs rs') (hok:RHead.ok m.h) (hok':RHead.ok m'.h) :
    ∃y:PView,openF ((imageM m 1).take 272 ++ (imageM m' 1).drop 272)=(some y,0)∧y.b.length≤40000∧entsF (y.h.n.getD 0 0) y.b (y.h.n.getD 8 0) (y.h.n.getD 11 0)=(es.map EntG.pos,0) ∧
      (recsL y (es.map EntG.pos) (goodL y (es.map EntG.pos) 0 0 []) []).2=true∧sameRowsF (recsL y (es.map EntG.pos) (goodL y (es.map EntG.pos) 0 0 []) []).1 rs=true:=by
  have I:=opened im hok (st:=1) (by decide)
  have op':=opened im' hok' (st:=1) (by decide)
  generalize imageM m 1=E at *
  generalize hNn:imageM m' 1=N at *
  generalize parseF E=H at *
  have As:=on.len
  have Bg:=I.len
  have opl':=op'.len
  have sm:=im.ok.small
  have sm':=im'.ok.small
  obtain⟨Am,_,_⟩:=read_fine I.read
  have ln:=im.len
  generalize hX:E.take 272 ++ N.drop 272=X
  have D:(E.take 272).length=272:=by rw[List.length_take];omega
  have lX:X.length=m'.b.length:=by rw[← hX,List.length_append,D,List.length_drop];omega
  have Aa:X.take 272=E.take 272:=by rw[← hX];exact List.take_left' D
  have hr:=read_head I.read (c:=X) (by omega) Aa
  have ho:openF X=(some {b:=X.take E.length,h:=H},0):=by
    unfold openF
    rw[hr]
    simp only[ne_eq,not_true_eq_false,if_false]
    rw[open_end I]
  have J:E.length≤X.length:=by omega
  have d:(X.take E.length).length=E.length:=by rw[List.length_take];omega
  refine⟨_,ho,by simp only;omega,?_⟩
  simp only
  have h0:H.n.getD 0 0=272:=num0 im I
  have h8:H.n.getD 8 0=es.length:=(I.n 8 (by decide) (by decide)).trans im.img.n8
  have T:H.n.getD 11 0=m.main.getD 0 0:=(I.n 11 (by decide) (by decide)).trans im.img.n11
  by_cases hes:es=[]
  · subst hes
    have Ai:rs=[]:=List.eq_nil_of_length_eq_zero (by rw[← ln];rfl)
    subst Ai
    rw[h8,List.length_nil]
    exact⟨ents_0',rfl,rfl⟩
  obtain⟨t,ht⟩:=on.es
  obtain⟨t2,Ak⟩:=on.rs
  obtain⟨t3,P⟩:=on.main
  have F:=im.img.c.main.hi
  rw[List.length_map]at F
  have Ae:m.main≠[]:=by
    intro h;rw[h]at F;simp only[List.length_nil,cum]at F
    exact hes (List.eq_nil_of_length_eq_zero (by omega))
  have C:m'.main.getD 0 0=m.main.getD 0 0:=by
    rw[P]
    cases hm:m.main with
    | nil=>exact absurd hm Ae
    | cons a r=>rfl
  -- the whole bytes are those of the younger maker,but for the head
  have U:Eff (fun a=>a+8≤272) m'.b X:=by
    obtain⟨_,_,hE⟩:=image_bytes im' hok' (st:=1) (by decide)
    rw[hNn]at hE
    refine⟨by rw[lX];exact Nat.le_refl _,fun q n hq hs=>?_⟩
    by_cases hn:n=0
    · subst hn;simp[seg]
    · have Bb:272≤q:=by
        by_cases h1:272≤q
        · exact h1
        · exfalso
          have:=hs (min q 264) (by omega)
          omega
      rw[← hE.2 q n hq hs,← hX,seg_skip (by omega),D]
      unfold seg
      rw[List.drop_drop,show 272+(q-272)=q by omega]
  have hw:at8 X 176=m'.main.getD 0 0:=by
    have Af:parseF X=H:=(read_fine hr).2.1
    have:=parse_n (b:=X) (i:=11) (by decide)
    rw[Af,T]at this
    rw[C];exact this.symm
  have A:=im'.img.c.bytes (B:=X) lX U hw
  have hO:=A.stat.objs
  have V:=im.img.c.stat.objs
  have v:∀o∈l',o.pos+o.size≤E.length→frameF X o.pos=({kind:=o.kind,flags:=0,size:=o.size},0):=fun o M hb=>by
    have:=hO.mem M
    exact frame_ob this (by decide) (by show o.pos+o.size≤X.length;omega)
  have W:∀o∈l,o.pos+o.size≤E.length:=fun o M=>by
    have:=(V.mem M).le
    have:=up8_ge o.size
    omega
  have tk:(es'.map EntG.pos).take es.length=es.map EntG.pos:=by rw[ht,List.map_append];exact List.take_left' (by simp)
  have Ad:es.length≤(es'.map EntG.pos).length:=by rw[List.length_map,ht,List.length_append];omega
  refine⟨?_,reads_of (by rw[List.length_map];exact ln) (fun i p r Q O=>?_) im.rise fun r O=>(im.top r O).1⟩
  · rw[h0,h8,T,← C]
    have Ac:Items (X.take E.length) ((es'.map EntG.pos).take es.length):=by
      obtain⟨g1,g2⟩:=es_items im.img.c
      rw[tk]
      exact⟨fun x R=>by have:=g1 x R;rw[d];omega,g2⟩
    have:=entL_elder (b:=X.take E.length) (av:=m'.main) (big:=es'.map EntG.pos) (K:=m.main.length) (n:=es.length) Ad Ac (fun k a hk f=>?_) A.main.asc (by rw[P,List.length_append];omega) F m.main.length 0 0 (by omega) (fun _=>rfl) (fun j hj=>by omega)
    · rw[tk]at this
      simp only[cum,Nat.min_zero,List.take_zero]at this
      exact this
    have ha':m.main[k]? = some a:=by rw[P,List.getElem?_append_left hk]at f;exact f
    have A8:=im.img.c.main.le V ha'
    have hA:=arr_of A.main hO f
    have hf:=v _ (A.main.ob k a f) (by simp only;omega)
    rw[arr_pre J hf (by simp only;omega)]
    exact⟨hA,by omega,by rw[d];omega⟩
  rw[List.getElem?_map]at Q
  cases Y:es[i]? with
  | none=>rw[Y]at Q;cases Q
  | some g =>
    rw[Y]at Q
    simp only[Option.map_some,Option.some.injEq]at Q
    subst Q
    have Z:=List.mem_of_getElem? Y
    have Ab:=(List.getElem?_eq_some_iff.1 Y).1
    have hg':es'[i]? = some g:=by rw[ht,List.getElem?_append_left Ab];exact Y
    have Ah:rs'[i]? = some r:=by rw[Ak,List.getElem?_append_left (by omega)];exact O
    have hgm':=List.mem_of_getElem? hg'
    have w:EntW {m' with b:=X} g:=(im'.img.who g hgm').bytes rfl rfl
    have wm:=im.img.who g Z
    have rc:RecG {m' with b:=X} g r:=(im'.rcd i g r hg' Ah).ext (m':={m' with b:=X}) (im'.img.who g hgm') (DExt.refl _)
    obtain⟨fs,k1,k2⟩:=rec_of A im'.img.txt w hgm' (by show X.length<_;omega) rc
    have he:=ent_of A w hgm' (by show X.length<_;omega)
    have S:=W _ (im.img.c.ent g Z).ob
    have z:=v _ (A.ent g hgm').ob S
    refine⟨{seq:=r.seq,real:=r.real,mono:=r.mono,boot:=r.boot,fields:=fs},?_,sameRow_of rfl rfl rfl rfl fun q=>k2.mem_iff,rfl⟩
    show recF (decide (H.incompat &&& 4≠0)) H.file (H.n.getD 0 0) (X.take E.length) g.pos=_
    rw[keyed_of I.key,I.file,h0,← on.c]
    rw[rec_pre (X:=X) (ent_pre J z S) fun x R=>?_]
    · exact k1
    · have he':entAt 272 X g.pos=(g.ent,0):=he
      rw[he']at R
      simp only at R
      rw[w.items]at R
      obtain⟨j,hj,rfl⟩:=List.mem_map.1 R
      have G:=wm.lt j hj
      obtain⟨a1,a2,_⟩:=on.ext.at G
      have L:m.datas[j]? = some m.datas[j]:=List.getElem?_eq_getElem G
      have hkd':m'.datas[j]? = some m'.datas[j]:=List.getElem?_eq_getElem a1
      have p1:=(textAt_get L).2
      have p2:=(textAt_get hkd').2
      have ob:=W _ (im.img.c.stat.data _ (List.mem_of_getElem? L)).ob
      have ob':=(A.stat.data _ (List.mem_of_getElem? hkd')).ob
      obtain⟨_,t1,_⟩:=(on.ext.at G)
      have e:textAt m'.datas j=textAt m.datas j:=(on.ext.at G).2.2
      rw[(textAt_get hkd').1,(textAt_get L).1]at e
      have Ag:(m'.datas[j]).pos=(m.datas[j]).pos:=by rw[← p2,← p1];exact a2
      have hb':(m'.datas[j]).pos+(64+(m'.datas[j]).text.length)≤E.length:=by rw[Ag,e];exact ob
      have u:=v _ ob' hb'
      simp only
      show payAt _ _ _ _ (posAt m'.datas j)=payAt _ _ _ _ (posAt m'.datas j)
      rw[p2]
      exact pay_pre J u hb'
end
def ElInv (m:Mk) (es:List EntG) (rs:List Rec) (mm:Mk):Prop:=∃l' es' rs',MkIm mm l' es' rs'∧MkOn m mm es es' rs rs'
theorem el_any {m mm m1:Mk} {es:List EntG} {rs:List Rec} {s s1:Sq} {r:Rec} {e c:Nat} (h:ElInv m es rs mm) (hrec:s.record ((mm.num 9+1)%18446744073709551616)=(r,s1)) (ha:mm.append r.fields r.real r.mono r.boot=(e,c,m1)):ElInv m es rs m1:=by
  obtain⟨I,B,D,E,F⟩:=h
  have A:=record_all s ((mm.num 9+1)%18446744073709551616)
  rw[hrec]at A
  have hk:=(hk_append mm r.fields r.real r.mono r.boot).2
  rw[ha]at hk
  by_cases hc:c=0
  · subst hc
    obtain⟨J,C,G,H⟩:=step_im E A.1 A.2.1 A.2.2.1 A.2.2.2 ha
    exact⟨J,C,_,G,F.trans H⟩
  have:=hk hc
  simp only at this
  subst this
  exact⟨I,B,D,E,F⟩
end Go.Wk
namespace Go.Wk
open Go Go.RowKit
def arr16T (P:Program) (t e:TypeId):Bool :=
  match P.underlying t with
  | some (.array n e')=>Nat.beq n 16 && decide (e'=e) && isOne P e && !P.eqGuardType P.depth t
  | _=>false
section
variable {P:Program}
theorem eqItems_b8 {e:TypeId} (he:isOne P e=true) (hu:P.underlying e=some (.int .u8)) (d:Nat) (a b:Ly) (hl:b.length=a.length) (w:World):∀(k i:Nat),i+k=a.length →
    (Op.eqItems (d+1) e 1 (a.map b8).toArray (b.map b8).toArray (List.range' i k)).run P w = .ok (decide (a.drop i=b.drop i)) w
  | 0,i,h=>by
    rw[List.drop_eq_nil_of_le (by omega),List.drop_eq_nil_of_le (by omega)]
    simp[Op.eqItems]
  | k+1,i,h=>by
    have e1:=run_isAgg_one he
    obtain⟨x,hx⟩:∃x,a[i]? = some x:=⟨_,List.getElem?_eq_getElem (by omega)⟩
    obtain⟨y,hy⟩:∃y,b[i]? = some y:=⟨_,List.getElem?_eq_getElem (by omega)⟩
    have pa:∀w,(part e (a.map b8).toArray (i*1)).run P w = .ok (b8 x) w:=fun w=>by simp[part,e1,hx]
    have pb:∀w,(part e (b.map b8).toArray (i*1)).run P w = .ok (b8 y) w:=fun w=>by simp[part,e1,hy]
    have pe:∀w,(Op.equalIn (d+1) e (b8 x) (b8 y)).run P w = .ok (decide (x=y)) w:=fun w=>by
      unfold b8
      rw[run_equalIn_int w d e _ _ _ _ hu]
      congr 1
      by_cases h:x=y
      · subst h;simp
      · have:((x.toNat:Int) == (y.toNat:Int))=false:=by
          rw[beq_eq_false_iff_ne]
          exact fun B=>h (UInt8.toNat.inj (by omega))
        rw[this];simp[h]
    rw[List.range'_succ,drop_get hx,drop_get hy]
    simp only[Op.eqItems,Sem.run_bind,pa,pb,pe,Result.andThen_ok]
    by_cases h:x=y
    · subst h
      have A:=eqItems_b8 he hu d a b hl w k (i+1) (by omega)
      rw[if_neg (by simp),A];simp
    · simp[h]
theorem eqId {t e:TypeId} (ht:arr16T P t e=true) (hu:P.underlying e=some (.int .u8)) {a b:Ly} (ha:a.length=16) (hb:b.length=16) (w:World):(Op.equalIn 10000 t (.agg (idc a).toArray) (.agg (idc b).toArray)).run P w = .ok (decide (a=b)) w∧P.eqGuardType P.depth t=false:=by
  unfold arr16T at ht
  split at ht
  · rename_i n e' hu'
    simp only[Bool.and_eq_true,Bool.not_eq_true']at ht
    obtain⟨⟨⟨C,D⟩,A⟩,E⟩:=ht
    have h1':n=16:=Nat.eq_of_beq_eq_true C
    have h2':e'=e:=dT D
    subst h1';subst h2'
    obtain⟨_,i,_,B,G,_⟩:=isOne_spec A
    have F:P.cellsOf e'=1:=by simp[Program.cellsOf,B,G]
    refine⟨?_,E⟩
    have:=eqItems_b8 A hu 9998 a b (by omega) w 16 0 (by omega)
    rw[run_equalIn_array w 9999 _ _ hu' B,F,idc_map ha,idc_map hb,List.range_eq_range',this]
    rfl
  cases ht
variable {n:Nat} {A:Fr n} {D:List Deferred} {l:List (Nat × Value)} {w:World} {d:Option Tmp} {ty:TypeId} {ps:String} {af:Array Edge} {g:Option (Nat × Bool)}
theorem r_eqlId {x y:Operand} {t e u:TypeId} {a b:Ly} (ht:arr16T P t e=true) (hu:P.underlying e=some (.int .u8)) (hx:ev n l x=some (.agg (idc a).toArray)) (hy:ev n l y=some (.agg (idc b).toArray)) (ha:a.length=16) (hb:b.length=16) :
    RunV P ⟨d,.binOp .eql t x y u,ty,ps,af,g⟩ (over A D l).eval w (.bool (decide (a=b))):=by
  obtain⟨B,C⟩:=eqId ht hu ha hb w
  have E:=run_eqGuard_agg (P:=P) w .eql t x y (idc a).toArray (idc b).toArray C
  have F:(binOp .eql t (.agg (idc a).toArray) (.agg (idc b).toArray)).run P w = .ok (.bool (decide (a=b))) w:=by rw[run_eql_struct,B];rfl
  simp[RunV,execOp,ev_eval hx,ev_eval hy,E,F]
end
end Go.Wk
namespace Go.Proofs.YtiahpbdikcpbnaaGreat
open Go Go.Wk Go.RowKit
set_option linter.unusedVariables false
set_option linter.unusedSimpArgs false
attribute [local irreducible] wpList wpQuiet wpStill wpMix Code.wp Calls bodyPost
variable {w:World} {Q:Nat→Prop}
noncomputable abbrev Zp:=Tryz.prog
theorem agg76:isAggN Zp 76 2=true:=by kernel_rfl
theorem el76:elemIs Zp 76 2=true:=by kernel_rfl
theorem mixed:Zp.follows .mixedOrders=true:=by kernel_rfl
theorem pair76:pairT Zp 76 9=true:=by kernel_rfl
theorem u36:Zp.underlying 36=some (.slice 76):=by kernel_rfl
theorem u9:Zp.underlying 9=some (.string):=by kernel_rfl
theorem kWithinR_any (uQ:Up w Q) {v0:Value} {a:List Pr} (h0:Ls tPr w Q v0 a) {v1:Value} {b:List Pr} (h1:Ls tPr w Q v1 b) :
    Calls Zp 64 #[v0,v1] w fun en w'=>∃r0:Bool,en = .returned (.bool r0)∧Md [] w w'∧allIn b a=r0:=by
  have L0:=h0.len63;have L1:=h1.len63;have M:=Md.refl [] w;have Ac:=uQ;have S:∀b,Q b→Q b:=fun _ h=>h;have F:∀b,Q b→b<w.heap.size→Q b:=fun _ h _=>h;refine enter (n:=34) Tryz.func64 rfl rfl rfl fun B=>ns (an rfl (c_seq (ns (asg rfl (nt (c_block ?_))))));obtain⟨r0,E⟩:∃r,allIn b a=r:=⟨_,rfl⟩;have x:=E
  try simp only[List.nil_append]at E
  refine loop1 (fun(i:Nat)=>[(5,(.int .i64 i)),(0,v0),(1,v1)]) (fun(i:Nat) w'=>∃Q':Nat→Prop,(∀b,Q' b→Q b)∧(∀b,Q b→b<w.heap.size→Q' b)∧Up w' Q'∧Md [] w w'∧Ls tPr w' Q' v0 a∧Ls tPr w' Q' v1 b∧allIn b (a.drop i)=r0) (fun(i:Nat)=>a.length-i) (x0:=0) ?_ ?_ ?_
  · exact⟨rfl,rfl,rfl,tV⟩
  · exact⟨Q,S,F,uQ,M,h0,h1,(by have P:=E;exact P)⟩
  clear M uQ S F h0 h1
  rintro i B w1 ⟨z,S,F,uQ,M,h0,h1,R⟩;refine c_seq (ns (m2 rfl rfl (sL rfl u36 h0.shp (st _ (r_ltN (a:=i) (b:=a.length) rfl rfl) (nt ?_)))));refine c_if rfl (fun U=>?_) (fun U=>?_)
  · (have C:=dT U);refine c_skip (c_then (c_seq (c_block (ns (an rfl (c_seq (ns (asg rfl (nt (c_block ?_))))))))));obtain⟨r1,G⟩:∃r,hasP (a.getD i {name:=[],value:=[]}) b=r:=⟨_,rfl⟩;have y:=G
    try simp only[List.nil_append]at G
    refine loop2 (fun(d:Bool) (j:Nat)=>[(6,(.bool d)),(7,(.int .i64 j)),(0,v0),(1,v1),(5,(.int .i64 i)),(8,(.int .i64 i)),(9,v0),(10,(.int .i64 a.length)),(11,(.bool ((decide (i<a.length)))))]) (fun(d:Bool) (j:Nat) w'=>∃Q':Nat→Prop,(∀b,Q' b→Q b)∧(∀b,Q b→b<w.heap.size→Q' b)∧Up w' Q'∧Md [] w w'∧Ls tPr w' Q' v0 a∧Ls tPr w' Q' v1 b∧(d || hasP (a.getD i {name:=[],value:=[]}) (b.drop j))=r1) (fun(d:Bool) (j:Nat)=>b.length-j) (x0:=false) (x1:=0) ?_ ?_ ?_
    · exact⟨rfl,rfl,rfl,rfl,rfl,rfl,rfl,rfl,rfl,tV⟩
    · exact⟨z,S,F,uQ,M,h0,h1,(by have P:=G;exact P)⟩
    clear M uQ S F h0 h1
    rintro d j B w3 ⟨g,S,F,uQ,M,h0,h1,X⟩;refine c_seq (ns (m2 rfl rfl (sL rfl u36 h1.shp (st _ (r_ltN (a:=j) (b:=b.length) rfl rfl) (nt ?_)))));refine c_if rfl (fun V=>?_) (fun V=>?_)
    · (have I:=dT V);refine c_skip (c_then (c_seq (c_block ?_)));have H:=h0;have J:=h1;refine c_mixT (ml 10) [10,11,12] (fun w'=>Md [] w3 w') mixed (by kernel_rfl) ?_;intro w5 D;refine⟨D.mono (by simp),?_⟩;have u:=D.mono (T:=[]) (by simp);refine mo rfl (mo rfl ?_);refine part_m (t:=21) rfl (fun A=>?_) (fun A=>?_)
      · (have K:=A);refine m_skip rfl rfl rfl A (m_skip rfl rfl rfl A (m_skip rfl rfl rfl A (m_skip rfl rfl rfl A (m_skip rfl rfl rfl A (m_skip rfl rfl rfl A (m_skip rfl rfl rfl A (m_skip rfl rfl rfl A (m_nil ?_))))))));replace h0:=h0.o D;replace h1:=h1.o D;replace uQ:=uQ.md D;replace M:=M.k D;clear J H;clear u;refine sk A (st _ (r_pick_t rfl A rfl) (asg rfl (st_nil (n_block (c_then (c_region (mv rfl (st _ (rA (a:=j) (b:=1) rfl rfl (by omega)) (an rfl ?_)))))))));refine next2 (x0:=true) (x1:=(j+1)) (by omega) ⟨rfl,(fitI rfl (by omega)),rfl,rfl,rfl,rfl,rfl,rfl,rfl,tV⟩ ⟨g,S,F,uQ,M,h0,h1,(by have P:=X;simp(disch:=first|omega|assumption|simp) only [hasP_end,Bool.or_false,SS,reduceIte,E,C,I,K]at P;exact P)⟩
      (have K:=A);refine Go.Wk.m_g _ rfl rfl rfl A (fun w' O=>r_move rfl) (Go.Wk.m_g _ rfl rfl rfl A (fun w' O=>r_move rfl) (Go.Wk.m_g _ rfl rfl rfl A (fun w' O=>r_indexN (i:=i) 2 rfl rfl u36 el76 h0.shp (by omega)) ?_));obtain⟨e,Y⟩:=getE (l:=a) (i:=i) (by omega);obtain⟨c7,k,L⟩:=H.get Y;obtain⟨_,rfl⟩:=tPr_un k;replace L:At _ v0 (i*2) (Pr.cells e):=L;refine Go.Wk.m_g _ rfl rfl rfl A (fun w' O=>r_loadEA (kk:=i*2) (Pr.cells e) 0 rfl rfl (by exact agg76) (L.o O) rfl) (Go.Wk.m_g _ rfl rfl rfl A (fun w' O=>r_move rfl) (Go.Wk.m_g _ rfl rfl rfl A (fun w' O=>r_move rfl) (Go.Wk.m_g _ rfl rfl rfl A (fun w' O=>r_indexN (i:=j) 2 rfl rfl u36 el76 h1.shp (by omega)) ?_)));obtain⟨f,Z⟩:=getE (l:=b) (i:=j) (by omega);obtain⟨c9,o,N⟩:=J.get Z;obtain⟨_,rfl⟩:=tPr_un o;replace N:At _ v1 (j*2) (Pr.cells f):=N;refine Go.Wk.m_g _ rfl rfl rfl A (fun w' O=>r_loadEA (kk:=j*2) (Pr.cells f) 0 rfl rfl (by exact agg76) (N.o O) rfl) (m_nil ?_);replace h0:=h0.o D;replace h1:=h1.o D;replace uQ:=uQ.md D;replace M:=M.k D;clear J H;clear u;refine sg A (r_eqlPr (p:=e) (q:=f) pair76 u9 rfl rfl) (st _ (r_pick_f rfl A rfl) (asg rfl (st_nil ?_)));clear L;clear N;refine n_block (c_then (c_region (mv rfl (st _ (rA (a:=j) (b:=1) rfl rfl (by omega)) (an rfl ?_)))));refine next2 (x0:=((decide (e.pb=f.pb)))) (x1:=(j+1)) (by omega) ⟨rfl,(fitI rfl (by omega)),rfl,rfl,rfl,rfl,rfl,rfl,rfl,tV⟩ ⟨g,S,F,uQ,M,h0,h1,(by have P:=X;simp(disch:=first|omega|assumption|simp) only [hasP_end,Bool.or_false,any_step Y,any_step Z,SS,reduceIte,E,C,I,K,Y,Z]at P;exact P)⟩
    (have I:=dF V);refine c_exit (x_then (x_then (x_hit (c_then (nm rfl (st _ (r_not rfl) (nt ?_)))))));refine c_if rfl (fun W=>?_) (fun W=>?_)
    · (have c:=bnt W);refine ns ?_;have e0:allIn b a=false:=(by rw[allIn_stepD C,G]at R;rw[hasP_end (by omega)]at X;simp_all);refine ar rfl (r_block (r_then (r_then (r_block (r_then ?_)))));exact ret1L (v:=(.bool false)) trivial rfl ⟨rfl,tV⟩ ⟨false,rfl,M,e0⟩
    (have c:=bnf W);refine c_skip (n_block (c_then (c_region (mv rfl (st _ (rA (a:=i) (b:=1) rfl rfl (by omega)) (an rfl ?_))))));refine next1 (x0:=(i+1)) (by omega) ⟨(fitI rfl (by omega)),rfl,rfl,tV⟩ ⟨g,S,F,uQ,M,h0,h1,(by rw[allIn_stepD C,G]at R;simp_all)⟩
  (have C:=dF U);refine c_exit (x_then (x_then (x_hit (c_then (ns (ar rfl ?_))))));exact ret1L (v:=(.bool true)) trivial rfl ⟨rfl,tV⟩ ⟨true,rfl,M,(by(try (simp(disch:=first|omega|assumption|simp) only [allIn_end,SS,reduceIte,C]at R));simp(disch:=first|omega|assumption|simp) only [SS,reduceIte,E,C,← R])⟩
theorem agg147:isAggN Zp 147 4=true:=by kernel_rfl
theorem agg199:isAggN Zp 199 3=true:=by kernel_rfl
theorem agg212:isAggN Zp 212 6=true:=by kernel_rfl
theorem agg35:isAggN Zp 35 16=true:=by kernel_rfl
theorem el33:elemIs Zp 33 1=true:=by kernel_rfl
theorem el5:elemIs Zp 5 1=true:=by kernel_rfl
theorem elT5:elT Zp 5 1 1=true:=by kernel_rfl
theorem fn104:isFn Zp 104=true:=by kernel_rfl
theorem fn109:isFn Zp 109=true:=by kernel_rfl
theorem fn110:isFn Zp 110=true:=by kernel_rfl
theorem fn111:isFn Zp 111=true:=by kernel_rfl
theorem fn113:isFn Zp 113=true:=by kernel_rfl
theorem fn118:isFn Zp 118=true:=by kernel_rfl
theorem fn119:isFn Zp 119=true:=by kernel_rfl
theorem fn120:isFn Zp 120=true:=by kernel_rfl
theorem fn121:isFn Zp 121=true:=by kernel_rfl
theorem fn124:isFn Zp 124=true:=by kernel_rfl
theorem fn125:isFn Zp 125=true:=by kernel_rfl
theorem fn126:isFn Zp 126=true:=by kernel_rfl
theorem fn49:isFn Zp 49=true:=by kernel_rfl
theorem fn50:isFn Zp 50=true:=by kernel_rfl
theorem fn69:isFn Zp 69=true:=by kernel_rfl
theorem fn70:isFn Zp 70=true:=by kernel_rfl
theorem fn71:isFn Zp 71=true:=by kernel_rfl
theorem fn72:isFn Zp 72=true:=by kernel_rfl
theorem fn81:isFn Zp 81=true:=by kernel_rfl
theorem fn84:isFn Zp 84=true:=by kernel_rfl
theorem fn96:isFn Zp 96=true:=by kernel_rfl
theorem off199_0:fieldOff Zp 199 0=some 0:=by kernel_rfl
theorem off199_1:fieldOff Zp 199 1=some 1:=by kernel_rfl
theorem off199_2:fieldOff Zp 199 2=some 2:=by kernel_rfl
theorem off212_0:fieldOff Zp 212 0=some 0:=by kernel_rfl
theorem off212_1:fieldOff Zp 212 1=some 1:=by kernel_rfl
theorem off212_2:fieldOff Zp 212 2=some 2:=by kernel_rfl
theorem off212_3:fieldOff Zp 212 3=some 3:=by kernel_rfl
theorem off212_4:fieldOff Zp 212 4=some 4:=by kernel_rfl
theorem off212_5:fieldOff Zp 212 5=some 5:=by kernel_rfl
theorem one3:isOne Zp 3=true:=by kernel_rfl
theorem one31:isOne Zp 31=true:=by kernel_rfl
theorem one33:isOne Zp 33=true:=by kernel_rfl
theorem one5:isOne Zp 5=true:=by kernel_rfl
theorem one58:isOne Zp 58=true:=by kernel_rfl
theorem pl147:bplace Zp 147=some [(0,1),(1,1),(2,1),(3,1)]:=by kernel_rfl
theorem pl199:bplace Zp 199=some [(0,1),(1,1),(2,1)]:=by kernel_rfl
theorem pl212:bplace Zp 212=some [(0,1),(1,1),(2,1),(3,1),(4,1),(5,1)]:=by kernel_rfl
theorem u121:Zp.underlying 121=some (.int .u64):=by kernel_rfl
theorem u147:Zp.underlying 147=some (.array 4 33):=by kernel_rfl
theorem u201:Zp.underlying 201=some (.array 12 5):=by kernel_rfl
theorem u213:Zp.underlying 213=some (.array 8 5):=by kernel_rfl
theorem u3:Zp.underlying 3=some (.int .i64):=by kernel_rfl
theorem u31:Zp.underlying 31=some (.slice 5):=by kernel_rfl
theorem u33:Zp.underlying 33=some (.int .u64):=by kernel_rfl
theorem u35:Zp.underlying 35=some (.array 16 5):=by kernel_rfl
theorem u5:Zp.underlying 5=some (.int .u8):=by kernel_rfl
theorem u58:Zp.underlying 58=some (.int .u32):=by kernel_rfl
theorem z147:zcells Zp 147=some [.int .u64 0,.int .u64 0,.int .u64 0,.int .u64 0]:=by kernel_rfl
theorem z199:zcells Zp 199=some [.int .u32 0,.int .u32 0,.int .u32 0]:=by kernel_rfl
theorem z201:zcells Zp 201=some (List.replicate 12 (.int .u8 0)):=by kernel_rfl
theorem z212:zcells Zp 212=some [.int .u64 0,.int .u64 0,.int .u64 0,.int .u64 0,.int .i64 0,.slice none 0 0]:=by kernel_rfl
theorem z213:zcells Zp 213=some (List.replicate 8 (.int .u8 0)):=by kernel_rfl
theorem size_any (n:Int) (w:World):Calls Zp 96 #[.int .i64 n] w fun e w'=>e = .returned (.bool (szB n))∧w=w':=by
  have M:=Md.refl [] w;refine enter (n:=17) Tryz.func96 rfl rfl rfl fun B=>ns (an rfl (nm rfl (st _ (r_eq rfl rfl) (mv rfl ?_))));refine part_n (t:=5) rfl (fun C=>?_) (fun C=>?_)
  · (have F:=dT C);refine sk C (sk C (st _ (r_pick_t rfl C rfl) (mv rfl (sk rfl (sk rfl (st _ (r_pick_t rfl rfl rfl) (mv rfl (sk rfl (sk rfl (st _ (r_pick_t rfl rfl rfl) (ar rfl ?_)))))))))));exact ret1 trivial rfl rfl ⟨retB (by rw[Bool.eq_iff_iff];simp[szB];omega),rfl⟩
  (have F:=dF C);refine sg C (r_move rfl) (sg C (r_eq rfl rfl) (st _ (r_pick_f rfl C rfl) (mv rfl ?_)));refine part_n (t:=9) rfl (fun D=>?_) (fun D=>?_)
  · (have G:=dT D);refine sk D (sk D (st _ (r_pick_t rfl D rfl) (mv rfl (sk rfl (sk rfl (st _ (r_pick_t rfl rfl rfl) (ar rfl ?_)))))));exact ret1 trivial rfl rfl ⟨retB (by rw[Bool.eq_iff_iff];simp[szB];omega),rfl⟩
  (have G:=dF D);refine sg D (r_move rfl) (sg D (r_eq rfl rfl) (st _ (r_pick_f rfl D rfl) (mv rfl ?_)));refine part_n (t:=13) rfl (fun A=>?_) (fun A=>?_)
  · (have E:=dT A);refine sk A (sk A (st _ (r_pick_t rfl A rfl) (ar rfl ?_)));exact ret1 trivial rfl rfl ⟨retB (by rw[Bool.eq_iff_iff];simp[szB];omega),rfl⟩
  (have E:=dF A);refine sg A (r_move rfl) (sg A (r_eq rfl rfl) (st _ (r_pick_f rfl A rfl) (ar rfl ?_)));exact ret1 trivial rfl rfl ⟨retB (by rw[Bool.eq_iff_iff];simp[szB];omega),rfl⟩
theorem get_ok (v:Value) (l:Ly) (a n:Int) (w:World) (hB:By w v l) (hn:n=1∨n=2∨n=4∨n=8) (ha:0≤a) (hl:a+n≤l.length) :
    Calls Zp 84 #[v,.int .i64 a,.int .i64 n] w fun e w'=>e = .returned (.tuple #[.int .u64 (leNum ((l.drop a.toNat).take n.toNat)),.bool true])∧w=w':=by
  have E:szB n=true:=(by simp[szB];omega);have I:=hB.len63;have M:=Md.refl [] w;refine enter (n:=42) Tryz.func84 rfl rfl rfl fun B=>ns (asg rfl (an rfl (c_seq (nm rfl (st_call fn96 rfl (size_any _ _) ?_)))));rintro e _ ⟨rfl,rfl⟩;refine rv ?_;refine st _ (r_not rfl) (mv rfl (st_g _ rfl rfl rfl (by rw[E];rfl) (r_move rfl) (st_g _ rfl rfl rfl (by rw[E];rfl) (r_lt rfl rfl) (st _ (r_pick_f rfl (by rw[E];rfl) rfl) (mv rfl ?_)))));refine part_n (t:=17) rfl (fun A=>?_) (fun A=>?_)
  · (have F:=dT A);exfalso;omega
  (have F:=dF A);refine sg A (r_move rfl) (sg A (r_move rfl) (sg A (r_len rfl u31 hB.shp) (sg A (r_move rfl) (sg A (r_subI rfl rfl (by omega)) (sg A (r_gt rfl rfl) (st _ (r_pick_f rfl A rfl) (nt ?_)))))));refine c_if rfl (fun C=>?_) (fun C=>?_)
  · (have G:=dT C);exfalso;omega
  (have G:=dF C);refine c_skip (c_then (ns (an rfl (c_seq (nm rfl (st _ (r_subI rfl rfl (by omega)) (asg rfl (nt (c_block ?_)))))))));refine c_loop (X:=Nat) (fun k=>[(0,v),(1,.int .i64 a),(8,.int .u64 (leNum ((l.drop (a.toNat+(n.toNat-k))).take k))),(9,.int .i64 (n-1-k))]) (fun k w'=>w=w'∧(k:Int)≤n) (fun k=>(n-k).toNat) 0 ?_ ?_ ?_
  · exact⟨rfl,rfl,fitI rfl (by simp[leNum]),fitI rfl (by omega),tV⟩
  · exact⟨rfl,by omega⟩
  clear M
  rintro k B J ⟨rfl,hk⟩;refine c_seq (nm rfl (st _ (r_ge rfl rfl) (nt ?_)));refine c_if rfl (fun D=>?_) (fun D=>?_)
  · (have H:=dT D);refine c_skip (c_then (c_seq (c_block (c_region (mv rfl (st _ (r_shl rfl rfl (by omega)) (m2 rfl rfl (mv rfl (st _ (r_addI rfl rfl (by omega)) (st _ (r_index rfl rfl u31 el5 hB.shp (by omega)) (st _ (r_loadB rfl one5 hB (by omega)) (st _ (r_conv (by rw[u5];rfl) u33 rfl) ?_))))))))))));refine st _ (r_or rfl rfl) (asg rfl (st_nil (n_block (c_then (c_region (mv rfl (st _ (r_subI rfl rfl (by omega)) (an rfl (next (k+1) (by omega) ⟨rfl,rfl,fitI rfl (get_round a n k hn ha hl (by omega)),fitI rfl (by omega),tV⟩ ?_)))))))));exact⟨rfl,by omega⟩
  (have H:=dF D);refine c_exit (x_then (x_then (x_hit (c_then (nm rfl (asg rfl (ar rfl ?_)))))));exact ret2 trivial rfl rfl rfl ⟨retV (by obtain rfl:(k:Int)=n:=(by omega);simp),rfl⟩
theorem rot32_any (x k:Int) (w:World) (h0:0≤k) (h1:k<32):Calls Zp 118 #[.int .u32 x,.int .i64 k] w fun e w'=>e = .returned (.int .u32 (rot32 x k))∧w=w':=by
  have M:=Md.refl [] w;refine enter (n:=17) Tryz.func118 rfl rfl rfl fun B=>ns (an rfl (nm rfl (st _ (r_conv (by rw[u3];rfl) u121 rfl) (st _ ((r_and rfl rfl).castI (and31 h0 h1)) (asg rfl (nt (ns (m2 rfl rfl (st _ (r_shl rfl rfl (by omega)) (mv rfl ?_))))))))));refine mv rfl (st _ ((r_sub rfl rfl).castI (wrap_u64 (by omega) (by omega))) (st _ (r_shr rfl rfl (by omega)) (st _ (r_or rfl rfl) (ar rfl ?_))));exact ret1 trivial rfl rfl ⟨rfl,rfl⟩
theorem rot64_any (x k:Int) (w:World) (h0:0≤k) (h1:k<64):Calls Zp 126 #[.int .u64 x,.int .i64 k] w fun e w'=>e = .returned (.int .u64 (rot64 x k))∧w=w':=by
  have M:=Md.refl [] w;refine enter (n:=17) Tryz.func126 rfl rfl rfl fun B=>ns (an rfl (nm rfl (st _ (r_conv (by rw[u3];rfl) u121 rfl) (st _ ((r_and rfl rfl).castI (and63 h0 h1)) (asg rfl (nt (ns (m2 rfl rfl (st _ (r_shl rfl rfl (by omega)) (mv rfl ?_))))))))));refine mv rfl (st _ ((r_sub rfl rfl).castI (wrap_u64 (by omega) (by omega))) (st _ (r_shr rfl rfl (by omega)) (st _ (r_or rfl rfl) (ar rfl ?_))));exact ret1 trivial rfl rfl ⟨rfl,rfl⟩
theorem turn_any (x k:Int) (w:World) (h0:0≤k) (h1:k<32):Calls Zp 72 #[.int .u32 x,.int .u64 k] w fun e w'=>e = .returned (.int .u32 (rot32 x k))∧w=w':=by
  have M:=Md.refl [] w;refine enter (n:=13) Tryz.func72 rfl rfl rfl fun B=>ns (an rfl (ns (m2 rfl rfl (st _ (r_shl rfl rfl (by omega)) (mv rfl (mv rfl (st _ ((r_sub rfl rfl).castI (wrap_u64 (by omega) (by omega))) (st _ (r_shr rfl rfl (by omega)) (st _ (r_or rfl rfl) (asg rfl (nt ?_)))))))))));refine c_ret ?_;exact ret1 trivial rfl rfl ⟨rfl,rfl⟩
theorem up_any (x k:Int) (w:World) (h0:0≤k) (h1:k<64):Calls Zp 81 #[.int .u64 x,.int .u64 k] w fun e w'=>e = .returned (.int .u64 (rot64 x k))∧w=w':=by
  have M:=Md.refl [] w;refine enter (n:=13) Tryz.func81 rfl rfl rfl fun B=>ns (an rfl (ns (m2 rfl rfl (st _ (r_shl rfl rfl (by omega)) (mv rfl (mv rfl (st _ ((r_sub rfl rfl).castI (wrap_u64 (by omega) (by omega))) (st _ (r_shr rfl rfl (by omega)) (st _ (r_or rfl rfl) (asg rfl (nt ?_)))))))))));refine c_ret ?_;exact ret1 trivial rfl rfl ⟨rfl,rfl⟩
theorem tadd_any (b:Nat) (t:T3) (v:Value) (l:Ly) (w:World) (hT:Blk w b t.cells 199) (hB:By w v l) (hA:Apart v l [b]) (hl:12≤l.length) :
    Calls Zp 109 #[.pointer (some ⟨b,0,none⟩),v] w fun e w'=>e = .returned (.tuple #[])∧Md [b] w w'∧Blk w' b (add12 t l).cells 199:=by
  have M:=Md.refl [b] w;refine enter (n:=52) Tryz.func109 rfl rfl rfl fun B=>nm rfl (st_call fn84 rfl (get_ok _ _ 0 4 _ (hB.md M hA) (by decide) (by decide) (by omega)) ?_);rintro e _ ⟨rfl,rfl⟩;refine rv ?_;refine mv rfl (se rfl rfl (se rfl rfl (asg rfl (an rfl (nm rfl (st_call fn84 rfl (get_ok _ _ 4 4 _ (hB.md M hA) (by decide) (by decide) (by omega)) ?_))))));rintro e _ ⟨rfl,rfl⟩;refine rv ?_;refine mv rfl (se rfl rfl (se rfl rfl (asg rfl (an rfl (nm rfl (st_call fn84 rfl (get_ok _ _ 8 4 _ (hB.md M hA) (by decide) (by decide) (by omega)) ?_))))));rintro e _ ⟨rfl,rfl⟩;refine rv ?_;refine mv rfl (se rfl rfl (se rfl rfl (asg rfl (an rfl (nm rfl (sn rfl (sf rfl off199_0 (st _ (r_loadBlk rfl one58 hT rfl) (mv rfl (st _ (r_conv (by rw[u33];rfl) u58 rfl) (st _ (r_add rfl rfl) ?_)))))))))));refine sn rfl (sf rfl off199_0 (st_store rfl rfl one58 rfl hT (lB rfl) ?_));have A:=hT;clear hT;intro D C hT;replace M:=M.step1' C (by simp);refine nt (nm rfl (sn rfl (sf rfl off199_1 (st _ (r_loadBlk rfl one58 hT rfl) (mv rfl (st _ (r_conv (by rw[u33];rfl) u58 rfl) (st _ (r_add rfl rfl) (sn rfl (sf rfl off199_1 (st_store rfl rfl one58 rfl hT (lB rfl) ?_))))))))));have A:=hT;clear hT;intro E C hT;replace M:=M.step1' C (by simp);refine nt (c_region (mv rfl (sn rfl (sf rfl off199_2 (st _ (r_loadBlk rfl one58 hT rfl) ?_)))))
  refine mv rfl (st _ (r_conv (by rw[u33];rfl) u58 rfl) (st _ (r_add rfl rfl) (sn rfl (sf rfl off199_2 (st_store rfl rfl one58 rfl hT (lB rfl) ?_)))));have A:=hT;clear hT;intro F C hT;replace M:=M.step1' C (by simp);refine st_nil ?_;refine ret0 trivial rfl ⟨rfl,M,?_⟩;rw[show(add12 t l).cells=([.int .u32 (add12 t l).x,.int .u32 (add12 t l).y,.int .u32 (add12 t l).z]:List Value)from rfl];simp only[add12,← le4_take l 0 (by omega),← le4_take l 4 (by omega),← le4_take l 8 (by omega)];exact hT
theorem tmix_any (b:Nat) (t:T3) (w:World) (hT:Blk w b t.cells 199) :
    Calls Zp 110 #[.pointer (some ⟨b,0,none⟩)] w fun e w'=>e = .returned (.tuple #[])∧Md [b] w w'∧Blk w' b (mix t).cells 199:=by
  have M:=Md.refl [b] w;refine enter (n:=89) Tryz.func110 rfl rfl rfl ?_;intro B;refine c_seq (c_quiet (fun w'=>Md [] w w') mixed (by kernel_rfl) (Md.drew w) (q _ (fun w' m=>r_move rfl) (q _ (fun w' m=>r_nil rfl) (q _ (fun w' m=>r_field rfl off199_0) (q _ (fun w' m=>r_loadBlk rfl one58 (hT.o m) rfl) (q _ (fun w' m=>r_move rfl) (q _ (fun w' m=>r_nil rfl) (q _ (fun w' m=>r_field rfl off199_1) (q _ (fun w' m=>r_loadBlk rfl one58 (hT.o m) rfl) (q _ (fun w' m=>r_move rfl) (q _ (fun w' m=>r_nil rfl) (q _ (fun w' m=>r_field rfl off199_2) (q _ (fun w' m=>r_loadBlk rfl one58 (hT.o m) rfl) ?_)))))))))))));refine q _ (fun w' m=>r_assign rfl) (q _ (fun w' m=>r_assign rfl) (q _ (fun w' m=>r_assign rfl) (q_nil ?_)));intro D A;replace hT:=hT.o A;replace M:=M.k A;refine c_then (ns (m2 rfl rfl (st _ (r_sub rfl rfl) (an rfl (nm rfl (mv rfl (st_call fn118 rfl (rot32_any _ _ _ (by decide) (by decide)) ?_)))))));rintro e _ ⟨rfl,rfl⟩;refine rv ?_;refine st _ (r_xor rfl rfl) (an rfl (ns (m2 rfl rfl (st _ (r_add rfl rfl) (asg rfl (nt (nm rfl (mv rfl (st _ (r_sub rfl rfl) (asg rfl ?_))))))))));refine nt (ns (m2 rfl rfl (st_call fn118 rfl (rot32_any _ _ _ (by decide) (by decide)) ?_)));rintro e _ ⟨rfl,rfl⟩;refine rv ?_;refine st _ (r_xor rfl rfl) (an rfl (ns (m2 rfl rfl (st _ (r_add rfl rfl) (asg rfl (nt (nm rfl (mv rfl (st _ (r_sub rfl rfl) ?_)))))))))
  refine an rfl (ns (m2 rfl rfl (st_call fn118 rfl (rot32_any _ _ _ (by decide) (by decide)) ?_)));rintro e _ ⟨rfl,rfl⟩;refine rv ?_;refine st _ (r_xor rfl rfl) (an rfl (ns (m2 rfl rfl (st _ (r_add rfl rfl) (asg rfl (nt (nm rfl (mv rfl (st _ (r_sub rfl rfl) (asg rfl ?_))))))))));refine nt (ns (m2 rfl rfl (st_call fn118 rfl (rot32_any _ _ _ (by decide) (by decide)) ?_)));rintro e _ ⟨rfl,rfl⟩;refine rv ?_;refine st _ (r_xor rfl rfl) (an rfl (ns (m2 rfl rfl (st _ (r_add rfl rfl) (asg rfl (nt (nm rfl (mv rfl (st _ (r_sub rfl rfl) (asg rfl ?_))))))))));refine nt (ns (m2 rfl rfl (st_call fn118 rfl (rot32_any _ _ _ (by decide) (by decide)) ?_)));rintro e _ ⟨rfl,rfl⟩;refine rv ?_;refine st _ (r_xor rfl rfl) (an rfl (ns (m2 rfl rfl (st _ (r_add rfl rfl) (asg rfl (nt (nm rfl (mv rfl (st _ (r_sub rfl rfl) (asg rfl ?_))))))))));refine nt (ns (m2 rfl rfl (st_call fn118 rfl (rot32_any _ _ _ (by decide) (by decide)) ?_)));rintro e _ ⟨rfl,rfl⟩;refine rv ?_;refine st _ (r_xor rfl rfl) (an rfl (ns ?_))
  refine m2 rfl rfl (st _ (r_add rfl rfl) (an rfl (c_region (mv rfl (mv rfl (mv rfl (mv rfl (mv rfl (mv rfl (sn rfl (sf rfl off199_0 ?_)))))))))));refine st_store rfl rfl one58 rfl hT (lB rfl) ?_;have C:=hT;clear hT;intro E A hT;replace M:=M.step1' A (by simp);refine sn rfl (sf rfl off199_1 (st_store rfl rfl one58 rfl hT (lB rfl) ?_));have C:=hT;clear hT;intro F A hT;replace M:=M.step1' A (by simp);refine sn rfl (sf rfl off199_2 (st_store rfl rfl one58 rfl hT (lB rfl) ?_));have C:=hT;clear hT;intro G A hT;replace M:=M.step1' A (by simp);refine st_nil ?_;exact ret0 trivial rfl ⟨rfl,M,hT⟩
theorem tlast_any (b:Nat) (t:T3) (w:World) (hT:Blk w b t.cells 199) :
    Calls Zp 111 #[.pointer (some ⟨b,0,none⟩)] w fun e w'=>e = .returned (.tuple #[])∧Md [b] w w'∧Blk w' b (last t).cells 199:=by
  have M:=Md.refl [b] w;refine enter (n:=78) Tryz.func111 rfl rfl rfl ?_;intro B;refine c_seq (c_quiet (fun w'=>Md [] w w') mixed (by kernel_rfl) (Md.drew w) (q _ (fun w' m=>r_move rfl) (q _ (fun w' m=>r_nil rfl) (q _ (fun w' m=>r_field rfl off199_0) (q _ (fun w' m=>r_loadBlk rfl one58 (hT.o m) rfl) (q _ (fun w' m=>r_move rfl) (q _ (fun w' m=>r_nil rfl) (q _ (fun w' m=>r_field rfl off199_1) (q _ (fun w' m=>r_loadBlk rfl one58 (hT.o m) rfl) (q _ (fun w' m=>r_move rfl) (q _ (fun w' m=>r_nil rfl) (q _ (fun w' m=>r_field rfl off199_2) (q _ (fun w' m=>r_loadBlk rfl one58 (hT.o m) rfl) ?_)))))))))))));refine q _ (fun w' m=>r_assign rfl) (q _ (fun w' m=>r_assign rfl) (q _ (fun w' m=>r_assign rfl) (q_nil ?_)));intro D A;replace hT:=hT.o A;replace M:=M.k A;refine c_then (ns (m2 rfl rfl (st _ (r_xor rfl rfl) (an rfl (nm rfl (mv rfl (st_call fn118 rfl (rot32_any _ _ _ (by decide) (by decide)) ?_)))))));rintro e _ ⟨rfl,rfl⟩;refine rv ?_;refine st _ (r_sub rfl rfl) (an rfl (ns (m2 rfl rfl (st _ (r_xor rfl rfl) (asg rfl (nt (nm rfl (mv rfl (st_call fn118 rfl (rot32_any _ _ _ (by decide) (by decide)) ?_)))))))));rintro e _ ⟨rfl,rfl⟩;refine rv ?_;refine st _ (r_sub rfl rfl) (an rfl (ns (m2 rfl rfl (st _ (r_xor rfl rfl) (asg rfl (nt (nm rfl (mv rfl (st_call fn118 rfl (rot32_any _ _ _ (by decide) (by decide)) ?_)))))))));rintro e _ ⟨rfl,rfl⟩;refine rv ?_;refine st _ (r_sub rfl rfl) (an rfl (c_seq ?_))
  refine c_region (m2 rfl rfl (st _ (r_xor rfl rfl) (an rfl (nm rfl (mv rfl (st_call fn118 rfl (rot32_any _ _ _ (by decide) (by decide)) ?_))))));rintro e _ ⟨rfl,rfl⟩;refine rv ?_;refine st _ (r_sub rfl rfl) (an rfl (ns (m2 rfl rfl (st _ (r_xor rfl rfl) (asg rfl (nt (nm rfl (mv rfl (st_call fn118 rfl (rot32_any _ _ _ (by decide) (by decide)) ?_)))))))));rintro e _ ⟨rfl,rfl⟩;refine rv ?_;refine st _ (r_sub rfl rfl) (an rfl (ns (m2 rfl rfl (st _ (r_xor rfl rfl) (asg rfl (nt (nm rfl (mv rfl (st_call fn118 rfl (rot32_any _ _ _ (by decide) (by decide)) ?_)))))))));rintro e _ ⟨rfl,rfl⟩;refine rv ?_;refine st _ (r_sub rfl rfl) (an rfl (ns (m2 rfl rfl (st _ (r_xor rfl rfl) (asg rfl (nt (nm rfl (mv rfl (st_call fn118 rfl (rot32_any _ _ _ (by decide) (by decide)) ?_)))))))));rintro e _ ⟨rfl,rfl⟩;refine rv ?_;refine st _ (r_sub rfl rfl) (an rfl (c_region (m2 rfl rfl (mv rfl (mv rfl (mv rfl (mv rfl (sn rfl (sf rfl off199_0 (st_store rfl rfl one58 rfl hT (lB rfl) ?_))))))))));have C:=hT;clear hT;intro E A hT;replace M:=M.step1' A (by simp);refine sn rfl (sf rfl off199_1 (st_store rfl rfl one58 rfl hT (lB rfl) ?_))
  have C:=hT;clear hT;intro F A hT;replace M:=M.step1' A (by simp);refine sn rfl (sf rfl off199_2 (st_store rfl rfl one58 rfl hT (lB rfl) ?_));have C:=hT;clear hT;intro G A hT;replace M:=M.step1' A (by simp);refine st_nil ?_;exact ret0 trivial rfl ⟨rfl,M,hT⟩
theorem lookup_any (v:Value) (l:Ly) (w:World) (hB:By w v l) :
    Calls Zp 104 #[v] w fun e w'=>e = .returned (.int .u64 (lookup l))∧Md [] w w':=by
  have Q:=hB.len63;have M:=Md.refl [] w;refine enter (n:=40) Tryz.func104 rfl rfl rfl fun B=>ns (an rfl (nm rfl (sL rfl u31 hB.shp (st _ (r_conv (by rw[u3];rfl) u58 rfl) (st _ (r_add rfl rfl) (asg rfl (nt (ns (m2 rfl rfl (mv rfl ?_))))))))));refine st (.agg [_,_,_].toArray) (r_build (ps:=[(0,0),(1,1),(2,2)]) z199 pl199 rfl rfl ⟨rfl,rfl,rfl,tV⟩ rfl rfl rfl) (st_alloc z199 ?_);intro G W F V C A;replace F:=lj M.size F;replace M:=M.k C;refine st_storeAll rfl rfl (by exact agg199) (by simp[Value.oneCell']) A (by rfl) ?_;have E:=A;clear A;intro Y C A;replace M:=M.step1 C F;refine nt (c_seq (c_block ?_));refine c_loop (X:=T3 × List UInt8 × Value) (fun x=>[(0,x.2.2),(4,.pointer (some ⟨G,0,none⟩))]) (fun x w'=>Md [] w w'∧Blk w' G x.1.cells 199∧By w x.2.2 x.2.1∧lk x.1 x.2.1=lookup l∧x.2.1.length≤l.length) (fun x=>x.2.1.length) (lkInit l,l,v) ?_ ?_ ?_
  · exact⟨rfl,rfl,tV⟩
  · exact⟨M,A,hB,rfl,Nat.le_refl _⟩
  clear M
  clear A hB;rintro x B Z ⟨M,A,hB,K,S⟩;refine c_seq (nm rfl (sL rfl u31 hB.shp (st _ (r_gt rfl rfl) (nt ?_))));refine c_if rfl (fun H=>?_) (fun H=>?_)
  · (have L:=dT H);refine c_skip (c_then (c_block (nm rfl (st _ (r_slice 0 12 u31 el5 rfl hB.shp (by omega) (by omega) rfl ⟨_,rfl⟩) (st_call fn109 rfl (tadd_any G x.1 _ _ _ A ((hB.o M).sub 0 12 (by omega) (by omega)) ((apartOld hB F).sub 0 12) (by simp;omega)) ?_)))));have E:=A;clear A;rintro e a ⟨rfl,C,A⟩;refine rv ?_;replace M:=M.step1 C F;refine nt (ns (st_call fn110 rfl (tmix_any G _ _ A) ?_));have E:=A;clear A;rintro e b ⟨rfl,C,A⟩;refine rv ?_;replace M:=M.step1 C F;refine nt (c_region (mv rfl (st _ (r_slice 12 x.2.1.length u31 el5 rfl hB.shp (by omega) (by omega) ⟨_,rfl⟩ rfl) (asg rfl (st_nil (n_block (c_then (next ((mix (add12 x.1 ((x.2.1.take 12).drop 0)),(x.2.1.take x.2.1.length).drop 12,subv x.2.2 12 x.2.1.length)) (by simp;omega) ⟨rfl,rfl,tV⟩ ?_))))))));refine⟨M,A,hB.sub 12 _ (by omega) (by omega),?_,by simp;omega⟩;rw[List.drop_zero,add12_take _ _ 12 (by omega),List.take_length,← lk_step _ _ (by omega)];exact K
  (have L:=dF H);refine c_exit (x_then (x_then (x_hit (c_then (c_seq (nm rfl (sL rfl u31 hB.shp (st _ (r_gt rfl rfl) (nt ?_)))))))));refine c_if rfl (fun I=>?_) (fun I=>?_)
  · (have D:=dT I);refine ns (st_alloc z201 ?_);intro P c O U C J;have N:G≠P:=(by have:=A.lt;omega);replace O:=lj M.size O;replace A:=A.o C;replace M:=M.k C;refine nt (ns (st _ (r_sliceArr u201 el5 rfl (by decide)) (mv rfl (st_copy u31 el5 rfl rfl J (hB.o M) (one_b8 _) (by simp;omega) ?_))));have R:=J;clear J;intro T C J;replace A:=A.md1 C (by omega);replace M:=M.step1 C O;refine st_nil ?_;replace J:Blk T P ((padTo 12 x.2.1).map b8) 201:=(by rw[← splice_pad (m:=12) (by omega)];exact J);refine c_then (ns (st _ (r_sliceArr u201 el5 rfl (by decide)) (st_call fn109 rfl (tadd_any G x.1 _ _ _ A (By.of_blk J (padTo_len 12 _ (by omega)) (by decide)) (apart1 (Ne.symm N)) (by rw[padTo_len 12 _ (by omega)];omega)) ?_)));have E:=A;clear A;rintro e d ⟨rfl,C,A⟩;refine rv ?_;replace M:=M.step1 C F;refine nt (c_region (st_call fn111 rfl (tlast_any G _ _ A) ?_));have E:=A;clear A;rintro e f ⟨rfl,C,A⟩;refine rv ?_;replace M:=M.step1 C F;refine nt (ns (sf rfl off199_2 (st _ (r_loadBlk rfl one58 A rfl) (st _ (r_conv (by rw[u58];rfl) u33 rfl) (st _ (r_shl rfl rfl (by omega)) (sf rfl off199_1 (st _ (r_loadBlk rfl one58 A rfl) (st _ (r_conv (by rw[u58];rfl) u33 rfl) (st _ (r_or rfl rfl) (ar rfl ?_))))))))));refine ret1 trivial rfl rfl ⟨retI (Eq.trans ?_ K),M⟩;rw[lk_last x.1 x.2.1 (by intro h;rw[h]at D;simp at D) (by omega),← add12_pad x.1 12 x.2.1];rfl
  (have D:=dF I);refine c_skip (c_then (ns (sf rfl off199_2 (st _ (r_loadBlk rfl one58 A rfl) (st _ (r_conv (by rw[u58];rfl) u33 rfl) (st _ (r_shl rfl rfl (by omega)) (sf rfl off199_1 (st _ (r_loadBlk rfl one58 A rfl) (st _ (r_conv (by rw[u58];rfl) u33 rfl) (st _ (r_or rfl rfl) (ar rfl ?_)))))))))));refine ret1 trivial rfl rfl ⟨retI (Eq.trans ?_ K),M⟩;rw[show x.2.1=[]from List.eq_nil_of_length_eq_zero (by omega),lk_nil];rfl
theorem word_any (v:Value) (l:Ly) (a:Int) (w:World) (hB:By w v l) (ha:0≤a) (ha2:a≤4611686018427387904) :
    Calls Zp 71 #[v,.int .i64 a] w fun e w'=>e = .returned (.int .u32 (le4 l a.toNat))∧w=w':=by
  have F:=hB.len63;have M:=Md.refl [] w;refine enter (n:=29) Tryz.func71 rfl rfl rfl fun B=>ns (an rfl (ns (asg rfl (nt (c_seq (ns (asg rfl (nt (c_block ?_)))))))));refine c_loop (X:=Nat) (fun k=>[(0,v),(1,.int .i64 a),(5,.int .u32 (le4To l a.toNat k)),(6,.int .i64 (3-k))]) (fun k w'=>w=w'∧k≤4) (fun k=>4-k) 0 ?_ ?_ ?_
  · exact⟨rfl,rfl,rfl,rfl,tV⟩
  · exact⟨rfl,by omega⟩
  clear M
  rintro k B G ⟨rfl,hk⟩;have M:=Md.refl [] w;refine c_seq (nm rfl (st _ (r_ge rfl rfl) (nt ?_)));refine c_if rfl (fun D=>?_) (fun D=>?_)
  · (have E:=dT D);refine c_skip (c_then (c_seq (c_block (nm rfl (st _ (r_shl rfl rfl (by omega)) (an rfl (ns (m2 rfl rfl (st _ (r_addI rfl rfl (by omega)) (mv rfl ?_))))))))));refine sL rfl u31 hB.shp (st _ (r_lt rfl rfl) (nt ?_));refine c_if rfl (fun A=>?_) (fun A=>?_)
    · (have C:=dT A);refine c_region (m2 rfl rfl (mv rfl (mv rfl (st _ (r_addI rfl rfl (by omega)) (st _ (r_index rfl rfl u31 el5 hB.shp (by omega)) (st _ (r_loadB rfl one5 (hB.o M) (by omega)) (st _ (r_conv (by rw[u5];rfl) u58 rfl) (st _ (r_or rfl rfl) (asg rfl (st_nil (n_block (c_then ?_))))))))))));refine c_region (mv rfl (st _ (r_subI rfl rfl (by omega)) (an rfl (next (k+1) (by omega) ⟨rfl,rfl,fitI rfl (word_in l a k ha (by omega) (by omega)),fitI rfl (by omega),tV⟩ ?_))));exact⟨rfl,by omega⟩
    (have C:=dF A);refine c_skip (n_block (c_then (c_region (mv rfl (st _ (r_subI rfl rfl (by omega)) (an rfl (next (k+1) (by omega) ⟨rfl,rfl,fitI rfl (word_out l a k ha (by omega) (by omega)),fitI rfl (by omega),tV⟩ ?_)))))));exact⟨rfl,by omega⟩
  (have E:=dF D);refine c_exit (x_then (x_then (x_hit (c_then (nm rfl (ar rfl ?_))))));exact ret1 trivial rfl rfl ⟨retI (by obtain rfl:k=4:=(by omega);rfl),rfl⟩
theorem rlookup_any (v:Value) (l:Ly) (w:World) (hB:By w v l) (hl:l.length≤4611686018427387000) :
    Calls Zp 50 #[v] w fun e w'=>e = .returned (.int .u64 (lookup l))∧w=w':=by
  have G:=hB.len63;have M:=Md.refl [] w;refine enter (n:=178) Tryz.func50 rfl rfl rfl fun B=>ns (an rfl (nm rfl (sL rfl u31 hB.shp (st _ (r_conv (by rw[u3];rfl) u58 rfl) (st _ (r_add rfl rfl) (asg rfl (nt (ns (m2 rfl rfl (asg rfl ?_))))))))));refine an rfl (c_seq (nm rfl (sL rfl u31 hB.shp (st _ (r_eq rfl rfl) (nt ?_)))));refine c_if rfl (fun A=>?_) (fun A=>?_)
  · (have D:=dT A);refine nm rfl (st _ (r_conv (by rw[u58];rfl) u33 rfl) (st _ (r_shl rfl rfl (by omega)) (mv rfl (st _ (r_conv (by rw[u58];rfl) u33 rfl) (st _ (r_or rfl rfl) (ar rfl (r_then ?_)))))));refine ret1 trivial rfl rfl ⟨retI ?_,rfl⟩;rw[show l=[]from List.eq_nil_of_length_eq_zero (by omega)];rfl
  (have D:=dF A);refine c_skip (c_then (ns (an rfl (c_seq (c_block ?_)))));refine c_loop (X:=T3 × Nat) (fun x=>[(0,v),(3,.int .u32 x.1.x),(4,.int .u32 x.1.y),(5,.int .u32 x.1.z),(6,.int .i64 x.2)]) (fun x w'=>w=w'∧x.2<l.length∧lk x.1 (l.drop x.2)=lookup l) (fun x=>l.length-x.2) (lkInit l,0) ?_ ?_ ?_
  · exact⟨rfl,rfl,rfl,rfl,rfl,tV⟩
  · exact⟨rfl,by omega,rfl⟩
  clear M
  rintro x B H ⟨rfl,hk,F⟩;have M:=Md.refl [] w;refine c_seq (nm rfl (sL rfl u31 hB.shp (mv rfl (st _ (r_subI rfl rfl (by omega)) (st _ (r_gt rfl rfl) (nt ?_))))));refine c_if rfl (fun C=>?_) (fun C=>?_)
  · (have E:=dT C);refine c_skip (c_then (c_block (ns (m2 rfl rfl (mv rfl (st_call fn71 rfl (word_any _ _ _ _ (hB.o M) (by omega) (by omega)) ?_))))));rintro e _ ⟨rfl,rfl⟩;refine rv ?_;refine st _ (r_add rfl rfl) (m2 rfl rfl (mv rfl (st _ (r_addI rfl rfl (by omega)) (st_call fn71 rfl (word_any _ _ _ _ (hB.o M) (by omega) (by omega)) ?_))));rintro e _ ⟨rfl,rfl⟩;refine rv ?_;refine st _ (r_add rfl rfl) (m2 rfl rfl (mv rfl (st _ (r_addI rfl rfl (by omega)) (st_call fn71 rfl (word_any _ _ _ _ (hB.o M) (by omega) (by omega)) ?_))));rintro e _ ⟨rfl,rfl⟩;refine rv ?_;refine st _ (r_add rfl rfl) (asg rfl (asg rfl (an rfl (ns (m2 rfl rfl (st _ (r_sub rfl rfl) (asg rfl (nt (nm rfl (mv rfl ?_))))))))));refine st_call fn72 rfl (turn_any _ _ _ (by decide) (by decide)) ?_;rintro e _ ⟨rfl,rfl⟩;refine rv ?_;refine st _ (r_xor rfl rfl) (an rfl (ns (m2 rfl rfl (st _ (r_add rfl rfl) (asg rfl (nt (nm rfl (mv rfl (st _ (r_sub rfl rfl) (asg rfl ?_))))))))));refine nt (ns (m2 rfl rfl (st_call fn72 rfl (turn_any _ _ _ (by decide) (by decide)) ?_)));rintro e _ ⟨rfl,rfl⟩;refine rv ?_;refine st _ (r_xor rfl rfl) (an rfl (ns (m2 rfl rfl (st _ (r_add rfl rfl) ?_))))
    refine an rfl (ns (m2 rfl rfl (st _ (r_sub rfl rfl) (asg rfl (nt (nm rfl (mv rfl (st_call fn72 rfl (turn_any _ _ _ (by decide) (by decide)) ?_))))))));rintro e _ ⟨rfl,rfl⟩;refine rv ?_;refine st _ (r_xor rfl rfl) (an rfl (ns (m2 rfl rfl (st _ (r_add rfl rfl) (asg rfl (nt (nm rfl (mv rfl (st _ (r_sub rfl rfl) (asg rfl ?_))))))))));refine nt (ns (m2 rfl rfl (st_call fn72 rfl (turn_any _ _ _ (by decide) (by decide)) ?_)));rintro e _ ⟨rfl,rfl⟩;refine rv ?_;refine st _ (r_xor rfl rfl) (an rfl (ns (m2 rfl rfl (st _ (r_add rfl rfl) (asg rfl (nt (nm rfl (mv rfl (st _ (r_sub rfl rfl) (asg rfl ?_))))))))));refine nt (ns (m2 rfl rfl (st_call fn72 rfl (turn_any _ _ _ (by decide) (by decide)) ?_)));rintro e _ ⟨rfl,rfl⟩;refine rv ?_;refine st _ (r_xor rfl rfl) (an rfl (ns (m2 rfl rfl (st _ (r_add rfl rfl) (asg rfl (nt (nm rfl (mv rfl (st _ (r_sub rfl rfl) (asg rfl ?_))))))))));refine nt (ns (m2 rfl rfl (st_call fn72 rfl (turn_any _ _ _ (by decide) (by decide)) ?_)))
    rintro e _ ⟨rfl,rfl⟩;refine rv ?_;refine st _ (r_xor rfl rfl) (an rfl (ns (m2 rfl rfl (st _ (r_add rfl rfl) (asg rfl (nt (c_region (mv rfl (st _ (r_addI rfl rfl (by omega)) (asg rfl (st_nil ?_)))))))))));refine n_block (c_then (next ((mix ⟨w32 (x.1.x+le4 l (x.2:Int).toNat),w32 (x.1.y+le4 l (x.2+4:Int).toNat),w32 (x.1.z+le4 l (x.2+8:Int).toNat)⟩,x.2+12)) (by simp;omega) ⟨rfl,rfl,rfl,rfl,fitI rfl (by simp),tV⟩ ?_));refine⟨rfl,by simp;omega,?_⟩;rw[← F,lk_step _ (l.drop x.2) (by simp;omega),ref_add12,List.drop_drop]
  (have E:=dF C);refine c_exit (x_then (x_then (x_hit (c_then (ns (m2 rfl rfl (mv rfl (st_call fn71 rfl (word_any _ _ _ _ (hB.o M) (by omega) (by omega)) ?_))))))));rintro e _ ⟨rfl,rfl⟩;refine rv ?_;refine st _ (r_add rfl rfl) (m2 rfl rfl (mv rfl (st _ (r_addI rfl rfl (by omega)) (st_call fn71 rfl (word_any _ _ _ _ (hB.o M) (by omega) (by omega)) ?_))));rintro e _ ⟨rfl,rfl⟩;refine rv ?_;refine st _ (r_add rfl rfl) (m2 rfl rfl (mv rfl (st _ (r_addI rfl rfl (by omega)) (st_call fn71 rfl (word_any _ _ _ _ (hB.o M) (by omega) (by omega)) ?_))));rintro e _ ⟨rfl,rfl⟩;refine rv ?_;refine st _ (r_add rfl rfl) (asg rfl (asg rfl (an rfl (ns (m2 rfl rfl (st _ (r_xor rfl rfl) (asg rfl (nt (nm rfl (mv rfl ?_))))))))));refine st_call fn72 rfl (turn_any _ _ _ (by decide) (by decide)) ?_;rintro e _ ⟨rfl,rfl⟩;refine rv ?_;refine st _ (r_sub rfl rfl) (an rfl (ns (m2 rfl rfl (st _ (r_xor rfl rfl) (asg rfl (nt (nm rfl (mv rfl (st_call fn72 rfl (turn_any _ _ _ (by decide) (by decide)) ?_)))))))));rintro e _ ⟨rfl,rfl⟩;refine rv ?_;refine st _ (r_sub rfl rfl) (an rfl (ns (m2 rfl rfl (st _ (r_xor rfl rfl) (asg rfl (nt (nm rfl (mv rfl ?_))))))))
  refine st_call fn72 rfl (turn_any _ _ _ (by decide) (by decide)) ?_;rintro e _ ⟨rfl,rfl⟩;refine rv ?_;refine st _ (r_sub rfl rfl) (an rfl (ns (m2 rfl rfl (st _ (r_xor rfl rfl) (asg rfl (nt (nm rfl (mv rfl (st_call fn72 rfl (turn_any _ _ _ (by decide) (by decide)) ?_)))))))));rintro e _ ⟨rfl,rfl⟩;refine rv ?_;refine st _ (r_sub rfl rfl) (an rfl (ns (m2 rfl rfl (st _ (r_xor rfl rfl) (asg rfl (nt (nm rfl (mv rfl (st_call fn72 rfl (turn_any _ _ _ (by decide) (by decide)) ?_)))))))));rintro e _ ⟨rfl,rfl⟩;refine rv ?_;refine st _ (r_sub rfl rfl) (an rfl (ns (m2 rfl rfl (st _ (r_xor rfl rfl) (asg rfl (nt (nm rfl (mv rfl (st_call fn72 rfl (turn_any _ _ _ (by decide) (by decide)) ?_)))))))));rintro e _ ⟨rfl,rfl⟩;refine rv ?_;refine st _ (r_sub rfl rfl) (an rfl (ns (m2 rfl rfl (st _ (r_xor rfl rfl) (asg rfl (nt (nm rfl (mv rfl (st_call fn72 rfl (turn_any _ _ _ (by decide) (by decide)) ?_)))))))));rintro e _ ⟨rfl,rfl⟩;refine rv ?_;refine st _ (r_sub rfl rfl) (an rfl (nm rfl (st _ (r_conv (by rw[u58];rfl) u33 rfl) (st _ (r_shl rfl rfl (by omega)) (mv rfl (st _ (r_conv (by rw[u58];rfl) u33 rfl) (st _ (r_or rfl rfl) (asg rfl ?_))))))))
  refine nt (c_ret ?_);refine ret1 trivial rfl rfl ⟨retI ?_,rfl⟩;rw[← F,lk_last _ _ (by intro h;have:=congrArg List.length h;simp at this;omega) (by simp;omega),← ref_add12];rfl
theorem round_any (b:Nat) (v:S4) (n t:Int) (rest:Value) (w:World) (hT:Blk w b (v.cells n rest) 212) (ht:0≤t) (ht2:t≤100) :
    Calls Zp 125 #[.pointer (some ⟨b,0,none⟩),.int .i64 t] w fun e w'=>e = .returned (.tuple #[])∧Md [b] w w'∧Blk w' b ((sipRounds t.toNat v).cells n rest) 212:=by
  have M:=Md.refl [b] w;refine enter (n:=76) Tryz.func125 rfl rfl rfl ?_;intro B;refine c_seq (c_quiet (fun w'=>Md [] w w') mixed (by kernel_rfl) (Md.drew w) (q _ (fun w' m=>r_move rfl) (q _ (fun w' m=>r_nil rfl) (q _ (fun w' m=>r_field rfl off212_0) (q _ (fun w' m=>r_loadBlk rfl one33 (hT.o m) rfl) (q _ (fun w' m=>r_move rfl) (q _ (fun w' m=>r_nil rfl) (q _ (fun w' m=>r_field rfl off212_1) (q _ (fun w' m=>r_loadBlk rfl one33 (hT.o m) rfl) (q _ (fun w' m=>r_move rfl) (q _ (fun w' m=>r_nil rfl) (q _ (fun w' m=>r_field rfl off212_2) (q _ (fun w' m=>r_loadBlk rfl one33 (hT.o m) rfl) ?_)))))))))))));refine q _ (fun w' m=>r_move rfl) (q _ (fun w' m=>r_nil rfl) (q _ (fun w' m=>r_field rfl off212_3) (q _ (fun w' m=>r_loadBlk rfl one33 (hT.o m) rfl) (q _ (fun w' m=>r_assign rfl) (q _ (fun w' m=>r_assign rfl) (q _ (fun w' m=>r_assign rfl) (q _ (fun w' m=>r_assign rfl) (q_nil ?_))))))));intro F A;replace hT:=hT.o A;replace M:=M.k A;refine c_then (c_seq (ns (m2 rfl rfl (nt (c_block ?_)))));refine c_loop (X:=Nat) (fun k=>[(0,.pointer (some ⟨b,0,none⟩)),(4,.int .u64 (sipRounds k v).p),(5,.int .u64 (sipRounds k v).q),(6,.int .u64 (sipRounds k v).r),(7,.int .u64 (sipRounds k v).s),(24,.int .i64 t),(25,.int .i64 k)]) (fun k w'=>Md [b] w w'∧Blk w' b (v.cells n rest) 212∧(k:Int)≤t) (fun k=>(t-k).toNat) 0 ?_ ?_ ?_
  · exact⟨rfl,rfl,rfl,rfl,rfl,rfl,rfl,tV⟩
  · exact⟨M,hT,ht⟩
  clear M
  clear hT;rintro k B G ⟨M,hT,hk⟩;refine ns (st _ (r_lt rfl rfl) (nt (c_seq ?_)));refine c_if rfl (fun C=>?_) (fun C=>?_)
  · (have E:=dT C);refine c_skip (c_then (c_seq (c_block (ns (m2 rfl rfl (st _ (r_add rfl rfl) (an rfl (nm rfl (st_call fn126 rfl (rot64_any _ _ _ (by decide) (by decide)) ?_)))))))));rintro e _ ⟨rfl,rfl⟩;refine rv ?_;refine mv rfl (st _ (r_xor rfl rfl) (an rfl (nm rfl (st_call fn126 rfl (rot64_any _ _ _ (by decide) (by decide)) ?_))));rintro e _ ⟨rfl,rfl⟩;refine rv ?_;refine an rfl (ns (m2 rfl rfl (st _ (r_add rfl rfl) (asg rfl (nt (nm rfl (st_call fn126 rfl (rot64_any _ _ _ (by decide) (by decide)) ?_)))))));rintro e _ ⟨rfl,rfl⟩;refine rv ?_;refine mv rfl (st _ (r_xor rfl rfl) (an rfl (ns (m2 rfl rfl (st _ (r_add rfl rfl) (asg rfl (nt (nm rfl (st_call fn126 rfl (rot64_any _ _ _ (by decide) (by decide)) ?_)))))))));rintro e _ ⟨rfl,rfl⟩;refine rv ?_;refine mv rfl (st _ (r_xor rfl rfl) (an rfl (ns (m2 rfl rfl (st _ (r_add rfl rfl) (asg rfl (nt (nm rfl (st_call fn126 rfl (rot64_any _ _ _ (by decide) (by decide)) ?_)))))))));rintro e _ ⟨rfl,rfl⟩;refine rv ?_;refine mv rfl (st _ (r_xor rfl rfl) (an rfl (c_region (mv rfl ?_))))
    refine st_call fn126 rfl (rot64_any _ _ _ (by decide) (by decide)) ?_;rintro e _ ⟨rfl,rfl⟩;refine rv ?_;refine asg rfl (st_nil (n_block (c_then (c_region (st _ (r_addI rfl rfl (by omega)) (mv rfl (nt (next (k+1) (by omega) ⟨rfl,rfl,rfl,rfl,rfl,rfl,rfl,tV⟩ ?_))))))));exact⟨M,hT,by omega⟩
  (have E:=dF C);refine c_exit (x_then (x_then (x_hit (c_then (c_region (m2 rfl rfl (mv rfl (mv rfl (mv rfl (mv rfl (mv rfl (mv rfl ?_))))))))))));refine sn rfl (sf rfl off212_0 (st_store rfl rfl one33 rfl hT (lB rfl) ?_));have D:=hT;clear hT;intro H A hT;replace M:=M.step1' A (by simp);refine sn rfl (sf rfl off212_1 (st_store rfl rfl one33 rfl hT (lB rfl) ?_));have D:=hT;clear hT;intro I A hT;replace M:=M.step1' A (by simp);refine sn rfl (sf rfl off212_2 (st_store rfl rfl one33 rfl hT (lB rfl) ?_));have D:=hT;clear hT;intro J A hT;replace M:=M.step1' A (by simp);refine sn rfl (sf rfl off212_3 (st_store rfl rfl one33 rfl hT (lB rfl) ?_));have D:=hT;clear hT;intro K A hT;replace M:=M.step1' A (by simp);refine st_nil ?_;obtain rfl:(k:Int)=t:=(by omega);exact ret0 trivial rfl ⟨rfl,M,hT⟩
theorem round2_any (b:Nat) (v:S4) (n:Int) (rest:Value) (w:World) (hT:Blk w b (v.cells n rest) 212) :
    Calls Zp 125 #[.pointer (some ⟨b,0,none⟩),.int .i64 2] w fun e w'=>e = .returned (.tuple #[])∧Md [b] w w'∧Blk w' b ((sipRounds 2 v).cells n rest) 212 :=
  round_any b v n 2 rest w hT (by decide) (by decide)
theorem round4_any (b:Nat) (v:S4) (n:Int) (rest:Value) (w:World) (hT:Blk w b (v.cells n rest) 212) :
    Calls Zp 125 #[.pointer (some ⟨b,0,none⟩),.int .i64 4] w fun e w'=>e = .returned (.tuple #[])∧Md [b] w w'∧Blk w' b ((sipRounds 4 v).cells n rest) 212 :=
  round_any b v n 4 rest w hT (by decide) (by decide)
theorem sword_any (b:Nat) (v:S4) (n m:Int) (rest:Value) (w:World) (hT:Blk w b (v.cells n rest) 212) :
    Calls Zp 124 #[.pointer (some ⟨b,0,none⟩),.int .u64 m] w fun e w'=>e = .returned (.tuple #[])∧Md [b] w w'∧Blk w' b ((sipWord v m).cells n rest) 212:=by
  have M:=Md.refl [b] w;refine enter (n:=22) Tryz.func124 rfl rfl rfl fun B=>nm rfl (sn rfl (sf rfl off212_3 (st _ (r_loadBlk rfl one33 hT rfl) (mv rfl (st _ (r_xor rfl rfl) (sn rfl (sf rfl off212_3 (st_store rfl rfl one33 rfl hT (lB rfl) ?_))))))));have A:=hT;clear hT;intro D C hT;replace M:=M.step1' C (by simp);refine st_nil ?_;replace hT:=(set_xs v m n rest) ▸ hT;refine c_then (nm rfl (st_call fn125 rfl (round2_any b _ _ _ _ hT) ?_));have A:=hT;clear hT;rintro e E ⟨rfl,C,hT⟩;refine rv ?_;replace M:=M.step1' C (by simp);refine nt (c_region (mv rfl (sn rfl (sf rfl off212_0 (st _ (r_loadBlk rfl one33 hT rfl) (mv rfl (st _ (r_xor rfl rfl) (sn rfl (sf rfl off212_0 (st_store rfl rfl one33 rfl hT (lB rfl) ?_))))))))));have A:=hT;clear hT;intro F C hT;replace M:=M.step1' C (by simp);refine st_nil ?_;replace hT:=(set_xp _ m n rest) ▸ hT;exact ret0 trivial rfl ⟨rfl,M,hT⟩
theorem new_any (key:Ly) (w:World) (hk:key.length=16) :
    Calls Zp 119 #[.agg (key.map b8).toArray] w fun e w'=>∃b,e = .returned (.pointer (some ⟨b,0,none⟩))∧w.heap.size≤b∧b<w'.heap.size∧Md [] w w'∧Blk w' b ((sipInit key).cells 0 SN) 212:=by
  have M:=Md.refl [] w;refine enter (n:=27) Tryz.func119 rfl rfl rfl fun B=>ns (st_box rfl rfl ?_);intro I L F J D C;replace F:=lj M.size F;replace M:=M.k D;refine an rfl (ns (st _ (r_sliceArr u35 el5 rfl (by decide)) (st_call fn84 rfl (get_ok _ key 0 8 _ (By.of_blk C hk (by decide)) (by decide) (by decide) (by rw[hk];decide)) ?_)));rintro e _ ⟨rfl,rfl⟩;refine rv ?_;refine mv rfl (se rfl rfl (se rfl rfl (asg rfl (an rfl (ns (st _ (r_sliceArr u35 el5 rfl (by decide)) (st_call fn84 rfl (get_ok _ key 8 8 _ (By.of_blk C hk (by decide)) (by decide) (by decide) (by rw[hk];decide)) ?_)))))));rintro e _ ⟨rfl,rfl⟩;refine rv ?_;refine mv rfl (se rfl rfl (se rfl rfl (asg rfl (an rfl (nm rfl (st _ (r_xor rfl rfl) (mv rfl (st _ (r_xor rfl rfl) (mv rfl (st _ (r_xor rfl rfl) (mv rfl ?_)))))))))));refine st _ (r_xor rfl rfl) (st (.agg [_,_,_,_,_,_].toArray) (r_build (ps:=[(0,0),(1,1),(2,2),(3,3)]) z212 pl212 rfl rfl ⟨rfl,rfl,rfl,rfl,tV⟩ rfl rfl rfl) (st_box rfl rfl ?_));intro E N A K D G;have H:I≠E:=(by have:=C.lt;omega);replace A:=lj M.size A;replace M:=M.k D;refine ar rfl ?_;refine ret1 trivial rfl rfl ⟨E,rfl,A,?_,M,G⟩;exact G.lt
theorem add_any (b:Nat) (v:S4) (n:Int) (rest:Value) (rl:Ly) (s:Value) (l:Ly) (w:World) (hT:Blk w b (v.cells n rest) 212) (hO:Own w 5 1 rest rl.length (rl.map b8)) (hr:rl.length<8) (hB:By w s l) (hA:Apart s l (b :: (vblock rest).toList)) (hn:0≤n) (hn2:n+l.length≤4611686018427387904) :
    Calls Zp 120 #[.pointer (some ⟨b,0,none⟩),s] w fun e w'=>e = .returned (.tuple #[])∧∃rest',Md (b :: (vblock rest).toList) w w'∧Blk w' b ((sipAbs v (rl ++ l)).1.cells (n+l.length) rest') 212∧Own w' 5 1 rest' (sipAbs v (rl ++ l)).2.length ((sipAbs v (rl ++ l)).2.map b8)∧(∀g,vblock rest'=some g→vblock rest=some g∨w.heap.size≤g):=by
  have M:=Md.refl (b :: (vblock rest).toList) w;refine enter (n:=67) Tryz.func120 rfl rfl rfl fun B=>nm rfl (sn rfl (sf rfl off212_4 (st _ (r_loadBlk rfl one3 hT rfl) (mv rfl (sL rfl u31 hB.shp (st _ (r_addI rfl rfl (by omega)) (sn rfl (sf rfl off212_4 (st_store rfl rfl one3 rfl hT (lB rfl) ?_)))))))));have D:=hT;clear hT;intro S A hT;replace hO:=hO.md1 D rfl A;replace M:=M.step1' A (by simp);refine nt (c_block ?_);refine c_loop (X:=S4 × Value × List UInt8 × Value × List UInt8) (fun x=>[(0,.pointer (some ⟨b,0,none⟩)),(1,x.2.2.2.1)]) (fun x w'=>Md (b :: (vblock rest).toList) w w'∧Blk w' b (x.1.cells (n+l.length) x.2.1) 212∧Own w' 5 1 x.2.1 x.2.2.1.length (x.2.2.1.map b8)∧By w x.2.2.2.1 x.2.2.2.2∧Apart x.2.2.2.1 x.2.2.2.2 (b :: (vblock rest).toList)∧x.2.2.1.length<8∧sipAbs x.1 (x.2.2.1 ++ x.2.2.2.2)=sipAbs v (rl ++ l)∧(∀g,vblock x.2.1=some g→vblock rest=some g∨w.heap.size≤g)∧x.2.2.2.2.length≤l.length) (fun x=>x.2.2.2.2.length) (v,rest,rl,s,l) ?_ ?_ ?_
  · exact⟨rfl,rfl,tV⟩
  · exact⟨M,hT,hO,hB,hA,hr,rfl,fun _ h=>.inl h,Nat.le_refl _⟩
  clear M
  clear hT hO hB hA hr;rintro x B T ⟨M,hT,hO,hB,hA,hr,C,J,R⟩;refine c_seq (nm rfl (sL rfl u31 hB.shp (st _ (r_gt rfl rfl) (nt ?_))));refine c_if rfl (fun H=>?_) (fun H=>?_)
  · (have K:=dT H);refine c_skip (c_then (c_block (nm rfl (sn rfl (sf rfl off212_5 (st _ (r_loadBlk rfl one31 hT rfl) (st _ (r_len rfl u31 (By.of_own hO).shp) (st _ (r_subI rfl rfl (by omega)) (mv rfl (sL rfl u31 hB.shp (st _ ((r_min rfl rfl).castI (min8 _ _ hr)) (asg rfl ?_))))))))))));refine nt (c_seq (c_mix [(0,true),(1,true),(2,true),(3,true),(5,true),(6,true),(7,true),(4,false),(8,false),(9,true),(10,true),(11,false)] (fun w'=>True) mixed (by kernel_rfl) ?_));intro U A;replace hT:=hT.o A;replace hO:=hO.o A;replace M:=M.k A;refine⟨trivial,?_⟩;refine m _ (fun w' F=>r_move rfl) (m _ (fun w' F=>r_move rfl) (m _ (fun w' F=>r_nil rfl) (m _ (fun w' F=>r_field rfl off212_5) (m _ (fun w' F=>r_move rfl) (m _ (fun w' F=>r_move rfl) (m _ (fun w' F=>r_slice 0 (min (8-x.2.2.1.length) x.2.2.2.2.length) u31 el5 rfl hB.shp (by omega) (by omega) rfl ⟨_,rfl⟩) ?_))))));refine m_e ?_ rfl;refine st _ (r_loadBlk rfl one31 hT rfl) ?_;refine st_nil ⟨rfl,trivial,?_⟩;refine m_e ?_ rfl;refine st_appendB u31 elT5 rfl rfl hO ((hB.md M hA).head (min (8-x.2.2.1.length) x.2.2.2.2.length) (by omega)) (by simp;omega) ?_;intro P V L A _ O;have Q:=M;replace hT:=hT.mdO hO rfl A;replace M:=M.stepO A (fun b h=>(J b h).imp (fun h=>by simp[h]) id);have G:∀b,vblock P=some b→vblock rest=some b∨w.heap.size≤b:=fun b h=>(O b h).elim (fun h=>J b h) (fun h=>.inr (lj Q.size h));replace hO:=L;clear L;refine st_nil ⟨rfl,trivial,?_⟩;refine m _ (fun w' F=>r_nil rfl) (m _ (fun w' F=>r_field rfl off212_5) ?_);refine m_e ?_ rfl;refine st_store rfl rfl one31 (Sl.oneCell (By.of_own hO)) hT (lB rfl) ?_;have D:=hT;clear hT;intro W A hT;replace hO:=hO.md1 D rfl A;replace M:=M.step1' A (by simp);refine st_nil ⟨rfl,trivial,?_⟩;refine m_nil (c_then (ns (m2 rfl rfl (st _ (r_slice (min (8-x.2.2.1.length) x.2.2.2.2.length) x.2.2.2.2.length u31 el5 rfl hB.shp (by omega) (by omega) ⟨_,rfl⟩ rfl) ?_))))
    refine an rfl (nm rfl (sn rfl (sf rfl off212_5 (st _ (r_loadBlk rfl one31 hT rfl) (st _ (r_len rfl u31 (By.of_own hO).shp) (st _ (r_eq rfl rfl) (nt ?_)))))));refine c_if rfl (fun I=>?_) (fun I=>?_)
    · (have E:=dT I);refine nm rfl (sn rfl (sf rfl off212_5 (st _ (r_loadBlk rfl one31 hT rfl) (st_call fn84 rfl (get_ok _ _ 0 8 _ (By.of_own hO) (by decide) (by decide) (by omega)) ?_))));rintro e _ ⟨rfl,rfl⟩;refine rv ?_;refine mv rfl (se rfl rfl (se rfl rfl (asg rfl (an rfl (ns (m2 rfl rfl (st_call fn124 rfl (sword_any b x.1 _ _ _ _ hT) ?_)))))));have D:=hT;clear hT;rintro e Y ⟨rfl,A,hT⟩;refine rv ?_;replace hO:=hO.md1 D rfl A;replace M:=M.step1' A (by simp);refine nt (c_region (m2 rfl rfl (sn rfl (sf rfl off212_5 (st _ (r_loadBlk rfl one31 hT rfl) (st _ (r_slice 0 0 u31 el5 rfl (By.of_own hO).shp (by omega) (by omega) rfl ⟨_,rfl⟩) (sn rfl (sf rfl off212_5 (st_store rfl rfl one31 (Sl.oneCell ((By.of_own hO).head 0 (Nat.zero_le _))) hT (lB rfl) ?_)))))))));have D:=hT;clear hT;intro Z A hT;replace hO:=hO.md1 D rfl A;replace M:=M.step1' A (by simp);refine st_nil (n_block (c_then (next ((sipWord x.1 (leNum (((x.2.2.1 ++ x.2.2.2.2.take (min (8-x.2.2.1.length) x.2.2.2.2.length)).drop 0).take 8)),subv P 0 0,[],subv x.2.2.2.1 (min (8-x.2.2.1.length) x.2.2.2.2.length) x.2.2.2.2.length,x.2.2.2.2.drop (min (8-x.2.2.1.length) x.2.2.2.2.length))) (by simp;omega) ⟨rfl,rfl,tV⟩ ?_)));refine⟨M,hT,hO.cut0,hB.tail _ (by omega),hA.tail _,by simp,?_,fun b h=>G b (vblock_cut0 h),by simp;omega⟩;rw[← C];exact(add_fill _ _ _ hr (by simp at E;omega)).symm
    (have E:=dF I);refine c_skip (n_block (c_then (next ((x.1,P,x.2.2.1 ++ x.2.2.2.2.take (min (8-x.2.2.1.length) x.2.2.2.2.length),subv x.2.2.2.1 (min (8-x.2.2.1.length) x.2.2.2.2.length) x.2.2.2.2.length,x.2.2.2.2.drop (min (8-x.2.2.1.length) x.2.2.2.2.length))) (by simp;omega) ⟨rfl,rfl,tV⟩ ?_)));refine⟨M,hT,hO,hB.tail _ (by omega),hA.tail _,by simp at E ⊢;omega,?_,G,by simp;omega⟩;rw[← C];exact(add_some _ _ _ _).symm
  (have K:=dF H);refine c_exit (x_then (x_then (x_hit ?_)));have N:x.2.2.2.2=[]:=List.eq_nil_of_length_eq_zero (by omega);rw[N,List.append_nil,sipAbs_done _ _ hr]at C;refine ret0 trivial rfl ⟨rfl,x.2.1,M,?_,?_,J⟩
  · rw[← C];exact hT
  rw[← C];exact hO
theorem value_any (b:Nat) (v:S4) (n:Int) (rest:Value) (rl:Ly) (w:World) (hT:Blk w b (v.cells n rest) 212) (hO:Own w 5 1 rest rl.length (rl.map b8)) (hr:rl.length<8) (hn:0≤n) :
    Calls Zp 121 #[.pointer (some ⟨b,0,none⟩)] w fun e w'=>e = .returned (.int .u64 (sipEnd v rl n))∧Md [] w w':=by
  have M:=Md.refl [] w;refine enter (n:=59) Tryz.func121 rfl rfl rfl fun B=>ns (an rfl (ns (st_alloc z213 ?_)));intro K X N V A E;have Q:b≠K:=(by have:=hT.lt;omega);replace N:=lj M.size N;replace hT:=hT.o A;replace hO:=hO.o A;replace M:=M.k A;refine nt (c_seq (c_mix [(0,true),(1,true),(2,true),(3,true),(4,false),(5,false)] (fun w'=>True) mixed (by kernel_rfl) ?_));intro Y A;replace hT:=hT.o A;replace hO:=hO.o A;replace E:=E.o A;replace M:=M.k A;refine⟨trivial,?_⟩;refine m _ (fun w' C=>r_sliceArr u213 el5 rfl (by decide)) (m _ (fun w' C=>r_move rfl) (m _ (fun w' C=>r_nil rfl) (m _ (fun w' C=>r_field rfl off212_5) ?_)));refine m_e ?_ rfl;refine st _ (r_loadBlk rfl one31 hT rfl) ?_;refine st_nil ⟨rfl,trivial,?_⟩;refine m_e ?_ rfl;refine st_copy u31 el5 rfl rfl E (By.of_own hO) (one_b8 _) (by simp;omega) ?_;have O:=E;clear E;intro U A E;replace hT:=hT.md1 A (by omega);replace M:=M.step1 A N;refine st_nil ⟨rfl,trivial,?_⟩;refine m_nil ?_;replace E:Blk U K ((padTo 8 rl).map b8) 213:=(by rw[← splice_pad (m:=8) (by omega)];exact E);refine c_then (nm rfl (sn rfl (sf rfl off212_4 (st _ (r_loadBlk rfl one3 hT rfl) (st _ (r_conv (by rw[u3];rfl) u5 rfl) (st _ (r_indexArr rfl rfl u213 el5 (by omega)) (st_store rfl rfl one5 rfl E (by rw[List.length_map,padTo_len 8 rl (by omega)];decide) ?_)))))));have O:=E;clear E;intro S A E;replace hT:=hT.md1 A (by omega);replace M:=M.step1 A N;refine st_nil ?_;replace E:Blk S K ((sipTail rl n).map b8) 213:=(by rw[← sipTail_cells rl n hn];exact E);refine c_then (ns (st _ (r_sliceArr u213 el5 rfl (by decide)) (st_call fn84 rfl (get_ok _ (sipTail rl n) 0 8 _ (By.of_blk E (sipTail_len rl n (by omega)) (by decide)) (by decide) (by decide) (by rw[sipTail_len rl n (by omega)];decide)) ?_)));rintro e _ ⟨rfl,rfl⟩;refine rv ?_;refine mv rfl (se rfl rfl ?_)
  refine se rfl rfl (asg rfl (an rfl (c_seq ?_)));have F:=hT;refine c_mix [(0,true),(1,true),(2,true),(3,true),(4,true),(5,true),(6,true),(7,true),(8,true),(9,true),(10,true),(11,true),(12,true),(13,true),(14,true),(15,true),(16,true),(17,false),(18,false)] (fun w'=>Md [] S w') mixed (by kernel_rfl) ?_;intro Z A;have G:=A;replace hT:=hT.o A;replace E:=E.o A;replace M:=M.k A;refine⟨G,?_⟩;refine m _ (fun w' C=>r_move rfl) (m _ (fun w' C=>r_nil rfl) (m _ (fun w' C=>r_field rfl off212_0) (m _ (fun w' C=>r_loadBlk rfl one33 (F.o C) rfl) (m _ (fun w' C=>r_move rfl) (m _ (fun w' C=>r_nil rfl) (m _ (fun w' C=>r_field rfl off212_1) (m _ (fun w' C=>r_loadBlk rfl one33 (F.o C) rfl) (m _ (fun w' C=>r_move rfl) (m _ (fun w' C=>r_nil rfl) (m _ (fun w' C=>r_field rfl off212_2) (m _ (fun w' C=>r_loadBlk rfl one33 (F.o C) rfl) (m _ (fun w' C=>r_move rfl) (m _ (fun w' C=>r_nil rfl) ?_)))))))))))));refine m _ (fun w' C=>r_field rfl off212_3) (m _ (fun w' C=>r_loadBlk rfl one33 (F.o C) rfl) (m (.agg [_,_,_,_,_,_].toArray) (fun w' C=>r_build (ps:=[(0,0),(1,1),(2,2),(3,3)]) z212 pl212 rfl rfl ⟨rfl,rfl,rfl,rfl,tV⟩ rfl rfl rfl) ?_));refine m_e ?_ rfl;refine st_alloc z212 ?_;intro L a H W A D;have R:b≠L:=(by have:=hT.lt;omega);have P:K≠L:=(by have:=E.lt;omega);have J:=lj G.size H;replace H:=lj M.size H;replace G:=G.k A;replace M:=M.k A;refine st_nil ⟨rfl,G,?_⟩;refine m_e ?_ rfl;refine st_storeAll rfl rfl (by exact agg212) (by simp[Value.oneCell']) D (by rfl) ?_;have I:=D;clear D;intro c A D;replace G:=G.step1 A J;replace M:=M.step1 A H;refine st_nil ⟨rfl,G,?_⟩;refine m_nil (c_then (nm rfl (st_call fn124 rfl (sword_any L v 0 _ _ _ D) ?_)))
  have I:=D;clear D;rintro e d ⟨rfl,A,D⟩;refine rv ?_;replace M:=M.step1 A H;refine nt (ns (sf rfl off212_2 (st _ (r_loadBlk rfl one33 D rfl) (st _ (r_xor rfl rfl) (sf rfl off212_2 (st_store rfl rfl one33 rfl D (lB rfl) ?_))))));have I:=D;clear D;intro f A D;replace M:=M.step1 A H;refine st_nil ?_;replace D:=(set_xr _ 255 0 SN) ▸ D;refine c_then (ns (st_call fn125 rfl (round4_any L _ _ _ _ D) ?_));have I:=D;clear D;rintro e T ⟨rfl,A,D⟩;refine rv ?_;replace M:=M.step1 A H;refine nt (ns (sf rfl off212_0 (st _ (r_loadBlk rfl one33 D rfl) (sf rfl off212_1 (st _ (r_loadBlk rfl one33 D rfl) (st _ (r_xor rfl rfl) (sf rfl off212_2 (st _ (r_loadBlk rfl one33 D rfl) (st _ (r_xor rfl rfl) (sf rfl off212_3 (st _ (r_loadBlk rfl one33 D rfl) (st _ (r_xor rfl rfl) (asg rfl ?_)))))))))))));refine nt (c_ret ?_);exact ret1 trivial rfl rfl ⟨rfl,M⟩
theorem sip_any (key:Ly) (s:Value) (l:Ly) (w:World) (hk:key.length=16) (hB:By w s l) (hl:l.length≤4611686018427387000) :
    Calls Zp 113 #[.agg (key.map b8).toArray,s] w fun e w'=>e = .returned (.int .u64 (sip key l))∧Md [] w w':=by
  have M:=Md.refl [] w;refine enter (n:=13) Tryz.func113 rfl rfl rfl fun B=>ns (st_box rfl rfl ?_);intro P S J Q A K;replace J:=lj M.size J;replace M:=M.k A;refine an rfl (ns (st _ (r_loadAll rfl (by rw[(by simpa using hk:(key.map b8).length=16)];exact agg35) K) (st_call fn119 rfl (new_any key _ hk) ?_)));rintro e G ⟨I,rfl,D,R,A,N⟩;refine rv ?_;replace D:=lj M.size D;replace M:=M.k A;have L:Own G 5 1 SN ([]:Ly).length (([]:Ly).map b8):=Own.nil _ _ _;refine an rfl (ns (m2 rfl rfl (st_call fn120 rfl (add_any I (sipInit key) 0 SN [] s l _ N L (by decide) (hB.o M) (apartOld hB D) (by decide) (by omega)) ?_)));clear K;rintro e H ⟨rfl,C,A,F,E,O⟩;refine rv ?_;replace M:Md [] w H:=M.step1 A D;clear N L;refine nt (nm rfl (st_call fn121 rfl (value_any I _ _ C _ _ F E (sipAbs_len _ _ _ (Nat.le_refl _)) (by omega)) ?_));rintro e T ⟨rfl,A⟩;refine rv ?_;replace M:=M.k A;refine ar rfl ?_;exact ret1 trivial rfl rfl ⟨retI (by simp[sip]),M⟩
theorem of_any (k:Bool) (key:Ly) (s:Value) (l:Ly) (w:World) (hk:key.length=16) (hB:By w s l) (hl:l.length≤4611686018427387000) :
    Calls Zp 107 #[.bool k,.agg (key.map b8).toArray,s] w fun e w'=>e = .returned (.int .u64 (if k then sip key l else lookup l))∧Md [] w w':=by
  have M:=Md.refl [] w;refine enter (n:=13) Tryz.func107 rfl rfl rfl fun B=>ns (st_box rfl rfl ?_);intro G I E H A F;replace E:=lj M.size E;replace M:=M.k A;refine an rfl (c_seq (nm rfl (nt ?_)));refine c_if rfl (fun C=>?_) (fun C=>?_)
  · (have D:=C);refine ns (st _ (r_loadAll rfl (by rw[(by simpa using hk:(key.map b8).length=16)];exact agg35) F) (mv rfl (st_call fn113 rfl (sip_any key s l _ hk (hB.o M) hl) ?_)));rintro e J ⟨rfl,A⟩;refine rv ?_;replace M:=M.k A;refine ar rfl (r_then ?_);exact ret1 trivial rfl rfl ⟨retI (by simp_all),M⟩
  (have D:=C);refine c_skip (c_then (nm rfl (st_call fn104 rfl (lookup_any s l _ (hB.o M)) ?_)));rintro e K ⟨rfl,A⟩;refine rv ?_;replace M:=M.k A;refine ar rfl ?_;exact ret1 trivial rfl rfl ⟨retI (by simp_all),M⟩
theorem eight_any (v:Value) (l:Ly) (a:Int) (w:World) (hB:By w v l) (ha:0≤a) (ha2:a≤4611686018427387000) :
    Calls Zp 69 #[v,.int .i64 a] w fun e w'=>e = .returned (.int .u64 (le8 l a.toNat))∧w=w':=by
  have A:=hB.len63;have M:=Md.refl [] w;refine enter (n:=16) Tryz.func69 rfl rfl rfl fun B=>ns (an rfl (ns (m2 rfl rfl (st_call fn71 rfl (word_any _ _ _ _ (hB.o M) (by omega) (by omega)) ?_))));rintro e _ ⟨rfl,rfl⟩;refine rv ?_;refine st _ (r_conv (by rw[u58];rfl) u33 rfl) (m2 rfl rfl (st _ (r_addI rfl rfl (by omega)) (st_call fn71 rfl (word_any _ _ _ _ (hB.o M) (by omega) (by omega)) ?_)));rintro e _ ⟨rfl,rfl⟩;refine rv ?_;refine st _ (r_conv (by rw[u58];rfl) u33 rfl) (st _ (r_shl rfl rfl (by omega)) (st _ (r_or rfl rfl) (ar rfl ?_)));exact ret1 trivial rfl rfl ⟨retI (eight_eq l a ha),rfl⟩
theorem rrounds_any (v:S4) (t:Int) (w:World) (ht:0≤t) (ht2:t≤100) :
    Calls Zp 70 #[.agg v.arr.toArray,.int .i64 t] w fun e w'=>e = .returned (.agg (sipRounds t.toNat v).arr.toArray)∧Md [] w w':=by
  have M:=Md.refl [] w;refine enter (n:=64) Tryz.func70 rfl rfl rfl fun B=>ns (st_box rfl rfl ?_);intro L Q I P C D;replace I:=lj M.size I;replace M:=M.k C;refine st_alloc z147 ?_;intro G K H O C A;have J:L≠G:=(by have:=D.lt;omega);replace H:=lj M.size H;replace D:=D.o C;replace M:=M.k C;refine nt (c_seq (c_quiet (fun w'=>Md [] K w') mixed (by kernel_rfl) (Md.drew K) (q _ (fun w' m=>r_indexArr rfl rfl u147 el33 (by omega)) (q _ (fun w' m=>r_loadBlk rfl one33 (D.o m) rfl) (q _ (fun w' m=>r_indexArr rfl rfl u147 el33 (by omega)) (q _ (fun w' m=>r_loadBlk rfl one33 (D.o m) rfl) (q _ (fun w' m=>r_indexArr rfl rfl u147 el33 (by omega)) (q _ (fun w' m=>r_loadBlk rfl one33 (D.o m) rfl) (q _ (fun w' m=>r_indexArr rfl rfl u147 el33 (by omega)) (q _ (fun w' m=>r_loadBlk rfl one33 (D.o m) rfl) (q _ (fun w' m=>r_assign rfl) (q _ (fun w' m=>r_assign rfl) (q _ (fun w' m=>r_assign rfl) ?_)))))))))))));refine q _ (fun w' m=>r_assign rfl) (q_nil ?_);intro R C;replace A:=A.o C;replace M:=M.k C;refine c_then (c_seq (ns (an rfl (c_block ?_))));refine c_loop (X:=Nat) (fun k=>[(1,.int .i64 t),(4,.pointer (some ⟨G,0,none⟩)),(5,.int .u64 (sipRounds k v).p),(6,.int .u64 (sipRounds k v).q),(7,.int .u64 (sipRounds k v).r),(8,.int .u64 (sipRounds k v).s),(9,.int .i64 k)]) (fun k w'=>Md [] w w'∧Blk w' G [.int .u64 0,.int .u64 0,.int .u64 0,.int .u64 0] 147∧(k:Int)≤t) (fun k=>(t-k).toNat) 0 ?_ ?_ ?_
  · exact⟨rfl,rfl,rfl,rfl,rfl,rfl,rfl,tV⟩
  · exact⟨M,A,ht⟩
  clear M
  clear A D;rintro k B S ⟨M,A,hk⟩;refine c_seq (ns (m2 rfl rfl (st _ (r_lt rfl rfl) (nt ?_))));refine c_if rfl (fun E=>?_) (fun E=>?_)
  · (have F:=dT E);refine c_skip (c_then (c_seq (c_block (ns (m2 rfl rfl (st _ (r_add rfl rfl) (an rfl (nm rfl (st_call fn81 rfl (up_any _ _ _ (by decide) (by decide)) ?_)))))))));rintro e _ ⟨rfl,rfl⟩;refine rv ?_;refine an rfl (ns (m2 rfl rfl (st _ (r_xor rfl rfl) (asg rfl (nt (nm rfl (st_call fn81 rfl (up_any _ _ _ (by decide) (by decide)) ?_)))))));rintro e _ ⟨rfl,rfl⟩;refine rv ?_;refine an rfl (ns (m2 rfl rfl (st _ (r_add rfl rfl) (asg rfl (nt (nm rfl (st_call fn81 rfl (up_any _ _ _ (by decide) (by decide)) ?_)))))));rintro e _ ⟨rfl,rfl⟩;refine rv ?_;refine an rfl (ns (m2 rfl rfl (st _ (r_xor rfl rfl) (asg rfl (nt (nm rfl (mv rfl (st _ (r_add rfl rfl) (asg rfl (nt ?_))))))))));refine nm rfl (st_call fn81 rfl (up_any _ _ _ (by decide) (by decide)) ?_);rintro e _ ⟨rfl,rfl⟩;refine rv ?_;refine an rfl (ns (m2 rfl rfl (st _ (r_xor rfl rfl) (asg rfl (nt (nm rfl (mv rfl (st _ (r_add rfl rfl) (asg rfl ?_)))))))))
    refine nt (nm rfl (st_call fn81 rfl (up_any _ _ _ (by decide) (by decide)) ?_));rintro e _ ⟨rfl,rfl⟩;refine rv ?_;refine an rfl (ns (m2 rfl rfl (st _ (r_xor rfl rfl) (asg rfl (nt (c_region (mv rfl (st_call fn81 rfl (up_any _ _ _ (by decide) (by decide)) ?_))))))));rintro e _ ⟨rfl,rfl⟩;refine rv ?_;refine asg rfl (st_nil (n_block (c_then (c_region (mv rfl (st _ (r_addI rfl rfl (by omega)) (an rfl (next (k+1) (by omega) ⟨rfl,rfl,rfl,rfl,rfl,rfl,rfl,tV⟩ ?_))))))));exact⟨M,A,by omega⟩
  (have F:=dF E);refine c_exit (x_then (x_then (x_hit (c_then (ns (m2 rfl rfl (mv rfl (mv rfl (st (.agg [_,_,_,_].toArray) (r_build (ps:=[(0,0),(1,1),(2,2),(3,3)]) z147 pl147 rfl rfl ⟨rfl,rfl,rfl,rfl,tV⟩ rfl rfl rfl) (st_storeAll rfl rfl (by exact agg147) (by simp[Value.oneCell']) A (by rfl) ?_))))))))));have N:=A;clear A;intro T C A;replace M:=M.step1 C H;refine nt (c_ret ?_);obtain rfl:(k:Int)=t:=(by omega);exact retc trivial rfl rfl (by exact agg147) A ⟨rfl,M⟩
theorem rrounds2_any (v:S4) (w:World):Calls Zp 70 #[.agg v.arr.toArray,.int .i64 2] w fun e w'=>e = .returned (.agg (sipRounds 2 v).arr.toArray)∧Md [] w w' :=
  rrounds_any v 2 w (by decide) (by decide)
theorem rrounds4_any (v:S4) (w:World):Calls Zp 70 #[.agg v.arr.toArray,.int .i64 4] w fun e w'=>e = .returned (.agg (sipRounds 4 v).arr.toArray)∧Md [] w w' :=
  rrounds_any v 4 w (by decide) (by decide)
theorem rsip_any (key:Ly) (s:Value) (l:Ly) (w:World) (hk:key.length=16) (hB:By w s l) (hl:l.length≤4611686018427387000) :
    Calls Zp 49 #[.agg (key.map b8).toArray,s] w fun e w'=>e = .returned (.int .u64 (sip key l))∧Md [] w w':=by
  have P:=hB.len63;have M:=Md.refl [] w;refine enter (n:=84) Tryz.func49 rfl rfl rfl fun B=>ns (st_box rfl rfl ?_);intro R S O b C H;replace O:=lj M.size O;replace M:=M.k C;refine an rfl (c_seq (c_mix [(0,true),(2,true),(1,false),(3,false),(4,true),(5,true)] (fun w'=>Md [] S w') mixed (by kernel_rfl) ?_));intro d C;have J:=C;replace H:=H.o C;replace M:=M.k C;refine⟨J,?_⟩;refine m _ (fun w' L=>r_sliceArr u35 el5 rfl (by decide)) (m _ (fun w' L=>r_sliceArr u35 el5 rfl (by decide)) ?_);refine m_e ?_ rfl;refine st_call fn69 rfl (eight_any _ key 0 _ (By.of_blk H hk (by decide)) (by decide) (by decide)) ?_;rintro e _ ⟨rfl,rfl⟩;refine rv ?_;refine st_nil ⟨rfl,J,?_⟩;refine m_e ?_ rfl;refine st_call fn69 rfl (eight_any _ key 8 _ (By.of_blk H hk (by decide)) (by decide) (by decide)) ?_;rintro e _ ⟨rfl,rfl⟩;refine rv ?_;refine st_nil ⟨rfl,J,?_⟩;refine m _ (fun w' L=>r_assign rfl) (m _ (fun w' L=>r_assign rfl) (m_nil (c_then (nm rfl (st _ (r_xor rfl rfl) (mv rfl (st _ (r_xor rfl rfl) (mv rfl (st _ (r_xor rfl rfl) (mv rfl (st _ (r_xor rfl rfl) (st (.agg [_,_,_,_].toArray) (r_build (ps:=[(0,0),(1,1),(2,2),(3,3)]) z147 pl147 rfl rfl ⟨rfl,rfl,rfl,rfl,tV⟩ rfl rfl rfl) ?_))))))))))));refine st_alloc z147 ?_;intro K f E c C A;have Q:R≠K:=(by have:=H.lt;omega);replace E:=lj M.size E;replace M:=M.k C;refine st_storeAll rfl rfl (by exact agg147) (by simp[Value.oneCell']) A (by rfl) ?_;have D:=A;clear A;intro g C A;replace M:=M.step1 C E;refine nt (ns (an rfl (c_seq (c_block ?_))));refine c_loop (X:=S4 × Nat) (fun x=>[(1,s),(7,.pointer (some ⟨K,0,none⟩)),(8,.int .i64 x.2)]) (fun x w'=>Md [] w w'∧Blk w' K x.1.arr 147∧x.2≤l.length∧sipAbs x.1 (l.drop x.2)=sipAbs (sipInit key) l) (fun x=>l.length-x.2) (sipInit key,0) ?_ ?_ ?_
  · exact⟨rfl,rfl,rfl,tV⟩
  · refine⟨M,?_,Nat.zero_le _,rfl⟩
    rw[sipInit_arr key hk];exact A
  clear M
  clear A H;rintro x B h ⟨M,A,N,F⟩;refine c_seq (nm rfl (st _ (r_addI rfl rfl (by omega)) (mv rfl (sL rfl u31 hB.shp (st _ (r_le rfl rfl) (nt ?_))))));refine c_if rfl (fun G=>?_) (fun G=>?_)
  · (have I:=dT G);refine c_skip (c_then (c_block (ns (m2 rfl rfl (st_call fn69 rfl (eight_any s l _ _ (hB.o M) (by omega) (by omega)) ?_)))));rintro e _ ⟨rfl,rfl⟩;refine rv ?_;refine an rfl (ns (st _ (r_indexArr rfl rfl u147 el33 (by omega)) (st _ (r_loadBlk rfl one33 A rfl) (mv rfl (st _ (r_xor rfl rfl) (st _ (r_indexArr rfl rfl u147 el33 (by omega)) (st_store rfl rfl one33 rfl A (lB rfl) ?_)))))));have D:=A;clear A;intro i C A;replace M:=M.step1 C E;refine st_nil ?_;replace A:=(arr_xs _ (le8 l (x.2:Int).toNat)) ▸ A;refine c_then (ns (st _ (r_loadAll rfl (by exact agg147) A) (st_call fn70 rfl (rrounds2_any _ _) ?_)));rintro e j ⟨rfl,C⟩;refine rv ?_;replace A:=A.o C;replace M:=M.k C;refine st_storeAll rfl rfl (by exact agg147) (S4.arr_one _) A (by rw[S4.arr_len,S4.arr_len]) ?_;have D:=A;clear A;intro k C A;replace M:=M.step1 C E;refine nt (ns (st _ (r_indexArr rfl rfl u147 el33 (by omega)) (st _ (r_loadBlk rfl one33 A rfl) (mv rfl (st _ (r_xor rfl rfl) (st _ (r_indexArr rfl rfl u147 el33 (by omega)) (st_store rfl rfl one33 rfl A (lB rfl) ?_)))))));have D:=A;clear A;intro o C A;replace M:=M.step1 C E;refine st_nil ?_;replace A:=(arr_xp _ (le8 l (x.2:Int).toNat)) ▸ A;refine c_then (c_region (mv rfl (st _ (r_addI rfl rfl (by omega)) (asg rfl (st_nil (n_block (c_then (next ((sipWord x.1 (leNum ((l.drop x.2).take 8)),x.2+8)) (by simp;omega) ⟨rfl,rfl,fitI rfl (by simp),tV⟩ ?_))))))));refine⟨M,?_,by simp;omega,?_⟩
    · unfold sipWord;rw[le8_take l x.2 (by omega)];exact A
    rw[← F,sipAbs_step _ (l.drop x.2) (by simp;omega),List.drop_drop]
  (have I:=dF G);refine c_exit (x_then (x_then (x_hit (c_then (ns (m2 rfl rfl (st_call fn69 rfl (eight_any s l _ _ (hB.o M) (by omega) (by omega)) ?_)))))));rintro e _ ⟨rfl,rfl⟩;refine rv ?_;refine mv rfl (sL rfl u31 hB.shp (st _ (r_rem rfl rfl (by omega)) (st _ (r_conv (by rw[u3];rfl) u33 rfl) (st _ (r_shl rfl rfl (by omega)) (st _ (r_or rfl rfl) (an rfl (ns (st _ (r_indexArr rfl rfl u147 el33 (by omega)) (st _ (r_loadBlk rfl one33 A rfl) (mv rfl (st _ (r_xor rfl rfl) (st _ (r_indexArr rfl rfl u147 el33 (by omega)) ?_))))))))))));refine st_store rfl rfl one33 rfl A (lB rfl) ?_;have D:=A;clear A;intro T C A;replace M:=M.step1 C E;refine st_nil ?_;replace A:=(arr_xs _ _) ▸ A;refine c_then (ns (st _ (r_loadAll rfl (by exact agg147) A) (st_call fn70 rfl (rrounds2_any _ _) ?_)));rintro e U ⟨rfl,C⟩;refine rv ?_;replace A:=A.o C;replace M:=M.k C;refine st_storeAll rfl rfl (by exact agg147) (S4.arr_one _) A (by rw[S4.arr_len,S4.arr_len]) ?_;have D:=A;clear A;intro V C A;replace M:=M.step1 C E;refine nt (ns (st _ (r_indexArr rfl rfl u147 el33 (by omega)) (st _ (r_loadBlk rfl one33 A rfl) (mv rfl (st _ (r_xor rfl rfl) (st _ (r_indexArr rfl rfl u147 el33 (by omega)) (st_store rfl rfl one33 rfl A (lB rfl) ?_)))))));have D:=A;clear A;intro W C A;replace M:=M.step1 C E;refine st_nil ?_;replace A:=(arr_xp _ _) ▸ A;refine c_then (ns (st _ (r_indexArr rfl rfl u147 el33 (by omega)) (st _ (r_loadBlk rfl one33 A rfl) (st _ (r_xor rfl rfl) (st _ (r_indexArr rfl rfl u147 el33 (by omega)) (st_store rfl rfl one33 rfl A (lB rfl) ?_))))));have D:=A;clear A;intro Y C A;replace M:=M.step1 C E
  refine st_nil ?_;replace A:=(arr_xr _ 255) ▸ A;refine c_then (ns (st _ (r_loadAll rfl (by exact agg147) A) (st_call fn70 rfl (rrounds4_any _ _) ?_)));rintro e Z ⟨rfl,C⟩;refine rv ?_;replace A:=A.o C;replace M:=M.k C;refine st_storeAll rfl rfl (by exact agg147) (S4.arr_one _) A (by rw[S4.arr_len,S4.arr_len]) ?_;have D:=A;clear A;intro a C A;replace M:=M.step1 C E;refine nt (ns (st _ (r_indexArr rfl rfl u147 el33 (by omega)) (st _ (r_loadBlk rfl one33 A rfl) (st _ (r_indexArr rfl rfl u147 el33 (by omega)) (st _ (r_loadBlk rfl one33 A rfl) (st _ (r_xor rfl rfl) (st _ (r_indexArr rfl rfl u147 el33 (by omega)) (st _ (r_loadBlk rfl one33 A rfl) (st _ (r_xor rfl rfl) (st _ (r_indexArr rfl rfl u147 el33 (by omega)) (st _ (r_loadBlk rfl one33 A rfl) (st _ (r_xor rfl rfl) (asg rfl ?_)))))))))))));refine nt (c_ret ?_);rw[sipAbs_done _ _ (by simp;omega)]at F;exact ret1 trivial rfl rfl ⟨retI (by rw[sip,← F];exact rsip_end l x.1 x.2 N (by omega)),M⟩
theorem rof_any (k:Bool) (key:Ly) (s:Value) (l:Ly) (w:World) (hk:key.length=16) (hB:By w s l) (hl:l.length≤4611686018427387000) :
    Calls Zp 27 #[.bool k,.agg (key.map b8).toArray,s] w fun e w'=>e = .returned (.int .u64 (if k then sip key l else lookup l))∧Md [] w w':=by
  have M:=Md.refl [] w;refine enter (n:=13) Tryz.func27 rfl rfl rfl fun B=>ns (st_box rfl rfl ?_);intro G I E H D F;replace E:=lj M.size E;replace M:=M.k D;refine an rfl (c_seq (nm rfl (nt ?_)));refine c_if rfl (fun A=>?_) (fun A=>?_)
  · (have C:=A);refine ns (st _ (r_loadAll rfl (by rw[(by simpa using hk:(key.map b8).length=16)];exact agg35) F) (mv rfl (st_call fn49 rfl (rsip_any key s l _ hk (hB.o M) hl) ?_)));rintro e J ⟨rfl,D⟩;refine rv ?_;replace M:=M.k D;refine ar rfl (r_then ?_);exact ret1 trivial rfl rfl ⟨retI (by simp_all),M⟩
  (have C:=A);refine c_skip (c_then (nm rfl (st_call fn50 rfl (rlookup_any s l _ (hB.o M) hl) ?_)));rintro e _ ⟨rfl,rfl⟩;refine rv ?_;refine ar rfl ?_;exact ret1 trivial rfl rfl ⟨retI (by simp_all),M⟩
theorem hOf_any (uQ:Up w Q) (k:Bool) (key:Ly) (a1:key.length=16) {v2:Value} {l:Ly} (h2:Ls tB8 w Q v2 l) (p0:l.length≤4611686018427387000) :
    Calls Zp 107 #[.bool k,.agg (idc key).toArray,v2] w fun en w'=>∃r0:Nat,en = .returned (.int .u64 r0)∧Md [] w w'∧r0<18446744073709551616∧hashN k key l=r0:=by
  rw[idc_map a1];refine(of_any k key v2 l w a1 h2.by p0).mono fun en w' ⟨he,hm⟩=>⟨hashN k key l,by rw[he,hashN_eq],hm,hashN_lt k key l,rfl⟩
theorem rOf_any (uQ:Up w Q) (k:Bool) (key:Ly) (a1:key.length=16) {v2:Value} {l:Ly} (h2:Ls tB8 w Q v2 l) (p0:l.length≤4611686018427387000) :
    Calls Zp 27 #[.bool k,.agg (idc key).toArray,v2] w fun en w'=>∃r0:Nat,en = .returned (.int .u64 r0)∧Md [] w w'∧r0<18446744073709551616∧hashN k key l=r0:=by
  rw[idc_map a1];refine(rof_any k key v2 l w a1 h2.by p0).mono fun en w' ⟨he,hm⟩=>⟨hashN k key l,by rw[he,hashN_eq],hm,hashN_lt k key l,rfl⟩
theorem hLook_any (uQ:Up w Q) {v0:Value} {l:Ly} (h0:Ls tB8 w Q v0 l) (p0:l.length≤4611686018427387000) :
    Calls Zp 104 #[v0] w fun en w'=>∃r0:Nat,en = .returned (.int .u64 r0)∧Md [] w w'∧r0<18446744073709551616∧lookN l=r0:=by
  refine(lookup_any _ _ w h0.by).mono fun en w' ⟨he,hm⟩=>⟨lookN l,by rw[he,lookN_eq],hm,lookN_lt l,rfl⟩
theorem rLook_any (uQ:Up w Q) {v0:Value} {l:Ly} (h0:Ls tB8 w Q v0 l) (p0:l.length≤4611686018427387000) :
    Calls Zp 50 #[v0] w fun en w'=>∃r0:Nat,en = .returned (.int .u64 r0)∧Md [] w w'∧r0<18446744073709551616∧lookN l=r0:=by
  refine(rlookup_any _ _ w h0.by p0).mono fun en w' ⟨he,hm⟩=>⟨lookN l,by rw[he,lookN_eq],(hm ▸ Md.refl [] w),lookN_lt l,rfl⟩
end Go.Proofs.YtiahpbdikcpbnaaGreat
