/- Part 2 of the walk of a law. No statement is proved here. -/
import Derived.Test.YtlleafgaeeneoaaGreatQEO1
import Derived.Test.YtlleafgaeeneoaaGreatRows
set_option linter.unusedVariables false
set_option linter.unusedSimpArgs false
namespace Go.Wk
open Go Go.RowKit
section
variable {P:Program} {ops:Array Oper} {md:Region.Mode} {C:World->Prop} {Q:Exit->Act->World->Prop} {E:Array Bool->Act->World->Prop}
def wJ (P:Program) (md:Region.Mode) (ops:Array Oper) (C:World->Prop) (E:Array Bool->Act->World->Prop):Nat->Array Bool->Act->World->Prop
  | 0,listed,a,w=>E listed a w
  | f+1,listed,a,w=>Region.ready md ops listed≠[]/\∀i∈Region.ready md ops listed,opC P ops C i (wJ P md ops C E f (listed.setIfInBounds i true)) a w
theorem sR {t:Nat} (c:∀listed a w,E listed a w->wpAny P md ops Q t listed a w):∀(f:Nat) (listed:Array Bool) (a:Act) (w:World),wJ P md ops C E f listed a w->wpAny P md ops Q (f+t) listed a w
  | 0,listed,a,w,h=>by rw[Nat.zero_add];exact c _ _ _ h
  | f+1,listed,a,w,h=>by
    rw[show f+1+t=(f+t)+1 by omega];refine⟨fun e=>absurd e h.1,fun i hi=>?_⟩;have b:=h.2 i hi;unfold opC at b;unfold wpOp;split
    · rename_i ho;rw[ho]at b;exact sR c f _ a w b
    · rename_i o ho
      rw[ho]at b;simp only at b;split
      · rename_i hw;rw[if_pos hw]at b;exact .inl (XR (fun d j g=>sR c f _ d j g.2) b)
      · rename_i hw;rw[if_neg hw]at b;exact sR c f _ _ w b
def Closed (md:Region.Mode) (ops:Array Oper) (listed:Array Bool):Prop:=∀k ok,ops[k]? = some ok->listed.getD k false=true->∀e∈ok.after,Region.binds md e=true->listed.getD e.on false=true
theorem Closed.set {listed:Array Bool} {i:Nat} (h:Closed md ops listed) (hi:i∈Region.ready md ops listed):Closed md ops (listed.setIfInBounds i true):=by
  intro k I hk G e F E;have B:listed.getD e.on false=true->(listed.setIfInBounds i true).getD e.on false=true:=fun D=>by
    by_cases hei:e.on=i
    · rw[hei]at D ⊢
      rcases Nat.lt_or_ge i listed.size with C|C
      · simp[C]
      · simp[Array.getElem?_eq_none C]at D
    · rw[getD_set_ne false (Ne.symm hei)];exact D
  by_cases hki:k=i
  · subst hki
    obtain⟨_,o,H,A⟩:=mem_ready.1 hi;rw[hk]at H;cases H;exact B (A e F E)
  rw[getD_set_ne false (Ne.symm hki)]at G;exact B (h k I hk G e F E)
def wE (md:Region.Mode) (ops:Array Oper) (i:Nat):Nat->Nat->Bool
  | 0,_=>false
  | f+1,j=>match ops[j]? with
    | some o=>o.after.any fun e=>Region.binds md e && (Nat.beq e.on i || wE md ops i f e.on)
    | none=>false
theorem GX {i:Nat} {listed:Array Bool} (e:Closed md ops listed):∀(f j:Nat) (a:Oper),ops[j]? = some a->wE md ops i f j=true->(∀c∈a.after,Region.binds md c=true->listed.getD c.on false=true)->listed.getD i false=true
  | 0,j,a,_,h,_=>by simp[wE]at h
  | f+1,j,a,hj,h,hall=>by
    simp only[wE,hj,Array.any_eq_true,Bool.and_eq_true,Bool.or_eq_true]at h;obtain⟨k,hk,hb,b⟩:=h;have g:a.after[k]∈a.after:=Array.getElem_mem hk;have d:=hall _ g hb
    rcases b with b|b
    · rw[<- Nat.eq_of_beq_eq_true b];exact d
    · cases ho:ops[a.after[k].on]? with
      | none=>cases f<;>simp[wE,ho]at b
      | some ok=>exact GX e f _ ok ho b (e _ ok ho d)
def Behind (md:Region.Mode) (ops:Array Oper) (tl:List Nat) (i:Nat):Prop:=∀j∈tl,wE md ops i ops.size j=true
theorem yB {tl:List Nat} {i:Nat} {q:Oper} {v:Value} (hi:ops[i]? = some q) (B:∀(j:Nat) (o:Oper) s b,ops[j]? = some o->o.op≠.select s b)
    (hT:Behind md ops tl i) (hE:∀listed a w,E listed a w->∀j∈Region.ready md ops listed,j∈tl) :
    ∀(f:Nat) (listed:Array Bool) (a:Act) (w:World),
      (∀j m,ops[j]? = some m->j≠i->listed.getD j true=false->(∀e∈m.after,Region.binds md e=true->e.on≠i)->q.apart ops m=true) ->
      Closed md ops listed->i∈Region.ready md ops listed->C w->Qv P ops C q v a ->
      wJ P md ops C E f (listed.setIfInBounds i true) (a.put q.dst v) w->wJ P md ops C E (f+1) listed a w:=by
  intro f
  induction f with
  | zero =>
    intro listed a w _ x n t T H;refine⟨fun h=>(by rw[h]at n;cases n),fun j p=>?_⟩
    by_cases hji:j=i
    · subst hji;exact T.opC hi t H
    · have y:=hE _ _ _ H j (ready_mono p hji)
      obtain⟨_,m,D,u⟩:=mem_ready.1 p;have d:=GX x _ j m D (hT j y) u;have r:=(mem_ready.1 n).1;exfalso
      rcases Nat.lt_or_ge i listed.size with J|J
      · simp[J]at r d;rw[r]at d;cases d
      · simp[Array.getElem?_eq_none J]at d
  | succ f ih =>
    intro listed a w z x n t T H;refine⟨fun h=>(by rw[h]at n;cases n),fun j p=>?_⟩
    by_cases hji:j=i
    · subst hji;exact T.opC hi t H
    · have y:=H.2 j (ready_mono p hji)
      obtain⟨G,m,D,u⟩:=mem_ready.1 p;have F:∀e∈m.after,Region.binds md e=true->e.on≠i:=fun e g W I=>by
        have d:=u e g W;have r:=(mem_ready.1 n).1;rw[I]at d
        rcases Nat.lt_or_ge i listed.size with J|J
        · simp[J]at r d;rw[r]at d;cases d
        · simp[Array.getElem?_eq_none J]at d
      have A:=z j m D hji G F;obtain⟨_,_,c⟩:=Oper.apart_spec A;have N:∀k R,ops[k]? = some R->k≠i->(listed.setIfInBounds j true).getD k true=false ->
          (∀e∈R.after,Region.binds md e=true->e.on≠i)->q.apart ops R=true:=fun k R hk K Q L=>by
        refine z k R hk K ?_ L
        by_cases hjk:j=k
        · subst hjk;exact G
        · rw[getD_set_ne true hjk]at Q;exact Q
      refine ZB D A (fun s b=>B j m s b D) (fun b O l W V M=>?_) t y;refine ih (listed.setIfInBounds j true) _ l N (x.set p) (ready_mono n (Ne.symm hji)) V ((T.same W).keep (fun s b=>B i q s b hi) c) ?_;rw[Array.setIfInBounds_comm _ _ hji];exact M
theorem qS {d:World->Prop} (c:∀x,d x->C x):∀(f:Nat) (listed:Array Bool) (a:Act) (w:World),wJ P md ops d E f listed a w->wJ P md ops C E f listed a w
  | 0,_,_,_,h=>h
  | f+1,listed,a,w,h=>⟨h.1,fun i hi=>by
      have b:=h.2 i hi;unfold opC at *;split
      · rename_i ho;rw[ho]at b;exact qS c f _ a w b
      · rename_i o ho
        rw[ho]at b;simp only at b;split
        · rename_i hw;rw[if_pos hw]at b;exact vu (fun g j e=>⟨c _ e.1,qS c f _ g j e.2⟩) b
        · rename_i hw;rw[if_neg hw]at b;exact qS c f _ _ w b⟩
def Yn (md:Region.Mode) (ops:Array Oper) (tl:List Nat) (i:Nat):Bool:=tl.all fun j=>wE md ops i ops.size j
theorem MU {tl:List Nat} {i:Nat} (h:Yn md ops tl i=true):Behind md ops tl i:=fun b a=>List.all_eq_true.1 h b a
def chainB (md:Region.Mode) (ops:Array Oper):List Nat->Array Bool->Bool
  | [],listed=>(Region.ready md ops listed).isEmpty
  | j :: r,listed=>(ops[j]?).isSome && decide (Region.ready md ops listed=[j]) && chainB md ops r (listed.setIfInBounds j true)
def qP (l:List Oper):List Nat->List Oper
  | []=>[]
  | j :: r=>match l[j]? with
    | some o=>o :: qP l r
    | none=>qP l r
theorem yH:∀(tl:List Nat) (listed:Array Bool) (a:Act) (w:World),chainB md ops tl listed=true->wpList P ops Q (qP ops.toList tl) a w->wpAny P md ops Q tl.length listed a w
 | [],listed,a,w,hB,h=>⟨by simpa [chainB]using hB,h⟩
 | j :: r,listed,a,w,hB,h=>by
  simp only[chainB,Bool.and_eq_true,decide_eq_true_eq]at hB;obtain⟨⟨l,c⟩,d⟩:=hB;obtain⟨o,e⟩:=Option.isSome_iff_exists.1 l;have m:ops.toList[j]? = some o:=by simpa using e
  simp only[qP,m]at h;refine⟨fun b=>(by rw[c]at b;cases b),fun i C=>?_⟩;rw[c]at C;have f:i=j:=by simpa using C
  subst f;unfold wpOp;unfold wpList at h;simp only[e];split at h
  ·rename_i hw;rw[if_pos hw];exact h.imp (fun g=>Oper.wp_mono (fun D G k=>yH r _ D G d k) g) id
  ·rename_i hw;rw[if_neg hw];exact yH r _ _ w d h
def Zn (md:Region.Mode) (ops:Array Oper) (tl:List Nat):List (Nat × Bool)->Array Bool->Bool
  | [],listed=>chainB md ops tl listed
  | (i,q) :: r,listed=>(ops[i]?).isSome && (if q then(Region.ready md ops listed).contains i && Region.free md ops listed i && Yn md ops tl i else decide (Region.ready md ops listed=[i])) && Zn md ops tl r (listed.setIfInBounds i true)
theorem QH {tl:List Nat} {listed:Array Bool} (h:chainB md ops tl listed=true):∀j∈Region.ready md ops listed,j∈tl:=by
  intro j A;cases tl with
  | nil=>simp only[chainB,List.isEmpty_iff]at h;rw[h]at A;cases A
  | cons k r =>
    simp only[chainB,Bool.and_eq_true,decide_eq_true_eq]at h;rw[h.1.2]at A;simp at A;simp[A]
theorem mg {tl:List Nat} (e:Region.noSelect ops=true):∀{C:World->Prop} (j:List (Nat × Bool)) (listed:Array Bool) (a:Act) (w:World),Closed md ops listed->C w->Zn md ops tl j listed=true ->
    fD P ops C (fun a w=>wpList P ops Q (qP ops.toList tl) a w) (ul ops.toList j) a w ->
    wJ P md ops C (fun listed a w=>chainB md ops tl listed=true/\wpList P ops Q (qP ops.toList tl) a w) j.length listed a w
  | _,[],listed,a,w,_,_,hB,h=>⟨hB,h⟩
  | _,(i,q) :: r,listed,a,w,hcl,hC,hB,h=>by
    simp only[Zn,Bool.and_eq_true]at hB;obtain⟨⟨u,b⟩,g⟩:=hB;obtain⟨o,d⟩:=Option.isSome_iff_exists.1 u;have x:ops.toList[i]? = some o:=(by simpa using d);simp only[ul,x]at h;cases q with
    | true =>
      simp only[if_true,Bool.and_eq_true]at b;simp only[fD]at h;have f:i∈Region.ready md ops listed:=(by simpa using b.1.1);have l:=MU b.2;split at h
      · rename_i hw
        obtain⟨v,t,hk⟩:=h;exact yB d (Region.noSelect_spec e) l (fun _ _ _ c=>QH c.1) r.length listed a w (Region.free_spec d b.1.2) hcl f hC (.inl ⟨hw,t⟩) (mg e r _ _ _ (hcl.set f) hC g hk)
      · rename_i hw
        exact yB d (Region.noSelect_spec e) l (fun _ _ _ c=>QH c.1) r.length listed a w (Region.free_spec d b.1.2) hcl f hC (.inr ⟨by simpa using hw,rfl⟩) (mg e r _ _ _ (hcl.set f) hC g h)
    | false =>
      simp only[Bool.false_eq_true,if_false,decide_eq_true_eq]at b;simp only[fD]at h;refine⟨fun k=>(by rw[b]at k;cases k),fun n G=>?_⟩;rw[b]at G;have D:n=i:=(by simpa using G);subst D;have m:=hcl.set (i:=n) (by rw[b];simp);unfold opC;simp only[d];split at h
      · rename_i hw
        rw[if_pos hw];exact vu (fun z A c=>⟨c.1,by obtain⟨y,H,p,s⟩:=c.2;exact qS p _ _ _ _ (mg e r _ _ _ m H g s)⟩) h
      · rename_i hw
        rw[if_neg hw];exact mg e r _ _ _ m hC g h
def aei (md:Region.Mode) (ops:Array Oper) (ord:List (Nat × Bool)) (tl:List Nat):Bool:=Region.noSelect ops && decide (ord.length+tl.length=ops.size) && Zn md ops tl ord (Array.replicate ops.size false)
theorem cZ {id:Nat} {lo:List Oper} {a:Act} {w:World} (c:List (Nat × Bool)) (tl:List Nat) (C:World->Prop) (l:P.follows .mixedOrders=true) (f:aei .any lo.toArray c tl=true)
    (h:∀d,Md [] w d->C d/\fD P lo.toArray C (fun a w=>wpList P lo.toArray Q (qP lo tl) a w) (ul lo c) a d):(Code.region id lo.toArray true).wp P Q a w:=by
  simp only[aei,Bool.and_eq_true,decide_eq_true_eq]at f;obtain⟨⟨G,H⟩,i⟩:=f;obtain⟨j,hk⟩:=h _ (Md.drew w);refine wp_region_any l ?_;have:=mg (md:=.any) (C:=C) (Q:=Q) (tl:=tl) G c _ a _ (fun k m hk D=>by simp[Array.getD_eq_getD_getElem?,Array.getElem?_replicate]at D;split at D<;>simp at D) j i (by simpa using hk);have g:=sR (Q:=Q) (t:=tl.length) (E:=fun b a w=>chainB .any lo.toArray tl b=true/\wpList P lo.toArray Q (qP lo.toArray.toList tl) a w) (fun b a w e=>yH tl b a w e.1 e.2) _ _ _ _ this
  rwa [H]at g
end
theorem dZ {α:Type} {l:List α} {i:Nat} (h:i<l.length):∃x,l[i]? = some x:=⟨l[i],by simp[h]⟩
theorem QD (n:Nat):(Value.int .u8 ((n%256:Nat):Int))=b8 (UInt8.ofNat n):=by simp[b8,UInt8.toNat_ofNat']
theorem OB (l:Ly):∀u∈jb l,u.oneCell'=true:=by
  intro u A;simp only[jb,List.mem_cons,List.not_mem_nil,or_false]at A
  rcases A with h|h|h|h|h|h|h|h|h|h|h|h|h|h|h|h <;> (subst h;rfl)
theorem aU {cs:List Value} (h:cs.all (fun u=>u.oneCell')=true):∀u∈cs,u.oneCell'=true:=by simpa using h
def o8:List UInt8:=List.replicate 16 0
theorem cK {α:Type} {l:List α} {i:Nat} {x:α} (h:l[i]? = some x):l.drop i=x :: l.drop (i+1):=by obtain⟨A,B⟩:=List.getElem?_eq_some_iff.1 h;rw[List.drop_eq_getElem_cons A,B]
theorem ew {α:Type} {l:List α} {i:Nat} (h:l.length<=i):l.drop i=[]:=List.drop_eq_nil_of_le h
theorem afW {α:Type} {l:List α} {i:Nat} {x:α} (h:l[i]? = some x):l.take (i+1)=l.take i ++ [x]:=by rw[List.take_add_one,h];rfl
def bw (S:List Nat) (w:World) (b:Nat):Prop:=b∈S\/w.heap.size<=b
theorem bw.new {S S':List Nat} {w a:World} (c:Md S w a):∀b,a.heap.size<=b->bw S' w b:=fun _ hb=>.inr (lv c.size hb)
theorem bw.up {w:World} {Q:Nat->Prop} (u:Up w Q):∀b,bw [] w b->Q b:=fun b hb=>hb.elim (fun h=>by simp at h) (u b)
theorem bw.wid {S:List Nat} {w:World} {b:Nat} (h:bw [] w b):bw S w b:=h.elim (fun h=>by simp at h) .inr
theorem bw.lift {S S':List Nat} {w a:World} (c:Md S w a):∀b,bw [] a b->bw S' w b:=fun _ hb=>hb.elim (fun h=>by simp at h) (fun h=>.inr (lv c.size h))
theorem bD {x b:Nat} {l:List Nat} (h:x≠b) (k:x∉l):x∉b :: l:=by simp[h,k]
theorem cr {x:Nat} {l m:List Nat} (h:x∉l) (k:x∉m):x∉l ++ m:=by simp[h,k]
theorem d8 {P:Nat->Prop} {b:Nat} {l:List Nat} (h:P b) (k:∀i∈l,P i):∀i∈b :: l,P i:=by
  intro i A
  rcases List.mem_cons.1 A with A|A
  · rw[A];exact h
  exact k i A
theorem dV {P:Nat->Prop} {l m:List Nat} (h:∀i∈l,P i) (k:∀i∈m,P i):∀i∈l ++ m,P i:=by intro i A;exact(List.mem_append.1 A).elim (h i) (k i)
theorem all_nil {P:Nat->Prop}:∀i∈([]:List Nat),P i:=by simp
theorem jF {P:Nat->Prop} {v:Value} (h:∀b,ah v=some b->P b):∀i∈(ah v).toList,P i:=by
  intro i A;cases hv:ah v with
  | none=>rw[hv]at A;simp at A
  | some b=>rw[hv]at A;simp at A;subst A;exact h _ hv
def oZ (w w':World) (Q Q':Nat->Prop):Prop:=(∀b,Q b->b<w.heap.size->Q' b)/\(∀b,Q' b->Q b)/\Up w' Q'
section
variable {α β:Type} {T:Dt α} {U:Dt β} {w w':World} {Q Q':Nat->Prop} {v:Value} {xs:List α}
theorem Ls.head {hi:Nat} (h:Ls T w Q v xs) (a:hi<=xs.length):Ls T w Q (mE T.n v 0 hi) (xs.take hi):=by simpa using h.part 0 hi (Nat.zero_le _) a
theorem Ls.tail {lo:Nat} (h:Ls T w Q v xs) (h1:lo<=xs.length):Ls T w Q (mE T.n v lo xs.length) (xs.drop lo):=by simpa using h.part lo xs.length h1 (Nat.le_refl _)
theorem Ow.eH {e:Nat} {lo lo':Nat->Prop} (h:Ow T e lo w Q v xs) (a:∀b,ah v=some b->lo' b):Ow T e lo' w Q v xs:=⟨h.1,fun b hb=>⟨a b hb,(h.2 b hb).2⟩⟩
theorem Ow.lower {e:Nat} {lo lo':Nat->Prop} (h:Ow T e lo w Q v xs) (a:∀b,lo b->lo' b):Ow T e lo' w Q v xs:=⟨h.1,fun b hb=>⟨a b (h.2 b hb).1,(h.2 b hb).2⟩⟩
theorem Ow.freeze {e:Nat} {lo:Nat->Prop} (h:Ow T e lo w Q v xs):∃a:Nat->Prop,(∀b,Q b->a b)/\(∀b,a b->Q b\/ah v=some b)/\Ls T w a v xs :=
  ⟨fun b=>Q b\/ah v=some b,fun _=>.inl,fun _=>id,(h.eH (lo':=fun b=>ah v=some b) fun _ hb=>hb).ls (fun _=>.inl) (fun _=>.inr)⟩
theorem Ow.kz {e:Nat} {lo:Nat->Prop} {d:Value} (h:Ow T e lo w Q v xs) (s:∀b,Q b->Q' b) (t:∀b,Q' b->Q b\/ah d=some b) (i:∀b,ah v=some b->b∉(ah d).toList):Ow T e lo w Q' v xs:=by obtain⟨⟨C,D,f⟩,c⟩:=h;exact⟨⟨C,D,f.sub fun b a _=>s b a⟩,fun b a=>⟨(c b a).1,fun g=>(t b g).elim (c b a).2 fun G=>i b a (by rw[G];simp)⟩⟩
theorem FN {b m:Nat} {s:Ly} (h:By w (.slice (some ⟨b,0,none⟩) m m) s):∃a:Nat->Prop,(∀x,Q x->a x)/\(∀x,a x->Q x\/x=b)/\Ls e6 w a (.slice (some ⟨b,0,none⟩) m m) s :=
  ⟨fun x=>Q x\/x=b,fun _=>.inl,fun _=>id,Ls.of_by h fun x c _=>.inr (by simp[ah]at c;exact c.symm)⟩
theorem Ow.back {e:Nat} {lo:Nat->Prop} (h:Ow T e lo w Q v xs) (t:∀b,Q b->Q' b) (n:∀b,ah v=some b->¬Q' b):Ow T e lo w Q' v xs:=by obtain⟨⟨B,C,D⟩,E⟩:=h;exact⟨⟨B,C,D.sub fun b A _=>t b A⟩,fun b A=>⟨(E b A).1,n b A⟩⟩
theorem HZ {b:Nat} {v:Value} (h:b∉(ah v).toList) (k:ah v=some b):False:=h (by rw[k];simp)
theorem Ls.zB {S:List Nat} {i:Nat} {x:α} (h:Ls T w Q v xs) (hi:xs[i]? = some x) (d:∀b∈S,¬Q b):∀b,ah v=some b->b∉S:=by
  obtain⟨c,e,f,rfl,g,G,H,C,j,k⟩:=h;intro b a D;cases c with
  | none=>simp[ah]at a
  | some p =>
    simp[ah]at a;subst a;exact d _ D (C p q (by rintro rfl;simp at hi))
theorem At.md {S:List Nat} {k:Nat} {c:List Value} (h:At w v k c) (m:Md S w w') (e:∀b,ah v=some b->b∉S):At w' v k c:=by obtain⟨p,l,a,rfl,d⟩:=h;exact⟨p,l,a,q,fun f g C=>m.cell (d f g C) (by rw[Addr.add_block];exact e _ q)⟩
theorem Ow.eN {e ty b:Nat} {lo:Nat->Prop} {cs:List Value} (h:Ow T e lo w Q v xs) (d:bS w b cs ty) (f:Nat.beq e ty=false):∀a,ah v=some a->a≠b:=by obtain⟨⟨g,c,C⟩,D⟩:=h;exact c.ne d f
theorem ac8 {e ty b:Nat} {lo:Nat->Prop} {cs:List Value} (c:bS w b cs ty) (h:Ow T e lo w Q v xs) (d:Nat.beq e ty=false):∀a,ah v=some a->a∉[b] :=
  fun a hb=>by simpa using h.eN c d a hb
theorem wN {e ty b:Nat} {lo:Nat->Prop} {cs:List Value} (h:Ow T e lo w Q v xs) (d:bS w b cs ty) (f:Nat.beq e ty=false):b∉(ah v).toList:=by
  intro a;cases hv:ah v with
  | none=>rw[hv]at a;simp at a
  | some c=>rw[hv]at a;simp at a;exact h.eN d f c hv a.symm
theorem Own.ajI {e e' sz i m m':Nat} {v d:Value} {cs f:List Value} (h:Own w e sz v m cs) (k:Own w e' i d m' f) (c:Nat.beq e e'=false):∀b,ah v=some b->ah d≠some b:=by
  intro b C a
  rcases h.2 with⟨rfl,_⟩|⟨g,F,G,rfl,_,H,_⟩
  · simp[ah]at C
  rcases k.2 with⟨rfl,_⟩|⟨I,D,E,rfl,_,B,_⟩
  · simp[ah]at a
  simp[ah]at C a;subst C;subst a;rw[H]at B;simp at B;rw[B.2]at c;simp at c
theorem cW {v d:Value} (h:∀x,ah v=some x->ah d≠some x):∀b,ah d=some b->b∉(ah v).toList:=by
  intro b e a;cases hv:ah v with
  | none=>rw[hv]at a;simp at a
  | some c=>rw[hv]at a;simp at a;subst a;exact h _ hv e
theorem lM {v a:Value} (h:∀x,ah v=some x->ah a≠some x):∀x,ah a=some x->ah v≠some x:=fun x c b=>h x b c
theorem ac9 {e e':Nat} {lo lo':Nat->Prop} {d:Value} {ys:List β} (h:Ow T e lo w Q v xs) (k:Ow U e' lo' w Q' d ys) (g:Nat.beq e e'=false):∀b,ah d=some b->b∉(ah v).toList:=by
  intro b C a;obtain⟨⟨i,f,G⟩,H⟩:=h;obtain⟨⟨j,D,l⟩,m⟩:=k;cases hv:ah v with
  | none=>rw[hv]at a;simp at a
  | some c=>rw[hv]at a;simp at a;subst a;exact f.ajI D g _ hv C
theorem aB {e ty b:Nat} {lo:Nat->Prop} {cs:List Value} (c:bS w b cs ty) (h:Ow T e lo w Q v xs) (d:Nat.beq e ty=false:=by decide):∀a,ah v=some a->a∉[b]:=ac8 c h d
theorem aW {e ty b:Nat} {lo:Nat->Prop} {cs:List Value} (h:Ow T e lo w Q v xs) (a:bS w b cs ty) (c:Nat.beq e ty=false:=by decide):b∉(ah v).toList:=wN h a c
theorem aO {e e':Nat} {lo lo':Nat->Prop} {a:Value} {ys:List β} (h:Ow T e lo w Q v xs) (k:Ow U e' lo' w Q' a ys) (c:Nat.beq e e'=false:=by decide):∀b,ah a=some b->b∉(ah v).toList:=ac9 h k c
end
section
variable {P:Program} {Q:Exit->Act->World->Prop} {n:Nat} {A:Fr n} {D:List Deferred} {l:List (Nat × Value)} {w:World}
def Joins (n:Nat) (D:List Deferred) (l1:Bool->List (Nat × Value)) (R:Bool->World->Prop) (a:Act) (w:World):Prop:=∃(b:Bool) (B:Fr n),a=aQ B D (l1 b)/\R b w
theorem V4 {id:Nat} {lo:List Oper} (e:Bool->List (Nat × Value)) (R:Bool->World->Prop)
    (h:wpList P lo.toArray (fun d c a=>d = .normal/\Joins n D e R c a) lo (aQ A D l) w)
    (k:∀(b:Bool) (B:Fr n) (a:World),R b a->Q .normal (aQ B D (e b)) a):(Code.region id lo.toArray false).wp P Q (aQ A D l) w:=by
  refine wp_mono (aG (Q:=fun d c a=>d = .normal/\Joins n D e R c a) h) ?_;rintro d c a ⟨rfl,b,B,rfl,C⟩;exact k b B a C
theorem jn {a:Bool->List (Nat × Value)} {R:Bool->World->Prop} (b:Bool) (d:Fits n l (a b)) (c:R b w):Joins n D a R (aQ A D l) w :=
  ⟨b,_,(cP (A:=A) (D:=D) d).symm,c⟩
theorem vW {G:Prop} (b:Bool) (h1:b=true->G) (a:b=false->G):G:=by cases b<;>simp_all
end
def oJ (n:Int):Bool:=decide (n=1\/n=2\/n=4\/n=8)
def AZ:List UInt8->Nat
  | []=>0
  | b :: r=>b.toNat+256*AZ r
def lS (l:Ly) (a n:Int):Nat × Bool :=
  if oJ n=true/\0<=a/\a+n<=l.length then(AZ ((l.drop a.toNat).take n.toNat),true)else(0,false)
theorem ajD (l:Ly):AZ l<256 ^ l.length:=by
  induction l with
  | nil=>simp[AZ]
  | cons b r ih =>
    simp only[AZ,List.length_cons,Nat.pow_succ];have:=UInt8.toNat_lt b;omega
theorem uZ {l:Ly} {k:Nat} (h:l.length<=k):AZ l<256 ^ k:=lj (ajD l) (Nat.pow_le_pow_right Xx h)
theorem S2 {l:Ly} {i k:Nat} {x:UInt8} (h:l[i]? = some x):AZ ((l.drop i).take (k+1))=x.toNat+256*AZ ((l.drop (i+1)).take k):=by rw[cK h];rfl
theorem BP {l:Ly} {a n:Int} (h:¬(oJ n=true/\0<=a/\a+n<=l.length)):lS l a n=(0,false):=if_neg h
theorem fA {n:Int}:oJ n=true↔(n=1\/n=2\/n=4\/n=8):=by simp[oJ]
theorem zL {n:Int} (h:oJ n=true):1<=n/\n<=8:=by rw[fA]at h;omega
def oE (l:List Nat):List Value:=[.int .u64 ((l.getD 0 0:Nat):Int),.int .u64 ((l.getD 1 0:Nat):Int),.int .u64 ((l.getD 2 0:Nat):Int),.int .u64 ((l.getD 3 0:Nat):Int),.int .u64 ((l.getD 4 0:Nat):Int),.int .u64 ((l.getD 5 0:Nat):Int),.int .u64 ((l.getD 6 0:Nat):Int),.int .u64 ((l.getD 7 0:Nat):Int),.int .u64 ((l.getD 8 0:Nat):Int),.int .u64 ((l.getD 9 0:Nat):Int),.int .u64 ((l.getD 10 0:Nat):Int),.int .u64 ((l.getD 11 0:Nat):Int),.int .u64 ((l.getD 12 0:Nat):Int),.int .u64 ((l.getD 13 0:Nat):Int),.int .u64 ((l.getD 14 0:Nat):Int),.int .u64 ((l.getD 15 0:Nat):Int),.int .u64 ((l.getD 16 0:Nat):Int),.int .u64 ((l.getD 17 0:Nat):Int),.int .u64 ((l.getD 18 0:Nat):Int),.int .u64 ((l.getD 19 0:Nat):Int)]
theorem sF {l:List Nat} (h:l.length=20):oE l=l.map fun x=>.int .u64 (x:Int):=by
  apply List.ext_getElem
  · simp[oE,h]
  intro i C E;simp[oE]at C;simp only[List.getElem_map];have B:i<l.length:=by omega
  rcases Nat.lt_or_ge i 7 with D|D
  · rcases(show i=0\/i=1\/i=2\/i=3\/i=4\/i=5\/i=6 by omega)with rfl|rfl|rfl|rfl|rfl|rfl|rfl <;> simp[oE,List.getD,B]
  skip
  rcases Nat.lt_or_ge i 14 with A|A
  · rcases(show i=7\/i=8\/i=9\/i=10\/i=11\/i=12\/i=13 by omega)with rfl|rfl|rfl|rfl|rfl|rfl|rfl <;> simp[oE,List.getD,B]
  skip
  rcases(show i=14\/i=15\/i=16\/i=17\/i=18\/i=19 by omega)with rfl|rfl|rfl|rfl|rfl|rfl <;> simp[oE,List.getD,B]
theorem FX {l:List Nat} {k v:Nat} (h:l.length=20) (hk:k<20):oE (l.set k v)=(oE l).set k (.int .u64 (v:Int)):=by rw[sF h,sF (by simpa using h),List.map_set]
def ahW:Dt (List Nat) where
  n:=20
  pos:=by decide
  oP _ _ cs x:=cs=oE x/\x.length=20/\∀y∈x,y<18446744073709551616
  len:=by rintro _ _ _ _ ⟨rfl,_⟩;rfl
  one:=by rintro _ _ _ _ ⟨rfl,h,_⟩ u hu;rw[sF h]at hu;obtain⟨x,_,rfl⟩:=List.mem_map.1 hu;rfl
  md:=fun h _ _=>h
  sub:=fun h _=>h
def oF (l:List Nat):List Value:=[.int .u64 ((l.getD 0 0:Nat):Int),.int .u64 ((l.getD 1 0:Nat):Int),.int .u64 ((l.getD 2 0:Nat):Int),.int .u64 ((l.getD 3 0:Nat):Int),.int .u64 ((l.getD 4 0:Nat):Int),.int .u64 ((l.getD 5 0:Nat):Int),.int .u64 ((l.getD 6 0:Nat):Int),.int .u64 ((l.getD 7 0:Nat):Int),.int .u64 ((l.getD 8 0:Nat):Int),.int .u64 ((l.getD 9 0:Nat):Int),.int .u64 ((l.getD 10 0:Nat):Int),.int .u64 ((l.getD 11 0:Nat):Int),.int .u64 ((l.getD 12 0:Nat):Int),.int .u64 ((l.getD 13 0:Nat):Int),.int .u64 ((l.getD 14 0:Nat):Int),.int .u64 ((l.getD 15 0:Nat):Int),.int .u64 ((l.getD 16 0:Nat):Int),.int .u64 ((l.getD 17 0:Nat):Int),.int .u64 ((l.getD 18 0:Nat):Int),.int .u64 ((l.getD 19 0:Nat):Int),.int .u64 ((l.getD 20 0:Nat):Int)]
theorem wA {l:List Nat} (h:l.length=21):oF l=l.map fun x=>.int .u64 (x:Int):=by
  apply List.ext_getElem
  · simp[oF,h]
  intro i C E;simp[oF]at C;simp only[List.getElem_map];have B:i<l.length:=by omega
  rcases Nat.lt_or_ge i 7 with D|D
  · rcases(show i=0\/i=1\/i=2\/i=3\/i=4\/i=5\/i=6 by omega)with rfl|rfl|rfl|rfl|rfl|rfl|rfl <;> simp[oF,List.getD,B]
  skip
  rcases Nat.lt_or_ge i 14 with A|A
  · rcases(show i=7\/i=8\/i=9\/i=10\/i=11\/i=12\/i=13 by omega)with rfl|rfl|rfl|rfl|rfl|rfl|rfl <;> simp[oF,List.getD,B]
  skip
  rcases(show i=14\/i=15\/i=16\/i=17\/i=18\/i=19\/i=20 by omega)with rfl|rfl|rfl|rfl|rfl|rfl|rfl <;> simp[oF,List.getD,B]
theorem Wy {l:List Nat} {k v:Nat} (h:l.length=21) (hk:k<21):oF (l.set k v)=(oF l).set k (.int .u64 (v:Int)):=by rw[wA h,wA (by simpa using h),List.map_set]
def ahX:Dt (List Nat) where
  n:=21
  pos:=by decide
  oP _ _ cs x:=cs=oF x/\x.length=21/\∀y∈x,y<18446744073709551616
  len:=by rintro _ _ _ _ ⟨rfl,_⟩;rfl
  one:=by rintro _ _ _ _ ⟨rfl,h,_⟩ u hu;rw[wA h]at hu;obtain⟨x,_,rfl⟩:=List.mem_map.1 hu;rfl
  md:=fun h _ _=>h
  sub:=fun h _=>h
theorem bU {a b:List Value} (h:a.all (fun c=>c.oneCell')=true) (d:b.all (fun c=>c.oneCell')=true):(a ++ b).all (fun c=>c.oneCell')=true:=by rw[List.all_append,h,d];rfl
theorem mW {v:Value} (h:v.oneCell'=true):[v].all (fun u=>u.oneCell')=true:=by simp[h]
theorem jM (l:Ly):(jb l).all (fun u=>u.oneCell')=true:=List.all_eq_true.2 (OB l)
theorem mK (n:Nat):(List.replicate n 0).length=n/\∀y∈List.replicate n 0,y<18446744073709551616:=⟨by simp,by simp⟩
theorem xI {l:List Nat} {n k v:Nat} (h:l.length=n/\∀y∈l,y<18446744073709551616) (b:v<18446744073709551616):(l.set k v).length=n/\∀y∈l.set k v,y<18446744073709551616 :=
  ⟨by simpa using h.1,fun y c=>(List.mem_or_eq_of_mem_set c).elim (h.2 y) (fun a=>a ▸ b)⟩
theorem gq {l:List Nat} {n:Nat} (h:l.length=n/\∀y∈l,y<18446744073709551616) (k:Nat):l.getD k 0<18446744073709551616:=by
  rw[List.getD_eq_getElem?_getD];cases hk:l[k]? with
  | none=>simp
  | some y=>simpa using h.2 y (List.mem_of_getElem? hk)
structure Pr where
  name:List UInt8
  value:List UInt8
def Pr.cells (x:Pr):List Value :=
  [(str x.name)] ++ ([(str x.value)])
def qf:Dt Pr:=uG (fun x=>(x.name,x.value)) (fW ir ir)
theorem qg {w:World} {Q:Nat->Prop} {cs:List Value} {x:Pr} (h:qf.oP w Q cs x):∃(_:True),cs=x.cells:=by obtain⟨_,_,rfl,⟨rfl,_⟩,⟨rfl,_⟩⟩:=h;exact⟨trivial,q⟩
theorem HK {w:World} {Q:Nat->Prop} {x:Pr}:qf.oP w Q (x.cells) x :=
  ⟨_,_,q,⟨q,tV⟩,⟨q,tV⟩⟩
theorem Pr.one {x:Pr}:(x.cells).all (fun u=>u.oneCell')=true:=(bU q q)
structure Rec where
  seq:Nat
  bH:Nat
  mono:Nat
  bC:List UInt8
  ak:List Pr
def Rec.cells (x:Rec) (v0:Value):List Value :=
  [(.int .u64 x.seq)] ++ ([(.int .u64 x.bH)] ++ ([(.int .u64 x.mono)] ++ ((jb x.bC) ++ ([v0]))))
def UD:Dt Rec:=uG (fun x=>(x.seq,x.bH,x.mono,x.bC,x.ak)) (fW cV (fW cV (fW cV (fW tId (rq qf)))))
def Rec.ok (x:Rec):Prop:=x.seq<18446744073709551616/\x.bH<18446744073709551616/\x.mono<18446744073709551616/\x.bC.length=16
theorem ahZ {w:World} {Q:Nat->Prop} {cs:List Value} {x:Rec} (h:UD.oP w Q cs x):∃a,cs=x.cells a/\Rec.ok x/\Ls qf w Q a x.ak:=by obtain⟨_,_,rfl,⟨rfl,b⟩,⟨_,_,rfl,⟨rfl,c⟩,⟨_,_,rfl,⟨rfl,C⟩,⟨_,_,rfl,⟨rfl,D⟩,⟨a,rfl,d⟩⟩⟩⟩⟩:=h;exact⟨a,q,⟨b,c,C,D⟩,d⟩
theorem ahY {w:World} {Q:Nat->Prop} {x:Rec} {v0:Value} (c0:Rec.ok x) (c1:Ls qf w Q v0 x.ak):UD.oP w Q (x.cells v0) x :=
  ⟨_,_,q,⟨q,c0.1⟩,⟨_,_,q,⟨q,c0.2.1⟩,⟨_,_,q,⟨q,c0.2.2.1⟩,⟨_,_,q,⟨q,c0.2.2.2⟩,⟨_,q,c1⟩⟩⟩⟩⟩
theorem Rec.one {x:Rec} {v0:Value} (a:v0.oneCell'=true):(x.cells v0).all (fun b=>b.oneCell')=true:=(bU q (bU q (bU q (bU (jM _) (mW a)))))
structure Frame where
  kind:Nat
  flags:Nat
  size:Nat
structure gW where
  bY:Nat
  b9:Nat
  d9:Nat
  entry:Nat
  array:Nat
  bB:Nat
  au:List UInt8
def gW.cells (x:gW) (v0:Value):List Value :=
  [(.int .u64 x.bY)] ++ ([(.int .u64 x.b9)] ++ ([(.int .u64 x.d9)] ++ ([(.int .u64 x.entry)] ++ ([(.int .u64 x.array)] ++ ([(.int .u64 x.bB)] ++ ([v0]))))))
def gW.ok (x:gW):Prop:=x.bY<18446744073709551616/\x.b9<18446744073709551616/\x.d9<18446744073709551616/\x.entry<18446744073709551616/\x.array<18446744073709551616/\x.bB<18446744073709551616
theorem gW.one {x:gW} {v0:Value} (a:v0.oneCell'=true):(x.cells v0).all (fun b=>b.oneCell')=true:=(bU q (bU q (bU q (bU q (bU q (bU q (mW a)))))))
structure jq where
  bY:Nat
  b9:Nat
  dat:Nat
  au:List UInt8
def jq.cells (x:jq) (v0:Value):List Value :=
  [(.int .u64 x.bY)] ++ ([(.int .u64 x.b9)] ++ ([(.int .u64 x.dat)] ++ ([v0])))
def jq.ok (x:jq):Prop:=x.bY<18446744073709551616/\x.b9<18446744073709551616/\x.dat<18446744073709551616
theorem jq.one {x:jq} {v0:Value} (a:v0.oneCell'=true):(x.cells v0).all (fun b=>b.oneCell')=true:=(bU q (bU q (bU q (mW a))))
structure mh where
  pos:Nat
  bY:Nat
def mh.cells (x:mh):List Value :=
  [(.int .u64 x.pos)] ++ ([(.int .u64 x.bY)])
def BG:Dt mh:=uG (fun x=>(x.pos,x.bY)) (fW cV cV)
def mh.ok (x:mh):Prop:=x.pos<18446744073709551616/\x.bY<18446744073709551616
theorem yx {w:World} {Q:Nat->Prop} {cs:List Value} {x:mh} (h:BG.oP w Q cs x):∃(_:True),cs=x.cells/\mh.ok x:=by obtain⟨_,_,rfl,⟨rfl,A⟩,⟨rfl,B⟩⟩:=h;exact⟨trivial,q,⟨A,B⟩⟩
theorem ZV {w:World} {Q:Nat->Prop} {x:mh} (c0:mh.ok x):BG.oP w Q (x.cells) x :=
  ⟨_,_,q,⟨q,c0.1⟩,⟨q,c0.2⟩⟩
theorem mh.one {x:mh}:(x.cells).all (fun u=>u.oneCell')=true:=(bU q q)
structure i7 where
  seq:Nat
  bH:Nat
  mono:Nat
  bC:List UInt8
  xor:Nat
  aH:List mh
def i7.cells (x:i7) (v0:Value):List Value :=
  [(.int .u64 x.seq)] ++ ([(.int .u64 x.bH)] ++ ([(.int .u64 x.mono)] ++ ((jb x.bC) ++ ([(.int .u64 x.xor)] ++ ([v0])))))
def i7.ok (x:i7):Prop:=x.seq<18446744073709551616/\x.bH<18446744073709551616/\x.mono<18446744073709551616/\x.bC.length=16/\x.xor<18446744073709551616
theorem i7.one {x:i7} {v0:Value} (a:v0.oneCell'=true):(x.cells v0).all (fun b=>b.oneCell')=true:=(bU q (bU q (bU q (bU (jM _) (bU q (mW a))))))
structure jd where
  next:Nat
  aH:List Nat
def jd.cells (x:jd) (v0:Value):List Value :=
  [(.int .u64 x.next)] ++ ([v0])
def jd.ok (x:jd):Prop:=x.next<18446744073709551616
theorem jd.one {x:jd} {v0:Value} (a:v0.oneCell'=true):(x.cells v0).all (fun b=>b.oneCell')=true:=(bU q (mW a))
structure o9 where
  first:Nat
  tail:Nat
def o9.cells (x:o9):List Value :=
  [(.int .u64 x.first)] ++ ([(.int .u64 x.tail)])
def IZ:Dt o9:=uG (fun x=>(x.first,x.tail)) (fW cV cV)
def o9.ok (x:o9):Prop:=x.first<18446744073709551616/\x.tail<18446744073709551616
theorem PD {w:World} {Q:Nat->Prop} {cs:List Value} {x:o9} (h:IZ.oP w Q cs x):∃(_:True),cs=x.cells/\o9.ok x:=by obtain⟨_,_,rfl,⟨rfl,A⟩,⟨rfl,B⟩⟩:=h;exact⟨trivial,q,⟨A,B⟩⟩
theorem PC {w:World} {Q:Nat->Prop} {x:o9} (c0:o9.ok x):IZ.oP w Q (x.cells) x :=
  ⟨_,_,q,⟨q,c0.1⟩,⟨q,c0.2⟩⟩
structure e5 where
  gF:Nat
  bM:Nat
  state:Nat
  bZ:List UInt8
  dG:List UInt8
  bC:List UInt8
  seq:List UInt8
  n:List Nat
  cM:Nat
  dh:Nat
  dJ:Nat
def e5.cells (x:e5):List Value :=
  [(.int .u32 x.gF)] ++ ([(.int .u32 x.bM)] ++ ([(.int .i64 x.state)] ++ ((jb x.bZ) ++ ((jb x.dG) ++ ((jb x.bC) ++ ((jb x.seq) ++ ((oE x.n) ++ ([(.int .u32 x.cM)] ++ ([(.int .u32 x.dh)] ++ ([(.int .u64 x.dJ)]))))))))))
def XJ:Dt e5:=uG (fun x=>(x.gF,x.bM,x.state,x.bZ,x.dG,x.bC,x.seq,x.n,x.cM,x.dh,x.dJ)) (fW tU32 (fW tU32 (fW eK (fW tId (fW tId (fW tId (fW tId (fW (ahW) (fW tU32 (fW tU32 cV))))))))))
def e5.ok (x:e5):Prop:=x.gF<4294967296/\x.bM<4294967296/\x.state<9223372036854775808/\x.bZ.length=16/\x.dG.length=16/\x.bC.length=16/\x.seq.length=16/\(x.n.length=20/\∀y∈x.n,y<18446744073709551616)/\x.cM<4294967296/\x.dh<4294967296/\x.dJ<18446744073709551616
theorem abU {w:World} {Q:Nat->Prop} {cs:List Value} {x:e5} (h:XJ.oP w Q cs x):∃(_:True),cs=x.cells/\e5.ok x:=by obtain⟨_,_,rfl,⟨rfl,B⟩,⟨_,_,rfl,⟨rfl,C⟩,⟨_,_,rfl,⟨rfl,D⟩,⟨_,_,rfl,⟨rfl,E⟩,⟨_,_,rfl,⟨rfl,F⟩,⟨_,_,rfl,⟨rfl,G⟩,⟨_,_,rfl,⟨rfl,H⟩,⟨_,_,rfl,⟨rfl,I⟩,⟨_,_,rfl,⟨rfl,J⟩,⟨_,_,rfl,⟨rfl,K⟩,⟨rfl,A⟩⟩⟩⟩⟩⟩⟩⟩⟩⟩⟩:=h;exact⟨trivial,q,⟨B,C,D,E,F,G,H,I,J,K,A⟩⟩
theorem abT {w:World} {Q:Nat->Prop} {x:e5} (c0:e5.ok x):XJ.oP w Q (x.cells) x :=
  ⟨_,_,q,⟨q,c0.1⟩,⟨_,_,q,⟨q,c0.2.1⟩,⟨_,_,q,⟨q,c0.2.2.1⟩,⟨_,_,q,⟨q,c0.2.2.2.1⟩,⟨_,_,q,⟨q,c0.2.2.2.2.1⟩,⟨_,_,q,⟨q,c0.2.2.2.2.2.1⟩,⟨_,_,q,⟨q,c0.2.2.2.2.2.2.1⟩,⟨_,_,q,⟨q,c0.2.2.2.2.2.2.2.1⟩,⟨_,_,q,⟨q,c0.2.2.2.2.2.2.2.2.1⟩,⟨_,_,q,⟨q,c0.2.2.2.2.2.2.2.2.2.1⟩,⟨q,c0.2.2.2.2.2.2.2.2.2.2⟩⟩⟩⟩⟩⟩⟩⟩⟩⟩⟩
theorem e5.one {x:e5}:(x.cells).all (fun u=>u.oneCell')=true:=(bU q (bU q (bU q (bU (jM _) (bU (jM _) (bU (jM _) (bU (jM _) (bU q (bU q (bU q q))))))))))
structure bI where
  gF:Nat
  bM:Nat
  state:Nat
  bZ:List UInt8
  dG:List UInt8
  bC:List UInt8
  seq:List UInt8
  n:List Nat
  cM:Nat
  dh:Nat
  dJ:Nat
def bI.cells (x:bI):List Value :=
  [(.int .u32 x.gF)] ++ ([(.int .u32 x.bM)] ++ ([(.int .i64 x.state)] ++ ((jb x.bZ) ++ ((jb x.dG) ++ ((jb x.bC) ++ ((jb x.seq) ++ ((oF x.n) ++ ([(.int .u32 x.cM)] ++ ([(.int .u32 x.dh)] ++ ([(.int .u64 x.dJ)]))))))))))
def XI:Dt bI:=uG (fun x=>(x.gF,x.bM,x.state,x.bZ,x.dG,x.bC,x.seq,x.n,x.cM,x.dh,x.dJ)) (fW tU32 (fW tU32 (fW eK (fW tId (fW tId (fW tId (fW tId (fW (ahX) (fW tU32 (fW tU32 cV))))))))))
def bI.ok (x:bI):Prop:=x.gF<4294967296/\x.bM<4294967296/\x.state<9223372036854775808/\x.bZ.length=16/\x.dG.length=16/\x.bC.length=16/\x.seq.length=16/\(x.n.length=21/\∀y∈x.n,y<18446744073709551616)/\x.cM<4294967296/\x.dh<4294967296/\x.dJ<18446744073709551616
theorem abS {w:World} {Q:Nat->Prop} {cs:List Value} {x:bI} (h:XI.oP w Q cs x):∃(_:True),cs=x.cells/\bI.ok x:=by obtain⟨_,_,rfl,⟨rfl,B⟩,⟨_,_,rfl,⟨rfl,C⟩,⟨_,_,rfl,⟨rfl,D⟩,⟨_,_,rfl,⟨rfl,E⟩,⟨_,_,rfl,⟨rfl,F⟩,⟨_,_,rfl,⟨rfl,G⟩,⟨_,_,rfl,⟨rfl,H⟩,⟨_,_,rfl,⟨rfl,I⟩,⟨_,_,rfl,⟨rfl,J⟩,⟨_,_,rfl,⟨rfl,K⟩,⟨rfl,A⟩⟩⟩⟩⟩⟩⟩⟩⟩⟩⟩:=h;exact⟨trivial,q,⟨B,C,D,E,F,G,H,I,J,K,A⟩⟩
theorem abR {w:World} {Q:Nat->Prop} {x:bI} (c0:bI.ok x):XI.oP w Q (x.cells) x :=
  ⟨_,_,q,⟨q,c0.1⟩,⟨_,_,q,⟨q,c0.2.1⟩,⟨_,_,q,⟨q,c0.2.2.1⟩,⟨_,_,q,⟨q,c0.2.2.2.1⟩,⟨_,_,q,⟨q,c0.2.2.2.2.1⟩,⟨_,_,q,⟨q,c0.2.2.2.2.2.1⟩,⟨_,_,q,⟨q,c0.2.2.2.2.2.2.1⟩,⟨_,_,q,⟨q,c0.2.2.2.2.2.2.2.1⟩,⟨_,_,q,⟨q,c0.2.2.2.2.2.2.2.2.1⟩,⟨_,_,q,⟨q,c0.2.2.2.2.2.2.2.2.2.1⟩,⟨q,c0.2.2.2.2.2.2.2.2.2.2⟩⟩⟩⟩⟩⟩⟩⟩⟩⟩⟩
theorem bI.one {x:bI}:(x.cells).all (fun u=>u.oneCell')=true:=(bU q (bU q (bU q (bU (jM _) (bU (jM _) (bU (jM _) (bU (jM _) (bU q (bU q (bU q q))))))))))
structure dx where
  b:List UInt8
  h:bI
def dx.cells (x:dx) (v0:Value):List Value :=
  [v0] ++ ((bI.cells x.h))
def dP:Dt dx:=uG (fun x=>(x.b,x.h)) (fW (rq e6) XI)
def dx.ok (x:dx):Prop:=bI.ok x.h
theorem e7 {w:World} {Q:Nat->Prop} {cs:List Value} {x:dx} (h:dP.oP w Q cs x):∃a,cs=x.cells a/\dx.ok x/\Ls e6 w Q a x.b:=by obtain⟨_,_,rfl,⟨a,rfl,d⟩,C⟩:=h;obtain⟨_,rfl,c⟩:=abS C;exact⟨a,q,c,d⟩
theorem dz {w:World} {Q:Nat->Prop} {x:dx} {v0:Value} (c0:dx.ok x) (c1:Ls e6 w Q v0 x.b):dP.oP w Q (x.cells v0) x :=
  ⟨_,_,q,⟨_,q,c1⟩,(abR c0)⟩
structure nU where
  bZ:List UInt8
  dG:List UInt8
  seq:List UInt8
  ay:Nat
  aC:Nat
  bG:Nat
  cB:Bool
def nU.cells (x:nU):List Value :=
  (jb x.bZ) ++ ((jb x.dG) ++ ((jb x.seq) ++ ([(.int .i64 x.ay)] ++ ([(.int .i64 x.aC)] ++ ([(.int .i64 x.bG)] ++ ([(.bool x.cB)]))))))
def akx:Dt nU:=uG (fun x=>(x.bZ,x.dG,x.seq,x.ay,x.aC,x.bG,x.cB)) (fW tId (fW tId (fW tId (fW eK (fW eK (fW eK am7))))))
def nU.ok (x:nU):Prop:=x.bZ.length=16/\x.dG.length=16/\x.seq.length=16/\x.ay<9223372036854775808/\x.aC<9223372036854775808/\x.bG<9223372036854775808
theorem ahV {w:World} {Q:Nat->Prop} {cs:List Value} {x:nU} (h:akx.oP w Q cs x):∃(_:True),cs=x.cells/\nU.ok x:=by obtain⟨_,_,rfl,⟨rfl,A⟩,⟨_,_,rfl,⟨rfl,B⟩,⟨_,_,rfl,⟨rfl,C⟩,⟨_,_,rfl,⟨rfl,D⟩,⟨_,_,rfl,⟨rfl,E⟩,⟨_,_,rfl,⟨rfl,F⟩,⟨rfl,_⟩⟩⟩⟩⟩⟩⟩:=h;exact⟨trivial,q,⟨A,B,C,D,E,F⟩⟩
theorem ahU {w:World} {Q:Nat->Prop} {x:nU} (c0:nU.ok x):akx.oP w Q (x.cells) x :=
  ⟨_,_,q,⟨q,c0.1⟩,⟨_,_,q,⟨q,c0.2.1⟩,⟨_,_,q,⟨q,c0.2.2.1⟩,⟨_,_,q,⟨q,c0.2.2.2.1⟩,⟨_,_,q,⟨q,c0.2.2.2.2.1⟩,⟨_,_,q,⟨q,c0.2.2.2.2.2⟩,⟨q,tV⟩⟩⟩⟩⟩⟩⟩
theorem nU.one {x:nU}:(x.cells).all (fun u=>u.oneCell')=true:=(bU (jM _) (bU (jM _) (bU (jM _) (bU q (bU q (bU q q))))))
structure aP where
  bQ:List UInt8
  pos:Nat
  bX:Nat
  bB:Nat
  aT:List Nat
def aP.cells (x:aP) (v0:Value):List Value :=
  [(str x.bQ)] ++ ([(.int .u64 x.pos)] ++ ([(.int .i64 x.bX)] ++ ([(.int .i64 x.bB)] ++ ([v0]))))
def ck:Dt aP:=uG (fun x=>(x.bQ,x.pos,x.bX,x.bB,x.aT)) (fW ir (fW cV (fW eK (fW eK (rq cV)))))
def aP.ok (x:aP):Prop:=x.pos<18446744073709551616/\x.bX<9223372036854775808/\x.bB<9223372036854775808
theorem jo {w:World} {Q:Nat->Prop} {cs:List Value} {x:aP} (h:ck.oP w Q cs x):∃a,cs=x.cells a/\aP.ok x/\Ls cV w Q a x.aT:=by obtain⟨_,_,rfl,⟨rfl,_⟩,⟨_,_,rfl,⟨rfl,b⟩,⟨_,_,rfl,⟨rfl,c⟩,⟨_,_,rfl,⟨rfl,C⟩,⟨a,rfl,D⟩⟩⟩⟩⟩:=h;exact⟨a,q,⟨b,c,C⟩,D⟩
theorem vq {w:World} {Q:Nat->Prop} {x:aP} {v0:Value} (c0:aP.ok x) (c1:Ls cV w Q v0 x.aT):ck.oP w Q (x.cells v0) x :=
  ⟨_,_,q,⟨q,tV⟩,⟨_,_,q,⟨q,c0.1⟩,⟨_,_,q,⟨q,c0.2.1⟩,⟨_,_,q,⟨q,c0.2.2⟩,⟨_,q,c1⟩⟩⟩⟩⟩
theorem aP.one {x:aP} {v0:Value} (a:v0.oneCell'=true):(x.cells v0).all (fun b=>b.oneCell')=true:=(bU q (bU q (bU q (bU q (mW a)))))
structure Mk where
  c:nU
  h:e5
  depth:Nat
  b:List UInt8
  ai:List aP
  ak:List aP
  main:List Nat
def Mk.cells (x:Mk) (v0:Value) (v1:Value) (v2:Value) (v3:Value):List Value :=
  (nU.cells x.c) ++ ((e5.cells x.h) ++ ([(.int .u64 x.depth)] ++ ([v0] ++ ([v1] ++ ([v2] ++ ([v3]))))))
def tMk:Dt Mk:=uG (fun x=>(x.c,x.h,x.depth,x.b,x.ai,x.ak,x.main)) (fW akx (fW XJ (fW cV (fW (rq e6) (fW (rq ck) (fW (rq ck) (rq cV)))))))
def Mk.ok (x:Mk):Prop:=nU.ok x.c/\e5.ok x.h/\x.depth<18446744073709551616
theorem aky {w:World} {Q:Nat->Prop} {cs:List Value} {x:Mk} (h:tMk.oP w Q cs x):∃a c d e,cs=x.cells a c d e/\Mk.ok x/\Ls e6 w Q a x.b/\Ls ck w Q c x.ai/\Ls ck w Q d x.ak/\Ls cV w Q e x.main:=by obtain⟨_,_,rfl,C,⟨_,_,rfl,D,⟨_,_,rfl,⟨rfl,i⟩,⟨_,_,rfl,⟨a,rfl,j⟩,⟨_,_,rfl,⟨c,rfl,G⟩,⟨_,_,rfl,⟨d,rfl,H⟩,⟨e,rfl,k⟩⟩⟩⟩⟩⟩⟩:=h;obtain⟨_,rfl,f⟩:=ahV C;obtain⟨_,rfl,g⟩:=abU D;exact⟨a,c,d,e,q,⟨f,g,i⟩,j,G,H,k⟩
theorem XH {w:World} {Q:Nat->Prop} {x:Mk} {v0:Value} {v1:Value} {a:Value} {c:Value} (c0:Mk.ok x) (c1:Ls e6 w Q v0 x.b) (c2:Ls ck w Q v1 x.ai) (c3:Ls ck w Q a x.ak) (c4:Ls cV w Q c x.main):tMk.oP w Q (x.cells v0 v1 a c) x :=
  ⟨_,_,q,(ahU c0.1),⟨_,_,q,(abT c0.2.1),⟨_,_,q,⟨q,c0.2.2⟩,⟨_,_,q,⟨_,q,c1⟩,⟨_,_,q,⟨_,q,c2⟩,⟨_,_,q,⟨_,q,c3⟩,⟨_,q,c4⟩⟩⟩⟩⟩⟩⟩
theorem Mk.one {x:Mk} {v0:Value} {v1:Value} {a:Value} {b:Value} (c:v0.oneCell'=true) (h1:v1.oneCell'=true) (d:a.oneCell'=true) (e:b.oneCell'=true):(x.cells v0 v1 a b).all (fun f=>f.oneCell')=true:=(bU (nU.one) (bU (e5.one) (bU q (bU (mW c) (bU (mW h1) (bU (mW d) (mW e)))))))
structure Sq where
  l:List Int
  pos:Nat
def Sq.cells (x:Sq) (v0:Value):List Value :=
  [v0] ++ ([(.int .i64 x.pos)])
def Sq.ok (x:Sq):Prop:=x.pos<9223372036854775808
def low:Nat->Nat->List UInt8
  | _,0=>[]
  | v,n+1=>UInt8.ofNat (v%256) :: low (v/256) n
theorem iu (v n:Nat):(low v n).length=n:=by
  induction n generalizing v with
  | zero=>rfl
  | succ n ih=>simp[low,ih]
def nums:List Nat->List UInt8
  | []=>[]
  | v :: r=>low v 8 ++ nums r
theorem eC (l:List Nat):(nums l).length=8*l.length:=by
  induction l with
  | nil=>rfl
  | cons v r ih=>simp[nums,iu,ih];omega
theorem S7 (v:Nat) {n i:Nat} (h:i<n):low v (n-i)=UInt8.ofNat (v%256) :: low (v/256) (n-(i+1)):=by rw[show n-i=(n-(i+1))+1 by omega];rfl
theorem Zk (v:Nat) {n i:Nat} (h:¬i<n):low v (n-i)=[]:=by rw[show n-i=0 by omega];rfl
theorem aaR {l:List Nat} {i x:Nat} (h:l[i]? = some x):nums (l.drop i)=low x 8 ++ nums (l.drop (i+1)):=by rw[cK h];rfl
theorem SJ {l:List Nat} {i:Nat} (h:¬i<l.length):nums (l.drop i)=[]:=by rw[ew Xx];rfl
def GK (l:Ly):List UInt8:=l ++ List.replicate ((8-l.length%8)%8) 0
theorem abp {l:Ly} (h:l.length%8≠0):GK l=GK (l ++ [0]):=by unfold GK;rw[List.append_assoc,List.length_append];congr 1;rw[show(8-l.length%8)%8=(8-(l.length+[(0:UInt8)].length)%8)%8+1 by simp;omega,List.replicate_succ];rfl
theorem afj {l:Ly} (h:l.length%8=0):GK l=l:=by simp[GK,h]
theorem afk (l:Ly):(GK l).length=(l.length+7)/8*8:=by simp[GK];omega
def qn (kind:Nat) (body:Ly):List UInt8 :=
  if kind<1\/7<kind then[]else GK ([UInt8.ofNat kind,0,0,0,0,0,0,0] ++ nums [16+body.length] ++ body)
def iw (d:gW):List UInt8:=qn 1 (nums [d.bY,d.b9,d.d9,d.entry,d.array,d.bB] ++ d.au)
def gu (d:jq):List UInt8:=qn 2 (nums [d.bY,d.b9,d.dat] ++ d.au)
def fe (a:jd):List UInt8:=qn 6 (nums [a.next] ++ nums a.aH)
def qc:List o9->List UInt8
  | []=>[]
  | s :: r=>nums [s.first,s.tail] ++ qc r
def dX (kind:Nat) (l:List o9):List UInt8:=if kind≠4/\kind≠5 then[]else qn kind (qc l)
def lg:List mh->List UInt8
  | []=>[]
  | s :: r=>nums [s.pos,s.bY] ++ lg r
def dc (e:i7):List UInt8:=qn 3 (nums [e.seq,e.bH,e.mono] ++ e.bC ++ nums [e.xor] ++ lg e.aH)
def xo (h:e5) (depth:Nat):List UInt8 :=
  [76,80,75,83,72,72,82,72] ++ low h.gF 4 ++ low h.bM 4 ++ [UInt8.ofNat h.state,0,0,0,0,0,0,0] ++ h.bZ ++ h.dG ++ h.bC ++ h.seq ++ nums h.n ++ nums [depth] ++ low h.cM 4 ++ low h.dh 4 ++ nums [h.dJ]
theorem um {k:Nat} {b:Ly} (h:1<=k/\k<=7):(qn k b).length=(16+b.length+7)/8*8:=by unfold qn;rw[if_neg Xx,afk];simp[eC];omega
theorem XC {l:List o9} {i:Nat} {x:o9} (h:l[i]? = some x):qc (l.drop i)=nums [x.first,x.tail] ++ qc (l.drop (i+1)):=by rw[cK h];rfl
theorem M0 {l:List o9} {i:Nat} (h:¬i<l.length):qc (l.drop i)=[]:=by rw[ew Xx];rfl
theorem abL (l:List o9):(qc l).length=16*l.length:=by
  induction l with
  | nil=>rfl
  | cons v r ih=>simp[qc,eC,ih];omega
theorem VO {l:List mh} {i:Nat} {x:mh} (h:l[i]? = some x):lg (l.drop i)=nums [x.pos,x.bY] ++ lg (l.drop (i+1)):=by rw[cK h];rfl
theorem KE {l:List mh} {i:Nat} (h:¬i<l.length):lg (l.drop i)=[]:=by rw[ew Xx];rfl
theorem uY (l:List mh):(lg l).length=16*l.length:=by
  induction l with
  | nil=>rfl
  | cons v r ih=>simp[lg,eC,ih];omega
theorem xW (d:gW):(iw d).length=(16+(48+d.au.length)+7)/8*8:=by unfold iw;rw[um Xx];simp[eC]
theorem vK (d:jq):(gu d).length=(16+(24+d.au.length)+7)/8*8:=by unfold gu;rw[um Xx];simp[eC]
theorem vJ (a:jd):(fe a).length=(16+(8+8*a.aH.length)+7)/8*8:=by unfold fe;rw[um Xx];simp[eC]
theorem lU (e:i7) (h:e.bC.length=16):(dc e).length=(16+(48+16*e.aH.length)+7)/8*8:=by unfold dc;rw[um Xx];simp[eC,uY,h];omega
theorem vL (kind:Nat) (l:List o9) (h:kind=4\/kind=5):(dX kind l).length=(16+16*l.length+7)/8*8:=by unfold dX;rw[if_neg Xx,um Xx,abL]
theorem mY (kind:Nat) (l:List o9):(dX kind l).length<=24+16*l.length/\(kind=4\/kind=5->(dX kind l).length=(16+16*l.length+7)/8*8):=by
  refine⟨?_,fun h=>vL kind l h⟩
  by_cases h:kind=4\/kind=5
  · rw[vL kind l h];omega
  unfold dX;rw[if_pos Xx];simp
theorem abB {h:e5} {j v:Nat} (d:h.n.length=20) (c:j<20):(e5.cells h).set (67+j) (.int .u64 v)=e5.cells {h with n:=h.n.set j v}:=by
  have a:∀(m:List Nat) (t:e5),t.n=m->e5.cells t=([(.int .u32 t.gF)] ++ ([(.int .u32 t.bM)] ++ ([(.int .i64 t.state)] ++ ((jb t.bZ) ++ ((jb t.dG) ++ ((jb t.bC) ++ (jb t.seq))))))) ++ (oE m ++ ([(.int .u32 t.cM)] ++ ([(.int .u32 t.dh)] ++ [(.int .u64 t.dJ)]))):=by intro m t C;subst C;simp only[e5.cells,List.append_assoc]
  rw[a h.n h q,a (h.n.set j v) {h with n:=h.n.set j v} q,FX d c];have b:([(.int .u32 h.gF)] ++ ([(.int .u32 h.bM)] ++ ([(.int .i64 h.state)] ++ ((jb h.bZ) ++ ((jb h.dG) ++ ((jb h.bC) ++ (jb h.seq)))))):List Value).length=67:=rfl;have e:(oE h.n).length=20:=rfl;rw[List.set_append_right _ _ Xx,b,Nat.add_sub_cancel_left,List.set_append_left _ _ Xx]
theorem JF (c:BinOp) (a b:Int):0<=bits c .u64 a b/\bits c .u64 a b<18446744073709551616:=by unfold bits;cases c <;> simp only[PG] <;> omega
theorem ZD (t:T3):0<=pack t/\pack t<18446744073709551616:=JF _ _ _
theorem aea:∀(k:Nat) (t:T3) (l:Ly),0<=Zg k t l/\Zg k t l<18446744073709551616
  | 0,t,l=>by unfold Zg;split<;>exact ZD _
  | k+1,t,l=>by
    unfold Zg;split
    · exact aea k _ _
    · split<;>exact ZD _
theorem vf (l:Ly):0<=lookup l/\lookup l<18446744073709551616:=aea _ _ _
theorem afM (key l:Ly):0<=sip key l/\sip key l<18446744073709551616:=by unfold sip HD S4.all lK;exact JF _ _ _
def rO (l:Ly):Nat:=(lookup l).toNat
def cQ (k:Bool) (key l:Ly):Nat:=if k then(sip key l).toNat else rO l
theorem ER (k:Bool) (key l:Ly):((cQ k key l:Nat):Int)=if k then sip key l else lookup l:=by unfold cQ rO;have A:=vf l;have B:=afM key l;cases k <;> simp <;> omega
theorem ES (k:Bool) (key l:Ly):cQ k key l<18446744073709551616:=by have B:=vf l;have C:=afM key l;have A:=ER k key l;cases k <;> simp at A <;> omega
theorem S6 (l:Ly):((rO l:Nat):Int)=lookup l:=by have A:=vf l;unfold rO;omega
theorem FO (l:Ly):rO l<18446744073709551616:=by have A:=vf l;unfold rO;omega
def nv (v:Nat):List (List UInt8)->Nat
  | []=>v
  | b :: r=>nv (v ^^^ rO b) r
theorem UR {v:Nat} {l:List (List UInt8)} {i:Nat} {x:Ly} (h:l[i]? = some x):nv v (l.drop i)=nv (v ^^^ rO x) (l.drop (i+1)):=by rw[cK h];rfl
theorem CO {v:Nat} {l:List (List UInt8)} {i:Nat} (h:¬i<l.length):nv v (l.drop i)=v:=by rw[ew Xx];rfl
theorem HW {a b:Nat} (c:a<18446744073709551616) (hb:b<18446744073709551616):a ^^^ b<18446744073709551616:=Nat.xor_lt_two_pow (n:=64) c hb
def au (p:Pr):List UInt8:=p.name ++ [61] ++ p.value
theorem ic (p:Pr):(au p).length=p.name.length+1+p.value.length:=by simp[au];omega
def dn (k:Int):Nat:=if k<0 then 0 else if 6<k then 256 else min (4*2 ^ k.toNat) 256
def IV:Nat->List UInt8->Nat->Nat->Nat->List UInt8
  | 0,b,_,_,_=>b
  | n+1,b,p,v,i=>IV n (b.set (p+i) (UInt8.ofNat (v/2 ^ (8*i)))) p v (i+1)
def iq (b:Ly) (p v:Nat):List UInt8:=IV 8 b p v 0
theorem afp (n:Nat) (b:Ly) (p v i:Nat):(IV n b p v i).length=b.length:=by
  induction n generalizing b i with
  | zero=>rfl
  | succ n ih=>simp[IV,ih]
theorem eP (b:Ly) (p v:Nat):(iq b p v).length=b.length:=afp 8 b p v 0
def Mk.put (m:Mk) (p v:Nat):Mk:={m with b:=iq m.b p v}
theorem ko (m:Mk) (p v:Nat):(m.put p v).b.length=m.b.length:=eP _ _ _
theorem abw {n i:Nat} {b:Ly} {p v:Nat} (h:i<n):IV (n-i) b p v i=IV (n-(i+1)) (b.set (p+i) (UInt8.ofNat (v/2 ^ (8*i)))) p v (i+1):=by rw[show n-i=(n-(i+1))+1 by omega];rfl
theorem afo {n i:Nat} {b:Ly} {p v:Nat} (h:¬i<n):IV (n-i) b p v i=b:=by rw[show n-i=0 by omega];rfl
def Mk.cE (m:Mk) (k v:Nat):Mk:={m with h:={m.h with n:=m.h.n.set k v}}
def Mk.bR (m:Mk) (k:Nat):Nat:=m.h.n.getD k 0
def Mk.bV (m:Mk) (o:Ly):Nat × Mk :=
  let m1:={m with b:=m.b ++ o}
  let m29:=m1.cE 6 m.b.length
  (m.b.length,m29.cE 7 ((m29.bR 7+1)%18446744073709551616))
def nC (bX:Nat):List aP->Nat->Nat->Nat × Nat
  | [],n,q=>(n,q)
  | k :: r,n,q=>if k.bX=bX then nC bX r (n+1) k.pos else nC bX r n q
def Mk.hang (m:Mk) (l:List aP) (table p bX:Nat):Nat × Mk :=
  match nC bX l 0 0 with
  | (n,q)=>(n,(if n=0 then m.put (table+16*bX) p else m.put (q+24) p).put (table+16*bX+8) p)
def oM (name:Ly):List aP->Option Nat
  | []=>none
  | k :: r=>if k.bQ=name then some k.pos else oM name r
def mQ (s:Ly):List aP->Nat->Option Nat
  | [],_=>none
  | k :: r,i=>if k.bQ=s then some i else mQ s r (i+1)
def Mk.field (m:Mk) (name:Ly):Nat × Mk :=
  match oM name m.ak with
  | some p=>(p,m)
  | none =>
    match m.bV (gu {bY:=cQ m.c.cB m.c.bZ name,b9:=0,dat:=0,au:=name})with
    | (p,m1)=>match m1.hang m1.ak (m1.bR 4) p (cQ m.c.cB m.c.bZ name%m1.c.aC)with
      | (n,m29) =>
        let m3:={m29 with depth:=max m1.depth n}
        let m4:=m3.cE 16 ((m3.bR 16+1)%18446744073709551616)
        (p,{m4 with ak:=m4.ak ++ [({bQ:=name,pos:=p,bX:=cQ m.c.cB m.c.bZ name%m1.c.aC,bB:=0,aT:=[]}:aP)]})
def Mk.data (m:Mk) (x:Pr):Nat × Mk :=
  match mQ (au x) m.ai 0 with
  | some i=>(i,m)
  | none =>
    match m.bV (iw {bY:=cQ m.c.cB m.c.bZ (au x),b9:=0,d9:=0,entry:=0,array:=0,bB:=0,au:=au x})with
    | (p,m1)=>match m1.hang m1.ai (m1.bR 2) p (cQ m.c.cB m.c.bZ (au x)%m1.c.ay)with
      | (n,m29) =>
        let m3:=m29.cE 19 (max (m29.bR 19) n)
        let m4:=m3.cE 15 ((m3.bR 15+1)%18446744073709551616)
        let m5:={m4 with ai:=m4.ai ++ [({bQ:=au x,pos:=p,bX:=cQ m.c.cB m.c.bZ (au x)%m1.c.ay,bB:=0,aT:=[]}:aP)]}
        match m5.field x.name with
        | (k,m6) =>
          let m7:=m6.put (p+32) (lS m6.b (k+32:Nat) 8).1
          let m8:=m7.put (k+32) p
          (m8.ai.length-1,m8)
theorem abG (m:Mk) (k v:Nat):(m.cE k v).b=m.b/\(m.cE k v).c=m.c/\(m.cE k v).ai=m.ai/\(m.cE k v).ak=m.ak/\(m.cE k v).main=m.main:=⟨q,q,q,q,q⟩
theorem aY {l:List Nat} {i j v:Nat} (h:i≠j):(l.set i v).getD j 0=l.getD j 0:=by simp[List.getD,List.getElem?_set_ne h]
theorem cL {m:Mk} {k v j:Nat} (h:k≠j):(m.cE k v).bR j=m.bR j:=aY h
theorem gH (m:Mk) (o:Ly):(m.bV o).1=m.b.length/\(m.bV o).2.b.length=m.b.length+o.length/\(m.bV o).2.c.ay=m.c.ay/\(m.bV o).2.c.aC=m.c.aC/\(m.bV o).2.ai.length=m.ai.length/\(m.bV o).2.ak.length=m.ak.length /\
    (m.bV o).2.h.n.getD 2 0=m.h.n.getD 2 0/\(m.bV o).2.h.n.getD 4 0=m.h.n.getD 4 0 :=
  ⟨q,by simp[Mk.bV,Mk.cE],q,q,q,q,by simp only[Mk.bV,Mk.cE];rw[aY Xy,aY Xy],by simp only[Mk.bV,Mk.cE];rw[aY Xy,aY Xy]⟩
theorem dU (m:Mk) (o:Ly):(m.bV o).2.c=m.c/\(m.bV o).2.ai=m.ai/\(m.bV o).2.ak=m.ak/\(m.bV o).2.main=m.main:=⟨q,q,q,q⟩
theorem kH (m:Mk) (p v:Nat):(m.put p v).b.length=m.b.length/\(m.put p v).c.ay=m.c.ay/\(m.put p v).c.aC=m.c.aC/\(m.put p v).ai.length=m.ai.length/\(m.put p v).ak.length=m.ak.length /\
    (m.put p v).h.n.getD 2 0=m.h.n.getD 2 0/\(m.put p v).h.n.getD 4 0=m.h.n.getD 4 0:=⟨eP _ _ _,q,q,q,q,q,q⟩
theorem BQ (m:Mk) (l:List aP) (table p bX:Nat):(m.hang l table p bX).2={m with b:=(m.hang l table p bX).2.b}/\(m.hang l table p bX).2.b.length=m.b.length:=by
  unfold Mk.hang;generalize nC bX l 0 0=r;obtain⟨n,q⟩:=r;simp only;split
  · exact⟨rfl,by rw[ko,ko]⟩
  exact⟨rfl,by rw[ko,ko]⟩
theorem uW (m:Mk) (l:List aP) (table p bX:Nat):(m.hang l table p bX).2.b.length=m.b.length/\(m.hang l table p bX).2.c.ay=m.c.ay/\(m.hang l table p bX).2.c.aC=m.c.aC/\(m.hang l table p bX).2.ai.length=m.ai.length/\(m.hang l table p bX).2.ak.length=m.ak.length /\
    (m.hang l table p bX).2.h.n.getD 2 0=m.h.n.getD 2 0/\(m.hang l table p bX).2.h.n.getD 4 0=m.h.n.getD 4 0:=by
  obtain⟨A,B⟩:=BQ m l table p bX;refine⟨B,?_,?_,?_,?_,?_,?_⟩ <;> rw[A]
theorem gV (m:Mk) (l:List aP) (table p bX:Nat):(m.hang l table p bX).2.c=m.c/\(m.hang l table p bX).2.ai=m.ai/\(m.hang l table p bX).2.ak=m.ak/\(m.hang l table p bX).2.main=m.main/\(m.hang l table p bX).2.depth=m.depth/\(m.hang l table p bX).2.h=m.h:=by have A:=(BQ m l table p bX).1;refine⟨?_,?_,?_,?_,?_,?_⟩ <;> rw[A]
theorem K1 {bX i n q:Nat} {l:List aP} {x:aP} (h:l[i]? = some x):nC bX (l.drop i) n q=if x.bX=bX then nC bX (l.drop (i+1)) (n+1) x.pos else nC bX (l.drop (i+1)) n q:=by rw[cK h];rfl
theorem xh {bX i n q:Nat} {l:List aP} (h:¬i<l.length):nC bX (l.drop i) n q=(n,q):=by rw[ew Xx];rfl
theorem ED {s:Ly} {i:Nat} {l:List aP} {x:aP} (h:l[i]? = some x):oM s (l.drop i)=if x.bQ=s then some x.pos else oM s (l.drop (i+1)):=by rw[cK h];rfl
theorem yR {s:Ly} {i:Nat} {l:List aP} (h:¬i<l.length):oM s (l.drop i)=none:=by rw[ew Xx];rfl
theorem EB {s:Ly} {i j:Nat} {l:List aP} {x:aP} (h:l[i]? = some x):mQ s (l.drop i) j=if x.bQ=s then some j else mQ s (l.drop (i+1)) (j+1):=by rw[cK h];rfl
theorem yP {s:Ly} {i j:Nat} {l:List aP} (h:¬i<l.length):mQ s (l.drop i) j=none:=by rw[ew Xx];rfl
def Mk.fit (m:Mk):Prop:=1<=m.c.ay/\m.c.ay<=64/\1<=m.c.aC/\m.c.aC<=64/\m.h.n.getD 2 0+16*m.c.ay<=m.b.length/\m.h.n.getD 4 0+16*m.c.aC<=m.b.length /\
  (∀k∈m.ai,k.pos+64<=m.b.length)/\(∀k∈m.ak,k.pos+40<=m.b.length)
theorem pK {m m':Mk} (h:m.fit) (h1:m'.c.ay=m.c.ay/\m'.c.aC=m.c.aC/\m'.h.n.getD 2 0=m.h.n.getD 2 0/\m'.h.n.getD 4 0=m.h.n.getD 4 0/\m.b.length<=m'.b.length)
    (hd:∀k∈m'.ai,k∈m.ai\/k.pos+64<=m'.b.length) (hf:∀k∈m'.ak,k∈m.ak\/k.pos+40<=m'.b.length):m'.fit:=by
  obtain⟨G,H,I,J,K,L,A,B⟩:=h;obtain⟨C,D,E,F,M⟩:=h1;refine⟨by omega,by omega,by omega,by omega,by rw[C,E];omega,by rw[D,F];omega,fun k hk=>?_,fun k hk=>?_⟩
  · rcases hd k hk with h|h
    · have:=A k h;omega
    exact h
  rcases hf k hk with h|h
  · have:=B k h;omega
  exact h
theorem yS {s:Ly} {l:List aP} {p:Nat} (h:oM s l=some p):∃k∈l,k.pos=p/\k.bQ=s:=by
  induction l with
  | nil=>simp[oM]at h
  | cons x l ih =>
    simp only[oM]at h;split at h
    · rename_i hx;exact⟨x,by simp,by simpa using h,hx⟩
    · obtain⟨k,hk,A⟩:=ih h;exact⟨k,by simp[hk],A⟩
theorem adq {s:Ly} {l:List aP} {j i:Nat} (h:mQ s l j=some i):j<=i/\i<j+l.length:=by
  induction l generalizing j with
  | nil=>simp[mQ]at h
  | cons x l ih =>
    simp only[mQ]at h;split at h
    · simp at h;simp;omega
    · have:=ih h;simp;omega
theorem uS (m:Mk) (name:Ly) (h:m.fit):((m.field name).1+40<=(m.field name).2.b.length/\m.b.length<=(m.field name).2.b.length/\(m.field name).2.b.length<=m.b.length+(48+name.length)/\(m.field name).2.ai.length=m.ai.length/\(m.field name).2.ak.length<=m.ak.length+1 /\
    (m.field name).2.c.ay=m.c.ay/\(m.field name).2.c.aC=m.c.aC/\(m.field name).2.h.n.getD 2 0=m.h.n.getD 2 0/\(m.field name).2.h.n.getD 4 0=m.h.n.getD 4 0/\(m.field name).2.h.n.getD 8 0=m.h.n.getD 8 0) /\
    ((m.field name).2.c=m.c/\(m.field name).2.ai=m.ai/\(m.field name).2.main=m.main)/\(m.field name).2.fit:=by
  unfold Mk.field;cases hk:oM name m.ak with
  | some p =>
    obtain⟨k,D,U,_⟩:=yS hk;have:=h.2.2.2.2.2.2.2 k D;exact⟨⟨by simp only;omega,Nat.le_refl _,by simp only;omega,q,by simp only;omega,q,q,q,q,q⟩,⟨q,q,q⟩,h⟩
  | none =>
    simp only;have C:=gH m (gu {bY:=cQ m.c.cB m.c.bZ name,b9:=0,dat:=0,au:=name});have I:=dU m (gu {bY:=cQ m.c.cB m.c.bZ name,b9:=0,dat:=0,au:=name});have J:(m.bV (gu {bY:=cQ m.c.cB m.c.bZ name,b9:=0,dat:=0,au:=name})).2.h.n.getD 8 0=m.h.n.getD 8 0:=(by simp only[Mk.bV,Mk.cE];rw[aY Xy,aY Xy]);rw[vK]at C;simp only at C;generalize m.bV (gu {bY:=cQ m.c.cB m.c.bZ name,b9:=0,dat:=0,au:=name})=r at *;obtain⟨p,A⟩:=r;simp only at C I J ⊢;have K:=uW A A.ak (A.bR 4) p (cQ m.c.cB m.c.bZ name%A.c.aC);have L:=gV A A.ak (A.bR 4) p (cQ m.c.cB m.c.bZ name%A.c.aC);generalize A.hang A.ak (A.bR 4) p (cQ m.c.cB m.c.bZ name%A.c.aC)=r at *;obtain⟨n,B⟩:=r;simp only at K L ⊢;obtain⟨V,W,X,Y,Z,a,d,e⟩:=C;obtain⟨M,E,N,O⟩:=I;obtain⟨f,g,i,j,l,o,t⟩:=K;obtain⟨P,F,Q,R,u,S⟩:=L;simp only[Mk.cE,List.length_append,List.length_singleton];have G:(B.h.n.set 16 ((B.bR 16+1)%18446744073709551616)).getD 2 0=m.h.n.getD 2 0:=(by rw[aY Xy];omega);have H:(B.h.n.set 16 ((B.bR 16+1)%18446744073709551616)).getD 4 0=m.h.n.getD 4 0:=(by rw[aY Xy];omega);have T:(B.h.n.set 16 ((B.bR 16+1)%18446744073709551616)).getD 8 0=m.h.n.getD 8 0:=(by rw[aY Xy,S,J]);refine⟨⟨by omega,by omega,by omega,by omega,by omega,by omega,by omega,G,H,T⟩,⟨by rw[P,M],by rw[F,E],by rw[R,O]⟩,?_⟩;refine pK h ⟨by simp only;omega,by simp only;omega,G,H,by simp only;omega⟩ (fun k hk=>?_) (fun k hk=>?_)
    · simp only[F,E]at hk;exact .inl hk
    · simp only[Q,N,List.mem_append,List.mem_singleton]at hk
      rcases hk with hk|rfl
      · exact .inl hk
      · right;simp only;omega
theorem VF (m:Mk) (name:Ly) (h:m.fit):(m.field name).1+40<=(m.field name).2.b.length/\m.b.length<=(m.field name).2.b.length/\(m.field name).2.b.length<=m.b.length+(48+name.length)/\(m.field name).2.ai.length=m.ai.length/\(m.field name).2.ak.length<=m.ak.length+1 /\
    (m.field name).2.c.ay=m.c.ay/\(m.field name).2.c.aC=m.c.aC/\(m.field name).2.h.n.getD 2 0=m.h.n.getD 2 0/\(m.field name).2.h.n.getD 4 0=m.h.n.getD 4 0/\(m.field name).2.h.n.getD 8 0=m.h.n.getD 8 0:=(uS m name h).1
theorem VE (m:Mk) (name:Ly) (h:m.fit):(m.field name).2.c=m.c/\(m.field name).2.ai=m.ai/\(m.field name).2.main=m.main:=(uS m name h).2.1
theorem aas (m:Mk) (name:Ly) (h:m.fit):(m.field name).2.fit:=(uS m name h).2.2
section
variable {m y:Mk} {v1 v2 v3 v4:Value} {w:World} {b t i v j:Nat}
theorem ajG (b:m.h.n.length=20) (hi:i<20):(Mk.cells m v1 v2 v3 v4).set (119+i) (.int .u64 v)=Mk.cells {m with h:={m.h with n:=m.h.n.set i v}} v1 v2 v3 v4:=by have a:(nU.cells m.c).length=52:=rfl;have d:(e5.cells m.h).length=90:=rfl;show(nU.cells m.c ++ (e5.cells m.h ++ _)).set _ _=nU.cells m.c ++ (e5.cells _ ++ _);rw[List.set_append_right _ _ Xx,a,show 119+i-52=67+i by omega,List.set_append_left _ _ Xx,abB b hi]
theorem NR (B:bS w b ((Mk.cells m v1 v2 v3 v4).set j (.int .u64 v)) t) (ok:Mk.ok m) (p:v<18446744073709551616) (o:j=119+i) (hi:i<20):∃y,y=({m with h:={m.h with n:=m.h.n.set i v}}:Mk)/\bS w b (Mk.cells y v1 v2 v3 v4) t/\Mk.ok y:=by subst o;rw[ajG ok.2.1.2.2.2.2.2.2.2.1.1 hi]at B;obtain⟨a,⟨d,b,c,e,l,f,g,h,k⟩,C⟩:=ok;exact⟨_,q,B,a,⟨d,b,c,e,l,f,g,xI h p,k⟩,C⟩
theorem jZ (B:bS w b ((Mk.cells m v1 v2 v3 v4).set j (.int .u64 v)) t) (ok:Mk.ok m) (d:v<18446744073709551616) (a:j=119+i:=by rfl) (hi:i<20:=by decide) (e:i≠2:=by decide) (f:i≠4:=by decide):∃y,y=({m with h:={m.h with n:=m.h.n.set i v}}:Mk)/\bS w b (Mk.cells y v1 v2 v3 v4) t/\Mk.ok y/\y.b.length=m.b.length/\y.ai.length=m.ai.length/\y.ak.length=m.ak.length/\y.c.ay=m.c.ay/\y.c.aC=m.c.aC/\y.h.n.getD 2 0=m.h.n.getD 2 0/\y.h.n.getD 4 0=m.h.n.getD 4 0:=by obtain⟨y,rfl,h,k⟩:=NR B ok d a hi;exact⟨_,q,h,k,q,q,q,q,q,aY Xx,aY Xx⟩
theorem ahi (B:bS w b ((Mk.cells m v1 v2 v3 v4).set j (.int .u64 v)) t) (ok:Mk.ok m) (d:v<18446744073709551616) (a:j=119+i:=by rfl) (hi:i<20:=by decide) (e:i≠4:=by decide):∃y,y=({m with h:={m.h with n:=m.h.n.set i v}}:Mk)/\bS w b (Mk.cells y v1 v2 v3 v4) t/\Mk.ok y/\y.b.length=m.b.length/\y.ai.length=m.ai.length/\y.ak.length=m.ak.length/\y.c.ay=m.c.ay/\y.c.aC=m.c.aC/\y.h.n.getD 4 0=m.h.n.getD 4 0:=by obtain⟨y,rfl,h,k⟩:=NR B ok d a hi;exact⟨_,q,h,k,q,q,q,q,q,aY Xx⟩
theorem ahj (B:bS w b ((Mk.cells m v1 v2 v3 v4).set j (.int .u64 v)) t) (ok:Mk.ok m) (d:v<18446744073709551616) (a:j=119+i:=by rfl) (hi:i<20:=by decide) (e:i≠2:=by decide):∃y,y=({m with h:={m.h with n:=m.h.n.set i v}}:Mk)/\bS w b (Mk.cells y v1 v2 v3 v4) t/\Mk.ok y/\y.b.length=m.b.length/\y.ai.length=m.ai.length/\y.ak.length=m.ak.length/\y.c.ay=m.c.ay/\y.c.aC=m.c.aC/\y.h.n.getD 2 0=m.h.n.getD 2 0:=by obtain⟨y,rfl,h,k⟩:=NR B ok d a hi;exact⟨_,q,h,k,q,q,q,q,q,aY Xx⟩
theorem ahh {x:Ly} (e:y={m with b:=x}):y.ai.length=m.ai.length/\y.ak.length=m.ak.length/\y.c.ay=m.c.ay/\y.c.aC=m.c.aC/\y.h.n.getD 2 0=m.h.n.getD 2 0/\y.h.n.getD 4 0=m.h.n.getD 4 0:=by subst e;exact⟨q,q,q,q,q,q⟩
theorem xE {x:List aP} (e:y={m with ai:=x}):y.b.length=m.b.length/\y.ak.length=m.ak.length/\y.c.ay=m.c.ay/\y.c.aC=m.c.aC/\y.h.n.getD 2 0=m.h.n.getD 2 0/\y.h.n.getD 4 0=m.h.n.getD 4 0:=by subst e;exact⟨q,q,q,q,q,q⟩
theorem zn {x:List aP} (e:y={m with ak:=x}):y.b.length=m.b.length/\y.ai.length=m.ai.length/\y.c.ay=m.c.ay/\y.c.aC=m.c.aC/\y.h.n.getD 2 0=m.h.n.getD 2 0/\y.h.n.getD 4 0=m.h.n.getD 4 0:=by subst e;exact⟨q,q,q,q,q,q⟩
theorem Zo {x:List Nat} (e:y={m with main:=x}):y.b.length=m.b.length/\y.ai.length=m.ai.length/\y.ak.length=m.ak.length/\y.c.ay=m.c.ay/\y.c.aC=m.c.aC/\y.h.n.getD 2 0=m.h.n.getD 2 0/\y.h.n.getD 4 0=m.h.n.getD 4 0:=by subst e;exact⟨q,q,q,q,q,q,q⟩
theorem aej {x:Nat} (e:y={m with depth:=x}):y.b.length=m.b.length/\y.ai.length=m.ai.length/\y.ak.length=m.ak.length/\y.c.ay=m.c.ay/\y.c.aC=m.c.aC/\y.h.n.getD 2 0=m.h.n.getD 2 0/\y.h.n.getD 4 0=m.h.n.getD 4 0:=by subst e;exact⟨q,q,q,q,q,q,q⟩
theorem Wq {x:e5} (e:y={m with h:=x}):y.b.length=m.b.length/\y.ai.length=m.ai.length/\y.ak.length=m.ak.length/\y.c.ay=m.c.ay/\y.c.aC=m.c.aC:=by subst e;exact⟨q,q,q,q,q⟩
end
section
variable {P:Program}
end
theorem uy (k:Int):dn k<=256:=by unfold dn;split;omega;split<;>omega
def eW:List Nat->Nat->Nat->Nat->Nat × Nat
  | [],_,a,r=>(a,r)
  | _ :: l,k,_,r=>eW l (k+1) r (r+dn (k:Int))
def jc (l:List Nat):Nat:=l.getD (l.length-1) 0
def Mk.link (m:Mk) (aT:List Nat) (n src gP:Nat):List Nat × Nat × Mk :=
  match eW aT 0 0 0 with
  | (ahead,room) =>
    if n=room then
      match m.bV (fe {next:=0,aH:=List.replicate (dn (aT.length:Int)) 0})with
      | (p,m1) =>
        let m29:=m1.cE 18 ((m1.bR 18+1)%18446744073709551616)
        (aT ++ [p],n-room+1,(if aT.length=0 then m29.put src p else m29.put (jc aT+16) p).put (jc (aT ++ [p])+24+8*(n-room)) gP)
    else(aT,n-ahead+1,m.put (jc aT+24+8*(n-ahead)) gP)
theorem wH {l:List Nat} {i k a r:Nat} (h:i<l.length):eW (l.drop i) k a r=eW (l.drop (i+1)) (k+1) r (r+dn (k:Int)):=by obtain⟨x,A⟩:=dZ h;rw[cK A];rfl
theorem vm {l:List Nat} {i k a r:Nat} (h:¬i<l.length):eW (l.drop i) k a r=(a,r):=by rw[ew Xx];rfl
theorem pW {k:Int} (h:0<=k):4<=dn k:=by
  unfold dn;rw[if_neg Xx];split
  · omega
  have:1<=2 ^ k.toNat:=Nat.one_le_two_pow;omega
theorem LU (k:Int):k<0\/4<=dn k:=by by_cases h:0<=k;exact .inr (pW h);exact .inl Xx
theorem lT {l:List Nat} {x:Nat} (h:l[l.length-1]? = some x):jc l=x:=by simp[jc,List.getD,h]
theorem aaG {α} {l:List α} {p x:α} (h:(l ++ [p])[(l ++ [p]).length-1]? = some x):x=p:=by simpa using h.symm
theorem WZ (l:List Nat) (k a r:Nat) (h:l≠[]):(eW l k a r).2=(eW l k a r).1+dn ((k+l.length-1:Nat):Int):=by
  induction l generalizing k a r with
  | nil=>exact absurd q h
  | cons x l ih =>
    by_cases hl:l=[]
    · subst hl;simp[eW]
    · simp only[eW,List.length_cons]
      rw[ih (k+1) r (r+dn (k:Int)) hl,show k+1+l.length-1=k+(l.length+1)-1 by omega]
theorem Xc {l:List Nat} {n:Nat} (b:(eW l 0 0 0).1<=n) (a:n<=(eW l 0 0 0).2) (h:n≠(eW l 0 0 0).2):1<=l.length/\n<(eW l 0 0 0).1+dn ((l.length-1:Nat):Int):=by
  cases l with
  | nil=>simp[eW]at a h;omega
  | cons x l =>
    have:=WZ (x :: l) 0 0 0 Oy;simp only[Nat.zero_add]at this;refine⟨by simp,?_⟩;omega
def jH (len:Nat) (aT:List Nat) (n:Nat):Prop :=
  (∀(k a:Nat),aT[k]? = some a->a+24+8*dn (k:Int)<=len)/\(eW aT 0 0 0).1<=n/\n<=(eW aT 0 0 0).2
def iB (c:nU) (tail:Nat):Mk :=
  let b1:=List.replicate 272 0 ++ dX 4 (List.replicate c.ay {first:=0,tail:=0})
  let b2:=b1 ++ dX 5 (List.replicate c.aC {first:=0,tail:=0})
  {c:=c,depth:=0,b:=b2,ai:=[],ak:=[],main:=[],
    h:={gF:=2,bM:=if c.cB then 4 else 0,state:=1,bZ:=c.bZ,dG:=c.dG,bC:=List.replicate 16 0,seq:=c.seq,cM:=0,dh:=0,dJ:=0,
           n:=(((((((((List.replicate 20 0).set 0 272).set 2 288).set 3 (16*c.ay)).set 4 (b1.length+16)).set 5 (16*c.aC)).set 6 b1.length).set 7 2).set 9 tail)}}
theorem afV {α} {l:List α} {i:Nat} (h:¬i<l.length):l.take i=l:=List.take_of_length_le Xx
theorem Qt {v:Value} {b:Nat} (h:∀x,ah v=some x->x≠b):b∉(ah v).toList:=by
  cases hv:ah v with
  | none=>simp
  | some c=>simp;exact fun e=>h c hv e.symm
theorem eL {v:Value} {b:Nat} (h:∀x,ah v=some x->x≠b):∀x,ah v=some x->x∉[b]:=fun x c a=>h x c (by simpa using a)
def kM (m:Mk) (st:Nat):List UInt8:=xo {m.h with state:=st,n:=m.h.n.set 1 (m.b.length-272)} m.depth ++ m.b.drop 272
theorem yZ (h:e5) (depth:Nat) (ok:e5.ok h):(xo h depth).length=272:=by obtain⟨_,_,_,A,B,C,D,E,_⟩:=ok;simp[xo,iu,eC,A,B,C,D,E.1]
def Pr.pb (p:Pr):zT:=(p.name,p.value)
section
variable {P:Program} {n:Nat} {A:Fr n} {D:List Deferred} {l:List (Nat × Value)} {w:World} {d:Option Tmp} {ty:TypeId} {ps:String} {af:Array Edge} {g:Option (Nat × Bool)}
theorem ahA {x y:Operand} {t f u:TypeId} {p q:Pr} (b:pairT P t f=true) (a:P.underlying f=some .string) (c:ev n l x=some (.agg (Pr.cells p).toArray)) (e:ev n l y=some (.agg (Pr.cells q).toArray)) :
    cg P ⟨d,.binOp .eql t x y u,ty,ps,af,g⟩ (aQ A D l).eval w (.bool (decide (p.pb=q.pb))):=akc (p:=p.pb) (q:=q.pb) b a c e
end
def mJ (p:Pr):List UInt8 × Nat:=if eB p.name=false then([],1)else if 256<p.value.length then([],21)else(au p,0)
theorem adR {p:Pr} (h:(mJ p).2=0):p.name.length<=1000000/\p.value.length<=1000000:=by
  unfold mJ at h;split at h
  · cases h
  rename_i h1;split at h
  · cases h
  have:=(fV (s:=p.name) (by simpa using h1)).2;omega
theorem AB {p:Pr}:(mJ p).2=0↔right p.pb=true:=by
  unfold mJ right Pr.pb
  by_cases h1:eB p.name=false
  · simp[h1]
  rw[if_neg h1];have A:eB p.name=true:=by simpa using h1
  rw[A]
  by_cases h3:256<p.value.length
  · simp[h3]
  simp[h3];omega
def lJ (t:Ly):List Pr->Nat->Nat
  | [],k=>k
  | q :: r,k=>if Op.bytesLess (au q) t=true then lJ t r (k+1)else k
theorem LH {t:Ly} {o:List Pr} {k:Nat} {q:Pr} (h:o[k]? = some q):lJ t (o.drop k) k=if Op.bytesLess (au q) t=true then lJ t (o.drop (k+1)) (k+1)else k:=by rw[cK h];rfl
theorem af6 {t:Ly} {o:List Pr} {k:Nat} (h:¬k<o.length):lJ t (o.drop k) k=k:=by rw[ew Xx];rfl
theorem OJ {l:List Pr} {i:Nat} {x:Pr} (h:l[i]? = some x):l.getD i {name:=[],value:=[]}=x:=by simp[List.getD,h]
def lN:Nat->Nat->List Pr->List Pr
  | 0,_,o=>o
  | n+1,j,o=>lN n (j-1) (o.set j (o.getD (j-1) {name:=[],value:=[]}))
theorem XA {j k:Nat} {o:List Pr} (h:k<j):lN (j-k) j o=lN (j-1-k) (j-1) (o.set j (o.getD (j-1) {name:=[],value:=[]})):=by rw[show j-k=(j-1-k)+1 by omega];rfl
theorem abH {j k:Nat} {o:List Pr} (h:¬k<j):lN (j-k) j o=o:=by rw[show j-k=0 by omega];rfl
def IK (p:Pr) (o:List Pr):List Pr :=
  let k:=lJ (au p) o 0
  if k<o.length/\(o.getD k {name:=[],value:=[]}).pb=p.pb then o else(lN (o.length-k) o.length (o ++ [{name:=[],value:=[]}])).set k p
def UU:List Pr->List Pr->List Pr × Nat
  | [],o=>if 16<o.length then([],21)else(o,0)
  | p :: r,o=>if(mJ p).2≠0 then([],(mJ p).2)else UU r (IK p o)
def jU (l:List Pr):List Pr × Nat:=if l.length=0 then([],16)else UU l []
theorem ND {l o:List Pr} {i:Nat} (h:¬i<l.length):UU (l.drop i) o=if 16<o.length then([],21)else(o,0):=by rw[ew Xx];rfl
theorem Rc {l o:List Pr} {i:Nat} {p:Pr} (h:l[i]? = some p):UU (l.drop i) o=if(mJ p).2≠0 then([],(mJ p).2)else UU (l.drop (i+1)) (IK p o):=by rw[cK h];rfl
section
variable {P:Program} {n:Nat} {A:Fr n} {D:List Deferred} {l:List (Nat × Value)} {w:World} {d:Option Tmp} {ty:TypeId} {ps:String} {af:Array Edge} {g:Option (Nat × Bool)}
theorem af4 {x y:Operand} {t u:TypeId} {k:IntKind} {a b:Int} (c:ev n l x=some (.int k a)) (e:ev n l y=some (.int k b)) (h:b≠0) :
    cg P ⟨d,.binOp .rem t x y u,ty,ps,af,g⟩ (aQ A D l).eval w (.int k (a.tmod b)):=af3 c e h
end
def SF (k:Int) (n:Nat):Nat:=if n<1 then 0 else((k.tmod n+n).tmod n).toNat
theorem NU (k:Int) (n:Nat):n<1\/SF k n<n:=by
  unfold SF
  by_cases h:n<1
  · exact .inl h
  rw[if_neg h];have A:=Int.tmod_lt_of_pos (k.tmod n+n) (show(0:Int)<n by omega);right;omega
theorem ajK {k:Int} {n:Nat} (h:¬n<1):0<=k.tmod n+n/\k.tmod n+n<2*n:=by have A:=Int.tmod_lt_of_pos k (show(0:Int)<n by omega);have B:=Int.lt_tmod_of_pos k (show(0:Int)<n by omega);omega
def Sq.bR (s:Sq) (n:Nat):Nat × Sq:=if s.l.length<=s.pos then(0,s)else(SF (s.l.getD s.pos 0) n,{s with pos:=s.pos+1})
def Sq.more (s:Sq):Bool × Sq:=(decide (s.pos<s.l.length),s)
def zq:List (List UInt8):=[[65],[66],[77,69,83,83,65,71,69],[95,80,73,68],[88,95,49],[80,82,73,79,82,73,84,89]]
def vt:List (List UInt8):=[[],[48],[49],[50,50],[97,61,98],[111,110,101,10,116,119,111],[0,255],[116,97,98,9,104,101,114,101],[108,111,110,103,32,108,111,110,103,32,108,111,110,103,32,108,111,110,103,32,108,111,110,103,32,108,111,110,103,32,108,111,110,103],[126,127,128]]
theorem Wx:zq.length=6:=rfl
theorem UL:vt.length=10:=rfl
def idF (k:Int):List UInt8:=((List.replicate 16 0).set 0 94).set 15 (UInt8.ofNat (SF k 5))
def Sq.pair (s:Sq):Pr × Sq :=
  match s.bR 6 with
  | (a,s1) =>
    match s1.bR 10 with
    | (b,s2)=>({name:=zq.getD a [],value:=vt.getD b []},s2)
theorem Sq.j7 (s:Sq) (n:Nat):(s.bR n).1<=n-1:=by
  unfold Sq.bR;split
  · simp
  simp only
  rcases NU (s.l.getD s.pos 0) n with h|h
  · simp[SF,h]
  omega
def oG:Nat->Sq->List Pr->List Pr × Sq
  | 0,s,o=>(o,s)
  | n+1,s,o=>match s.pair with
    | (p,s1)=>oG n s1 (o ++ [p])
def Sq.pairs (s:Sq) (bG:Nat):List Pr × Sq :=
  match s.bR bG with
  | (n,s1)=>oG (n+1) s1 []
theorem abr {n:Nat} {s:Sq} {o:List Pr} (h:¬0<n):oG n s o=(o,s):=by rw[show n=0 by omega];rfl
theorem WB {n:Nat} {s:Sq} {o:List Pr} (h:0<n):oG n s o=oG (n-1) s.pair.2 (o ++ [s.pair.1]):=by obtain⟨k,rfl⟩:∃k,n=k+1:=⟨n-1,by omega⟩;rfl
theorem aem (a:Nat):(zq.getD a []).length<=64:=by
  match a with
  | 0|1|2|3|4|5=>decide
  | n+6=>simp[zq]
theorem aci (a:Nat):(vt.getD a []).length<=256:=by
  match a with
  | 0|1|2|3|4|5|6|7|8|9=>decide
  | n+10=>simp[vt]
theorem ZE (s:Sq):s.pair.1.name.length<=64/\s.pair.1.value.length<=256:=⟨aem _,aci _⟩
theorem abq (n:Nat):∀(s:Sq) (o:List Pr),(∀q∈o,q.name.length<=64/\q.value.length<=256)->(∀q∈(oG n s o).1,q.name.length<=64/\q.value.length<=256)/\(oG n s o).1.length=o.length+n:=by
  induction n with
  | zero=>exact fun s o h=>⟨h,rfl⟩
  | succ n ih =>
    intro s o h;have:=ih s.pair.2 (o ++ [s.pair.1]) (fun q A=>by
      rcases List.mem_append.1 A with A|A
      · exact h q A
      · rw[List.mem_singleton.1 A];exact ZE s)
    refine⟨this.1,?_⟩;have B:=this.2;rw[List.length_append,List.length_singleton]at B;rw[show oG (n+1) s o=oG n s.pair.2 (o ++ [s.pair.1])from rfl,B];omega
theorem afl (s:Sq) (bG:Nat):(∀q∈(s.pairs bG).1,q.name.length<=1000000/\q.value.length<=1000000)/\(s.pairs bG).1.length<=bG+1:=by have h:=abq ((s.bR bG).1+1) (s.bR bG).2 [] Oy;have B:=s.j7 bG;have e:s.pairs bG=oG ((s.bR bG).1+1) (s.bR bG).2 []:=rfl;rw[e];refine⟨fun q A=>⟨by have:=(h.1 q A).1;omega,by have:=(h.1 q A).2;omega⟩,?_⟩;rw[h.2];simp;omega
def Sq.config (s:Sq):nU × Sq :=
  match s.bR 5 with
  | (a,s1)=>match s1.bR 5 with
    | (b,s2)=>match s2.bR 5 with
      | (c,s3)=>match s3.bR 7 with
        | (d,s4)=>match s4.bR 4 with
          | (e,s5)=>match s5.bR 2 with
            | (f,s6)=>({bZ:=idF a,dG:=idF b,seq:=idF c,ay:=d+1,aC:=e+1,bG:=32768,cB:=decide (f=1)},s6)
def Sq.record (s:Sq) (seq:Nat):Rec × Sq :=
  match s.pairs 4 with
  | (ps,s1)=>match s1.bR 40 with
    | (a,s2)=>match s2.bR 9 with
      | (b,s3)=>match s3.bR 3 with
        | (c,s4)=>({seq:=seq,bH:=a,mono:=b,bC:=idF c,ak:=(jU ps).1},s4)
section
variable {P:Program} {Q:Exit->Act->World->Prop} {n:Nat} {A:Fr n} {D:List Deferred} {l:List (Nat × Value)} {w:World}
def aiv {X0 X1 X2 X3 X4 X5 X6 X7 X8:Type} (n:Nat) (D:List Deferred) (inv:X0->X1->X2->X3->X4->X5->X6->X7->X8->List (Nat × Value)) (W:X0->X1->X2->X3->X4->X5->X6->X7->X8->World->Prop) (mu:X0->X1->X2->X3->X4->X5->X6->X7->X8->Nat) (m:Nat) (a:Act) (w:World):Prop :=
  ∃y0:X0,∃y1:X1,∃y2:X2,∃y3:X3,∃y4:X4,∃y5:X5,∃y6:X6,∃y7:X7,∃y8:X8,∃B:Fr n,a=aQ B D (inv y0 y1 y2 y3 y4 y5 y6 y7 y8)/\W y0 y1 y2 y3 y4 y5 y6 y7 y8 w/\mu y0 y1 y2 y3 y4 y5 y6 y7 y8<m
theorem alZ {a b d e f g i j k:Type} {c:Code} (inv:a->b->d->e->f->g->i->j->k->List (Nat × Value)) (W:a->b->d->e->f->g->i->j->k->World->Prop) (o:a->b->d->e->f->g->i->j->k->Nat) (x0:a) (x1:b) (x2:d) (x3:e) (x4:f) (x5:g) (x6:i) (x7:j) (x8:k) (F:Fits n l (inv x0 x1 x2 x3 x4 x5 x6 x7 x8)) (I:W x0 x1 x2 x3 x4 x5 x6 x7 x8 w)
    (round:∀(x0:a) (x1:b) (x2:d) (x3:e) (x4:f) (x5:g) (x6:i) (x7:j) (x8:k) (B:Fr n) (m:World),W x0 x1 x2 x3 x4 x5 x6 x7 x8 m->c.wp P (Exit.then (aiv n D inv W o (o x0 x1 x2 x3 x4 x5 x6 x7 x8)) Q) (aQ B D (inv x0 x1 x2 x3 x4 x5 x6 x7 x8)) m) :
    (Code.loop c).wp P Q (aQ A D l) w:=by
  refine jh (X:=a × b × d × e × f × g × i × j × k) (fun p=>inv p.1 p.2.1 p.2.2.1 p.2.2.2.1 p.2.2.2.2.1 p.2.2.2.2.2.1 p.2.2.2.2.2.2.1 p.2.2.2.2.2.2.2.1 p.2.2.2.2.2.2.2.2) (fun p w=>W p.1 p.2.1 p.2.2.1 p.2.2.2.1 p.2.2.2.2.1 p.2.2.2.2.2.1 p.2.2.2.2.2.2.1 p.2.2.2.2.2.2.2.1 p.2.2.2.2.2.2.2.2 w) (fun p=>o p.1 p.2.1 p.2.2.1 p.2.2.2.1 p.2.2.2.2.1 p.2.2.2.2.2.1 p.2.2.2.2.2.2.1 p.2.2.2.2.2.2.2.1 p.2.2.2.2.2.2.2.2) (x0,x1,x2,x3,x4,x5,x6,x7,x8) F I (fun p B m h=>wp_mono (round (p.1) (p.2.1) (p.2.2.1) (p.2.2.2.1) (p.2.2.2.2.1) (p.2.2.2.2.2.1) (p.2.2.2.2.2.2.1) (p.2.2.2.2.2.2.2.1) (p.2.2.2.2.2.2.2.2) B m h) ?_);intro E J T h;cases E with
  | normal=>obtain⟨H,s,t,u,v,x,y,z,R,C,q,r,G⟩:=h;exact⟨(H,s,t,u,v,x,y,z,R),C,q,r,G⟩
  | _=>exact h
theorem amf {a b c d e f g h i:Type} {inv:a->b->c->d->e->f->g->h->i->List (Nat × Value)} {W:a->b->c->d->e->f->g->h->i->World->Prop} {j:a->b->c->d->e->f->g->h->i->Nat} {m:Nat} (x0:a) (x1:b) (x2:c) (x3:d) (x4:e) (x5:f) (x6:g) (x7:h) (x8:i) (o:j x0 x1 x2 x3 x4 x5 x6 x7 x8<m) (k:Fits n l (inv x0 x1 x2 x3 x4 x5 x6 x7 x8)) (p:W x0 x1 x2 x3 x4 x5 x6 x7 x8 w) :
    aiv n D inv W j m (aQ A D l) w:=⟨x0,x1,x2,x3,x4,x5,x6,x7,x8,_,(cP (A:=A) (D:=D) k).symm,p,o⟩
def ac0 {X0 X1 X2 X3 X4 X5 X6 X7 X8 X9:Type} (n:Nat) (D:List Deferred) (inv:X0->X1->X2->X3->X4->X5->X6->X7->X8->X9->List (Nat × Value)) (W:X0->X1->X2->X3->X4->X5->X6->X7->X8->X9->World->Prop) (mu:X0->X1->X2->X3->X4->X5->X6->X7->X8->X9->Nat) (m:Nat) (a:Act) (w:World):Prop :=
  ∃y0:X0,∃y1:X1,∃y2:X2,∃y3:X3,∃y4:X4,∃y5:X5,∃y6:X6,∃y7:X7,∃y8:X8,∃y9:X9,∃B:Fr n,a=aQ B D (inv y0 y1 y2 y3 y4 y5 y6 y7 y8 y9)/\W y0 y1 y2 y3 y4 y5 y6 y7 y8 y9 w/\mu y0 y1 y2 y3 y4 y5 y6 y7 y8 y9<m
theorem ajF {a b d e f g i j k m:Type} {c:Code} (inv:a->b->d->e->f->g->i->j->k->m->List (Nat × Value)) (W:a->b->d->e->f->g->i->j->k->m->World->Prop) (q:a->b->d->e->f->g->i->j->k->m->Nat) (x0:a) (x1:b) (x2:d) (x3:e) (x4:f) (x5:g) (x6:i) (x7:j) (x8:k) (x9:m) (J:Fits n l (inv x0 x1 x2 x3 x4 x5 x6 x7 x8 x9)) (K:W x0 x1 x2 x3 x4 x5 x6 x7 x8 x9 w)
    (round:∀(x0:a) (x1:b) (x2:d) (x3:e) (x4:f) (x5:g) (x6:i) (x7:j) (x8:k) (x9:m) (B:Fr n) (o:World),W x0 x1 x2 x3 x4 x5 x6 x7 x8 x9 o->c.wp P (Exit.then (ac0 n D inv W q (q x0 x1 x2 x3 x4 x5 x6 x7 x8 x9)) Q) (aQ B D (inv x0 x1 x2 x3 x4 x5 x6 x7 x8 x9)) o) :
    (Code.loop c).wp P Q (aQ A D l) w:=by
  refine jh (X:=a × b × d × e × f × g × i × j × k × m) (fun p=>inv p.1 p.2.1 p.2.2.1 p.2.2.2.1 p.2.2.2.2.1 p.2.2.2.2.2.1 p.2.2.2.2.2.2.1 p.2.2.2.2.2.2.2.1 p.2.2.2.2.2.2.2.2.1 p.2.2.2.2.2.2.2.2.2) (fun p w=>W p.1 p.2.1 p.2.2.1 p.2.2.2.1 p.2.2.2.2.1 p.2.2.2.2.2.1 p.2.2.2.2.2.2.1 p.2.2.2.2.2.2.2.1 p.2.2.2.2.2.2.2.2.1 p.2.2.2.2.2.2.2.2.2 w) (fun p=>q p.1 p.2.1 p.2.2.1 p.2.2.2.1 p.2.2.2.2.1 p.2.2.2.2.2.1 p.2.2.2.2.2.2.1 p.2.2.2.2.2.2.2.1 p.2.2.2.2.2.2.2.2.1 p.2.2.2.2.2.2.2.2.2) (x0,x1,x2,x3,x4,x5,x6,x7,x8,x9) J K (fun p B o h=>wp_mono (round (p.1) (p.2.1) (p.2.2.1) (p.2.2.2.1) (p.2.2.2.2.1) (p.2.2.2.2.2.1) (p.2.2.2.2.2.2.1) (p.2.2.2.2.2.2.2.1) (p.2.2.2.2.2.2.2.2.1) (p.2.2.2.2.2.2.2.2.2) B o h) ?_);intro I T L h;cases I with
  | normal=>obtain⟨H,t,u,v,x,y,z,E,R,F,C,r,s,G⟩:=h;exact⟨(H,t,u,v,x,y,z,E,R,F),C,r,s,G⟩
  | _=>exact h
theorem ajJ {a b c d e f g h i j:Type} {inv:a->b->c->d->e->f->g->h->i->j->List (Nat × Value)} {W:a->b->c->d->e->f->g->h->i->j->World->Prop} {k:a->b->c->d->e->f->g->h->i->j->Nat} {m:Nat} (x0:a) (x1:b) (x2:c) (x3:d) (x4:e) (x5:f) (x6:g) (x7:h) (x8:i) (x9:j) (p:k x0 x1 x2 x3 x4 x5 x6 x7 x8 x9<m) (o:Fits n l (inv x0 x1 x2 x3 x4 x5 x6 x7 x8 x9)) (q:W x0 x1 x2 x3 x4 x5 x6 x7 x8 x9 w) :
    ac0 n D inv W k m (aQ A D l) w:=⟨x0,x1,x2,x3,x4,x5,x6,x7,x8,x9,_,(cP (A:=A) (D:=D) o).symm,q,p⟩
end
def known0:aP:={bQ:=[],pos:=0,bX:=0,bB:=0,aT:=[]}
def gD (ds:List aP) (i:Nat):Nat:=(ds.getD i known0).pos
def lR (ds:List aP) (p:Nat) (order:List Nat):Nat->Nat
  | 0=>0
  | n+1=>if p<gD ds (order.getD n 0)then lR ds p order n else n+1
def mC (ds:List aP) (k:Nat) (order:List Nat):List Nat :=
  let n:=lR ds (gD ds k) order order.length
  order.take n ++ [k] ++ order.drop n
def gN:List Pr->Mk->List (List UInt8)->List Nat->List (List UInt8) × List Nat × Mk
  | [],m,ps,od=>(ps,od,m)
  | x :: r,m,ps,od =>
    match m.data x with
    | (k,m1)=>gN r m1 (ps ++ [(m1.ai.getD k known0).bQ]) (mC m1.ai k od)
def ji (m:Mk) (od:List Nat):List mh:=od.map fun i=>{pos:=gD m.ai i,bY:=cQ m.c.cB m.c.bZ (m.ai.getD i known0).bQ}
def kE (e:Nat):List Nat->Mk->Mk
  | [],m=>m
  | i :: r,m =>
    let k:=m.ai.getD i known0
    if k.bB=0 then
      let m29:=(m.put (k.pos+40) e).put (k.pos+56) 1
      kE e r {m29 with ai:=m29.ai.set i {k with bB:=1}}
    else
      match m.link k.aT (k.bB-1) (k.pos+48) e with
      | (a,_,m1) =>
        let m29:=m1.put (k.pos+56) (k.bB+1)
        kE e r {m29 with ai:=m29.ai.set i {k with aT:=a,bB:=k.bB+1}}
def Mk.append (m:Mk) (ak:List Pr) (bH mono:Nat) (bC:Ly):Nat × Nat × Mk :=
  match jU ak with
  | (l,c) =>
    if c≠0 then(0,c,m)
    else if m.bR 9=18446744073709551615 then(0,1,m)
    else
      match gN l m [] []with
      | (ps,od,m1) =>
        let seq:=(m1.bR 9+1)%18446744073709551616
        match m1.bV (dc {seq:=seq,bH:=bH,mono:=mono,bC:=bC,xor:=nv 0 ps,aH:=ji m1 od})with
        | (e,m29) =>
          let n:=m29.bR 8
          match m29.link m29.main n 176 e with
          | (a,t,m3) =>
            let m4:=({m3 with main:=a}:Mk).cE 11 (a.getD 0 0)
            let m5:={m4 with h:={m4.h with cM:=jc a%4294967296,dh:=t%4294967296}}
            let m6:=kE e od m5
            if m6.c.bG<m6.b.length then(0,15,m)
            else
              let m7:=if n=0 then(m6.cE 10 seq).cE 12 bH else m6
              let m8:=m7.cE 8 ((m7.bR 8+1)%18446744073709551616)
              let m9:=((m8.cE 9 seq).cE 13 bH).cE 14 mono
              (seq,0,{m9 with h:={m9.h with bC:=bC,dJ:=e}})
def iW:Nat->Sq->Mk->List Rec->Mk × List Rec × Sq
  | 0,s,m,rs=>(m,rs,s)
  | n+1,s,m,rs =>
    if s.pos<s.l.length then
      match s.record ((m.bR 9+1)%18446744073709551616)with
      | (r,s1) =>
        match m.append r.ak r.bH r.mono r.bC with
        | (_,c,m1)=>if c≠0 then(m1,rs,s1)else iW n s1 m1 (rs ++ [r])
    else(m,rs,s)
def Sq.oO (s:Sq) (bG:Nat):Mk × List Rec × Sq :=
  match s.config with
  | (c,s1) =>
    match s1.bR 6 with
    | (t,s2)=>iW bG s2 (iB c t) []
def mq (l:List Int) (bG:Nat):List UInt8:=kM ((Sq.mk l 0).oO bG).1 1
structure aiY (m m':Mk) (k len:Nat):Prop where
  lt:k<m'.ai.length
  ge:m.b.length<=m'.b.length
  le:m'.b.length<=m.b.length+len
  c:m'.c=m.c
  main:m'.main=m.main
  pre:m'.ai=m.ai\/∃x:aP,m'.ai=m.ai ++ [x]/\x.bB=0/\x.aT=[]/\x.pos+64<=m'.b.length
  fl:m'.ak.length<=m.ak.length+1
  fit:m'.fit
  n8:m'.h.n.getD 8 0=m.h.n.getD 8 0
theorem l7 (m:Mk) (p v:Nat):(m.put p v).c=m.c/\(m.put p v).ai=m.ai/\(m.put p v).ak=m.ak/\(m.put p v).main=m.main/\(m.put p v).h=m.h/\(m.put p v).depth=m.depth:=⟨q,q,q,q,q,q⟩
theorem MZ (m:Mk) (x:Pr) (h:m.fit):aiY m (m.data x).2 (m.data x).1 (400+x.name.length+(au x).length):=by
  unfold Mk.data;cases hk:mQ (au x) m.ai 0 with
  | some i =>
    have:=adq hk;exact⟨by simp only;omega,Nat.le_refl _,by simp only;omega,q,q,.inl q,by simp only;omega,h,q⟩
  | none =>
    simp only;have D:=gH m (iw {bY:=cQ m.c.cB m.c.bZ (au x),b9:=0,d9:=0,entry:=0,array:=0,bB:=0,au:=au x});have Q:=dU m (iw {bY:=cQ m.c.cB m.c.bZ (au x),b9:=0,d9:=0,entry:=0,array:=0,bB:=0,au:=au x});have R:(m.bV (iw {bY:=cQ m.c.cB m.c.bZ (au x),b9:=0,d9:=0,entry:=0,array:=0,bB:=0,au:=au x})).2.h.n.getD 8 0=m.h.n.getD 8 0:=(by simp only[Mk.bV,Mk.cE];rw[aY Xy,aY Xy]);rw[xW]at D;simp only at D;generalize m.bV (iw {bY:=cQ m.c.cB m.c.bZ (au x),b9:=0,d9:=0,entry:=0,array:=0,bB:=0,au:=au x})=r at *;obtain⟨p,a⟩:=r;simp only at D Q R ⊢;have J:=uW a a.ai (a.bR 2) p (cQ m.c.cB m.c.bZ (au x)%a.c.ay);have T:=gV a a.ai (a.bR 2) p (cQ m.c.cB m.c.bZ (au x)%a.c.ay);generalize a.hang a.ai (a.bR 2) p (cQ m.c.cB m.c.bZ (au x)%a.c.ay)=r at *;obtain⟨n,d⟩:=r;simp only at J T ⊢;obtain⟨ae,af,ag,a4,a5,ah,aj,al⟩:=D;obtain⟨N,u,A,O⟩:=Q;obtain⟨c1,c2,c3,c4,am,an,ao⟩:=J;obtain⟨S,B,E,U,ap,f⟩:=T;generalize hx5:({(d.cE 19 (max (d.bR 19) n)).cE 15 (((d.cE 19 (max (d.bR 19) n)).bR 15+1)%18446744073709551616)with ai:=((d.cE 19 (max (d.bR 19) n)).cE 15 (((d.cE 19 (max (d.bR 19) n)).bR 15+1)%18446744073709551616)).ai ++ [({bQ:=au x,pos:=p,bX:=cQ m.c.cB m.c.bZ (au x)%a.c.ay,bB:=0,aT:=[]}:aP)]}:Mk)=m5;have X:m5.b=d.b/\m5.c=d.c/\m5.ai=d.ai ++ [({bQ:=au x,pos:=p,bX:=cQ m.c.cB m.c.bZ (au x)%a.c.ay,bB:=0,aT:=[]}:aP)]/\m5.ak=d.ak/\m5.main=d.main:=(by subst hx5;exact⟨q,q,q,q,q⟩);have v:m5.h.n.getD 2 0=m.h.n.getD 2 0:=(by subst hx5;simp only[Mk.cE];rw[aY Xy,aY Xy];omega);have w:m5.h.n.getD 4 0=m.h.n.getD 4 0:=(by subst hx5;simp only[Mk.cE];rw[aY Xy,aY Xy];omega);have aq:m5.h.n.getD 8 0=m.h.n.getD 8 0:=(by subst hx5;simp only[Mk.cE];rw[aY Xy,aY Xy,f,R]);clear hx5;obtain⟨g,e,I,P,l⟩:=X;have ar:m5.b.length=a.b.length:=(by rw[g];omega);have aa:m5.fit:=by
      refine pK h ⟨by rw[e];omega,by rw[e];omega,v,w,by omega⟩ (fun k hk=>?_) (fun k hk=>?_)
      · rw[I,B,u,List.mem_append,List.mem_singleton]at hk
        rcases hk with hk|rfl
        · exact .inl hk
        · right;simp only;omega
      · rw[P,E,A]at hk;exact .inl hk
    have K:=uS m5 x.name aa;generalize m5.field x.name=r at *;obtain⟨k,C⟩:=r;simp only at K ⊢;obtain⟨⟨aw,ax,az,aA,aB,aC,aD,aE,aF,y⟩,⟨z,Y,Z⟩,s4⟩:=K;have av:((C.put (p+32) (lS C.b (k+32:Nat) 8).1).put (k+32) p).b.length=C.b.length:=(by rw[ko,ko]);have o:=l7 C (p+32) (lS C.b (k+32:Nat) 8).1;have t:=l7 (C.put (p+32) (lS C.b (k+32:Nat) 8).1) (k+32) p;generalize C.put (p+32) (lS C.b (k+32:Nat) 8).1=m7 at *;generalize m7.put (k+32) p=m8 at *;obtain⟨j,V,W,ab,G,_⟩:=o;obtain⟨H,L,M,ad,s,_⟩:=t;have F:m8.ai=m.ai ++ [({bQ:=au x,pos:=p,bX:=cQ m.c.cB m.c.bZ (au x)%a.c.ay,bB:=0,aT:=[]}:aP)]:=(by rw[L,V,Y,I,B,u]);refine⟨by rw[F];simp,by omega,by omega,by rw[H,j,z,e,S,N],by rw[ad,ab,Z,l,U,O],.inr ⟨_,F,q,q,by simp only;omega⟩,?_,?_,by rw[s,G];omega⟩
    · have:=congrArg List.length P;rw[E,A]at this;rw[M,W];omega
    · refine pK s4 ⟨by rw[H,j],by rw[H,j],by rw[s,G],by rw[s,G],by omega⟩ (fun k hk=>.inl (by rw[L,V]at hk;exact hk)) (fun k hk=>.inl (by rw[M,W]at hk;exact hk))
theorem abE (l:List Nat) (p k a r:Nat):eW (l ++ [p]) k a r=((eW l k a r).2,(eW l k a r).2+dn ((k+l.length:Nat):Int)):=by
  induction l generalizing k a r with
  | nil=>rfl
  | cons x l ih =>
    show eW (l ++ [p]) (k+1) r (r+dn (k:Int))=_;rw[ih];show _=((eW l (k+1) r (r+dn (k:Int))).2,(eW l (k+1) r (r+dn (k:Int))).2+dn ((k+(l.length+1):Nat):Int));rw[show k+1+l.length=k+(l.length+1)by omega]
theorem afB (l:List Nat) (k a r:Nat):r+4*l.length<=(eW l k a r).2/\(l≠[]->r+4*(l.length-1)<=(eW l k a r).1):=by
  induction l generalizing k a r with
  | nil=>simp[eW]
  | cons x l ih =>
    have C:=pW (k:=(k:Int)) Xx;obtain⟨B,A⟩:=ih (k+1) r (r+dn (k:Int));refine⟨?_,fun _=>?_⟩
    · show r+4*(l.length+1)<=(eW l (k+1) r (r+dn (k:Int))).2;omega
    · show r+4*(l.length+1-1)<=(eW l (k+1) r (r+dn (k:Int))).1
      by_cases hl:l=[]
      · subst hl;simp[eW]
      · have:=A hl
        have:0<l.length:=(by cases l with|nil=>exact absurd q hl|cons _ _=>simp);omega
theorem uK {len n:Nat} {a:List Nat} (h:jH len a n):a.length<=n+1:=by
  obtain⟨_,B,_⟩:=h;have A:=(afB a 0 0 0).2
  by_cases ha:a=[]
  · subst ha;simp
  have:=A ha;omega
theorem pI {len b n:Nat} {a:List Nat} (h:jH len a n) (c:len<=b):jH b a n :=
  ⟨fun k x d=>lv (h.1 k x d) c,h.2⟩
theorem chain_nil (len:Nat):jH len [] 0:=⟨by simp,by simp[eW],by simp[eW]⟩
structure acz (m m':Mk) (a:List Nat) (n:Nat):Prop where
  ge:m.b.length<=m'.b.length
  le:m'.b.length<=m.b.length+2100
  c:m'.c=m.c
  ai:m'.ai=m.ai
  ak:m'.ak=m.ak
  main:m'.main=m.main
  chain:jH m'.b.length a (n+1)
  ne:a≠[]
  n8:m'.h.n.getD 8 0=m.h.n.getD 8 0
  n2:m'.h.n.getD 2 0=m.h.n.getD 2 0
  n4:m'.h.n.getD 4 0=m.h.n.getD 4 0
theorem xB (m:Mk) (aT:List Nat) (n src gP:Nat) (h:jH m.b.length aT n):acz m (m.link aT n src gP).2.2 (m.link aT n src gP).1 n:=by
  obtain⟨R,F,T⟩:=h;unfold Mk.link;have d:=fun p=>abE aT p 0 0 0
  rcases hq:eW aT 0 0 0 with⟨A,B⟩
  rw[hq]at F T d;simp only at F T d ⊢;rw[Nat.zero_add]at d;split
  · rename_i hn
    have G:=gH m (fe {next:=0,aH:=List.replicate (dn (aT.length:Int)) 0});have Q:=dU m (fe {next:=0,aH:=List.replicate (dn (aT.length:Int)) 0});have o:(m.bV (fe {next:=0,aH:=List.replicate (dn (aT.length:Int)) 0})).2.h.n.getD 8 0=m.h.n.getD 8 0:=(by simp only[Mk.bV,Mk.cE];rw[aY Xy,aY Xy]);rw[vJ]at G;simp only[List.length_replicate]at G;generalize m.bV (fe {next:=0,aH:=List.replicate (dn (aT.length:Int)) 0})=r at *;obtain⟨p,C⟩:=r;simp only at G Q o ⊢;obtain⟨w,y,z,a4,a5,Y,Z,aa⟩:=G;obtain⟨J,V,W,K⟩:=Q;have X:=uy (aT.length:Int);have H:=pW (k:=(aT.length:Int)) Xx;generalize hx2:C.cE 18 ((C.bR 18+1)%18446744073709551616)=m29;have U:m29.b=C.b/\m29.c=C.c/\m29.ai=C.ai/\m29.ak=C.ak/\m29.main=C.main:=(by subst hx2;exact abG _ _ _);have ah:m29.h.n.getD 8 0=C.h.n.getD 8 0:=(by subst hx2;exact cL Xy);have af:m29.h.n.getD 2 0=C.h.n.getD 2 0:=(by subst hx2;exact cL Xy);have ag:m29.h.n.getD 4 0=C.h.n.getD 4 0:=(by subst hx2;exact cL Xy);clear hx2;generalize hx3:(if aT.length=0 then m29.put src p else m29.put (jc aT+16) p)=m3;have v:m3.b.length=m29.b.length/\m3.c=m29.c/\m3.ai=m29.ai/\m3.ak=m29.ak/\m3.main=m29.main/\m3.h=m29.h:=by
      subst hx3;split
      · exact⟨ko _ _ _,q,q,q,q,q⟩
      · exact⟨ko _ _ _,q,q,q,q,q⟩
    clear hx3;have t:=ko m3 (jc (aT ++ [p])+24+8*(n-B)) gP;have P:=l7 m3 (jc (aT ++ [p])+24+8*(n-B)) gP;generalize m3.put (jc (aT ++ [p])+24+8*(n-B)) gP=m4 at *;obtain⟨L,M,N,O,f⟩:=U;obtain⟨ab,g,i,S,l,e⟩:=v;obtain⟨j,s,u,E,a,_⟩:=P;have ad:=congrArg List.length L;have ae:m4.b.length=m.b.length+(16+(8+8*dn (aT.length:Int))+7)/8*8:=(by omega);refine⟨by omega,by omega,by rw[j,g,M,J],by rw[s,i,N,V],by rw[u,S,O,W],by rw[E,l,f,K],⟨fun k x D=>?_,?_,?_⟩,by simp,by rw[a,e];omega,by rw[a,e];omega,by rw[a,e];omega⟩
    · rcases Nat.lt_or_ge k aT.length with hk|hk
      · rw[List.getElem?_append_left hk]at D
        have:=R k x D;omega
      have I:=(List.getElem?_eq_some_iff.1 D).1;simp at I;have:k=aT.length:=(by omega);subst this;rw[List.getElem?_append_right (Nat.le_refl _)]at D;simp at D;subst D;omega
    · rw[d];simp only;omega
    rw[d];simp only;omega
  rename_i hn;have t:=ko m (jc aT+24+8*(n-A)) gP;have P:=l7 m (jc aT+24+8*(n-A)) gP;generalize m.put (jc aT+24+8*(n-A)) gP=m4 at *;obtain⟨j,s,u,E,a,_⟩:=P;show acz m m4 aT n;refine⟨by omega,by omega,j,s,u,E,⟨fun k x D=>by have:=R k x D;omega,by rw[hq];simp only;omega,by rw[hq];simp only;omega⟩,?_,by rw[a],by rw[a],by rw[a]⟩;rintro rfl;simp[eW]at hq;omega
def Mk.n8 (m:Mk):Nat:=m.h.n.getD 8 0
def QI (m:Mk) (bG:Nat):Prop:=∀k∈m.ai,jH m.b.length k.aT (k.bB-1)/\(k.bB=0->k.aT=[])/\k.bQ.length<=400/\k.bB<=bG
structure vv (m:Mk):Prop where
  fit:m.fit
  main:jH m.b.length m.main m.n8
  chains:QI m (16*m.n8)
  nd:m.ai.length<=16*m.n8
  nf:m.ak.length<=16*m.n8
  nb:64*m.n8<=m.b.length
  small:m.b.length<=40000
  bG:m.c.bG<=40000
  hd:272<=m.b.length
structure kV (m0 m:Mk) (d e:Nat) (j:Nat):Prop where
  fit:m.fit
  c:m.c=m0.c
  n8:m.n8=m0.n8
  chains:QI m (16*m0.n8+j)
  nd:m.ai.length<=m0.ai.length+d
  nf:m.ak.length<=m0.ak.length+d
  ge:m0.b.length<=m.b.length
  le:m.b.length<=m0.b.length+e
theorem aae {m:Mk} (h:vv m):kV m m 0 0 0:=⟨h.fit,q,q,h.chains,Nat.le_refl _,Nat.le_refl _,Nat.le_refl _,Nat.le_refl _⟩
theorem JK {m:Mk} {x:Pr} (y:aP) (h:y∈(m.data x).2.ai):y∈m.ai\/y.bQ=au x:=by
  unfold Mk.data at h;split at h
  · exact .inl h
  simp only at h;have F:=dU m (iw {bY:=cQ m.c.cB m.c.bZ (au x),b9:=0,d9:=0,entry:=0,array:=0,bB:=0,au:=au x});generalize m.bV (iw {bY:=cQ m.c.cB m.c.bZ (au x),b9:=0,d9:=0,entry:=0,array:=0,bB:=0,au:=au x})=r at *;obtain⟨p,B⟩:=r;simp only at h F;have G:=gV B B.ai (B.bR 2) p (cQ m.c.cB m.c.bZ (au x)%B.c.ay);generalize B.hang B.ai (B.bR 2) p (cQ m.c.cB m.c.bZ (au x)%B.c.ay)=r at *;obtain⟨n,C⟩:=r;simp only at h G;generalize hx5:({(C.cE 19 (max (C.bR 19) n)).cE 15 (((C.cE 19 (max (C.bR 19) n)).bR 15+1)%18446744073709551616)with ai:=((C.cE 19 (max (C.bR 19) n)).cE 15 (((C.cE 19 (max (C.bR 19) n)).bR 15+1)%18446744073709551616)).ai ++ [({bQ:=au x,pos:=p,bX:=cQ m.c.cB m.c.bZ (au x)%B.c.ay,bB:=0,aT:=[]}:aP)]}:Mk)=m5 at h;have I:m5.ai=C.ai ++ [({bQ:=au x,pos:=p,bX:=cQ m.c.cB m.c.bZ (au x)%B.c.ay,bB:=0,aT:=[]}:aP)]:=by subst hx5;rfl
  clear hx5;have H:(m5.field x.name).2.ai=m5.ai:=by
    unfold Mk.field;split
    · rfl
    · simp only
      have D:=dU m5 (gu {bY:=cQ m5.c.cB m5.c.bZ x.name,b9:=0,dat:=0,au:=x.name});generalize m5.bV (gu {bY:=cQ m5.c.cB m5.c.bZ x.name,b9:=0,dat:=0,au:=x.name})=r at *;obtain⟨q,A⟩:=r;simp only at D ⊢;have E:=gV A A.ak (A.bR 4) q (cQ m5.c.cB m5.c.bZ x.name%A.c.aC);generalize A.hang A.ak (A.bR 4) q (cQ m5.c.cB m5.c.bZ x.name%A.c.aC)=r at *;obtain⟨M,L⟩:=r;simp only at E ⊢;show L.ai=m5.ai;rw[E.2.1,D.2.1]
  generalize m5.field x.name=r at *;obtain⟨k,A⟩:=r;simp only at h H;have J:=(l7 A (p+32) (lS A.b (k+32:Nat) 8).1).2.1;have K:=(l7 (A.put (p+32) (lS A.b (k+32:Nat) 8).1) (k+32) p).2.1;rw[K,J,H,I,List.mem_append,List.mem_singleton,G.2.1,F.2.1]at h
  rcases h with h|rfl
  · exact .inl h
  exact .inr rfl
theorem CS {b m:Mk} {d e j:Nat} {x:Pr} (h:kV b m d e j) (v:x.name.length<=64/\x.value.length<=256):kV b (m.data x).2 (d+1) (e+900) j/\(m.data x).1<(m.data x).2.ai.length/\(m.data x).2.main=m.main:=by
  have g:=MZ m x h.fit;have G:=fun y=>JK (m:=m) (x:=x) y;have u:=ic x;generalize m.data x=r at *;obtain⟨k,H⟩:=r;simp only at g G ⊢;have D:=g.ge;have q:=g.le;have s:=h.ge;have P:=h.le;have Q:=h.nd;have R:=h.nf;have t:=g.fl;have T:H.ai.length<=m.ai.length+1:=by rcases g.pre with e|⟨x,e,_⟩ <;> rw[e] <;> simp
  refine⟨⟨g.fit,g.c.trans h.c,(show H.h.n.getD 8 0=b.n8 from g.n8.trans h.n8),fun y a=>?_,by omega,by omega,by omega,by omega⟩,g.lt,g.main⟩;have f:y∈m.ai\/(y.bB=0/\y.aT=[]):=by
    rcases g.pre with e|⟨x,e,C,B,_⟩
    · rw[e]at a;exact .inl a
    · rw[e,List.mem_append,List.mem_singleton]at a
      rcases a with a|rfl
      · exact .inl a
      · exact .inr ⟨C,B⟩
  rcases f with E|⟨C,B⟩
  · obtain⟨i,l,o,p⟩:=h.chains y E
    exact⟨pI i D,l,o,p⟩
  refine⟨by rw[C,B];exact chain_nil _,fun _=>B,?_,by omega⟩
  rcases G y a with E|J
  · exact(h.chains y E).2.2.1
  rw[J];omega
theorem CX {g m m':Mk} {d e e' j j':Nat} (h:kV g m d e j) (a:m'.c=m.c) (q:m'.n8=m.n8) (o:m'.h.n.getD 2 0=m.h.n.getD 2 0) (p:m'.h.n.getD 4 0=m.h.n.getD 4 0) (hd:m'.ai=m.ai) (f:m'.ak=m.ak)
    (hg:m.b.length<=m'.b.length) (hl:m'.b.length<=m.b.length+e') (hj:j<=j'):kV g m' d (e+e') j':=by
  have:=h.ge;have:=h.le;refine⟨pK h.fit ⟨by rw[a],by rw[a],o,p,hg⟩ (fun k hk=>.inl (hd ▸ hk)) (fun k hk=>.inl (f ▸ hk)),a.trans h.c,q.trans h.n8,fun k hk=>?_,by rw[hd];exact h.nd,by rw[f];exact h.nf,by omega,by omega⟩;rw[hd]at hk;obtain⟨i,l,C,D⟩:=h.chains k hk;exact⟨pI i hg,l,C,by omega⟩
theorem CW {c m:Mk} {d e j L:Nat} {o:Ly} (h:kV c m d e j) (f:o.length<=L):kV c (m.bV o).2 d (e+L) j:=by
  have a:=gH m o;have b:=dU m o;have C:(m.bV o).2.h.n.getD 8 0=m.h.n.getD 8 0:=by simp only[Mk.bV,Mk.cE];rw[aY Xy,aY Xy]
  exact CX h b.1 C a.2.2.2.2.2.2.1 a.2.2.2.2.2.2.2 b.2.1 b.2.2.1 (by rw[a.2.1];omega) (by rw[a.2.1];omega) (Nat.le_refl _)
theorem MO {a m:Mk} {d e j:Nat} (p v:Nat) (h:kV a m d e j):kV a (m.put p v) d e j :=
  CX (e':=0) h q q q q q q (by rw[ko];exact Nat.le_refl _) (by rw[ko];exact Nat.le_refl _) (Nat.le_refl _)
theorem CV {a m:Mk} {d e j n src gP:Nat} {aT:List Nat} (h:kV a m d e j) (f:jH m.b.length aT n):kV a (m.link aT n src gP).2.2 d (e+2100) j:=by have g:=xB m aT n src gP f;exact CX h g.c g.n8 g.n2 g.n4 g.ai g.ak g.ge g.le (Nat.le_refl _)
theorem Yd {f m:Mk} {d e j i:Nat} {k:aP} (h:kV f m d e j) (hi:i<m.ai.length) (p:k.pos=(m.ai.getD i known0).pos) (o:k.bQ=(m.ai.getD i known0).bQ)
    (hk:jH m.b.length k.aT (k.bB-1)/\(k.bB=0->k.aT=[])/\k.bB<=16*f.n8+(j+1)):kV f {m with ai:=m.ai.set i k} d e (j+1):=by
  have C:m.ai[i]? = some (m.ai.getD i known0):=by simp[List.getD,hi]
  have g:=List.mem_of_getElem? C;refine⟨pK h.fit ⟨q,q,q,q,Nat.le_refl _⟩ (fun y a=>?_) (fun y a=>.inl a),h.c,h.n8,fun y a=>?_,by simpa using h.nd,h.nf,h.ge,h.le⟩
  · rcases List.mem_or_eq_of_mem_set a with a|rfl
    · exact .inl a
    right;have:=h.fit.2.2.2.2.2.2.1 _ g;simp only;omega
  rcases List.mem_or_eq_of_mem_set a with a|rfl
  · obtain⟨D,l,n,G⟩:=h.chains y a;exact⟨D,l,n,by omega⟩
  exact⟨hk.1,hk.2.1,by rw[o];exact(h.chains _ g).2.2.1,hk.2.2⟩
def jT (e:Nat) (i:Nat) (m:Mk):Mk :=
  let k:=m.ai.getD i known0
  if k.bB=0 then
    let m29:=(m.put (k.pos+40) e).put (k.pos+56) 1
    {m29 with ai:=m29.ai.set i {k with bB:=1}}
  else
    match m.link k.aT (k.bB-1) (k.pos+48) e with
    | (a,_,m1) =>
      let m29:=m1.put (k.pos+56) (k.bB+1)
      {m29 with ai:=m29.ai.set i {k with aT:=a,bB:=k.bB+1}}
theorem nH (e i:Nat) (r:List Nat) (m:Mk):kE e (i :: r) m=kE e r (jT e i m):=by
  unfold jT;rw[kE];simp only;split
  · rfl
  rfl
theorem RA {q m:Mk} {d e j i en:Nat} (h:kV q m d e j) (hi:i<m.ai.length):kV q (jT en i m) d (e+2100) (j+1)/\(jT en i m).main=m.main/\(jT en i m).ai.length=m.ai.length:=by
  have s:m.ai[i]? = some (m.ai.getD i known0):=by simp[List.getD,hi]
  have u:=List.mem_of_getElem? s;obtain⟨o,v,x,P⟩:=h.chains _ u;unfold jT;simp only;generalize hk:m.ai.getD i known0=k at *;split
  · rename_i h0
    have g:=MO (k.pos+56) 1 (MO (k.pos+40) en h);have p:=l7 m (k.pos+40) en;have D:=l7 (m.put (k.pos+40) en) (k.pos+56) 1;have H:((m.put (k.pos+40) en).put (k.pos+56) 1).b.length=m.b.length:=(by rw[ko,ko]);generalize m.put (k.pos+40) en=C at *;generalize C.put (k.pos+56) 1=m29 at *;have f:m29.ai=m.ai:=D.2.1.trans p.2.1;have a:=Yd (i:=i) (k:={k with bB:=1}) g (by rw[f];exact hi) (by rw[f,hk]) (by rw[f,hk]) ⟨by simp only;rw[v h0];exact chain_nil _,fun n=>by simp at n,by simp only;omega⟩;refine⟨⟨a.fit,a.c,a.n8,a.chains,a.nd,a.nf,a.ge,lv a.le Xx⟩,D.2.2.2.1.trans p.2.2.2.1,by simp[f]⟩
  rename_i h0;have g:=CV (src:=k.pos+48) (gP:=en) h o;have l:=xB m k.aT (k.bB-1) (k.pos+48) en o;generalize m.link k.aT (k.bB-1) (k.pos+48) en=r at *;obtain⟨w,Q,C⟩:=r;simp only at g l ⊢;have t:=MO (k.pos+56) (k.bB+1) g;have D:=l7 C (k.pos+56) (k.bB+1);have H:=ko C (k.pos+56) (k.bB+1);generalize C.put (k.pos+56) (k.bB+1)=m29 at *;have f:m29.ai=m.ai:=D.2.1.trans l.ai;have G:=l.chain;rw[show k.bB-1+1=k.bB by omega,<- H]at G;have a:=Yd (i:=i) (k:={k with aT:=w,bB:=k.bB+1}) t (by rw[f];exact hi) (by rw[f,hk]) (by rw[f,hk]) ⟨G,fun n=>by simp at n,by simp only;omega⟩;exact⟨a,D.2.2.2.1.trans l.main,by simp[f]⟩
theorem EP {c:Mk} {d en:Nat}:∀(a:List Nat) (m:Mk) (e j:Nat),kV c m d e j->(∀i∈a,i<m.ai.length) ->
    kV c (kE en a m) d (e+2100*a.length) (j+a.length)/\(kE en a m).main=m.main/\(kE en a m).ai.length=m.ai.length
  | [],m,e,j,h,_=>⟨h,q,q⟩
  | i :: r,m,e,j,h,hi=>by
    obtain⟨o,p,b⟩:=RA (en:=en) h (hi i Oy);obtain⟨k,l,n⟩:=EP r (jT en i m) (e+2100) (j+1) o fun x s=>by rw[b];exact hi x (by simp[s])
    rw[nH];refine⟨?_,l.trans p,n.trans b⟩;have g:e+2100*(i :: r).length=e+2100+2100*r.length:=(by simp;omega);have f:j+(i :: r).length=j+1+r.length:=(by simp;omega);rw[g,f];exact k
def BD (q:Pr):Prop:=q.name.length<=64/\q.value.length<=256
theorem TW:∀(n j:Nat) (o:List Pr),(∀q∈o,BD q)->∀q∈lN n j o,BD q
  | 0,_,_,h=>h
  | n+1,j,o,h=>by
    unfold lN;refine TW n (j-1) _ fun q a=>?_
    rcases List.mem_or_eq_of_mem_set a with a|rfl
    · exact h q a
    · rw[List.getD_eq_getElem?_getD]
      cases hg:o[j-1]? with
      | none=>exact⟨by simp,by simp⟩
      | some y=>exact h y (List.mem_of_getElem? hg)
theorem aj7 {p:Pr} {o:List Pr} (c:BD p) (h:∀q∈o,BD q):∀q∈IK p o,BD q:=by
  unfold IK;simp only;split
  · exact h
  intro q b
  rcases List.mem_or_eq_of_mem_set b with b|rfl
  · refine TW _ _ _ (fun y a=>?_) q b
    rcases List.mem_append.1 a with a|a
    · exact h y a
    simp at a;subst a;exact⟨by simp,by simp⟩
  exact c
theorem ad9:∀(l o:List Pr),(∀q∈o,BD q)->∀(x:List Pr) (c:Nat),UU l o=(x,c)->(∀q∈x,BD q)/\x.length<=16
  | [],o,ho,x,c,h=>by
    unfold UU at h;split at h
    · obtain⟨rfl,_⟩:=Prod.mk.inj h;simp
    · obtain⟨rfl,_⟩:=Prod.mk.inj h;exact⟨ho,by omega⟩
  | p :: r,o,ho,x,c,h=>by
    unfold UU at h;split at h
    · obtain⟨rfl,_⟩:=Prod.mk.inj h;simp
    · rename_i h1
      have a:=AB.1 (Classical.not_not.1 h1);simp only[right,Pr.pb,Bool.and_eq_true]at a;exact ad9 r _ (aj7 ⟨(fV a.1).2,dT a.2⟩ ho) x c h
theorem tP {l x:List Pr} {c:Nat} (h:jU l=(x,c)):(∀q∈x,BD q)/\x.length<=16:=by
  unfold jU at h;split at h
  · obtain⟨rfl,_⟩:=Prod.mk.inj h;simp
  exact ad9 l [] Oy x c h
theorem KY {ds:List aP} {k i:Nat} {a:List Nat} (h:i∈mC ds k a):i=k\/i∈a:=by
  unfold mC at h;simp only[List.mem_append,List.mem_singleton]at h
  rcases h with(h|h)|h
  · exact .inr (List.mem_of_mem_take h)
  · exact .inl h
  exact .inr (List.mem_of_mem_drop h)
theorem DF (ds:List aP) (p:Nat) (a:List Nat):∀n,lR ds p a n<=n
  | 0=>Nat.le_refl _
  | n+1=>by
    unfold lR;split
    · have:=DF ds p a n;omega
    · exact Nat.le_refl _
theorem abt (ds:List aP) (k:Nat) (a:List Nat):(mC ds k a).length=a.length+1:=by have:=DF ds (gD ds k) a a.length;unfold mC;simp;omega
structure qp (m0 m:Mk) (ps:List (List UInt8)) (od:List Nat) (n:Nat):Prop where
  app:kV m0 m n (900*n) 0
  main:m.main=m0.main
  idx:∀i∈od,i<m.ai.length
  len:od.length=n/\ps.length=n
  ps:∀t∈ps,t.length<=400
theorem DT {c m:Mk} {ps:List (List UInt8)} {d:List Nat} {n:Nat} {x:Pr} (h:qp c m ps d n) (j:BD x) :
    qp c (m.data x).2 (ps ++ [((m.data x).2.ai.getD (m.data x).1 known0).bQ]) (mC (m.data x).2.ai (m.data x).1 d) (n+1):=by
  obtain⟨C,D,g⟩:=CS h.app j;have G:=MZ m x h.app.fit;refine⟨by rw[show 900*(n+1)=900*n+900 by omega];exact C,g.trans h.main,fun i b=>?_,⟨by rw[abt,h.len.1],by simpa using h.len.2⟩,fun t a=>?_⟩
  · rcases KY b with rfl|b
    · exact D
    have:=h.idx i b;have H:m.ai.length<=(m.data x).2.ai.length:=(by rcases G.pre with e|⟨y,e,_⟩ <;> rw[e] <;> simp);omega
  rcases List.mem_append.1 a with a|a
  · exact h.ps t a
  simp at a;subst a;have f:(m.data x).2.ai[(m.data x).1]? = some ((m.data x).2.ai.getD (m.data x).1 known0):=by simp[List.getD,D]
  exact(C.chains _ (List.mem_of_getElem? f)).2.2.1
theorem uM {b:Mk}:∀(l:List Pr) (m:Mk) (ps:List (List UInt8)) (a:List Nat) (n:Nat),qp b m ps a n->(∀q∈l,BD q) ->
    qp b (gN l m ps a).2.2 (gN l m ps a).1 (gN l m ps a).2.1 (n+l.length)
  | [],m,ps,a,n,h,_=>h
  | x :: r,m,ps,a,n,h,hb=>by have c:=DT h (hb x Oy);have d:=uM r _ _ _ _ c fun q e=>hb q (by simp[e]);rw[show n+(x :: r).length=n+1+r.length by simp;omega];exact d
theorem qx {m:Mk} (h:vv m):qp m m [] [] 0:=⟨aae h,q,by simp,⟨q,q⟩,by simp⟩
section
variable {P:Program} {ops:Array Oper} {md:Region.Mode} {C:World->Prop} {Q:Exit->Act->World->Prop} {QN:Act->World->Prop}
variable {n:Nat} {A:Fr n} {D:List Deferred} {l:List (Nat × Value)} {w:World} {f:Nat} {listed:Array Bool}
theorem sC {R:Act->World->Prop} {id:Nat} {lo:List Oper} {a:Act} (C:World->Prop) (d:P.follows .mixedOrders=true) (hk:∀c b,R c b->Q .normal c b)
  (h:∀b,Md [] w b->lO P .any lo.toArray C R lo.length (Array.replicate lo.length false) a b):(Code.region id lo.toArray true).wp P Q a w:=by
 refine wp_region_any d (qh (C:=C) (QN:=R) hk _ _ _ _ ?_);have:=h _ (Md.drew w);simpa using this
theorem lH {a:Act} (b:(Region.ready md ops listed).isEmpty=true) (h:QN a w):lO P md ops C QN 0 listed a w:=⟨by simpa using b,h⟩
theorem dO {i d:Nat} {c:Op} {ty:TypeId} {ps:String} {af:Array Edge} (v:Value) (hi:ops[i]? = some ⟨some d,c,ty,ps,af,none⟩) (h:Region.noSelect ops=true) (b:((Region.ready md ops listed).contains i && Region.free md ops listed i)=true) (g:C w)
    (hv:∀a,C a->cg P ⟨some d,c,ty,ps,af,none⟩ (aQ A D l).eval a v) (k:lO P md ops C QN f (listed.setIfInBounds i true) (aQ A D ((d,v) :: l)) w):lO P md ops C QN (f+1) listed (aQ A D l) w:=by
  simp only[Bool.and_eq_true]at b;exact sP hi (Region.noSelect_spec h) f listed _ w (Region.free_spec hi b.2) (by simpa using b.1) g (.inl ⟨by simp[Region.wanted],fun a e=>hv a e⟩) k
theorem W7 {i:Nat} {o:Oper} {a:Act} {K:Act->World->Prop} (hi:ops[i]? = some o) (l:o.guard=none) (h:wpList P ops (fun g k e=>g = .normal/\C e/\K k e) [o] a w):opC P ops C i K a w:=by
  have D:Region.wanted o (yielded ops a.tmps)=true:=by unfold Region.wanted;rw[l]
  unfold opC;simp only[hi];rw[if_pos D];unfold wpList at h;rw[if_pos D]at h
  rcases h with h|h
  · unfold Oper.wp at *
    generalize (execOp a.eval o).run P w=r at *;cases r with
    | ok x e =>
      cases x <;> simp only[Oper.upon]at h ⊢
      case value v=>exact(show _/\_ from h).2
      case skip=>exact(show _/\_ from h).2
      case defer d=>exact(show _/\_ from h).2
      case enter f args =>
        refine h.mono fun g j b=>?_;cases g with
        | returned v=>exact(show _/\_ from b).2
        | panicked c=>exact absurd b.1 Oy
        | outgrown=>obtain⟨_,_,b⟩:=b;exact absurd b.1 Oy
      case row r args=>exact h.mono fun v j b=>(show _/\_ from b).2
    | halt x e =>
      cases x <;> simp only[Oper.upon]at h ⊢
      exact absurd h.1 Oy
  obtain⟨_,_,_,b⟩:=h;exact absurd b.1 Oy
theorem cO {i:Nat} {o:Oper} {a:Act} (b:decide (Region.ready md ops listed=[i])=true) (hi:ops[i]? = some o) (j:o.guard=none)
    (h:wpList P ops (fun g e d=>g = .normal/\C d/\lO P md ops C QN f (listed.setIfInBounds i true) e d) [o] a w):lO P md ops C QN (f+1) listed a w:=by
  have b:=dT b;refine⟨fun c=>(by rw[b]at c;cases c),fun k hk=>?_⟩;rw[b]at hk;have:k=i:=by simpa using hk
  subst this;exact W7 hi j h
theorem rz {i j:Nat} {o g:Oper} {a:Act} (c:decide (Region.ready md ops listed=[i,j])=true) (hi:ops[i]? = some o) (m:o.guard=none) (p:ops[j]? = some g) (n:g.guard=none)
    (h:wpList P ops (fun e d b=>e = .normal/\C b/\lO P md ops C QN f (listed.setIfInBounds i true) d b) [o] a w)
    (h':wpList P ops (fun e d b=>e = .normal/\C b/\lO P md ops C QN f (listed.setIfInBounds j true) d b) [g] a w):lO P md ops C QN (f+1) listed a w:=by
  have c:=dT c;refine⟨fun l=>(by rw[c]at l;cases l),fun k hk=>?_⟩;rw[c]at hk;have:k=i\/k=j:=by simpa using hk
  rcases this with rfl|rfl
  · exact W7 hi m h
  exact W7 p n h'
end
theorem YG {a:Type} {f:a->Value} {h1:∀x,(f x).oneCell'=true} {ok:a->Prop} {w d:World} {R b:Nat->Prop}:∀{xs:List a} {cs:List Value},su (uF f h1 ok) w R cs xs->su (uF f h1 ok) d b cs xs
 | [],_,h=>h
 | _ :: _,_,⟨c,r,h0,h1,h2⟩=>⟨c,r,h0,h1,YG h2⟩
theorem pP {a:Type} {f:a->Value} {h1:∀x,(f x).oneCell'=true} {ok:a->Prop} {w b:World} {R j:Nat->Prop} {v:Value} {xs:List a} (h:Lz (uF f h1 ok) w R v xs) (m:Md [] w b):Lz (uF f h1 ok) b j v xs:=by obtain⟨k,c,d,C,h1,D,e,g,G⟩:=h;exact⟨k,c,d,C,h1,D,e,fun p i l n H=>m.cell (g p i l n H) Oy,YG G⟩
theorem mB {a:Type} {f:a->Value} {h1:∀x,(f x).oneCell'=true} {ok:a->Prop} {w:World} {R:Nat->Prop} {b e:Nat} {x:a} (h:bS w b [f x] e) (d:ok x):Lz (uF f h1 ok) w R (.slice (some ⟨b,0,none⟩) 1 1) [x]:=by have c:Ls (uF f h1 ok) w (fun _=>True) (.slice (some ⟨b,0,none⟩) 1 1) [x]:=Ls.cF (cs:=[f x]) h ⟨[f x],[],q,⟨q,d⟩,q⟩ q Xy trivial;exact pP c.lz (Md.refl _ _)
structure oW {α:Type} (T:Dt α) (w0:World) (Q0:Nat->Prop) (e:TypeId) (w:World) (R:Nat->Prop) (v:Value) (xs:List α):Prop where
  md:Md [] w0 w
  s:∀b,Q0 b->b<w0.heap.size->R b
  t:∀b,R b->Q0 b
  up:Up w R
  ow:Ow T e (bw [] w0) w R v xs
section
variable {α:Type} {T:Dt α} {P:Program} {ops:Array Oper} {Q:Exit->Act->World->Prop} {n:Nat} {A:Fr n} {D:List Deferred} {l:List (Nat × Value)} {w:World} {rest:List Oper}
theorem oW.mk0 {a c w:World} {d:Nat->Prop} {e b:Nat} (n:Up a d) (h1:Md [] a c) (f:c.heap.size<=b) (j:b<w.heap.size) (g:Md [] c w) (l:bS w b [] e) :
    ∃R,oW T a d e w R (.slice (some ⟨b,0,none⟩) 0 0) []:=by
  obtain⟨R,s,t,C,m⟩:=j5 (n.md h1) f j g;exact⟨R,h1.k g,fun b h i=>s b h (lj i h1.size),t,m,Ow.cF l q q Xy (.inr (lv h1.size f)) C⟩
theorem oW.o {c w b:World} {a R:Nat->Prop} {e:TypeId} {v:Value} {xs:List α} (h:oW T c a e w R v xs) (m:Md [] w b):oW T c a e b R v xs :=
  ⟨h.md.k m,h.s,h.t,h.up.md m,h.ow.o m⟩
instance anL {w0 w w':World} {Q0 R:Nat->Prop} {e:TypeId} {v:Value} {xs:List α}:Tp w w' (oW T w0 Q0 e w R v xs) (oW T w0 Q0 e w' R v xs ):=⟨fun m h=>h.o m⟩
theorem eG {d:Nat} {x y:Operand} {ty:TypeId} {ps:String} {af:Array Edge} {t e:TypeId} {sz i:Nat} {v u:Value} {xs ys:List α} {j:World} {h R:Nat->Prop} (q:T.n=sz) (r:P.underlying t=some (.slice e)) (p:wT P e sz i=true) (z:ev n l x=some v) (B:ev n l y=some u)
    (F:oW T j h e w R v xs) (hY:Lz T w R u ys) (h63:xs.length+ys.length<=100000) (hb:i<=1000)
    (k:∀c a f,oW T j h e a f c (xs ++ ys)->Md (ah v).toList w a->wpList P ops Q rest (aQ A D ((d,c) :: l)) a) :
    wpList P ops Q (⟨some d,.call {callee:=.builtin .append,args:=#[x,y],argTypes:=#[t,t]},ty,ps,af,none⟩ :: rest) (aQ A D l) w:=by
  refine uD q r p z B F.ow hY F.up (fun b hb=>.inr (lv F.md.size hb)) Xx ?_ ?_
  · exact lv (Nat.mul_le_mul h63 hb) Xy
  intro c a f m G H o g E I J;refine k c a f ⟨F.md.cT g fun b hb=>(F.ow.2 b hb).1,Sx m F.s F.md.size,fun b hb=>F.t b (G b hb),H,o⟩ g
end
theorem aix {ds:List aP} {p q:Nat} {a:List Nat} (h:0<q):lR ds p a q=if p<gD ds (a.getD (q-1) 0)then lR ds p a (q-1)else q:=by obtain⟨n,rfl⟩:∃n,q=n+1:=⟨q-1,by omega⟩;rfl
theorem akH {ds:List aP} {p q:Nat} {a:List Nat} (h:¬0<q):lR ds p a q=q:=by
  obtain rfl:q=0:=by omega
  rfl
theorem pD {ds:List aP} {i:Nat} {x:aP} (h:ds[i]? = some x):gD ds i=x.pos:=by simp[gD,List.getD,h]
theorem xF {l:List Nat} {i x:Nat} (h:l[i]? = some x):l.getD i 0=x:=by simp[List.getD,h]
theorem rK {ds:List aP} {i:Nat} {x:aP} (h:ds[i]? = some x):ds.getD i known0=x:=by simp[List.getD,h]
theorem aan (m:Mk) (x:Pr) (h:m.fit):m.ai.length<=(m.data x).2.ai.length:=by rcases(MZ m x h).pre with e|⟨y,e,_⟩ <;> rw[e] <;> simp
theorem DO {l:List Pr} {m:Mk} {ps:List (List UInt8)} {a:List Nat} {i:Nat} (h:¬i<l.length):gN (l.drop i) m ps a=(ps,a,m):=by rw[ew Xx];rfl
theorem QK {l:List Pr} {m m':Mk} {ps:List (List UInt8)} {a:List Nat} {i k:Nat} {x:Pr} {y:aP} {q:Nat} (h:l[i]? = some x) (hd:m.data x=(k,m')) (c:m'.ai[k]? = some y) (b:lR m'.ai (gD m'.ai k) a a.length=q) :
    gN (l.drop i) m ps a=gN (l.drop (i+1)) m' (ps ++ [y.bQ]) (a.take q ++ [k] ++ a.drop q):=by
  rw[cK h];show(match m.data x with|(k,m1)=>gN (l.drop (i+1)) m1 (ps ++ [(m1.ai.getD k known0).bQ]) (mC m1.ai k a))=_;rw[hd];simp only[rK c];unfold mC;rw[b]
theorem V9 {b m m':Mk} {ps:List (List UInt8)} {a:List Nat} {n k q:Nat} {x:Pr} {y:aP} (h:qp b m ps a n) (d:BD x) (hd:m.data x=(k,m')) (e:m'.ai[k]? = some y) (c:lR m'.ai (gD m'.ai k) a a.length=q) :
    qp b m' (ps ++ [y.bQ]) (a.take q ++ [k] ++ a.drop q) (n+1):=by
  have:=DT h d;rw[hd]at this;simp only[rK e]at this;unfold mC at this;rw[c]at this;exact this
theorem EY {m:Mk} {b:List Nat} {j:Nat} {a:List mh} (h:¬j<b.length):a ++ ji m (b.drop j)=a:=by rw[ew Xx];simp[ji]
theorem RL {m:Mk} {a:List Nat} {j i:Nat} {d:List mh} {x:aP} (h:a[j]? = some i) (b:m.ai[i]? = some x) :
    d ++ ji m (a.drop j)=(d ++ [{pos:=x.pos,bY:=cQ m.c.cB m.c.bZ x.bQ}]) ++ ji m (a.drop (j+1)):=by
  rw[cK h];simp only[ji,List.map_cons,pD b,rK b,List.append_assoc,List.singleton_append]
theorem JZ {m:Mk} {a:List Nat} {j e:Nat} (h:¬j<a.length):kE e (a.drop j) m=m:=by rw[ew Xx];rfl
theorem VJ {m:Mk} {a:List Nat} {j i e:Nat} (h:a[j]? = some i):kE e (a.drop j) m=kE e (a.drop (j+1)) (jT e i m):=by rw[cK h,nH]
theorem acA {a m:Mk} {d e e' j:Nat} (h:kV a m d e j) (b:e<=e'):kV a m d e' j:=⟨h.fit,h.c,h.n8,h.chains,h.nd,h.nf,h.ge,lv h.le Xx⟩
theorem agR {m:Mk} {e i:Nat} {k:aP} (hk:m.ai[i]? = some k) (a:k.bB=0) :
    jT e i m={(m.put (k.pos+40) e).put (k.pos+56) 1 with ai:=m.ai.set i {k with bB:=1}}:=by
  unfold jT;simp only[rK hk];rw[if_pos a];rfl
theorem agS {m b:Mk} {e i t:Nat} {a:List Nat} {k:aP} (hk:m.ai[i]? = some k) (c:¬k.bB=0) (d:m.link k.aT (k.bB-1) (k.pos+48) e=(a,t,b)) :
    jT e i m={b.put (k.pos+56) (k.bB+1)with ai:=b.ai.set i {k with aT:=a,bB:=k.bB+1}}:=by
  unfold jT;simp only[rK hk];rw[if_neg c,d];rfl
theorem kX {m x d g z:Mk} {raw l:List Pr} {c bH mono e t:Nat} {bC:Ly} {ps:List (List UInt8)} {f a:List Nat} (h1:jU raw=(l,c)) (n:¬c≠0) (o:¬m.bR 9=18446744073709551615) (p:gN l m [] []=(ps,f,x))
    (h5:x.bV (dc {seq:=(x.bR 9+1)%18446744073709551616,bH:=bH,mono:=mono,bC:=bC,xor:=nv 0 ps,aH:=ji x f})=(e,d)) (h6:d.link d.main (d.bR 8) 176 e=(a,t,g))
    (h7:kE e f (let i:=({g with main:=a}:Mk).cE 11 (a.getD 0 0);{i with h:={i.h with cM:=jc a%4294967296,dh:=t%4294967296}})=z) :
    m.append raw bH mono bC=if z.c.bG<z.b.length then(0,15,m)else
      (let seq:=(x.bR 9+1)%18446744073709551616
      let j:=if d.bR 8=0 then(z.cE 10 seq).cE 12 bH else z
      let q:=j.cE 8 ((j.bR 8+1)%18446744073709551616)
      let k:=((q.cE 9 seq).cE 13 bH).cE 14 mono
      (seq,0,{k with h:={k.h with bC:=bC,dJ:=e}})):=by
  unfold Mk.append;simp only[h1];rw[if_neg n,if_neg o];simp only[p,h5,h6];simp only at h7;rw[h7]
section
variable {P:Program} {ops:Array Oper} {Q:Exit->Act->World->Prop} {rest:List Oper}
variable {n:Nat} {A:Fr n} {D:List Deferred} {l:List (Nat × Value)} {w:World}
variable {d:Tmp} {ty:TypeId} {ps:String} {af:Array Edge} {g:Option (Nat × Bool)}
end
section
variable {P:Program} {ops:Array Oper} {Q:Exit->Act->World->Prop} {rest:List Oper}
variable {n:Nat} {A:Fr n} {D:List Deferred} {l:List (Nat × Value)} {w:World}
variable {d:Tmp} {ty:TypeId} {ps:String} {af:Array Edge}
end
section
variable {P:Program} {n:Nat} {A:Fr n} {D:List Deferred} {l:List (Nat × Value)} {w:World} {d:Option Tmp} {ty:TypeId} {ps:String} {af:Array Edge} {g:Option (Nat × Bool)}
end
end Go.Wk
namespace Go.Wk
open Go Go.Op
theorem acJ:∀a:List UInt8,bytesLess a a=false
  | []=>rfl
  | x :: a=>by simp[bytesLess,acJ a]
theorem QE:∀{a b c:Ly},bytesLess a b=true->bytesLess b c=true->bytesLess a c=true
  | _,[],_,h,_=>by unfold bytesLess at h;cases h
  | _,_ :: _,[],_,h=>by unfold bytesLess at h;cases h
  | [],_ :: _,_ :: _,_,_=>rfl
  | x :: a,y :: b,z :: c,h1,h2=>by
    simp only[bytesLess,Bool.or_eq_true,decide_eq_true_eq,Bool.and_eq_true,beq_iff_eq]at *
    rcases h1 with h1|⟨rfl,h1⟩<;>rcases h2 with h2|⟨rfl,h2⟩
    · exact .inl (UInt8.lt_trans h1 h2)
    · exact .inl h1
    · exact .inl h2
    · exact .inr ⟨q,QE h1 h2⟩
theorem acK:∀{a b:Ly},bytesLess a b=false->bytesLess b a=false->a=b
  | [],[],_,_=>rfl
  | [],_ :: _,h,_=>by unfold bytesLess at h;cases h
  | _ :: _,[],_,h=>by unfold bytesLess at h;cases h
  | x :: a,y :: b,h1,h2=>by
    simp only[bytesLess,Bool.or_eq_false_iff,decide_eq_false_iff_not,Bool.and_eq_false_iff,beq_eq_false_iff_ne]at *;have e:x=y:=(by have c:=h1.1;have d:=h2.1;exact UInt8.le_antisymm (UInt8.not_lt.1 d) (UInt8.not_lt.1 c));subst e;have c:=h1.2.resolve_left Oy;have d:=h2.2.resolve_left Oy;rw[acK c d]
theorem ack {p q:zT} (c:right p=true) (d:right q=true) (h:whole p=whole q):p=q:=by have a:=(oz ((mI p).2 c)).2;have b:=(oz ((mI q).2 d)).2;rw[<- a,h,b]
end Go.Wk
namespace Go.Wk
open Go Go.RowKit
section
variable {P:Program} {n:Nat} {A:Fr n} {D:List Deferred} {l:List (Nat × Value)} {w:World} {d:Option Tmp} {ty:TypeId} {ps:String} {af:Array Edge} {g:Option (Nat × Bool)}
end
def eqT:List (List UInt8)->List (List UInt8)->Bool
  | [],_=>true
  | p :: r,q :: s=>if p=q then eqT r s else false
  | _ :: _,[]=>false
def pZ (a b:List (List UInt8)):Bool:=if a.length=b.length then eqT a b else false
theorem NC {a b:List (List UInt8)} {i:Nat} (h:¬i<a.length):eqT (a.drop i) b=true:=by rw[ew Xx];rfl
theorem wU {a b:List (List UInt8)} {i:Nat} {p q:Ly} (h:a[i]? = some p) (k:b[i]? = some q):eqT (a.drop i) (b.drop i)=if p=q then eqT (a.drop (i+1)) (b.drop (i+1))else false:=by rw[cK h,cK k];rfl
def adC (p:Pr):List Pr->Bool
  | []=>false
  | q :: r=>if p.pb=q.pb then true else adC p r
def allIn (b:List Pr):List Pr->Bool
  | []=>true
  | p :: r=>if adC p b=true then allIn b r else false
theorem zH {p q:Pr}:p.pb=q.pb↔p=q:=by cases p;cases q;simp[Pr.pb]
theorem adD {p:Pr} {l:List Pr}:adC p l=true↔p∈l:=by
  induction l with
  | nil=>simp[adC]
  | cons q r ih =>
    unfold adC;split
    · rename_i h;rw[zH]at h;simp[h]
    · rename_i h;rw[zH]at h;simp[h,ih]
section
variable {P:Program} {ops:Array Oper} {Q:Exit->Act->World->Prop} {rest:List Oper}
variable {n:Nat} {A:Fr n} {D:List Deferred} {l:List (Nat × Value)} {w:World}
variable {d:Tmp} {op:Op} {ty:TypeId} {ps:String} {af:Array Edge} {g:Option (Nat × Bool)}
theorem UA {x:Operand} {t e:TypeId} {b o m c:Nat} {cs zs:List Value} (B:P.underlying t=some (.slice e)) (a:dW P e=some zs) (h1:∀d∈zs,d.oneCell'=true) (E:ev n l x=some (.slice (some ⟨b,o,none⟩) m c)) (F:0<m)
    (hB:bS w b cs e) (hj:o+m*zs.length<=cs.length) (k:∀j us,Md [b] w j->us.length=m*zs.length->bS j b (fC cs o us) e->wpList P ops Q rest (aQ A D l) j) :
    wpList P ops Q (⟨none,.call {callee:=.builtin .clear,args:=#[x],argTypes:=#[t]},ty,ps,af,none⟩ :: rest) (aQ A D l) w:=by
  refine fZ q ?_;unfold dW at a;split at a
  · rename_i i hi
    split at a
    · rename_i z hzz
      simp only[Option.some.injEq]at a;subst a;have p:(Builtin.zeroCells z.cells m).toList.length=m*z.cells.toList.length:=(by simp[Builtin.zeroCells]);have y:∀d∈(Builtin.zeroCells z.cells m).toList,d.oneCell'=true:=by
        intro d r;simp only[Builtin.zeroCells,Array.toList_map,List.mem_map]at r;obtain⟨g,u,rfl⟩:=r;have G:g<m*z.cells.size:=(by simpa using u);have v:0<z.cells.size:=by
          rcases Nat.eq_zero_or_pos z.cells.size with h|h
          · rw[h]at G;omega
          · exact h
        have H:=Nat.mod_lt g v;rw[getElem!_pos z.cells (g%z.cells.size) H];exact h1 _ Oy
      have C:=run_storeCells_at P b o e (Builtin.zeroCells z.cells m).toList 0 cs.toArray w hB (by simp only[p];simpa using hj) y;obtain⟨f,rfl⟩:∃f,m=f+1:=⟨m-1,by omega⟩;have s:(execOp (aQ A D l).eval ⟨none,.call {callee:=.builtin .clear,args:=#[x],argTypes:=#[t]},ty,ps,af,none⟩).run P w = .ok (.value (.tuple #[])) (w.setRow b (fC cs o (Builtin.zeroCells z.cells (f+1)).toList).toArray):=(by simp[execOp,resolve,invoke,builtin,bL E,Builtin.clear_,run_underlying B,zeroValue,typeInfo,hi,hzz,fC]at C ⊢;simp[C]);unfold Oper.wp;rw[s];exact k _ _ (Md.setRow w b _) p hB.setRow
    cases a
  cases a
end
section
variable {P:Program} {n:Nat} {A:Fr n} {D:List Deferred} {l:List (Nat × Value)} {w:World} {d:Option Tmp} {ty:TypeId} {ps:String} {af:Array Edge} {g:Option (Nat × Bool)}
theorem ZN {x:Operand} {t u e:TypeId} {a:Option Addr} {m c:Nat} (i:ev n l x=some (.slice a m c)) (f:P.underlying t=some (.slice e)) :
    cg P ⟨d,.binOp .eql t x (.const (.slice none 0 0)) u,ty,ps,af,g⟩ (aQ A D l).eval w (.bool a.isNone):=by
  have h:=Go.Lib.run_eql_slice_nil (P:=P) w t e a m c 0 0 f;have b:(aQ A D l).eval (.const (.slice none 0 0)) = .slice none 0 0:=rfl;have C:(eqGuard .eql t x (.const (.slice none 0 0)) (.slice a m c) (.slice none 0 0)).run P w = .ok () w:=by unfold eqGuard;simp
  simp[cg,execOp,bL i,b,C,h]
end
section
variable {w w':World} {b cap:Nat} {xs:List Pr}
end
theorem afJ {v:Nat} {x:UInt8} (h:v<72057594037927936):v*2 ^ 8%18446744073709551616 ||| x.toNat=x.toNat+256*v:=by have A:=UInt8.toNat_lt x;rw[Nat.mod_eq_of_lt Xx,Nat.mul_comm,<- Nat.two_pow_add_eq_or_of_lt (by simpa using A)];omega
theorem BO {l:Ly} {a k:Nat} (hk:k=4\/k=8) (h:a+k<=l.length):lS l a k=(AZ ((l.drop a).take k),true):=by unfold lS;rw[if_pos ⟨by rw[fA];omega,by omega,by omega⟩];simp
def at4 (l:Ly) (a:Nat):Nat:=AZ ((l.drop a).take 4)
def dS (l:Ly) (a:Nat):Nat:=AZ ((l.drop a).take 8)
theorem DC (l:Ly) (a:Nat):at4 l a<4294967296:=uZ (k:=4) Ym
theorem MS (l:Ly) (a:Nat):dS l a<18446744073709551616:=uZ (k:=8) Ym
section
variable {P:Program} {ops:Array Oper} {Q:Exit->Act->World->Prop} {rest:List Oper}
variable {n:Nat} {A:Fr n} {D:List Deferred} {l:List (Nat × Value)} {w:World}
variable {d:Tmp} {op:Op} {ty:TypeId} {ps:String} {af:Array Edge} {g:Option (Nat × Bool)}
theorem lY {f:FuncId} {c:Operand} {xs:List Operand} {e:Array TypeId} {vs cs:List Value} {R:Ending->World->Prop} (j:ev n l c=some (.func (.func f) #[] cs.toArray)) (m:cA P f=true) (i:evs n l xs=some vs) (o:Calls P f (vs ++ cs).toArray w R)
    (k:∀a b,R a b->∃v,a = .returned v/\wpList P ops Q rest (aQ A D ((d,v) :: l)) b) :
    wpList P ops Q (⟨some d,.call {callee:=.value c,args:=xs.toArray,argTypes:=e},ty,ps,af,none⟩ :: rest) (aQ A D l) w:=by
  refine fZ q ?_;unfold Oper.wp;have h:=mP (A:=A) (D:=D) i;have g:(execOp (aQ A D l).eval ⟨some d,.call {callee:=.value c,args:=xs.toArray,argTypes:=e},ty,ps,af,none⟩).run P w = .ok (.enter f (vs ++ cs).toArray) w:=by simp only[execOp,resolve,bL j,Deferred.ofValue,List.map_toArray,h];simp[invoke,p9 m]
  rw[g];refine o.mono fun a b C=>?_;obtain⟨v,rfl,hk⟩:=k a b C;exact hk
theorem wD {f:FuncId} {x:Operand} {v:Value} {a:Option Tmp} (b:ev n l x=some v) :
    cg P ⟨a,.makeFunc (.func f) #[] #[x],ty,ps,af,g⟩ (aQ A D l).eval w (.func (.func f) #[] #[v]):=by
  simp[cg,execOp,bL b,Instr.makeFunc]
end
def z16:List UInt8:=List.replicate 16 0
def jJ (b:Ly) (c i k j:Nat):bI :=
  {gF:=c,bM:=i,state:=(b.getD 16 0).toNat,bZ:=if 0<k then(b.drop 24).take 16 else z16,dG:=if 1<k then(b.drop 40).take 16 else z16,bC:=if 2<k then(b.drop 56).take 16 else z16,seq:=if 3<k then(b.drop 72).take 16 else z16,
    n:=(List.range 21).map fun q=>if q<j then dS b (88+8*q)else 0,cM:=0,dh:=0,dJ:=0}
def fR (b:Ly):bI:={jJ b (at4 b 8) (at4 b 12) 4 21 with cM:=at4 b 256,dh:=at4 b 260,dJ:=dS b 264}
theorem HM {b:Ly} {o:Nat} (h:o+16<=b.length):((b.drop o).take 16).length=16:=by simp;omega
theorem pN {x:Ly} (h:x.length=16) (a c:List Value) (z:Ly):fC (a ++ (jb z ++ c)) a.length (x.map b8)=a ++ (jb x ++ c):=by
  unfold fC;have B:(jb z).length=16:=rfl;have A:(x.map b8).length=16:=by simp[h]
  rw[List.take_left,A,<- List.append_assoc a,List.drop_left' (by simp[B]),<- pq h,List.append_assoc]
theorem adJ {b:Ly} {c i k:Nat} (hk:k<4) (d:272<=b.length):fC (bI.cells (jJ b c i k 0)) (3+k*16) (((b.drop (24+16*k)).take 16).map b8)=bI.cells (jJ b c i (k+1) 0):=by
  have a:((b.drop (24+16*k)).take 16).length=16:=HM Xx
  rcases(show k=0\/k=1\/k=2\/k=3 by omega)with rfl|rfl|rfl|rfl
  · exact pN a [.int .u32 c,.int .u32 i,.int .i64 (((b.getD 16 0).toNat:Nat):Int)] _ z16
  · exact pN a ([.int .u32 c,.int .u32 i,.int .i64 (((b.getD 16 0).toNat:Nat):Int)] ++ jb ((b.drop 24).take 16)) _ z16
  · exact pN a ([.int .u32 c,.int .u32 i,.int .i64 (((b.getD 16 0).toNat:Nat):Int)] ++ jb ((b.drop 24).take 16) ++ jb ((b.drop 40).take 16)) _ z16
  exact pN a ([.int .u32 c,.int .u32 i,.int .i64 (((b.getD 16 0).toNat:Nat):Int)] ++ jb ((b.drop 24).take 16) ++ jb ((b.drop 40).take 16) ++ jb ((b.drop 56).take 16)) _ z16
theorem adG {h:bI} {j v:Nat} (d:h.n.length=21) (c:j<21):(bI.cells h).set (67+j) (.int .u64 v)=bI.cells {h with n:=h.n.set j v}:=by
  have a:∀(m:List Nat) (t:bI),t.n=m->bI.cells t=([(.int .u32 t.gF)] ++ ([(.int .u32 t.bM)] ++ ([(.int .i64 t.state)] ++ ((jb t.bZ) ++ ((jb t.dG) ++ ((jb t.bC) ++ (jb t.seq))))))) ++ (oF m ++ ([(.int .u32 t.cM)] ++ ([(.int .u32 t.dh)] ++ [(.int .u64 t.dJ)]))):=by intro m t C;subst C;simp only[bI.cells,List.append_assoc]
  rw[a h.n h q,a (h.n.set j v) {h with n:=h.n.set j v} q,Wy d c];have b:([(.int .u32 h.gF)] ++ ([(.int .u32 h.bM)] ++ ([(.int .i64 h.state)] ++ ((jb h.bZ) ++ ((jb h.dG) ++ ((jb h.bC) ++ (jb h.seq)))))):List Value).length=67:=rfl;have e:(oF h.n).length=21:=rfl;rw[List.set_append_right _ _ Xx,b,Nat.add_sub_cancel_left,List.set_append_left _ _ Xx]
theorem ajH {b:Ly} {j:Nat} (d:j<21):((List.range 21).map fun q=>if q<j then dS b (88+8*q)else 0).set j (dS b (88+8*j))=(List.range 21).map fun q=>if q<j+1 then dS b (88+8*q)else 0:=by
  apply List.ext_getElem
  · simp
  intro q a c;simp at a
  by_cases h:q=j
  · subst h;simp
  rw[List.getElem_set_ne (Ne.symm h)];simp only[List.getElem_map,List.getElem_range]
  by_cases h3:q<j
  · rw[if_pos h3,if_pos Xx]
  rw[if_neg h3,if_neg Xx]
theorem aaI {b:Ly} {c i j:Nat} (a:j<21):(bI.cells (jJ b c i 4 j)).set (67+j) (.int .u64 ((dS b (88+8*j):Nat):Int))=bI.cells (jJ b c i 4 (j+1)):=by rw[adG (by simp[jJ]) a];unfold jJ;simp only[ajH a]
theorem Ty {b:Ly} (h:272<=b.length):bI.ok (fR b):=by
  refine⟨DC _ _,DC _ _,?_,HM Xx,HM Xx,HM Xx,HM Xx,⟨by simp[fR,jJ],?_⟩,DC _ _,DC _ _,MS _ _⟩
  · have:=UInt8.toNat_lt (b.getD 16 0);show(b.getD 16 0).toNat<_;omega
  intro y A;simp only[fR,jJ,List.mem_map,List.mem_range]at A;obtain⟨q,B,rfl⟩:=A;rw[if_pos B];exact MS _ _
def ptrs (b o sz:Nat) (n:Nat):List Value:=(List.range n).map fun k=>.pointer (some ⟨b,o+k*sz,none⟩)
theorem Tz {b o sz n k:Nat} (h:k<n):(ptrs b o sz n)[k]? = some (.pointer (some ⟨b,o+k*sz,none⟩)):=by simp[ptrs,h]
def andNot (a b:Nat):Nat:=(BitVec.ofNat 32 a &&& ~~~(BitVec.ofNat 32 b)).toNat
section
variable {P:Program} {n:Nat} {A:Fr n} {D:List Deferred} {l:List (Nat × Value)} {w:World} {d:Option Tmp} {ty:TypeId} {ps:String} {af:Array Edge} {g:Option (Nat × Bool)}
theorem ab3 {x y:Operand} {t u:TypeId} {a b:Nat} (L:Nat) (f:lim .u32=L) (hk:IntKind.u32.signed=false) (c:ev n l x=some (.int .u32 (a:Int))) (e:ev n l y=some (.int .u32 (b:Int))) (h:a<L/\b<L) :
    cg P ⟨d,.binOp .andNot t x y u,ty,ps,af,g⟩ (aQ A D l).eval w (.int .u32 ((andNot a b:Nat):Int)):=(afx c e).jB (by
  unfold bits andNot;simp only[BitVec.ofInt_natCast];exact wrapN .u32 _ (show(BitVec.ofNat 32 a &&& ~~~(BitVec.ofNat 32 b)).toNat<4294967296 from(BitVec.ofNat 32 a &&& ~~~(BitVec.ofNat 32 b)).isLt))
end
def hz0:bI:={gF:=0,bM:=0,state:=0,bZ:=o8,dG:=o8,bC:=o8,seq:=o8,n:=List.replicate 21 0,cM:=0,dh:=0,dJ:=0}
def vQ:List UInt8:=[76,80,75,83,72,72,82,72]
def qI (b p:Ly):Bool:=if p.length<=b.length then decide (b.take p.length=p)else false
def pJ (h:bI):Nat × Bool:=if(h.n.getD 0 0+h.n.getD 1 0)%18446744073709551616<h.n.getD 0 0 then(0,false)else((h.n.getD 0 0+h.n.getD 1 0)%18446744073709551616,true)
def k9 (h:bI) (at_ size end_:Nat):Nat :=
  if at_%8≠0 then 3
  else if size=0\/size%16≠0 then 5
  else if at_<h.n.getD 0 0\/at_-h.n.getD 0 0<16\/end_<at_\/end_-at_<size then 2 else 0
def oD (h:bI) (len:Nat):Nat :=
  if andNot h.bM 4≠0 then 7
  else if 2<h.state then 8
  else if h.n.getD 0 0<272\/h.n.getD 0 0%8≠0\/h.n.getD 1 0%8≠0 then 5
  else if(pJ h).2=false\/len<(pJ h).1 then 2
  else if k9 h (h.n.getD 2 0) (h.n.getD 3 0) (pJ h).1≠0 then k9 h (h.n.getD 2 0) (h.n.getD 3 0) (pJ h).1
  else k9 h (h.n.getD 4 0) (h.n.getD 5 0) (pJ h).1
def jE (b:Ly):bI × Nat :=
  if b.length<272 then(hz0,22)
  else if qI b vQ=false then(hz0,6)
  else if oD (fR b) b.length≠0 then(hz0,oD (fR b) b.length)else(fR b,0)
theorem kW {h:bI} {len r:Nat} {s:Bool} (a:pJ h=(r,s)):oD h len=(if andNot h.bM 4≠0 then 7 else if 2<h.state then 8 else if h.n.getD 0 0<272\/h.n.getD 0 0%8≠0\/h.n.getD 1 0%8≠0 then 5
    else if s=false\/len<r then 2 else if k9 h (h.n.getD 2 0) (h.n.getD 3 0) r≠0 then k9 h (h.n.getD 2 0) (h.n.getD 3 0) r else k9 h (h.n.getD 4 0) (h.n.getD 5 0) r):=by
  unfold oD;rw[a]
theorem ng {b:Ly} {h:bI} {p:Bool} {c:Nat} (h1:¬b.length<272) (a:qI b [76,80,75,83,72,72,82,72]=p) (d:¬p=false) (e:fR b=h) (f:oD h b.length=c) (g:c≠0):jE b=(hz0,c):=by subst e;subst f;unfold jE;rw[if_neg h1,if_neg (by rw[show vQ=[76,80,75,83,72,72,82,72]from rfl,a];exact d),if_pos g]
theorem af7 {b:Ly} {h:bI} {p:Bool} (h1:¬b.length<272) (a:qI b [76,80,75,83,72,72,82,72]=p) (c:¬p=false) (d:fR b=h) (e:oD h b.length=0):jE b=(h,0):=by subst d;unfold jE;rw[if_neg h1,if_neg (by rw[show vQ=[76,80,75,83,72,72,82,72]from rfl,a];exact c),if_neg Xx]
theorem TK {b:Ly} (h:b.length<272):jE b=(hz0,22):=by unfold jE;rw[if_pos h]
theorem GY {b:Ly} (h1:¬b.length<272) (a:qI b [76,80,75,83,72,72,82,72]=false):jE b=(hz0,6):=by unfold jE;rw[if_neg h1,if_pos (show qI b vQ=false from a)]
def Po {α:Type} (T:Dt α) (ty:TypeId) (w:World) (Q:Nat->Prop) (v:Value):Option α->Prop
  | none=>v = .pointer none
  | some x=>Pt T ty w Q v x
section
variable {α:Type} {T:Dt α} {ty:TypeId} {w w':World} {Q Q':Nat->Prop} {v:Value} {ox:Option α}
variable {P:Program} {n:Nat} {A:Fr n} {D:List Deferred} {l:List (Nat × Value)} {d:Option Tmp} {ty2:TypeId} {ps:String} {af:Array Edge} {g:Option (Nat × Bool)}
end
def kG (b:Ly):Option dx × Nat:=if(jE b).2≠0 then(none,(jE b).2)else(some {b:=b.take (pJ (jE b).1).1,h:=(jE b).1},0)
theorem pE {b:Ly} {h:bI} (a:jE b=(h,0)):272<=b.length/\fR b=h/\oD h b.length=0:=by
  unfold jE at a;split at a
  · have:=congrArg Prod.snd a;simp at this
  rename_i h1;split at a
  · have:=congrArg Prod.snd a;simp at this
  split at a
  · rename_i h2;have:=congrArg Prod.snd a;exact absurd this h2
  rename_i h2;have c:=congrArg Prod.fst a;simp only at c;subst c;exact⟨by omega,q,by omega⟩
theorem HA {b:Ly} {h:bI} {e:Nat} {s:Bool} (d:jE b=(h,0)) (c:pJ h=(e,s)):e<=b.length/\s=true:=by
  obtain⟨_,_,a⟩:=pE d;rw[kW c]at a;split at a
  · omega
  split at a
  · omega
  split at a
  · omega
  split at a
  · omega
  rename_i h4;rw[not_or]at h4;exact⟨by omega,by simpa using h4.1⟩
theorem KU {b:Ly} {x:Option dx} (h:kG b=(x,0)):∃y,x=some y/\bI.ok y.h/\y.b.length<=b.length:=by
  unfold kG at h;split at h
  · rename_i h1;exact absurd (congrArg Prod.snd h) h1
  rename_i h1;have C:jE b=((jE b).1,0):=by rw[<- Classical.not_not.1 h1]
  obtain⟨A,B,_⟩:=pE C;exact⟨_,(congrArg Prod.fst h).symm,by rw[<- B];exact Ty A,by simp;omega⟩
section
variable {P:Program} {n:Nat} {A:Fr n} {D:List Deferred} {l:List (Nat × Value)} {w:World} {ops:Array Oper} {rest:List Oper} {Q:Exit->Act->World->Prop}
variable {d:Tmp} {op:Op} {ty:TypeId} {ps:String} {af:Array Edge}
theorem mv {x:Operand} {v:Value} (h:ev n l x=some v) (k:wpList P ops Q rest (aQ A D ((d,v) :: l)) w):wpList P ops Q (⟨some d,.move x,ty,ps,af,none⟩ :: rest) (aQ A D l) w:=st v (aM h) k
theorem cu {x:Operand} {v:Value} (h:ev n l x=some v) (k:wpList P ops Q rest (aQ A D ((d,v) :: l)) w):wpList P ops Q (⟨some d,.assign x,ty,ps,af,none⟩ :: rest) (aQ A D l) w:=st v (eX h) k
theorem nt {K:Act->World->Prop} {a:Act} (h:K a w):wpList P ops (Exit.then K Q) [] a w:=aA (aj h)
theorem mz {C:World->Prop} {QN:Act->World->Prop} {rest:List (Bool × Oper)} {v:Value} (b:∀a,C a->cg P ⟨some d,op,ty,ps,af,none⟩ (aQ A D l).eval a v) (k:fD P ops C QN rest (aQ A D ((d,v) :: l)) w):fD P ops C QN ((true,⟨some d,op,ty,ps,af,none⟩) :: rest) (aQ A D l) w:=Go.Wk.m v b k
theorem sk {j t:Nat} {o:Oper} {b a:Bool} (hb:b = !a) (k:wpList P ops Q rest (aQ A D ((d,undef) :: l)) w) (c:ops[j]? = some o:=by rfl) (e:o.dst=some t:=by rfl) (f:ev n l (.tmp t)=some (.bool b):=by rfl) :
    wpList P ops Q (⟨some d,op,ty,ps,af,some (j,a)⟩ :: rest) (aQ A D l) w:=ahT c e f hb k
theorem sg {j t:Nat} {o:Oper} {b a:Bool} {v:Value} (hb:b=a) (e:cg P ⟨some d,op,ty,ps,af,some (j,a)⟩ (aQ A D l).eval w v) (k:wpList P ops Q rest (aQ A D ((d,v) :: l)) w) (c:ops[j]? = some o:=by rfl) (f:o.dst=some t:=by rfl) (g:ev n l (.tmp t)=some (.bool b):=by rfl) :
    wpList P ops Q (⟨some d,op,ty,ps,af,some (j,a)⟩ :: rest) (aQ A D l) w:=afT v c f g hb e k
theorem sf {x:Operand} {s:TypeId} {f b o a:Nat} (e:ev n l x=some (.pointer (some ⟨b,o,none⟩))) (c:aN P s f=some a) (k:wpList P ops Q rest (aQ A D ((d,.pointer (some ⟨b,o+a,none⟩)) :: l)) w):wpList P ops Q (⟨some d,.fieldAddr s x f,ty,ps,af,none⟩ :: rest) (aQ A D l) w:=st _ (aJ e c) k
theorem sl {x:Operand} {t ty':TypeId} {b j:Nat} {cs:List Value} {u:Value} (f:ev n l x=some (.pointer (some ⟨b,j,none⟩))) (c:iJ P t=true) (a:bS w b cs ty') (e:cs[j]? = some u) (k:wpList P ops Q rest (aQ A D ((d,u) :: l)) w):wpList P ops Q (⟨some d,.load t x,ty,ps,af,none⟩ :: rest) (aQ A D l) w:=st _ (aF f c a e) k
theorem sn {x:Operand} {p:Addr} (h:ev n l x=some (.pointer (some p))) (k:wpList P ops Q rest (aQ A D ((d,.pointer (some p)) :: l)) w):wpList P ops Q (⟨some d,.nilCheck x,ty,ps,af,none⟩ :: rest) (aQ A D l) w:=st _ (cC h) k
theorem se {x:Operand} {i:Nat} {vs:Array Value} {v:Value} (h:ev n l x=some (.tuple vs)) (a:vs[i]? = some v) (k:wpList P ops Q rest (aQ A D ((d,v) :: l)) w):wpList P ops Q (⟨some d,.extract x i,ty,ps,af,none⟩ :: rest) (aQ A D l) w:=st _ (jN h a) k
theorem sL {x:Operand} {v:Value} {m:Nat} {t e:TypeId} (c:ev n l x=some v) (b:P.underlying t=some (.slice e)) (a:PS v m) (k:wpList P ops Q rest (aQ A D ((d,.int .i64 m) :: l)) w):wpList P ops Q (⟨some d,.call {callee:=.builtin .len,args:=#[x],argTypes:=#[t]},ty,ps,af,none⟩ :: rest) (aQ A D l) w:=st _ (jx c b a) k
theorem mo {C:World->Prop} {QN:Act->World->Prop} {rest:List (Bool × Oper)} {x:Operand} {v:Value} (h:ev n l x=some v) (k:fD P ops C QN rest (aQ A D ((d,v) :: l)) w):fD P ops C QN ((true,⟨some d,.move x,ty,ps,af,none⟩) :: rest) (aQ A D l) w:=Go.Wk.m v (fun _ _=>aM h) k
theorem ns {id:Nat} {lo:List Oper} {y:Code} {a:Act} (h:wpList P lo.toArray (Exit.then (fun a w=>y.wp P Q a w) Q) lo a w):(Code.seq (.region id lo.toArray false) y).wp P Q a w:=aD (aG h)
theorem an {x:Operand} {v:Value} {K:Act->World->Prop} (h:ev n l x=some v) (k:K (aQ A D ((d,v)::l)) w):wpList P ops (Exit.then K Q) [⟨some d,.assign x,ty,ps,af,none⟩] (aQ A D l) w:=cu h (nt k)
theorem ar {x:Operand} {v:Value} {R:Exit->Act->World->Prop} (h:ev n l x=some v) (k:R .ret (aQ A D ((d,v)::l)) w):wpList P ops (Exit.then (fun a w=>Code.ret.wp P R a w) Q) [⟨some d,.assign x,ty,ps,af,none⟩] (aQ A D l) w:=cu h (nt (iI k))
theorem m2 {x y:Operand} {v u:Value} {e:Tmp} {ty' c a} (h:ev n l x=some v) (b:ev n ((d,v)::l) y=some u) (k:wpList P ops Q rest (aQ A D ((e,u)::(d,v)::l)) w):wpList P ops Q (⟨some d,.move x,ty,ps,af,none⟩::⟨some e,.move y,ty',c,a,none⟩::rest) (aQ A D l) w:=mv h (mv b k)
theorem nm {id:Nat} {lo:List Oper} {y:Code} {x:Operand} {v:Value} (h:ev n l x=some v) (k:wpList P (⟨some d,.move x,ty,ps,af,none⟩::lo).toArray (Exit.then (fun a w=>y.wp P Q a w) Q) lo (aQ A D ((d,v)::l)) w):(Code.seq (.region id (⟨some d,.move x,ty,ps,af,none⟩::lo).toArray false) y).wp P Q (aQ A D l) w:=ns (mv h k)
theorem rv {v:Value} {p:Value->Prop} (h:p v):∃u,Ending.returned v=.returned u/\p u:=⟨v,q,h⟩
theorem rA {d:Option Tmp} {g:Option (Nat × Bool)} {x y:Operand} {t u:TypeId} {a b:Nat} (c:ev n l x=some (.int .i64 (a:Int))) (e:ev n l y=some (.int .i64 (b:Int))) (h:a+b<9223372036854775808):cg P ⟨d,.binOp .add t x y u,ty,ps,af,g⟩ (aQ A D l).eval w (.int .i64 ((a+b:Nat):Int)):=iG 9223372036854775808 q c e h
theorem rS {d:Option Tmp} {g:Option (Nat × Bool)} {x y:Operand} {t u:TypeId} {a b:Nat} (c:ev n l x=some (.int .i64 (a:Int))) (e:ev n l y=some (.int .i64 (b:Int))) (h:b<=a/\a<9223372036854775808):cg P ⟨d,.binOp .sub t x y u,ty,ps,af,g⟩ (aQ A D l).eval w (.int .i64 ((a-b:Nat):Int)):=ri 9223372036854775808 q c e h
abbrev SN:Value:=.slice none 0 0
theorem tT {Q R S:Nat->Prop} (a:∀b,Q b->R b) (c:∀b,S b->Q b):∀b,S b->R b:=fun b h=>a b (c b h)
theorem sS {S:List Nat} {u w:World} {Q R T:Nat->Prop} (a:∀b,R b->b<w.heap.size->T b) (c:∀b,Q b->b<u.heap.size->R b) (e:Md S u w):∀b,Q b->b<u.heap.size->T b:=fun b h d=>a b (c b h d) (Nat.lt_of_lt_of_le d e.size)
theorem nQ {Q R:Nat->Prop} {b:Nat} (h:¬Q b) (c:∀b,R b->Q b):¬R b:=fun x=>h (c _ x)
theorem rF {a:Type} {T:Dt a} {e:TypeId} {lo:Nat->Prop} {w:World} {Q:Nat->Prop} {v:Value} {xs:List a} (h:Ow T e lo w Q v xs):∀i∈(ah v).toList,lo i:=jF fun x b=>(h.2 x b).1
theorem rN {a:Type} {T:Dt a} {e:TypeId} {lo:Nat->Prop} {w:World} {Q:Nat->Prop} {v:Value} {xs:List a} (h:Ow T e lo w Q v xs):∀i∈(ah v).toList,¬Q i:=jF fun x b=>(h.2 x b).2
theorem hI {p:Nat->Prop} {b:Nat} (h:p b):∀x∈[b],p x:=by intro x a;simp at a;subst a;exact h
end
structure Stop where
  code:Nat
def Stop.cells (x:Stop):List Value :=
  [(.int .i64 x.code)]
structure jR where
  kind:Nat
  flags:Nat
  size:Nat
def jR.cells (x:jR):List Value :=
  [(.int .i64 x.kind)] ++ ([(.int .i64 x.flags)] ++ ([(.int .u64 x.size)]))
def jR.ok (x:jR):Prop:=x.kind<9223372036854775808/\x.flags<9223372036854775808/\x.size<18446744073709551616
theorem jR.one {x:jR}:(x.cells).all (fun u=>u.oneCell')=true:=(bU q (bU q q))
def fr0:jR:={kind:=0,flags:=0,size:=0}
def jX (b:Ly) (p:Nat):Nat:=(b.getD p 0).toNat
theorem jm {b:Ly} {p:Nat} {x:UInt8} (h:b[p]? = some x):jX b p=x.toNat:=by simp[jX,List.getD,h]
theorem tE {b:Ly} {p v:Nat} {s:Bool} {i:Int} (h:lS b i 8=(v,s)) (hi:i=(p:Int)) (hb:p+8<=b.length):dS b p=v:=by subst hi;have A:=BO (k:=8) (.inr q) hb;rw[show((8:Nat):Int)=8 from rfl]at A;rw[A]at h;exact congrArg Prod.fst h
theorem aaj (b:Ly) (p:Nat):jX b p<256:=UInt8.toNat_lt _
def dr (b:Ly) (p:Nat):jR × Nat :=
  if p%8≠0 then(fr0,3)
  else if b.length<p\/b.length-p<16 then(fr0,2)
  else if jX b p<1\/7<jX b p then(fr0,4)
  else if jX b (p+1)≠0 then(fr0,7)
  else if dS b (p+8)<16 then(fr0,5)
  else if b.length-p<dS b (p+8)then(fr0,2)
  else({kind:=jX b p,flags:=0,size:=dS b (p+8)},0)
theorem ad7 {b:Ly} {p:Nat} (h:p%8≠0):dr b p=(fr0,3):=by unfold dr;rw[if_pos h]
theorem QY {b:Ly} {p:Nat} (h:¬p%8≠0) (a:b.length<p\/b.length-p<16):dr b p=(fr0,2):=by unfold dr;rw[if_neg h,if_pos a]
theorem rE {b:Ly} {p:Nat} {x y:UInt8} {z:Nat} {s:jR} (es:s={kind:=x.toNat,flags:=y.toNat,size:=z}) (h:¬p%8≠0) (e:¬(b.length<p\/b.length-p<16)) (a:jX b p=x.toNat) (c:jX b (p+1)=y.toNat) (d:dS b (p+8)=z) :
    dr b p=if s.kind<1\/7<s.kind then(fr0,4)else if s.flags≠0 then(fr0,7)else if s.size<16 then(fr0,5)else if b.length-p<s.size then(fr0,2)else(s,0):=by
  subst es;unfold dr;rw[if_neg h,if_neg e,a,c,d];by_cases hf:y.toNat=0
  · rw[hf]
  simp only[if_pos (show y.toNat≠0 from hf)]
theorem pL {b:Ly} {p:Nat} {f:jR} (h:dr b p=(f,0)):16<=f.size/\p+f.size<=b.length/\f.kind<256/\f.flags=0:=by
  unfold dr at h;have:=aaj b p
  repeat' split at h
  all_goals first|(have:=congrArg Prod.snd h;simp at this;done)|skip
  have:=congrArg Prod.fst h;simp only at this;subst this;refine⟨?_,?_,?_,q⟩ <;> (simp only;omega)
def r7:gW:={bY:=0,b9:=0,d9:=0,entry:=0,array:=0,bB:=0,au:=[]}
def wO:jd:={next:=0,aH:=[]}
def fJ (b:Ly) (p n:Nat):List Nat:=(List.range n).map fun i=>dS b (p+8*i)
theorem lp (b:Ly) (p n:Nat):(fJ b p n).length=n:=by simp[fJ]
theorem qG (b:Ly) (p n:Nat):fJ b p (n+1)=fJ b p n ++ [dS b (p+8*n)]:=by simp[fJ,List.range_succ]
theorem SH (b:Ly) (p n:Nat):fJ b p (n+1)=dS b p :: fJ b (p+8) n:=by
  induction n generalizing p with
  | zero=>simp[fJ]
  | succ n ih =>
    rw[qG,ih,List.cons_append,qG,show p+8*(n+1)=p+8+8*n by omega]
def l9 (b:Ly) (p:Nat):gW × Nat :=
  if(dr b p).2≠0 then(r7,(dr b p).2)
  else if(dr b p).1.kind≠1 then(r7,4)
  else if(dr b p).1.size<=64 then(r7,5)
  else({bY:=dS b (p+16),b9:=dS b (p+24),d9:=dS b (p+32),entry:=dS b (p+40),array:=dS b (p+48),bB:=dS b (p+56),au:=(b.drop (p+64)).take ((dr b p).1.size-64)},0)
def jP (b:Ly) (p:Nat):jd × Nat :=
  if(dr b p).2≠0 then(wO,(dr b p).2)
  else if(dr b p).1.kind≠6 then(wO,4)
  else if(dr b p).1.size<=24\/((dr b p).1.size-24)%8≠0 then(wO,5)
  else({next:=dS b (p+16),aH:=fJ b (p+24) (((dr b p).1.size-24)/8)},0)
def eU (s:Nat) (b:Ly) (p:Nat):gW × Nat:=if p<s\/b.length<=p then(r7,2)else l9 b p
def gw (s:Nat) (b:Ly) (p:Nat):jd × Nat:=if p<s\/b.length<=p then(wO,2)else jP b p
def qW (s:Nat) (b:Ly) (p:Nat):Nat:=if p<s\/b.length<=p then 2 else 0
theorem qB {b:Ly} {p c:Nat} {f:jR} (h:dr b p=(f,c)) (a:¬c≠0):16<=f.size/\p+f.size<=b.length/\f.kind<256/\f.flags=0:=pL (by rw[h,Classical.not_not.1 a])
def jA (b:Ly) (p kind ahead gP:Nat):List UInt8 × Nat :=
  if(dr b p).2≠0 then([],(dr b p).2)
  else if(dr b p).1.kind≠kind then([],4)
  else if(dr b p).1.size<=16+ahead\/((dr b p).1.size-(16+ahead))%gP≠0 then([],5)
  else((b.take (p+(dr b p).1.size)).drop (p+16),0)
theorem tG {b x:Ly} {p kind ahead gP c:Nat} (h:jA b p kind ahead gP=(x,c)) (e:c=0):(dr b p).2=0/\(dr b p).1.kind=kind/\16+ahead<(dr b p).1.size/\((dr b p).1.size-(16+ahead))%gP=0/\x=(b.take (p+(dr b p).1.size)).drop (p+16)/\x.length=(dr b p).1.size-16/\p+(dr b p).1.size<=b.length:=by
  subst e;unfold jA at h;split at h
  · have:=congrArg Prod.snd h;simp at this;contradiction
  rename_i h1;have d:16<=(dr b p).1.size/\p+(dr b p).1.size<=b.length/\(dr b p).1.kind<256/\(dr b p).1.flags=0:=qB (f:=(dr b p).1) (c:=(dr b p).2) q h1;split at h
  · have:=congrArg Prod.snd h;simp at this
  rename_i h2;split at h
  · have:=congrArg Prod.snd h;simp at this
  rename_i h3;rw[not_or]at h3;have a:=congrArg Prod.fst h;simp only at a;subst a;refine⟨by omega,by omega,by omega,by omega,q,?_,d.2.1⟩;simp only[List.length_drop,List.length_take];omega
theorem ag3 {b:Ly} {o e i:Nat} (h:i+8<=e-o) (c:e<=b.length):dS ((b.take e).drop o) i=dS b (o+i):=by
  unfold dS;congr 1;apply List.ext_getElem?;intro a;simp only[List.getElem?_take,List.getElem?_drop];by_cases hj:a<8
  · rw[if_pos hj,if_pos hj,if_pos (show o+(i+a)<e by omega),Nat.add_assoc]
  rw[if_neg hj,if_neg hj]
theorem FY {b:Ly} {o e n i:Nat} (h:i+8*n<=e-o) (a:e<=b.length):fJ ((b.take e).drop o) i n=fJ b (o+i) n:=by unfold fJ;apply List.map_congr_left;intro k hk;have:=List.mem_range.1 hk;rw[ag3 Xx a,Nat.add_assoc]
theorem SI {b:Ly} {l:List Nat} {i v:Nat} {s:Bool} (a:l=fJ b 0 (i/8)) (hi:i%8=0) (hb:i+8<=b.length) (h:lS b (i:Int) 8=(v,s)):l ++ [v]=fJ b 0 ((i+8)/8):=by rw[show(i+8)/8=i/8+1 by omega,qG,a,<- tE h q hb];congr 3;omega
theorem WS {b x:Ly} {p c:Nat} (h:jA b p 6 8 8=(x,c)) (a:c≠0):jP b p=(wO,c):=by
  unfold jA at h;unfold jP;split at h
  · rename_i h1;rw[if_pos h1,show(dr b p).2=c from congrArg Prod.snd h]
  rename_i h1;rw[if_neg h1];split at h
  · rename_i h2;rw[if_pos h2,show 4=c from congrArg Prod.snd h]
  rename_i h2;rw[if_neg h2];split at h
  · rename_i h3;rw[if_pos (by simpa using h3),show 5=c from congrArg Prod.snd h]
  exact absurd (congrArg Prod.snd h).symm a
theorem WT {b x:Ly} {p c:Nat} {l:List Nat} (h:jA b p 6 8 8=(x,c)) (g:¬c≠0) (d:fJ x 0 (x.length/8)=l):l.length=x.length/8/\1<l.length/\jP b p=({next:=l.getD 0 0,aH:=l.drop 1},0):=by
  obtain⟨i,j,G,H,e,f,C⟩:=tG h (Classical.not_not.1 g);have a:l=fJ b (p+16) (((dr b p).1.size-16)/8):=by rw[<- d,f,e,FY Xx C]
  have D:((dr b p).1.size-16)/8=((dr b p).1.size-24)/8+1:=Xx;refine⟨by rw[<- d,lp],by rw[a,lp];omega,?_⟩;unfold jP;rw[if_neg Xx,if_neg Xx,if_neg Xx,a,D,SH];rfl
theorem ajd {s p c:Nat} {b:Ly} (h:qW s b p=c) (a:c≠0):(gw s b p).2=c:=by
  unfold qW at h;unfold gw;split at h
  · rename_i h1;rw[if_pos h1];exact h
  exact absurd h.symm a
theorem vV {s p c:Nat} {b:Ly} {x:jd} (a:qW s b p=0) (h:jP b p=(x,c)):gw s b p=(x,c):=by
  unfold qW at a;unfold gw;split at a
  · cases a
  rename_i h1;rw[if_neg h1];exact h
theorem ab5 (b:Ly) (p:Nat) (h:(jP b p).2≠0):(jP b p).1=wO:=by
  unfold jP at h ⊢;split
  · rfl
  split
  · rfl
  split
  · rfl
  rename_i h1 h2 h3;rw[if_neg h1,if_neg h2,if_neg h3]at h;exact absurd q h
theorem aje {s p c:Nat} {b:Ly} (h:(gw s b p).2=c) (a:c≠0):gw s b p=(wO,c):=by
  refine Prod.ext ?_ h;rw[<- h]at a;unfold gw at a ⊢;split
  · rfl
  rename_i h1;rw[if_neg h1]at a;exact ab5 b p a
theorem ajk {s p c:Nat} {b:Ly} (h:qW s b p=c) (a:c≠0):(eU s b p).2=c:=by
  unfold qW at h;unfold eU;split at h
  · rename_i h1;rw[if_pos h1];exact h
  exact absurd h.symm a
theorem acO {s p c:Nat} {b:Ly} {x:gW} (a:qW s b p=0) (h:l9 b p=(x,c)):eU s b p=(x,c):=by
  unfold qW at a;unfold eU;split at a
  · cases a
  rename_i h1;rw[if_neg h1];exact h
theorem ab6 (b:Ly) (p:Nat) (h:(l9 b p).2≠0):(l9 b p).1=r7:=by
  unfold l9 at h ⊢;split
  · rfl
  split
  · rfl
  split
  · rfl
  rename_i h1 h2 h3;rw[if_neg h1,if_neg h2,if_neg h3]at h;exact absurd q h
theorem ajl {s p c:Nat} {b:Ly} (h:(eU s b p).2=c) (a:c≠0):eU s b p=(r7,c):=by
  refine Prod.ext ?_ h;rw[<- h]at a;unfold eU at a ⊢;split
  · rfl
  rename_i h1;rw[if_neg h1]at a;exact ab6 b p a
def lC (b:Ly) (p kind n:Nat):List Nat × List UInt8 × Nat :=
  if(dr b p).2≠0 then([],[],(dr b p).2)
  else if(dr b p).1.kind≠kind then([],[],4)
  else if(dr b p).1.size<=16+8*n then([],[],5)
  else(fJ b (p+16) n,(b.drop (p+16+8*n)).take ((dr b p).1.size-(16+8*n)),0)
theorem AK {b:Ly} {p n c:Nat} {f:jR} {l:List Nat} {kind:Nat} (h:dr b p=(f,c)) (a:¬c≠0) (e:¬f.kind≠kind) (g:¬f.size<=16+8*n) (i:l=fJ ((b.take (p+f.size)).drop (p+16)) 0 n):lC b p kind n=(l,((b.take (p+f.size)).drop (p+16)).drop (8*n),0):=by
  have d:=qB h a;unfold lC;rw[h];simp only;rw[if_neg a,if_neg e,if_neg g,i,FY Xx d.2.1];refine Prod.ext q (Prod.ext ?_ q);simp only;apply List.ext_getElem?;intro j;simp only[List.getElem?_take,List.getElem?_drop];by_cases hj:j<f.size-(16+8*n)
  · rw[if_pos hj,if_pos Xx];congr 1;omega
  rw[if_neg hj,if_neg Xx]
theorem NV {b:Ly} {l:List Nat} {i v:Nat} {s:Bool} (a:l=fJ b 0 i) (hb:8*i+8<=b.length) (h:lS b ((8*i:Nat):Int) 8=(v,s)):l ++ [v]=fJ b 0 (i+1):=by rw[qG,a,<- tE h q hb,Nat.zero_add]
theorem wF {b x:Ly} {p c:Nat} {l:List Nat} (h:lC b p 1 6=(l,x,c)):(c≠0->l9 b p=(r7,c))/\(¬c≠0->l.length=6/\l9 b p=({bY:=l.getD 0 0,b9:=l.getD 1 0,d9:=l.getD 2 0,entry:=l.getD 3 0,array:=l.getD 4 0,bB:=l.getD 5 0,au:=x},0)):=by
  unfold lC at h;unfold l9;split at h
  · rename_i h1
    simp only[Prod.mk.injEq]at h;refine⟨fun _=>by rw[if_pos h1,h.2.2],fun A=>absurd (h.2.2 ▸ h1) A⟩
  rename_i h1;rw[if_neg h1];split at h
  · rename_i h2
    simp only[Prod.mk.injEq]at h;exact⟨fun _=>by rw[if_pos h2,h.2.2],fun A=>absurd (h.2.2 ▸ (by decide:(4:Nat)≠0)) A⟩
  rename_i h2;rw[if_neg h2];split at h
  · rename_i h3
    simp only[Prod.mk.injEq]at h;exact⟨fun _=>by rw[if_pos Xx,h.2.2],fun A=>absurd (h.2.2 ▸ (by decide:(5:Nat)≠0)) A⟩
  rename_i h3;simp only[Prod.mk.injEq]at h;obtain⟨rfl,rfl,rfl⟩:=h;refine⟨fun A=>absurd q A,fun _=>⟨lp _ _ _,?_⟩⟩;rw[if_neg Xx];simp[fJ,List.range_succ]
def wZ:jq:={bY:=0,b9:=0,dat:=0,au:=[]}
def lW (b:Ly) (p:Nat):jq × Nat :=
  if(dr b p).2≠0 then(wZ,(dr b p).2)
  else if(dr b p).1.kind≠2 then(wZ,4)
  else if(dr b p).1.size<=40 then(wZ,5)
  else({bY:=dS b (p+16),b9:=dS b (p+24),dat:=dS b (p+32),au:=(b.drop (p+40)).take ((dr b p).1.size-40)},0)
def kZ (s:Nat) (b:Ly) (p:Nat):jq × Nat:=if p<s\/b.length<=p then(wZ,2)else lW b p
theorem ajz {s p c:Nat} {b:Ly} (h:qW s b p=c) (a:c≠0):(kZ s b p).2=c:=by
  unfold qW at h;unfold kZ;split at h
  · rename_i h1;rw[if_pos h1];exact h
  exact absurd h.symm a
theorem adt {s p c:Nat} {b:Ly} {x:jq} (a:qW s b p=0) (h:lW b p=(x,c)):kZ s b p=(x,c):=by
  unfold qW at a;unfold kZ;split at a
  · cases a
  rename_i h1;rw[if_neg h1];exact h
theorem ab7 (b:Ly) (p:Nat) (h:(lW b p).2≠0):(lW b p).1=wZ:=by
  unfold lW at h ⊢;split
  · rfl
  split
  · rfl
  split
  · rfl
  rename_i h1 h2 h3;rw[if_neg h1,if_neg h2,if_neg h3]at h;exact absurd q h
theorem aj0 {s p c:Nat} {b:Ly} (h:(kZ s b p).2=c) (a:c≠0):kZ s b p=(wZ,c):=by
  refine Prod.ext ?_ h;rw[<- h]at a;unfold kZ at a ⊢;split
  · rfl
  rename_i h1;rw[if_neg h1]at a;exact ab7 b p a
theorem GZ {b x:Ly} {p c:Nat} {l:List Nat} (h:lC b p 2 3=(l,x,c)):(c≠0->lW b p=(wZ,c))/\(¬c≠0->l.length=3/\lW b p=({bY:=l.getD 0 0,b9:=l.getD 1 0,dat:=l.getD 2 0,au:=x},0)):=by
  unfold lC at h;unfold lW;split at h
  · rename_i h1
    simp only[Prod.mk.injEq]at h;refine⟨fun _=>by rw[if_pos h1,h.2.2],fun A=>absurd (h.2.2 ▸ h1) A⟩
  rename_i h1;rw[if_neg h1];split at h
  · rename_i h2
    simp only[Prod.mk.injEq]at h;exact⟨fun _=>by rw[if_pos h2,h.2.2],fun A=>absurd (h.2.2 ▸ (by decide:(4:Nat)≠0)) A⟩
  rename_i h2;rw[if_neg h2];split at h
  · rename_i h3
    simp only[Prod.mk.injEq]at h;exact⟨fun _=>by rw[if_pos Xx,h.2.2],fun A=>absurd (h.2.2 ▸ (by decide:(5:Nat)≠0)) A⟩
  rename_i h3;simp only[Prod.mk.injEq]at h;obtain⟨rfl,rfl,rfl⟩:=h;refine⟨fun A=>absurd q A,fun _=>⟨lp _ _ _,?_⟩⟩;rw[if_neg Xx];simp[fJ,List.range_succ]
theorem nW {b:Ly} {p n i v:Nat} (h:(fJ b p n)[i]? = some v):v=dS b (p+8*i)/\i<n:=by
  unfold fJ at h;rw[List.getElem?_map]at h
  by_cases hi:i<n
  · rw[List.getElem?_range hi]at h
    exact⟨(Option.some.inj h).symm,hi⟩
  rw[List.getElem?_eq_none (by simpa using hi)]at h;cases h
def pu (b:Ly) (p n:Nat):List mh:=(List.range n).map fun i=>{pos:=dS b (p+16*i),bY:=dS b (p+16*i+8)}
theorem AA (b:Ly) (p n:Nat):(pu b p n).length=n:=by simp[pu]
theorem NK (b:Ly) (p n:Nat):pu b p (n+1)=pu b p n ++ [{pos:=dS b (p+16*n),bY:=dS b (p+16*n+8)}]:=by simp[pu,List.range_succ]
def yq:List mh->Bool
  | a :: b :: r=>decide (a.pos<b.pos) && yq (b :: r)
  | _=>true
theorem vl:∀l:List mh,yq l=true↔∀c x y,l[c]? = some x->l[c+1]? = some y->x.pos<y.pos
  | []=>by simp[yq]
  | [a]=>by simp[yq]
  | a :: b :: r=>by
    rw[yq,Bool.and_eq_true,decide_eq_true_eq,vl (b :: r)];constructor
    · rintro⟨h1,h2⟩ c x y d e
      cases c with
      | zero=>simp at d e;subst d;subst e;exact h1
      | succ c=>exact h2 c x y (by simpa using d) (by simpa using e)
    · intro h
      exact⟨h 0 a b q q,fun c x y d e=>h (c+1) x y (by simpa using d) (by simpa using e)⟩
def VA:i7:={seq:=0,bH:=0,mono:=0,bC:=o8,xor:=0,aH:=[]}
def IG (x:Ly):i7:={seq:=dS x 0,bH:=dS x 8,mono:=dS x 16,bC:=(x.drop 24).take 16,xor:=dS x 40,aH:=pu x 48 ((x.length-48)/16)}
def N9 (x:Ly):i7 × Nat:=if dS x 0=0 then(VA,13)else if yq (IG x).aH=false then(VA,11)else(IG x,0)
def mZ (b:Ly) (p:Nat):i7 × Nat :=
  if(jA b p 3 48 16).2≠0 then(VA,(jA b p 3 48 16).2)else N9 (jA b p 3 48 16).1
theorem aju {b x:Ly} {p c:Nat} (h:jA b p 3 48 16=(x,c)) (a:c≠0):mZ b p=(VA,c):=by unfold mZ;rw[h,if_pos a]
theorem NA {b x:Ly} {p c:Nat} (h:jA b p 3 48 16=(x,c)) (a:¬c≠0):mZ b p=N9 x:=by unfold mZ;rw[h,if_neg a]
structure CQ (x:Ly) (e:i7) (i:Nat):Prop where
  seq:e.seq=dS x 0
  bH:e.bH=dS x 8
  mono:e.mono=dS x 16
  bC:e.bC=(x.drop 24).take 16
  xor:e.xor=dS x 40
  aH:e.aH=pu x 48 ((i-6)/2)
theorem CQ.eq {x:Ly} {e:i7} {i:Nat} (h:CQ x e i) (hi:i=x.length/8) (j:x.length%8=0) (g:48<=x.length):e=IG x:=by obtain⟨s,r,m,G,f,H⟩:=e;obtain⟨a,b,C,D,c,d⟩:=h;simp only at a b C D c d;subst hi;unfold IG;rw[a,b,C,D,c,d,show(x.length/8-6)/2=(x.length-48)/16 by omega]
theorem CQ.step {x:Ly} {e e':i7} {i n v u:Nat} {l:List Nat} (h:CQ x e i) (hi:i%2=0) (j:6<=i) (b:l=fJ x 0 n) (f:l[i]? = some v) (c:l[i+1]? = some u) (a:e'={e with aH:=e.aH ++ [{pos:=v,bY:=u}]}):CQ x e' (i+2):=by subst b;subst a;have g:=(nW f).1;have d:=(nW c).1;refine⟨h.seq,h.bH,h.mono,h.bC,h.xor,?_⟩;show e.aH ++ _=_;rw[show(i+2-6)/2=(i-6)/2+1 by omega,NK,h.aH,g,d,show 48+16*((i-6)/2)=0+8*i by omega,show 0+8*(i+1)=0+8*i+8 by omega]
theorem ajs {x:Ly} (h:dS x 0=0):N9 x=(VA,13):=by unfold N9;rw[if_pos h]
theorem ajr {x:Ly} {e:i7} {i:Nat} {y z:mh} (b:e=IG x) (h:¬e.seq=0) (a:1<=i) (c:e.aH[i]? = some y) (d:e.aH[i-1]? = some z) (f:y.pos<=z.pos):N9 x=(VA,11):=by
  subst b;unfold N9;rw[if_neg (show ¬dS x 0=0 from h),if_pos];cases hr:yq (IG x).aH with
  | false=>rfl
  | true =>
    have:=(vl _).1 hr (i-1) z y d (by rw[Nat.sub_add_cancel a];exact c);omega
theorem adi {x:Ly} {e:i7} {i:Nat} (g:e=IG x) (h:¬e.seq=0) (hi:e.aH.length<=i) (j:∀a,1<=a->a<i->∀y z,e.aH[a]? = some y->e.aH[a-1]? = some z->z.pos<y.pos):N9 x=(e,0):=by
  have d:yq e.aH=true:=by rw[vl];intro a f c C b;have D:=(List.getElem?_eq_some_iff.1 b).1;exact j (a+1) Xx Xx c f b (by simpa using C)
  subst g;unfold N9;rw[if_neg (show ¬dS x 0=0 from h),if_neg (by rw[d];simp)]
theorem adh {e:i7} {v:Value} {ys:Ly} (a:ys.length=16):fC (i7.cells e v) 3 (ys.map b8)=i7.cells {e with bC:=ys} v :=
  pN a [.int .u64 e.seq,.int .u64 e.bH,.int .u64 e.mono] _ e.bC
theorem aag {x:Ly} (h:40<=x.length):(((x.take 40).drop 24).map b8).take 16=((x.drop 24).take 16).map b8/\((x.drop 24).take 16).length=16:=by
  have e:(x.take 40).drop 24=(x.drop 24).take 16:=by rw[List.drop_take]
  have A:((x.drop 24).take 16).length=16:=by simp;omega
  refine⟨?_,A⟩;rw[e,List.take_of_length_le Ym]
theorem aar {x:Ly} {e s:i7} {a b c d:Nat} {n:Nat} {l:List Nat} (j:l=fJ x 0 n) (f:l[0]? = some a) (h1:l[1]? = some b) (g:l[2]? = some c) (h:l[5]? = some d) (i:e={seq:=a,bH:=b,mono:=c,bC:=o8,xor:=d,aH:=[]}) (k:s={e with bC:=(x.drop 24).take 16}):CQ x s 6:=by subst j;subst i;subst k;exact⟨(nW f).1,(nW h1).1,(nW g).1,q,(nW h).1,q⟩
def iP (s:Nat) (b:Ly) (p:Nat):i7 × Nat:=if p<s\/b.length<=p then(VA,2)else mZ b p
theorem ajt {s p c:Nat} {b:Ly} (h:qW s b p=c) (a:c≠0):(iP s b p).2=c:=by
  unfold qW at h;unfold iP;split at h
  · rename_i h1;rw[if_pos h1];exact h
  exact absurd h.symm a
theorem adg {s p c:Nat} {b:Ly} {x:i7} (a:qW s b p=0) (h:mZ b p=(x,c)):iP s b p=(x,c):=by
  unfold qW at a;unfold iP;split at a
  · cases a
  rename_i h1;rw[if_neg h1];exact h
theorem Y9 {s p c:Nat} {b:Ly} {d:gW} (h:eU s b p=(d,c)):d.au.length<=b.length:=by
  unfold eU at h;split at h
  · cases h;simp[r7]
  unfold l9 at h
  repeat' split at h
  all_goals (cases h;simp[r7];try omega)
def iY (k:Bool) (f:Ly) (s:Nat) (b:Ly) (p:Nat):gW × Nat :=
  if(eU s b p).2≠0 then(r7,(eU s b p).2)
  else if(eU s b p).1.bY=cQ k f (eU s b p).1.au then eU s b p
  else(r7,9)
theorem ajU {k:Bool} {f b:Ly} {s p c:Nat} (h:(eU s b p).2=c) (a:c≠0):(iY k f s b p).2=c:=by unfold iY;rw[h,if_pos a]
theorem ZF {k:Bool} {f b:Ly} {s p n:Nat} {d:gW} (h:eU s b p=(d,0)) (a:cQ k f d.au=n) (e:d.bY=n):iY k f s b p=(d,0):=by unfold iY;rw[h,if_neg Oy,if_pos (e.trans a.symm)]
theorem amk {k:Bool} {f b:Ly} {s p n:Nat} {d:gW} (h:eU s b p=(d,0)) (a:cQ k f d.au=n) (e:¬d.bY=n):(iY k f s b p).2=9:=by unfold iY;rw[h,if_neg Oy,if_neg (fun h=>e (h.trans a))]
theorem ah1 {k:Bool} {f b:Ly} {s p c:Nat} {d:gW} (h:iY k f s b p=(d,c)):d.au.length<=b.length:=by
  unfold iY at h;split at h
  · cases h;simp[r7]
  split at h
  · exact Y9 h
  cases h;simp[r7]
def iH (l:Ly):Pr × Nat:=({name:=(nk l).1,value:=(nk l).2},(gG l).toNat)
theorem MA (l:Ly):0<=gG l/\gG l<100:=by
  unfold gG
  repeat' split
  all_goals omega
theorem HG (l:Ly):gG l=(((gG l).toNat:Nat):Int):=(Int.toNat_of_nonneg (MA l).1).symm
theorem MB (l:Ly):(gG l).toNat<9223372036854775808:=by have:=MA l;omega
structure fB where
  name:List UInt8
  values:List (List UInt8)
def fB.cells (x:fB) (v0:Value):List Value :=
  [(str x.name)] ++ ([v0])
def jS:Dt fB:=uG (fun x=>(x.name,x.values)) (fW ir (rq ir))
theorem nS {w:World} {Q:Nat->Prop} {cs:List Value} {x:fB} (h:jS.oP w Q cs x):∃a,cs=x.cells a/\Ls ir w Q a x.values:=by obtain⟨_,_,rfl,⟨rfl,_⟩,⟨a,rfl,b⟩⟩:=h;exact⟨a,q,b⟩
theorem vp {w:World} {Q:Nat->Prop} {x:fB} {v0:Value} (c0:Ls ir w Q v0 x.values):jS.oP w Q (x.cells v0) x :=
  ⟨_,_,q,⟨q,tV⟩,⟨_,q,c0⟩⟩
theorem fB.one {x:fB} {v0:Value} (a:v0.oneCell'=true):(x.cells v0).all (fun b=>b.oneCell')=true:=(bU q (mW a))
structure fM where
  rows:List (List fB)
def fM.cells (x:fM) (v0:Value):List Value :=
  [v0]
theorem fM.one {x:fM} {v0:Value} (a:v0.oneCell'=true):(x.cells v0).all (fun b=>b.oneCell')=true:=(mW a)
def IU {α:Type} (p:α->Bool):List α->Nat
  | []=>0
  | x :: r=>if p x=true then IU p r+1 else 0
section
variable {α:Type} {p:α->Bool} {l:List α} {i:Nat} {x:α}
theorem ajY (p:α->Bool) (l:List α):IU p l<=l.length:=by
  induction l with
  | nil=>simp[IU]
  | cons x r ih=>unfold IU;split <;> simp <;> omega
theorem ajZ (h:l[i]? = some x) (a:p x=false):IU p l<=i:=by
  induction l generalizing i with
  | nil=>simp at h
  | cons y r ih =>
    unfold IU;cases i with
    | zero=>simp at h;subst h;simp[a]
    | succ i=>have:=ih (by simpa using h);split <;> omega
theorem pos_at (h:l[IU p l]? = some x):p x=false:=by
  induction l with
  | nil=>simp at h
  | cons y r ih =>
    unfold IU at h;split at h
    · exact ih (by simpa using h)
    · rename_i hp;simp at h;subst h;simpa using hp
end
def PL (l:List fB):Prop:=l.Pairwise fun a b=>Op.bytesLess a.name b.name=true
def wC (l:List (List UInt8)) (s:Ly):Nat:=IU (fun x=>Op.bytesLess x s) l
def aa4 (l:List (List UInt8)) (s:Ly):Bool:=match l[wC l s]? with|some x=>decide (x=s)|none=>false
theorem ZH (l:List (List UInt8)) (s:Ly):wC l s<=l.length:=ajY _ l
theorem ah5 {l:List (List UInt8)} {s x:Ly} {i:Nat} (b:l[i]? = some x) (a:Op.bytesLess x s=false):wC l s<=i:=ajZ b a
theorem BR {l:List (List UInt8)} {s x:Ly} (h:l[wC l s]? = some x):aa4 l s=decide (x=s):=by unfold aa4;rw[h]
theorem RH {l:List (List UInt8)} {s:Ly} (h:¬wC l s<l.length):aa4 l s=false:=by unfold aa4;rw[List.getElem?_eq_none Xx]
def BB (l:List (List UInt8)) (s:Ly):List (List UInt8):=if aa4 l s=true then l else l.take (wC l s) ++ s :: l.drop (wC l s)
section
variable {eA eS:Nat} {lo:Nat->Prop} {w w':World} {Q Q':Nat->Prop} {v:Value} {xs:List fB} {us:List Value}
end
theorem TB (l:List (List UInt8)) (s:Ly):(BB l s).length<=l.length+1:=by
  have:=ZH l s;unfold BB;split
  · omega
  simp;omega
section
variable {l:List (List UInt8)} {k:Nat} {s:Ly} {rows:List (List fB)} {row:List fB}
end
section
variable {eR eA eS br:Nat} {w w1 w2:World} {Q Q2:Nat->Prop} {vr v:Value} {rows:List (List fB)} {row:List fB} {us:List Value}
end
def NH (s:Ly):List (List UInt8)->Nat->Int
  | [],_=>-1
  | x :: r,i=>if s=x then(i:Int)else NH s r (i+1)
theorem EV {s:Ly} {l:List (List UInt8)} {i j:Nat} (h:¬i<l.length):NH s (l.drop i) j = -1:=by rw[ew Xx];rfl
theorem KD {s x:Ly} {l:List (List UInt8)} {i:Nat} (h:l[i]? = some x):NH s (l.drop i) i=if s=x then(i:Int)else NH s (l.drop (i+1)) (i+1):=by rw[cK h];rfl
def NF (s:Ly):List (List UInt8)->Bool
  | []=>false
  | x :: r=>if s=x then true else NF s r
theorem adN (s:Ly) (l:List (List UInt8)) (i:Nat):decide (0<=NH s l i)=NF s l:=by
  induction l generalizing i with
  | nil=>rfl
  | cons x r ih =>
    unfold NH NF;split
    · simp
    · exact ih _
theorem RE {s:Ly} {l:List (List UInt8)}:NF s l=true↔s∈l:=by
  induction l with
  | nil=>simp[NF]
  | cons x r ih=>unfold NF;split <;> rename_i h <;> simp[h,ih]
def vz (a:fB):List Pr->Bool
  | []=>false
  | p :: r=>if p.name=a.name/\NF p.value a.values=true then true else vz a r
theorem xk {a:fB} {l:List Pr} {i:Nat} (h:¬i<l.length):vz a (l.drop i)=false:=by rw[ew Xx];rfl
theorem yY {a:fB} {l:List Pr} {i:Nat} {p:Pr} (h:l[i]? = some p):vz a (l.drop i)=if p.name=a.name/\NF p.value a.values=true then true else vz a (l.drop (i+1)):=by rw[cK h];rfl
def NG (l:List Pr):List fB->Nat->Int
  | [],_=>-1
  | a :: r,i=>if vz a l=true then NG l r (i+1)else(i:Int)
theorem EU {l:List Pr} {xs:List fB} {i j:Nat} (h:¬i<xs.length):NG l (xs.drop i) j = -1:=by rw[ew Xx];rfl
theorem KC {l:List Pr} {a:fB} {xs:List fB} {i:Nat} (h:xs[i]? = some a):NG l (xs.drop i) i=if vz a l=true then NG l (xs.drop (i+1)) (i+1)else(i:Int):=by rw[cK h];rfl
def IB (l:List Pr):List fB->Bool
  | []=>true
  | a :: r=>if vz a l=true then IB l r else false
theorem adM (l:List Pr) (xs:List fB) (i:Nat):decide (0<=NG l xs i) = !IB l xs:=by
  induction xs generalizing i with
  | nil=>rfl
  | cons a r ih =>
    unfold NG IB;split
    · exact ih _
    · simp
def holdsGo (z:Bool) (l:List Pr):List (List fB)->Bool
  | []=>z
  | r :: rest=>if IB l r=true then true else holdsGo z l rest
theorem za {z:Bool} {l:List Pr} {rows:List (List fB)} {i:Nat} (h:¬i<rows.length):holdsGo z l (rows.drop i)=z:=by rw[ew Xx];rfl
theorem ET {z:Bool} {l:List Pr} {rows:List (List fB)} {i:Nat} {r:List fB} (h:rows[i]? = some r):holdsGo z l (rows.drop i)=if IB l r=true then true else holdsGo z l (rows.drop (i+1)):=by rw[cK h];rfl
def pM (m:fM) (l:List Pr):Bool:=holdsGo (decide (m.rows.length=0)) l m.rows
end Go.Wk
namespace Go.Proofs.YtlleafgaeeneoaaGreat
open Go Go.Wk Go.RowKit
set_option linter.unusedVariables false
set_option linter.unusedSimpArgs false
attribute [local irreducible] wpList wpQuiet wpStill fD Code.wp Calls bodyPost
variable {w:World} {Q:Nat->Prop}
noncomputable abbrev Zp:=Tryz.prog
theorem gY:fI Zp 61 2=true:=Xw
theorem qq:fI Zp 98 2=true:=Xw
theorem DV:gy Zp 61 2=true:=Xw
theorem ag8:gy Zp 81 1=true:=Xw
theorem JN:gy Zp 9 1=true:=Xw
theorem IE:gy Zp 98 2=true:=Xw
theorem akY:cA Zp 125=true:=Xw
theorem amZ:cA Zp 39=true:=Xw
theorem ana:cA Zp 40=true:=Xw
theorem anb:cA Zp 41=true:=Xw
theorem an1:cA Zp 85=true:=Xw
theorem an2:cA Zp 86=true:=Xw
theorem py:aN Zp 32 0=some 0:=Xw
theorem mV:aN Zp 61 0=some 0:=Xw
theorem qH:aN Zp 61 1=some 1:=Xw
theorem vk:aN Zp 98 0=some 0:=Xw
theorem xS:aN Zp 98 1=some 1:=Xw
theorem xU:iJ Zp 30=true:=Xw
theorem KT:iJ Zp 49=true:=Xw
theorem SZ:iJ Zp 71=true:=Xw
theorem ZA:iJ Zp 81=true:=Xw
theorem jK:iJ Zp 9=true:=Xw
theorem ZW:Zp.underlying 30=some (.slice 81):=Xw
theorem BI:Zp.underlying 49=some (.slice 61):=Xw
theorem iU:Zp.underlying 71=some (.slice 9):=Xw
theorem yE:Zp.underlying 81=some (.slice 98):=Xw
theorem z61:dW Zp 61=some [.string ByteArray.empty,.string ByteArray.empty]:=Xw
theorem aaC (g:Up w Q) {v0:Value} {l:List (List UInt8)} (c:Ls ir w Q v0 l) (s:Ly) :
  Calls Zp 125 #[v0,(str s)] w fun B j=>∃e:Int,B = .returned (.int .i64 (e:Int))/\Md [] w j/\(-9223372036854775808<=e/\e<9223372036854775808)/\NH s l 0=e:=by
 have T:=c.dD;have d:=Md.refl [] w;have E:=g;have o:∀b,Q b->Q b:=fun _ h=>h;have H:∀b,Q b->b<w.heap.size->Q b:=fun _ h _=>h;refine enter (n:=19) Tryz.func125 q q q fun z=>ns (an q (aD (nm q (sL q iU c.di (mv q (nt (aS ?_)))))));obtain⟨e,k⟩:∃r,NH s l 0=r:=⟨_,q⟩;have P:=k;refine nD (fun(i:Nat)=>[(8,(.int .i64 i)),(0,v0),(1,(str s)),(7,(.int .i64 l.length))]) (fun(i:Nat) j=>∃p:Nat->Prop,(∀b,p b->Q b)/\(∀b,Q b->b<w.heap.size->p b)/\Up j p/\Md [] w j/\Ls ir j p v0 l/\NH s (l.drop i) i=e) (fun(i:Nat)=>l.length-i) (x0:=0) ?_ ?_ ?_
 ·exact Fz
 ·exact⟨Q,o,H,g,d,c,(by have m:=k;exact m)⟩
 clear d g o H c;rintro i z V ⟨R,o,H,g,d,c,f⟩;refine ns (st _ (dN (a:=i) (b:=l.length) q q) (nt (aD ?_)));refine bJ q (fun x=>?_) (fun x=>?_)
 ·have C:=dT x;refine aL (aj (aD (aS (nm q (an q (ns (m2 q q (mv q (st _ (bg (i:=i) 1 q q iU JN c.di Xx) ?_)))))))));obtain⟨y,D⟩:=dZ (l:=l) (i:=i) Xx;obtain⟨F,A,G⟩:=c.get D;obtain⟨rfl,_⟩:=A;have G:At _ v0 (i*1) [(str y)]:=G;refine st _ ((bO (kk:=i*1) 0 q q jK G q).to (b:=(str y)) q) (st _ (pU (a:=s) (b:=y) q q) (aA ?_));refine aj ?_;refine bJ q (fun u=>?_) (fun u=>?_)
  ·have t:=dT u;refine nm q (ar q (aV (aI (aI (aV (aI ?_))))));exact bP (v:=(.int .i64 (((i:Nat):Int):Int))) trivial q ⟨q,tV⟩ ⟨((i:Nat):Int),q,d,Xx,(by(try (simp(disch:=first|omega|assumption|simp) only [EV,KD D,SS,reduceIte,C,D,t]at f));simp(disch:=first|omega|assumption|simp) only [SS,reduceIte,k,C,D,<- f])⟩
  have t:=dF u;refine aL (bE (aj (aG (st _ (rA (a:=i) (b:=1) q q Xx) (mv q (nt ?_))))));refine mU (x0:=(i+1)) Xx ⟨(dA q Xx),q,q,q,tV⟩ ⟨R,o,H,g,d,c,(by have m:=f;simp(disch:=first|omega|assumption|simp) only [EV,KD D,SS,reduceIte,C,D,t]at m;exact m)⟩
 have C:=dF x;refine bT (aX (aX (cJ (aj (ns (ar q ?_))))));exact bP (v:=(.int .i64 ((-1):Int))) trivial q ⟨q,tV⟩ ⟨(-1),q,d,Xx,(by(try (simp(disch:=first|omega|assumption|simp) only [EV,SS,reduceIte,C]at f));simp(disch:=first|omega|assumption|simp) only [SS,reduceIte,k,C,<- f])⟩
theorem aa9 (h:Up w Q) {v0:Value} {l:List (List UInt8)} (f:Ls ir w Q v0 l) (s:Ly) :
  Calls Zp 86 #[v0,(str s)] w fun e j=>∃g:Bool,e = .returned (.bool g)/\Md [] w j/\NF s l=g:=by
 have G:=f.dD;have d:=Md.refl [] w;have o:=h;refine enter (n:=9) Tryz.func86 q q q fun m=>ns (an q (ns (m2 q q (Rz akY q (aaC h f s) ?_))));rintro e H ⟨c,rfl,i,D,C⟩;have d:=d.k i;refine st _ (qo (a:=c) (b:=0) q q) (ar q ?_);exact bP (v:=(.bool ((decide (0<=c))))) trivial q ⟨q,tV⟩ ⟨(decide (0<=c)),q,d,(by rw[<- adN s l 0,C])⟩
theorem aaA (e:Up w Q) {N:Value} (a:fB) (s:Ls ir w Q N a.values) {v1:Value} {l:List Pr} (h1:Ls qf w Q v1 l) :
  Calls Zp 41 #[.agg (fB.cells a N).toArray,v1] w fun aa J=>∃X:Bool,aa = .returned (.bool X)/\Md [] w J/\vz a l=X:=by
 have ao:=h1.dD;have d:=Md.refl [] w;have am:=e;have F:∀b,Q b->Q b:=fun _ h=>h;have B:∀b,Q b->b<w.heap.size->Q b:=fun _ h _=>h;refine enter (n:=26) Tryz.func41 q q q fun ae=>ns (dR (cs:=(fB.cells a N)) q q ?_);intro U au Y al m C;have D:=e _ Y;have Y:=lv d.size Y;obtain⟨s,h1,e,d⟩:=k4 m s h1 e d;refine an q (aD (nm q (sL q BI h1.di (mv q (nt (aS ?_))))));obtain⟨X,S⟩:∃r,vz a l=r:=⟨_,q⟩;have ai:=S;refine nD (fun(i:Nat)=>[(9,(.int .i64 i)),(2,(.pointer (some ⟨U,0,none⟩))),(7,v1),(8,(.int .i64 l.length))]) (fun(i:Nat) J=>∃M:Nat->Prop,(∀b,M b->Q b)/\(∀b,Q b->b<w.heap.size->M b)/\Up J M/\Md [] w J/\bS J U (fB.cells a N) 98/\Ls qf J M v1 l/\Ls ir J M N a.values/\M U/\vz a (l.drop i)=X) (fun(i:Nat)=>l.length-i) (x0:=0) ?_ ?_ ?_
 ·exact Fz
 ·exact⟨Q,F,B,e,d,C,h1,s,D,(by have E:=S;exact E)⟩
 clear d e F B D s h1 C;rintro i ae av ⟨ap,F,B,e,d,C,h1,s,D,L⟩;refine ns (st _ (dN (a:=i) (b:=l.length) q q) (nt (aD ?_)));refine bJ q (fun V=>?_) (fun V=>?_)
 ·have A:=dT V;refine aL (aj (aD (aS (ns (st _ (bg (i:=i) 2 q q BI DV h1.di Xx) ?_)))));obtain⟨I,H⟩:=dZ (l:=l) (i:=i) Xx;obtain⟨aq,x,R⟩:=h1.get H;obtain⟨_,rfl⟩:=qg x;have R:At _ v1 (i*2) (Pr.cells I):=R;refine st _ (gI (kk:=i*2) (Pr.cells I) 0 q q (by exact gY) R q) (bF z61 ?_);intro T aw P y m K;have k:U≠T:=(by have:=C.lt;omega);obtain⟨o,g,ad,ag,ab⟩:=j5 e P y m;have D:=g _ D C.lt;have F:=tT F ad;have B:=Sx g B d.size;have P:=lv d.size P;have C:=C.o m;have h1:=(h1.sub g).o m;have s:=(s.sub g).o m;have d:=d.k m;have e:=ab;have c:bw [] w T:=.inr P;refine aK (us:=(Pr.cells I)) q q (by exact gY) (by exact fun u ah=>aU (Pr.one) u ah) K (lB q) ?_;have f:=K;intro ax m K;have p:∀b∈[T],¬o b:=(hI ag);have C:=C.md m Zz;have h1:=h1.md m p;have s:=s.md m p;have e:=e.md m;have d:=d.step m (hI c);refine nt (ns (sf q mV (sl (u:=(str I.name)) q jK K q (sf q vk (sl (u:=(str a.name)) q jK C q (st _ (pU (a:=I.name) (b:=a.name) q q) (mv q ?_)))))));refine bW (t:=18) q (fun j=>?_) (fun j=>?_)
  ·have G:=dT j;refine sg j (aJ q xS) (sg j ((aF q SZ C q).to (b:=N) q) (sg j (aJ q qH) (sg j ((aF q jK K q).to (b:=(str I.value)) q) (fK q q q j an2 q (aa9 e s I.value) ?_))));rintro aa ay ⟨ak,rfl,m,Z⟩;refine rv ?_;obtain⟨C,h1,s,e,d⟩:=k5 m C h1 s e d;refine st _ (bf q j q) (nt ?_);refine bJ q (fun W=>?_) (fun W=>?_)
   ·have O:=W;refine ns (ar q (aV (aI (aI (aV (aI ?_))))));exact bP (v:=(.bool true)) trivial q ⟨q,tV⟩ ⟨true,q,d,(by(try (simp(disch:=first|omega|assumption|simp) only [xk,yY H,SS,reduceIte,A,H,G,Z,O]at L));simp(disch:=first|omega|assumption|simp) only [SS,reduceIte,S,A,H,G,Z,O,<- L])⟩
   have O:=W;refine aL (bE (aj (aG (st _ (rA (a:=i) (b:=1) q q Xx) (mv q (nt ?_))))));refine mU (x0:=(i+1)) Xx ⟨(dA q Xx),q,q,q,tV⟩ ⟨o,F,B,e,d,C,h1,s,D,(by have E:=L;simp(disch:=first|omega|assumption|simp) only [xk,yY H,SS,reduceIte,A,H,G,Z,O]at E;exact E)⟩
  have G:=dF j;refine sk j (sk j (sk j (sk j (sk j (st _ (aZ q j q) (nt (ij q q (aL (bE (aj (aG (st _ (rA (a:=i) (b:=1) q q Xx) (mv q ?_)))))))))))));refine nt ?_;refine mU (x0:=(i+1)) Xx ⟨(dA q Xx),q,q,q,tV⟩ ⟨o,F,B,e,d,C,h1,s,D,(by have E:=L;simp(disch:=first|omega|assumption|simp) only [xk,yY H,SS,reduceIte,A,H,G]at E;exact E)⟩
 have A:=dF V;refine bT (aX (aX (cJ (aj (ns (ar q ?_))))));exact bP (v:=(.bool false)) trivial q ⟨q,tV⟩ ⟨false,q,d,(by(try (simp(disch:=first|omega|assumption|simp) only [xk,SS,reduceIte,A]at L));simp(disch:=first|omega|assumption|simp) only [SS,reduceIte,S,A,<- L])⟩
theorem VR (c:Up w Q) {d:Value} (a:fB) (f:Ls ir w Q d a.values) {v1:Value} {l:List Pr} (h1:Pt (rq qf) 49 w Q v1 l) :
  Calls Zp 40 #[.agg (fB.cells a d).toArray,v1] w fun h r=>∃i:Bool,h = .returned (.bool i)/\Md [] w r/\(!vz a l)=i:=by
 obtain⟨G,y,rfl,x,h1,p⟩:=h1;obtain⟨v1,rfl,D⟩:=p;have b:=Md.refl [] w;have R:=c;refine enter (n:=8) Tryz.func40 q q q fun s=>ns (dR (cs:=(fB.cells a d)) q q ?_);intro j z C P e o;have H:G≠j:=(by have:=h1.lt;omega);have t:=c _ C;have C:=lv b.size C;obtain⟨f,D,h1,c,b⟩:=k5 e f D h1 c b;refine an q (ns (st _ (bK (fB.cells a d) q (by exact qq) o q) (sl (u:=v1) q KT h1 q (Rz anb q (aaA c a f D) ?_))));rintro h T ⟨g,rfl,e,m⟩;have b:=b.k e;refine st _ (gT q) (ar q ?_);exact bP (v:=(.bool (!g))) trivial q ⟨q,tV⟩ ⟨!g,q,b,(by rw[m])⟩
theorem aaB (f:Up w Q) {v0:Value} {xs:List fB} (d:Ls jS w Q v0 xs) {t:Value} {l:List Pr} (g:Pt (rq qf) 49 w Q t l) :
  Calls Zp 85 #[v0,.func (.func 40) #[] #[t]] w fun B p=>∃o:Int,B = .returned (.int .i64 (o:Int))/\Md [] w p/\(-9223372036854775808<=o/\o<9223372036854775808)/\NG l xs 0=o:=by
 have M:=d.dD;have e:=Md.refl [] w;have L:=f;have z:∀b,Q b->Q b:=fun _ h=>h;have x:∀b,Q b->b<w.heap.size->Q b:=fun _ h _=>h;refine enter (n:=19) Tryz.func85 q q q fun E=>ns (an q (aD (nm q (sL q yE d.di (mv q (nt (aS ?_)))))));obtain⟨o,D⟩:∃r,NG l xs 0=r:=⟨_,q⟩;have K:=D;refine nD (fun(i:Nat)=>[(8,(.int .i64 i)),(0,v0),(1,(.func (.func 40) #[] #[t])),(7,(.int .i64 xs.length))]) (fun(i:Nat) p=>∃s:Nat->Prop,(∀b,s b->Q b)/\(∀b,Q b->b<w.heap.size->s b)/\Up p s/\Md [] w p/\Ls jS p s v0 xs/\Pt (rq qf) 49 p s t l/\NG l (xs.drop i) i=o) (fun(i:Nat)=>xs.length-i) (x0:=0) ?_ ?_ ?_
 ·exact Fz
 ·exact⟨Q,z,x,f,e,d,g,(by have y:=D;exact y)⟩
 clear e f z x d g;rintro i E N ⟨J,z,x,f,e,d,g,H⟩;refine ns (st _ (dN (a:=i) (b:=xs.length) q q) (nt (aD ?_)));refine bJ q (fun P=>?_) (fun P=>?_)
 ·have k:=dT P;refine aL (aj (aD (aS (nm q (an q (ns (m2 q q (mv q (st _ (bg (i:=i) 2 q q yE IE d.di Xx) ?_)))))))));obtain⟨T,m⟩:=dZ (l:=xs) (i:=i) Xx;obtain⟨c,I,u⟩:=d.get m;obtain⟨V,rfl,R⟩:=nS I;have u:At _ v0 (i*2) (fB.cells T V):=u;refine st _ (gI (kk:=i*2) (fB.cells T V) 0 q q (by exact qq) u q) (lY (cs:=[t]) q ana q (VR f T R g) ?_);rintro B O ⟨W,rfl,F,G⟩;refine rv ?_;obtain⟨d,g,f,e⟩:=k4 F d g f e;refine aA ?_;refine aj ?_;refine bJ q (fun A=>?_) (fun A=>?_)
  ·have j:=A;have C:=G.trans j;try simp only[Bool.not_eq_true',Bool.not_eq_false']at C
   refine nm q (ar q (aV (aI (aI (aV (aI ?_))))));exact bP (v:=(.int .i64 (((i:Nat):Int):Int))) trivial q ⟨q,tV⟩ ⟨((i:Nat):Int),q,e,Xx,(by(try (simp(disch:=first|omega|assumption|simp) only [EU,KC m,SS,reduceIte,k,m,G,j,C]at H));simp(disch:=first|omega|assumption|simp) only [SS,reduceIte,D,k,m,G,j,C,<- H])⟩
  have j:=A;have C:=G.trans j;try simp only[Bool.not_eq_true',Bool.not_eq_false']at C
  refine aL (bE (aj (aG (st _ (rA (a:=i) (b:=1) q q Xx) (mv q (nt ?_))))));refine mU (x0:=(i+1)) Xx ⟨(dA q Xx),q,q,q,tV⟩ ⟨J,z,x,f,e,d,g,(by have y:=H;simp(disch:=first|omega|assumption|simp) only [EU,KC m,SS,reduceIte,k,m,G,j,C]at y;exact y)⟩
 have k:=dF P;refine bT (aX (aX (cJ (aj (ns (ar q ?_))))));exact bP (v:=(.int .i64 ((-1):Int))) trivial q ⟨q,tV⟩ ⟨(-1),q,e,Xx,(by(try (simp(disch:=first|omega|assumption|simp) only [EU,SS,reduceIte,k]at H));simp(disch:=first|omega|assumption|simp) only [SS,reduceIte,D,k,<- H])⟩
theorem aa8 (h:Up w Q) {v0:Value} {xs:List fB} (f:Ls jS w Q v0 xs) {i:Value} {l:List Pr} (m:Pt (rq qf) 49 w Q i l) :
  Calls Zp 39 #[v0,.func (.func 40) #[] #[i]] w fun e o=>∃g:Bool,e = .returned (.bool g)/\Md [] w o/\(!IB l xs)=g:=by
 have G:=f.dD;have d:=Md.refl [] w;have r:=h;refine enter (n:=9) Tryz.func39 q q q fun p=>ns (an q (ns (m2 q q (Rz an1 q (aaB h f m) ?_))));rintro e H ⟨c,rfl,j,D,C⟩;have d:=d.k j;refine st _ (qo (a:=c) (b:=0) q q) (ar q ?_);exact bP (v:=(.bool ((decide (0<=c))))) trivial q ⟨q,tV⟩ ⟨(decide (0<=c)),q,d,(by rw[<- adM l xs 0,C])⟩
theorem VS (j:Up w Q) {A:Value} (m:fM) (d:Ls (rq jS) w Q A m.rows) {v1:Value} {l:List Pr} (h1:Ls qf w Q v1 l) :
  Calls Zp 15 #[.agg (fM.cells m A).toArray,v1] w fun aa B=>∃Y:Bool,aa = .returned (.bool Y)/\Md [] w B/\pM m l=Y:=by
 have x:=h1.dD;have t:=d.dD;have e:=Md.refl [] w;have p:=j;have X:∀b,Q b->Q b:=fun _ h=>h;have S:∀b,Q b->b<w.heap.size->Q b:=fun _ h _=>h;refine enter (n:=23) Tryz.func15 q q q fun ab=>ns (dR (cs:=(fM.cells m A)) q q ?_);intro O z T k H s;have G:=j _ T;have T:=lv e.size T;obtain⟨d,h1,j,e⟩:=k4 H d h1 j e;refine dR (cs:=[v1]) q (dM h1.bA) ?_;intro P ah Z o H E;have af:O≠P:=(by have:=s.lt;omega);have C:=j _ Z;have Z:=lv e.size Z;obtain⟨d,h1,s,j,e⟩:=k5 H d h1 s j e;refine an q (aD (ns (sf q py (sl (u:=A) q xU s q (sL q ZW d.di (mv q (nt (aS ?_))))))));obtain⟨Y,N⟩:∃r,holdsGo (decide (m.rows.length=0)) l m.rows=r:=⟨_,q⟩;have ag:=N;refine nD (fun(i:Nat)=>[(10,(.int .i64 i)),(2,(.pointer (some ⟨O,0,none⟩))),(3,(.pointer (some ⟨P,0,none⟩))),(8,A),(9,(.int .i64 m.rows.length))]) (fun(i:Nat) B=>∃F:Nat->Prop,(∀b,F b->Q b)/\(∀b,Q b->b<w.heap.size->F b)/\Up B F/\Md [] w B/\bS B O (fM.cells m A) 32/\bS B P [v1] 49/\Ls (rq jS) B F A m.rows/\Ls qf B F v1 l/\F O/\F P/\holdsGo (decide (m.rows.length=0)) l (m.rows.drop i)=Y) (fun(i:Nat)=>m.rows.length-i) (x0:=0) ?_ ?_ ?_
 ·exact Fz
 ·exact⟨Q,X,S,j,e,s,E,d,h1,G,C,(by have U:=N;exact U)⟩
 clear e j X S G C d h1 s E;rintro i ab ai ⟨ae,X,S,j,e,s,E,d,h1,G,C,M⟩;refine ns (st _ (dN (a:=i) (b:=m.rows.length) q q) (nt (aD ?_)));refine bJ q (fun V=>?_) (fun V=>?_)
 ·have D:=dT V;refine aL (aj (aD (aS (ns (st _ (bg (i:=i) 1 q q ZW ag8 d.di Xx) ?_)))));obtain⟨al,K⟩:=dZ (l:=m.rows) (i:=i) Xx;obtain⟨y,ad,R⟩:=d.get K;obtain⟨f,rfl,c⟩:=ad;have R:At _ A (i*1) [f]:=R;refine st _ ((bO (kk:=i*1) 0 q q ZA R q).to (b:=f) q) (cu q (aA ?_));refine aj (nm q (st _ (wD q) (Rz amZ q (aa8 j c ⟨_,_,q,C,E,_,q,h1⟩) ?_)));rintro aa ak ⟨g,rfl,H,L⟩;obtain⟨s,E,d,h1,j,e⟩:=k6 H s E d h1 j e;refine st _ (gT q) (nt ?_);refine bJ q (fun W=>?_) (fun W=>?_)
  ·have I:=wL W;have J:=L.trans I;try simp only[Bool.not_eq_true',Bool.not_eq_false']at J
   refine ns (ar q (aV (aI (aI (aV (aI ?_))))));exact bP (v:=(.bool true)) trivial q ⟨q,tV⟩ ⟨true,q,e,(by(try (simp(disch:=first|omega|assumption|simp) only [za,ET K,SS,reduceIte,D,K,L,I,J]at M));rw[pM]<;>simp(disch:=first|omega|assumption|simp) only [SS,reduceIte,N,D,K,L,I,J,<- M])⟩
  have I:=wK W;have J:=L.trans I;try simp only[Bool.not_eq_true',Bool.not_eq_false']at J
  refine aL (bE (aj (aG (st _ (rA (a:=i) (b:=1) q q Xx) (mv q (nt ?_))))));refine mU (x0:=(i+1)) Xx ⟨(dA q Xx),q,q,q,q,tV⟩ ⟨ae,X,S,j,e,s,E,d,h1,G,C,(by have U:=M;simp(disch:=first|omega|assumption|simp) only [za,ET K,SS,reduceIte,D,K,L,I,J]at U;exact U)⟩
 have D:=dF V;refine bT (aX (aX (cJ (aj (ns (sf q py (sl (u:=A) q xU s q (sL q ZW d.di (st _ (iR (a:=m.rows.length) (b:=0) q q) (ar q ?_))))))))));exact bP (v:=(.bool ((decide (m.rows.length=0))))) trivial q ⟨q,tV⟩ ⟨(decide (m.rows.length=0)),q,e,(by(try (simp(disch:=first|omega|assumption|simp) only [za,SS,reduceIte,D]at M));rw[pM]<;>simp(disch:=first|omega|assumption|simp) only [SS,reduceIte,N,D,<- M])⟩
end Go.Proofs.YtlleafgaeeneoaaGreat
namespace Go.Wk
open Go Go.RowKit
theorem Ow.lsB {e:TypeId} {w a:World} {Q Q':Nat->Prop} {v:Value} {xs:Ly} (h:Ow e6 e (bw [] w) a Q' v xs) (c:Up w Q):Ls e6 a Q v xs :=
  Ls.of_by h.read.by fun b hb _=>bw.up c b (h.2 b hb).1
theorem MW (s:Sq):s.config.1.ay<=10/\s.config.1.aC<=10:=by
  rcases h1:s.bR 5 with⟨a,E⟩
  rcases h2:E.bR 5 with⟨b,F⟩
  rcases h3:F.bR 5 with⟨c,C⟩
  rcases h4:C.bR 7 with⟨d,D⟩
  rcases h5:D.bR 4 with⟨e,G⟩
  rcases h6:G.bR 2 with⟨f,H⟩
  have A:=C.j7 7;have B:=D.j7 4;rw[h4]at A;rw[h5]at B;simp only[Sq.config,h1,h2,h3,h4,h5,h6];simp only at A B;omega
def wV (P:Program) (s:TypeId) (f:Nat):Option Nat :=
  match P.underlying s with
  | some (.struct fs)=>match fs[f]? with
    | some x=>cond (iJ P x.type) (some x.offset) none
    | none=>none
  | _=>none
section
variable {P:Program} {n:Nat} {A:Fr n} {D:List Deferred} {l:List (Nat × Value)} {w:World} {d:Option Tmp} {ty:TypeId} {ps:String} {af:Array Edge} {g:Option (Nat × Bool)}
theorem TI {x:Operand} {s:TypeId} {f b:Nat} {cs:List Value} {u:Value} (a:wV P s f=some b) (e:ev n l x=some (.agg cs.toArray)) (c:cs[b]? = some u) :
    cg P ⟨d,.field s x f,ty,ps,af,g⟩ (aQ A D l).eval w u:=by
  unfold wV at a;split at a
  · rename_i fs hu
    split at a
    · rename_i y hy
      cases h1:iJ P y.type with
      | false=>rw[h1]at a;cases a
      | true =>
        rw[h1]at a;simp only[cond_true,Option.some.injEq]at a;subst a;simp[cg,execOp,bL e,Instr.field,run_underlying hu,hy,part,nP h1,asAgg,c]
    cases a
  cases a
end
structure jj where
  out:List Nat
  cur:Nat
  ahead:Nat
def jj.cells (x:jj) (v0:Value):List Value :=
  [v0] ++ ([(.int .u64 x.cur)] ++ ([(.int .u64 x.ahead)]))
def jj.ok (x:jj):Prop:=x.cur<18446744073709551616/\x.ahead<18446744073709551616
theorem jj.one {x:jj} {v0:Value} (a:v0.oneCell'=true):(x.cells v0).all (fun b=>b.oneCell')=true:=(bU (mW a) (bU q q))
section
variable {P:Program} {n:Nat} {A:Fr n} {D:List Deferred} {l:List (Nat × Value)} {w:World} {d:Option Tmp} {ty:TypeId} {ps:String} {af:Array Edge} {g:Option (Nat × Bool)}
end
def qD (out:List Nat):Nat:=out.getLast?.getD 0
def oN (out:List Nat) (x:Nat):Nat:=if out≠[]/\x<=qD out then 13 else 0
def lD (b:Ly) (bG:Nat):List Nat->List Nat->List Nat × Nat
  | [],out=>(out,0)
  | x :: r,out=>if bG<=out.length then(out,0)else if x=0\/b.length<=x then(out,2)else if oN out x≠0 then(out,13)else lD b bG r (out ++ [x])
def qV (s:Nat) (b:Ly) (bG p ahead:Nat) (out:List Nat):List Nat × Nat :=
  if bG<=out.length then(out,0)
  else if p=0\/b.length<=p then(out,14)
  else if p<=ahead then(out,12)
  else if(gw s b p).2≠0 then(out,(gw s b p).2)
  else if(lD b bG (gw s b p).1.aH out).2≠0 then lD b bG (gw s b p).1.aH out
  else qV s b bG (gw s b p).1.next p (lD b bG (gw s b p).1.aH out).1
termination_by b.length-ahead
decreasing_by omega
def vB (b:Ly) (bG:Nat):List Nat->List Nat->List Nat × Nat × Bool
  | [],out=>(out,0,false)
  | x :: r,out=>if bG<=out.length then(out,0,true)else if x=0\/b.length<=x then(out,0,true)else if oN out x≠0 then(out,13,true)else vB b bG r (out ++ [x])
def NX (s:Nat) (b:Ly) (bG p ahead:Nat) (out:List Nat):List Nat × Nat :=
  if bG<=out.length then(out,0)
  else if p=0\/b.length<=p then(out,0)
  else if p<=ahead then(out,12)
  else if(gw s b p).2≠0 then(out,(gw s b p).2)
  else if(vB b bG (gw s b p).1.aH out).2.2=true then((vB b bG (gw s b p).1.aH out).1,(vB b bG (gw s b p).1.aH out).2.1)
  else NX s b bG (gw s b p).1.next p (vB b bG (gw s b p).1.aH out).1
termination_by b.length-ahead
decreasing_by omega
def ofF (s:Nat) (b:Ly) (p:Nat):List Nat × Nat :=
  if(eU s b p).2≠0 then([],(eU s b p).2)
  else if(eU s b p).1.bB=0\/(eU s b p).1.entry=0\/b.length<=(eU s b p).1.entry then([],0)
  else NX s b (eU s b p).1.bB (eU s b p).1.array 0 [(eU s b p).1.entry]
def gQ (b:Ly) (x:Nat):Bool:=decide (x=0\/b.length<=x)
def kY (s:Nat) (b:Ly) (l:jj):List Nat × Nat × jj :=
  if l.cur<=l.ahead then([],12,l)else((gw s b l.cur).1.aH,(gw s b l.cur).2,{l with cur:=(gw s b l.cur).1.next,ahead:=l.cur})
def YW (l:jj) (x:Nat):Nat × jj:=if oN l.out x≠0 then(13,l)else(0,{l with out:=l.out ++ [x]})
theorem agZ {out:List Nat} {x y:Nat} (h:out[out.length-1]? = some y) (b:x<=y):oN out x≠0:=by
  unfold oN qD;have a:out≠[]:=by rintro rfl;simp at h
  rw[List.getLast?_eq_getElem?,h,if_pos ⟨a,b⟩];decide
theorem aj9 {out:List Nat} {x y:Nat} (h:out[out.length-1]? = some y) (a:¬x<=y):oN out x=0:=by unfold oN qD;rw[List.getLast?_eq_getElem?,h,if_neg (fun h=>a h.2)]
theorem ajA {out:List Nat} {x:Nat} (h:¬0<out.length):oN out x=0:=by unfold oN;rw[if_neg (fun A=>A.1 (List.eq_nil_of_length_eq_zero Xx))]
def tu (b:Ly) (out:List Nat):Prop:=out.length<=qD out/\qD out<b.length+1
theorem TN (b:Ly):tu b []:=⟨Nat.le_refl _,Nat.succ_pos _⟩
theorem HC {b:Ly} {out:List Nat} (h:tu b out):out.length<=b.length:=by have:=h.1;have:=h.2;omega
theorem kS {b:Ly} {x:Nat} (h:gQ b x=false):x≠0/\x<b.length:=by unfold gQ at h;have:=dF h;omega
theorem RY (out:List Nat) (x:Nat):qD (out ++ [x])=x:=by simp[qD]
theorem LQ {b:Ly} {l a:jj} {x c:Nat} (h:tu b l.out) (hi:YW l x=(c,a)) (i:¬c≠0) (d:gQ b x=false):tu b a.out/\a.out=l.out ++ [x]/\a.cur=l.cur/\a.ahead=l.ahead/\oN l.out x=0:=by
  have D:=kS d;unfold YW at hi;split at hi
  · exact absurd (congrArg Prod.fst hi) Xx
  rename_i h2;have f:=congrArg Prod.snd hi;simp only at f;subst f;refine⟨⟨?_,?_⟩,q,q,q,by omega⟩
  · simp only[RY,List.length_append,List.length_singleton]
    have e:oN l.out x=0:=(by omega);unfold oN at e;have C:=h.1
    by_cases d:l.out=[]
    · rw[d];simp;omega
    have:¬x<=qD l.out:=fun g=>by rw[if_pos ⟨d,g⟩]at e;cases e
    omega
  simp only[RY];omega
theorem CY {s c:Nat} {b:Ly} {l d:jj} {aH:List Nat} (a:kY s b l=(aH,c,d)) (f:¬c≠0):l.ahead<l.cur/\d.out=l.out/\d.ahead=l.cur/\d.cur=(gw s b l.cur).1.next/\aH=(gw s b l.cur).1.aH/\(gw s b l.cur).2=0:=by
  unfold kY at a;split at a
  · exact absurd (congrArg (fun x=>x.2.1) a) Ym
  rename_i h;simp only[Prod.mk.injEq]at a;obtain⟨rfl,e,rfl⟩:=a;exact⟨by omega,q,q,q,q,by omega⟩
theorem nM {s c:Nat} {b:Ly} {l d:jj} {aH:List Nat} (a:kY s b l=(aH,c,d)):d.out=l.out:=by unfold kY at a;split at a <;> (simp only[Prod.mk.injEq]at a;obtain⟨_,_,rfl⟩:=a;rfl)
theorem QO {s bG p a:Nat} {b:Ly} {out:List Nat} (h:¬out.length<bG):qV s b bG p a out=(out,0):=by rw[qV,if_pos Xx]
theorem agB {s bG p a:Nat} {b:Ly} {out:List Nat} (h:out.length<bG) (c:gQ b p=true):qV s b bG p a out=(out,14):=by rw[qV,if_neg Xx,if_pos (by simpa [gQ]using c)]
theorem adf {s bG c:Nat} {b:Ly} {l e:jj} {aH:List Nat} (h:l.out.length<bG) (f:gQ b l.cur=false) (a:kY s b l=(aH,c,e)) (d:c≠0):qV s b bG l.cur l.ahead l.out=(e.out,c):=by
  have g:=kS f;rw[nM a];rw[qV,if_neg Xx,if_neg Xx];unfold kY at a;split at a
  · rename_i h1;rw[if_pos h1];simp only[Prod.mk.injEq]at a;rw[a.2.1]
  rename_i h1;rw[if_neg h1];simp only[Prod.mk.injEq]at a;rw[<- a.2.1]at d ⊢;rw[if_pos d]
theorem YH {s bG c:Nat} {b:Ly} {l a:jj} {aH:List Nat} (h:l.out.length<bG) (i:gQ b l.cur=false) (f:kY s b l=(aH,c,a)) (g:¬c≠0) :
    qV s b bG l.cur l.ahead l.out=if(lD b bG aH l.out).2≠0 then lD b bG aH l.out else qV s b bG a.cur a.ahead (lD b bG aH l.out).1:=by
  have G:=kS i;obtain⟨D,j,d,e,C,k⟩:=CY f g;rw[qV,if_neg Xx,if_neg Xx,if_neg Xx,if_neg Xx,d,e,C]
theorem adj {s bG c i:Nat} {b:Ly} {l d:jj} {aH a:List Nat} {r g:List Nat × Nat} (e:qV s b bG l.cur l.ahead l.out=r) (h:l.out.length<bG) (m:gQ b l.cur=false) (f:kY s b l=(aH,c,d)) (k:¬c≠0)
    (h1o:lD b bG (aH.drop 0) d.out=g) (h1:lD b bG (aH.drop i) a=g) (he:lD b bG (aH.drop i) a=(a,0)):qV s b bG d.cur d.ahead a=r:=by
  have j:lD b bG aH l.out=(a,0):=by rw[<- nM f];exact h1o.trans (h1.symm.trans he)
  rw[YH h m f k,j,if_neg Oy]at e;exact e
theorem QR {s bG c i k:Nat} {b:Ly} {l f:jj} {aH g a:List Nat} {r j:List Nat × Nat} (d:qV s b bG l.cur l.ahead l.out=r) (h:l.out.length<bG) (o:gQ b l.cur=false) (e:kY s b l=(aH,c,f)) (n:¬c≠0)
    (h1o:lD b bG (aH.drop 0) f.out=j) (h1:lD b bG (aH.drop i) g=j) (he:lD b bG (aH.drop i) g=(a,k)) (hk:k≠0):r=(a,k):=by
  have m:lD b bG aH l.out=(a,k):=by rw[<- nM e];exact h1o.trans (h1.symm.trans he)
  rw[YH h o e n,m,if_pos hk]at d;exact d.symm
theorem ade {bG i:Nat} {b:Ly} {aH out:List Nat} (h:¬i<aH.length):lD b bG (aH.drop i) out=(out,0):=by rw[List.drop_eq_nil_of_le Xx];rfl
theorem aap {bG:Nat} {b:Ly} {aH out:List Nat} (h:bG<=out.length):lD b bG aH out=(out,0):=by
  cases aH with
  | nil=>rfl
  | cons x r=>unfold lD;rw[if_pos h]
theorem drop_cons {aH:List Nat} {i x:Nat} (h:aH[i]? = some x):aH.drop i=x :: aH.drop (i+1):=by obtain⟨A,B⟩:=List.getElem?_eq_some_iff.1 h;rw[<- B];exact(List.drop_eq_getElem_cons A)
theorem ajq {bG i x:Nat} {b:Ly} {aH out:List Nat} (h:aH[i]? = some x) (a:¬bG<=out.length) (c:gQ b x=true):lD b bG (aH.drop i) out=(out,2):=by rw[drop_cons h,lD,if_neg a,if_pos (by simpa [gQ]using c)]
theorem agA {bG i x c:Nat} {b:Ly} {aH:List Nat} {l a:jj} (h:aH[i]? = some x) (e:¬bG<=l.out.length) (f:gQ b x=false) (hi:YW l x=(c,a)) (d:c≠0):lD b bG (aH.drop i) l.out=(a.out,c):=by
  have g:=kS f;rw[drop_cons h,lD,if_neg e,if_neg Xx];unfold YW at hi;split at hi
  · rename_i h2;rw[if_pos h2];simp only[Prod.mk.injEq]at hi;rw[<- hi.1,<- hi.2]
  exact absurd (congrArg Prod.fst hi).symm d
theorem aaq {bG i x c:Nat} {b:Ly} {aH:List Nat} {l a:jj} (h:aH[i]? = some x) (d:¬bG<=l.out.length) (e:gQ b x=false) (hi:YW l x=(c,a)) (g:¬c≠0):lD b bG (aH.drop i) l.out=lD b bG (aH.drop (i+1)) a.out:=by
  have f:=kS e;rw[drop_cons h,lD,if_neg d,if_neg Xx];unfold YW at hi;split at hi
  · exact absurd (congrArg Prod.fst hi) Xx
  rename_i h2;rw[if_neg h2];simp only[Prod.mk.injEq]at hi;rw[<- hi.2]
def r9 (s:Nat) (b:Ly) (bG p:Nat):List Nat × Nat:=qV s b bG p 0 []
theorem ajN {s bG p a:Nat} {b:Ly} {out:List Nat} (h:¬out.length<bG):NX s b bG p a out=(out,0):=by rw[NX,if_pos Xx]
theorem ajO {s bG p a:Nat} {b:Ly} {out:List Nat} (h:out.length<bG) (c:gQ b p=true):NX s b bG p a out=(out,0):=by rw[NX,if_neg Xx,if_pos (by simpa [gQ]using c)]
theorem ahp {s bG c:Nat} {b:Ly} {l e:jj} {aH:List Nat} (h:l.out.length<bG) (f:gQ b l.cur=false) (a:kY s b l=(aH,c,e)) (d:c≠0):NX s b bG l.cur l.ahead l.out=(e.out,c):=by
  have g:=kS f;rw[nM a];rw[NX,if_neg Xx,if_neg Xx];unfold kY at a;split at a
  · rename_i h1;rw[if_pos h1];simp only[Prod.mk.injEq]at a;rw[a.2.1]
  rename_i h1;rw[if_neg h1];simp only[Prod.mk.injEq]at a;rw[<- a.2.1]at d ⊢;rw[if_pos d]
theorem aex {s bG c:Nat} {b:Ly} {l a:jj} {aH:List Nat} (h:l.out.length<bG) (i:gQ b l.cur=false) (f:kY s b l=(aH,c,a)) (g:¬c≠0) :
    NX s b bG l.cur l.ahead l.out=if(vB b bG aH l.out).2.2=true then((vB b bG aH l.out).1,(vB b bG aH l.out).2.1)else NX s b bG a.cur a.ahead (vB b bG aH l.out).1:=by
  have G:=kS i;obtain⟨D,j,d,e,C,k⟩:=CY f g;rw[NX,if_neg Xx,if_neg Xx,if_neg Xx,if_neg Xx,d,e,C]
theorem amj {s bG c i:Nat} {b:Ly} {l d:jj} {aH a:List Nat} {r:List Nat × Nat} {g:List Nat × Nat × Bool} (e:NX s b bG l.cur l.ahead l.out=r) (h:l.out.length<bG) (m:gQ b l.cur=false) (f:kY s b l=(aH,c,d)) (k:¬c≠0)
    (h1o:vB b bG (aH.drop 0) d.out=g) (h1:vB b bG (aH.drop i) a=g) (he:vB b bG (aH.drop i) a=(a,0,false)):NX s b bG d.cur d.ahead a=r:=by
  have j:vB b bG aH l.out=(a,0,false):=by rw[<- nM f];exact h1o.trans (h1.symm.trans he)
  rw[aex h m f k,j,if_neg Oy]at e;exact e
theorem NY {s bG c i k:Nat} {b:Ly} {l f:jj} {aH g a:List Nat} {r:List Nat × Nat} {j:List Nat × Nat × Bool} (d:NX s b bG l.cur l.ahead l.out=r) (h:l.out.length<bG) (o:gQ b l.cur=false) (e:kY s b l=(aH,c,f)) (n:¬c≠0)
    (h1o:vB b bG (aH.drop 0) f.out=j) (h1:vB b bG (aH.drop i) g=j) (he:vB b bG (aH.drop i) g=(a,k,true)):r=(a,k):=by
  have m:vB b bG aH l.out=(a,k,true):=by rw[<- nM e];exact h1o.trans (h1.symm.trans he)
  rw[aex h o e n,m,if_pos q]at d;exact d.symm
theorem aho {bG i:Nat} {b:Ly} {aH out:List Nat} (h:¬i<aH.length):vB b bG (aH.drop i) out=(out,0,false):=by rw[List.drop_eq_nil_of_le Xx];rfl
theorem aeu {bG i x:Nat} {b:Ly} {aH out:List Nat} (h:aH[i]? = some x) (a:bG<=out.length):vB b bG (aH.drop i) out=(out,0,true):=by rw[drop_cons h,vB,if_pos a]
theorem ami {bG i x:Nat} {b:Ly} {aH out:List Nat} (h:aH[i]? = some x) (a:¬bG<=out.length) (c:gQ b x=true):vB b bG (aH.drop i) out=(out,0,true):=by rw[drop_cons h,vB,if_neg a,if_pos (by simpa [gQ]using c)]
theorem ajM {bG i x c:Nat} {b:Ly} {aH:List Nat} {l a:jj} (h:aH[i]? = some x) (e:¬bG<=l.out.length) (f:gQ b x=false) (hi:YW l x=(c,a)) (d:c≠0):vB b bG (aH.drop i) l.out=(a.out,c,true):=by
  have g:=kS f;rw[drop_cons h,vB,if_neg e,if_neg Xx];unfold YW at hi;split at hi
  · rename_i h2;rw[if_pos h2];simp only[Prod.mk.injEq]at hi;rw[<- hi.1,<- hi.2]
  exact absurd (congrArg Prod.fst hi).symm d
theorem aev {bG i x c:Nat} {b:Ly} {aH:List Nat} {l a:jj} (h:aH[i]? = some x) (d:¬bG<=l.out.length) (e:gQ b x=false) (hi:YW l x=(c,a)) (g:¬c≠0):vB b bG (aH.drop i) l.out=vB b bG (aH.drop (i+1)) a.out:=by
  have f:=kS e;rw[drop_cons h,vB,if_neg d,if_neg Xx];unfold YW at hi;split at hi
  · exact absurd (congrArg Prod.fst hi) Xx
  rename_i h2;rw[if_neg h2];simp only[Prod.mk.injEq]at hi;rw[<- hi.2]
theorem ahn {s p c:Nat} {b:Ly} {d:gW} (h:eU s b p=(d,c)) (a:c≠0):ofF s b p=([],c):=by unfold ofF;rw[h];simp only;rw[if_pos a]
theorem xJ {s p c:Nat} {b:Ly} {d:gW} (h:eU s b p=(d,c)) (e:¬c≠0) (a:d.bB=0\/gQ b d.entry=true):ofF s b p=([],0):=by
  unfold ofF;rw[h];simp only;rw[if_neg e,if_pos]
  rcases a with a|a
  · exact .inl a
  unfold gQ at a;have:=dT a;omega
theorem sG {s p c:Nat} {b:Ly} {d:gW} (h:eU s b p=(d,c)) (a:¬c≠0) (g:¬d.bB=0) (e:gQ b d.entry=false):ofF s b p=NX s b d.bB d.array 0 [d.entry]:=by have f:=kS e;unfold ofF;rw[h];simp only;rw[if_neg a,if_neg Xx]
theorem afA {b:Ly} {x:Nat} (a:gQ b x=false):tu b [x]:=by have c:=kS a;unfold tu qD;simp;omega
theorem afG {a b:List Nat} (h:a.length≠b.length):decide (a=b)=false:=decide_eq_false (fun e=>h (by rw[e]))
theorem ahM {a b:List Nat} {i x y:Nat} (h:a[i]? = some x) (c:b[i]? = some y) (e:x≠y):decide (a=b)=false:=decide_eq_false (fun d=>e (by subst d;rw[h]at c;exact Option.some.inj c))
theorem afH {a b:List Nat} {i:Nat} (h:a.take i=b.take i) (h1:a.length<=i) (c:a.length=b.length):decide (a=b)=true:=decide_eq_true (by rw[<- List.take_of_length_le h1,h,List.take_of_length_le Xx])
theorem abF {a b:List Nat} {i x y:Nat} (h:a.take i=b.take i) (h1:a[i]? = some x) (c:b[i]? = some y) (d:x=y):a.take (i+1)=b.take (i+1):=by rw[List.take_add_one,List.take_add_one,h,h1,c,d]
end Go.Wk
namespace Go.Proofs.YtlleafgaeeneoaaGreat
open Go Go.Wk Go.RowKit
set_option linter.unusedVariables false
set_option linter.unusedSimpArgs false
attribute [local irreducible] wpList wpQuiet wpStill fD Code.wp Calls bodyPost
theorem el3:gy Zp 3 1=true:=Xw
theorem mixed:Zp.follows .mixedOrders=true:=Xw
theorem iE:iJ Zp 3=true:=Xw
theorem kP:Zp.underlying 22=some (.slice 3):=Xw
theorem WL {w:World} {Q:Nat->Prop} (m:Up w Q) {v0:Value} {a:List Nat} (e:Ls eK w Q v0 a) {v1:Value} {b:List Nat} (h1:Ls eK w Q v1 b) :
  Calls Zp 16 #[v0,v1] w fun U d=>∃N:Bool,U = .returned (.bool N)/\Md [] w d/\decide (a=b)=N:=by
 have k:=e.dD;have o:=h1.dD;have j:=Md.refl [] w;have g:=m;have y:∀b,Q b->Q b:=fun _ h=>h;have x:∀b,Q b->b<w.heap.size->Q b:=fun _ h _=>h;refine enter (n:=26) Tryz.func16 q q q fun O=>ns (an q (aD (nm q (sL q kP e.di (mv q (sL q kP h1.di (st _ (eT (a:=a.length) (b:=b.length) q q) (nt ?_))))))));refine bJ q (fun A=>?_) (fun A=>?_)
 ·have G:=dT A;refine ns (ar q (aI ?_));exact bP (v:=(.bool false)) trivial q ⟨q,tV⟩ ⟨false,q,j,(afG G)⟩
 have G:=dF A;refine aL (aj (aD (ns (an q (aS ?_)))));refine nD (fun(i:Nat)=>[(5,(.int .i64 i)),(0,v0),(1,v1)]) (fun(i:Nat) d=>∃s:Nat->Prop,(∀b,s b->Q b)/\(∀b,Q b->b<w.heap.size->s b)/\Up d s/\Md [] w d/\Ls eK d s v0 a/\Ls eK d s v1 b/\i<=a.length/\a.take i=b.take i) (fun(i:Nat)=>a.length-i) (x0:=0) ?_ ?_ ?_
 ·exact Fz
 ·exact⟨Q,y,x,m,j,e,h1,Xx,q⟩
 clear j m y x e h1;rintro i O X ⟨f,y,x,m,j,e,h1,Z,M⟩;refine aD (ns (m2 q q (sL q kP e.di (st _ (dN (a:=i) (b:=a.length) q q) (nt ?_)))));refine bJ q (fun B=>?_) (fun B=>?_)
 ·have R:=dT B;refine aL (aj (aD (aS (aD ?_))));have K:=e;have H:=h1;refine cZ (ml 8) [8] (fun d=>Md [] X d) mixed Xw ?_;intro t z;refine⟨z.mono Oy,?_⟩;have S:=z.mono (T:=[]) Oy;refine mo q (mo q (mz (fun d u=>bg (i:=i) 1 q q kP el3 e.di Xx) ?_));obtain⟨I,F⟩:=dZ (l:=a) (i:=i) Xx;obtain⟨p,V,C⟩:=K.get F;obtain⟨rfl,Y⟩:=V;have C:At _ v0 (i*1) [(.int .i64 I)]:=C;refine mz (fun d u=>(bO (kk:=i*1) 0 q q iE (C.o u) q).to (b:=(.int .i64 I)) q) (mo q (mo q (mz (fun d u=>bg (i:=i) 1 q q kP el3 h1.di Xx) ?_)));obtain⟨J,P⟩:=dZ (l:=b) (i:=i) Xx;obtain⟨r,W,D⟩:=H.get P;obtain⟨rfl,c⟩:=W;have D:At _ v1 (i*1) [(.int .i64 J)]:=D;refine mz (fun d u=>(bO (kk:=i*1) 0 q q iE (D.o u) q).to (b:=(.int .i64 J)) q) (dH ?_);obtain⟨e,h1,m,j⟩:=k4 z e h1 m j;refine st _ (eT (a:=I) (b:=J) q q) (aA ?_);refine aj ?_;refine bJ q (fun E=>?_) (fun E=>?_)
  ·have L:=dT E;refine ns (ar q (aV (aI (aI (aV (aI ?_))))));exact bP (v:=(.bool false)) trivial q ⟨q,tV⟩ ⟨false,q,j,(ahM F P L)⟩
  have L:=dF E;refine aL (bE (aj (aG (mv q (st _ (rA (a:=i) (b:=1) q q Xx) (an q ?_))))));refine mU (x0:=(i+1)) Xx ⟨(dA q Xx),q,q,tV⟩ ⟨f,y,x,m,j,e,h1,Xx,(abF M F P Xx)⟩
 have R:=dF B;refine bT (aX (aX (cJ (aj (ns (ar q ?_))))));exact bP (v:=(.bool true)) trivial q ⟨q,tV⟩ ⟨true,q,j,(afH M Xx Xx)⟩
end Go.Proofs.YtlleafgaeeneoaaGreat
namespace Go.Wk
open Go Go.RowKit
def rn (b:Ly) (j:Nat):List Nat:=(List.range 20).map fun q=>if q<j then dS b (88+8*q)else 0
def qL:e5:={gF:=0,bM:=0,state:=0,bZ:=o8,dG:=o8,bC:=o8,seq:=o8,n:=List.replicate 20 0,cM:=0,dh:=0,dJ:=0}
def yo:Rec:={seq:=0,bH:=0,mono:=0,bC:=o8,ak:=[]}
def jV (k:Bool) (f:Ly) (s:Nat) (b:Ly):List mh->List Pr->List (List UInt8)->(List Pr × List (List UInt8)) × Nat
  | [],fs,all=>((fs,all),0)
  | x :: r,fs,all =>
    if(iY k f s b x.pos).2≠0 then(([],[]),(iY k f s b x.pos).2)
    else if(iY k f s b x.pos).1.bY≠x.bY then(([],[]),9)
    else if(iH (iY k f s b x.pos).1.au).2≠0 then(([],[]),(iH (iY k f s b x.pos).1.au).2)
    else jV k f s b r (fs ++ [(iH (iY k f s b x.pos).1.au).1]) (all ++ [(iY k f s b x.pos).1.au])
section
variable {k:Bool} {f b:Ly} {s p i c:Nat} {l:List mh} {x:mh} {d:gW} {fs:List Pr} {all:List (List UInt8)} {q:Pr} {e:i7} {r:Rec}
theorem LJ (h:¬i<l.length):jV k f s b (l.drop i) fs all=((fs,all),0):=by rw[ew Xx];rfl
theorem ab9 (h:l[i]? = some x) (d:(iY k f s b x.pos).2=c) (a:c≠0):jV k f s b (l.drop i) fs all=(([],[]),c):=by rw[cK h];unfold jV;rw[d,if_pos a]
theorem ahF (h:l[i]? = some x) (c:iY k f s b x.pos=(d,0)) (a:¬d.bY=x.bY):jV k f s b (l.drop i) fs all=(([],[]),9):=by rw[cK h];unfold jV;rw[c,if_neg Oy,if_pos a]
theorem TM (h:l[i]? = some x) (g:iY k f s b x.pos=(d,0)) (e:d.bY=x.bY) (j:iH d.au=(q,c)) (a:c≠0):jV k f s b (l.drop i) fs all=(([],[]),c):=by rw[cK h];unfold jV;rw[g,if_neg Oy,if_neg (by simpa using e),j,if_pos a]
theorem WU (h:l[i]? = some x) (c:iY k f s b x.pos=(d,0)) (a:d.bY=x.bY) (e:iH d.au=(q,0)):jV k f s b (l.drop i) fs all=jV k f s b (l.drop (i+1)) (fs ++ [q]) (all ++ [d.au]):=by
  rw[cK h];conv=>lhs;unfold jV
  rw[c,if_neg Oy,if_neg (by simpa using a),e,if_neg Oy]
def mD (k:Bool) (f:Ly) (s:Nat) (b:Ly) (p:Nat):Rec × Nat :=
  if(iP s b p).2≠0 then(yo,(iP s b p).2)
  else if 16<(iP s b p).1.aH.length then(yo,21)
  else if(jV k f s b (iP s b p).1.aH [] []).2≠0 then(yo,(jV k f s b (iP s b p).1.aH [] []).2)
  else if(iP s b p).1.xor=nv 0 (jV k f s b (iP s b p).1.aH [] []).1.2 then({seq:=(iP s b p).1.seq,bH:=(iP s b p).1.bH,mono:=(iP s b p).1.mono,bC:=(iP s b p).1.bC,ak:=(jV k f s b (iP s b p).1.aH [] []).1.1},0)
  else(yo,10)
theorem akn (h:(iP s b p).2=c) (a:c≠0):(mD k f s b p).2=c:=by unfold mD;rw[h,if_pos a]
theorem akm (h:iP s b p=(e,0)) (a:16<e.aH.length):(mD k f s b p).2=21:=by unfold mD;rw[h,if_neg Oy,if_pos a]
theorem WV {y:List Pr × List (List UInt8)} (h:iP s b p=(e,0)) (g:¬16<e.aH.length) (d:jV k f s b e.aH [] []=(y,c)) (a:c≠0):(mD k f s b p).2=c:=by unfold mD;rw[h,if_neg Oy,if_neg g,d,if_pos a]
theorem akl {n:Nat} (h:iP s b p=(e,0)) (c:¬16<e.aH.length) (a:jV k f s b e.aH [] []=((fs,all),0)) (g:nv 0 all=n) (d:¬e.xor=n):(mD k f s b p).2=10:=by unfold mD;rw[h,if_neg Oy,if_neg c,a,if_neg Oy,if_neg (by rw[g];exact d)]
structure aiw (e:i7) (r:Rec):Prop where
  seq:r.seq=e.seq
  bH:r.bH=e.bH
  mono:r.mono=e.mono
  bC:r.bC=e.bC
theorem af8 {n:Nat} (h:iP s b p=(e,0)) (g:¬16<e.aH.length) (j:aiw e r) (d:jV k f s b e.aH [] []=((r.ak,all),0)) (l:nv 0 all=n) (i:e.xor=n):mD k f s b p=(r,0):=by unfold mD;rw[h,if_neg Oy,if_neg g,d,if_neg Oy,if_pos (by rw[l];exact i)];obtain⟨m,o,G,H,q⟩:=r;obtain⟨a,c,C,D⟩:=j;simp only at a c C D;subst a;subst c;subst C;subst D;rfl
theorem agw {n:Nat} {y:Ly} (h:∀x∈all,x.length<=n) (b:y.length<=n):∀x∈all ++ [y],x.length<=n:=by
  intro x a
  rcases List.mem_append.1 a with A|A
  · exact h x A
  simp at A;subst A;exact b
theorem amy (h:(mD k f s b p).2≠0):(mD k f s b p).1=yo:=by
  unfold mD at h ⊢;split
  · rfl
  split
  · rfl
  split
  · rfl
  split
  · rename_i h1 h2 h3 h4;rw[if_neg h1,if_neg h2,if_neg h3,if_pos h4]at h;exact absurd rfl h
  rfl
theorem ahG (h:(mD k f s b p).2=c) (a:c≠0):mD k f s b p=(yo,c):=by refine Prod.ext ?_ h;exact amy (by rw[h];exact a)
end
section
variable {b x:Ly} {p c:Nat}
end
section
variable {k:Bool} {f b:Ly} {s p c n:Nat} {d:gW}
end
section
variable {k:Bool} {f b:Ly} {s p i c n m:Nat} {l:List mh} {x:mh} {fs:List Pr} {all:List (List UInt8)} {q:Ly} {w:Pr}
end
end Go.Wk
