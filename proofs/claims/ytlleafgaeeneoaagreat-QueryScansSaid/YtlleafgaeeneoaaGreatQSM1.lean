/- Part 1 of what the walk of a law stands on: Base, Ops, Steps, Draws, Strings, Rep, Nums, Puts, Loops, GuardR, FieldP, HashP, Opens, Tails. No statement is proved here. -/
import Derived.WalkKit
import Derived.WalkSpells
import Derived.WalkLawsBesides
import Derived.Deep.Quiet
import Derived.StillTail
import Derived.KernelRfl
import Derived.Deep.LoopGhost
import Derived.Laws.IdiomStrings
import Derived.Laws.StructEq
import Derived.Laws.Externs
import Derived.Lib.BytesEntry
import Derived.Recover
import Derived.Lib.IndexLaws
import Derived.ProofKit
import Derived.OpenShut
import Derived.ShutString
import Derived.Deep.Slices
import Derived.Lib.Overlaps
import Derived.Lib.AppendZerosOnto
import Derived.Sort.Grow
import Derived.Lib.SliceRun
import Derived.Lib.Bytealg
import Derived.Shelf.SortM.Plain
import Derived.Shelf.SortM.SortNone
import Derived.Lib.SmallJoins
set_option linter.unusedVariables false
set_option linter.unusedSimpArgs false
namespace Go.Wk
open Go Go.RowKit
theorem q {α:Sort _} {a:α}:a=a:=rfl
theorem dT {p:Prop} [Decidable p] (h:decide p=true):p:=of_decide_eq_true h
theorem dF {p:Prop} [Decidable p] (h:decide p=false):¬p:=of_decide_eq_false h
theorem lB {a b:Nat} (h:Nat.ble a b=true):a<=b:=Nat.le_of_ble_eq_true h
theorem lj {a b c:Nat} (h:a<b) (k:b<=c):a<c:=Nat.lt_of_lt_of_le h k
theorem lv {a b c:Nat} (h:a<=b) (k:b<=c):a<=c:=Nat.le_trans h k
theorem tV:True:=True.intro
theorem Oy {p:Prop} (h:p:=by simp):p:=h
theorem Xx {p:Prop} (h:p:=by omega):p:=h
theorem Xy {p:Prop} (h:p:=by decide):p:=h
theorem Xw {p:Prop} (h:p:=by kernel_rfl):p:=h
theorem Xh {p:Prop} (h:p:=by assumption):p:=h
theorem Ym {p:Prop} (h:p:=by simp;omega):p:=h
theorem Zq {p:Prop} (h:p:=by(simp<;>omega)):p:=h
theorem Zx {p:Prop} (h:p:=by simp only;omega):p:=h
theorem Zy {p:Prop} (h:p:=by simp[List.length_take,List.length_drop];omega):p:=h
theorem Zz {p:Prop} (h:p:=by intro h;simp at h;omega):p:=h
theorem wo {b:Bool} (h:(!b)=true):b=false:=by cases b<;>simp_all
theorem wm {b:Bool} (h:(!b)=false):b=true:=by cases b<;>simp_all
def look:List (Nat × Value)->Nat->Option Value
  | [],_=>none
  | (k,v) :: r,t=>cond (Nat.beq k t) (some v) (look r t)
structure Fr (n:Nat) where
  tmps:Array Value
  size:tmps.size=n
def aQ {n:Nat} (A:Fr n) (D:List Deferred):List (Nat × Value)->Act
  | []=>⟨A.tmps,D⟩
  | (k,v) :: r=>(aQ A D r).put (some k) v
def ev (n:Nat) (l:List (Nat × Value)):Operand->Option Value
  | .tmp t=>cond (Nat.ble n t) none (look l t)
  | .const v=>some v
  | .global g=>some (.pointer (some ⟨g,0,none⟩))
  | .func f=>some (.func (.func f) #[] #[])
section
variable {n:Nat} {A:Fr n} {D:List Deferred} {l:List (Nat × Value)}
theorem ze:(aQ A D l).tmps.size=n:=by
  induction l with
  | nil=>exact A.size
  | cons p r ih=>simp[aQ,Act.put,ih]
theorem fK:(aQ A D l).defers=D:=by
  induction l with
  | nil=>rfl
  | cons p r ih=>simp[aQ,Act.put,ih]
theorem aaP {t:Nat} {v:Value} (c:t<n) (h:look l t=some v):(aQ A D l).tmps.getD t undef=v:=by
  induction l with
  | nil=>simp[look]at h
  | cons p r ih =>
    obtain⟨k,d⟩:=p;simp only[look]at h;have b:(aQ A D r).tmps.size=n:=ze
    by_cases hk:k=t
    · subst hk
      simp at h;subst h;simp[aQ,Act.put,Array.getD,b,c]
    · have:Nat.beq k t=false:=Bool.eq_false_iff.2 fun a=>hk (Nat.eq_of_beq_eq_true a)
      simp only[this,cond_false]at h;have C:=ih h;rw[<- C];show((aQ A D r).tmps.setIfInBounds k d).getD t undef=_;simp[hk]
theorem bM {x:Operand} {v:Value} (h:ev n l x=some v):(aQ A D l).eval x=v:=by
  cases x with
  | tmp t =>
    simp only[ev]at h;cases ht:Nat.ble n t with
    | true=>simp[ht]at h
    | false =>
      simp only[ht,cond_false]at h;have:t<n:=Nat.lt_of_not_le fun B=>by rw[Nat.ble_eq_true_of_le B]at ht;cases ht
      exact aaP this h
  | const u=>simp only[ev,Option.some.injEq]at h;exact h
  | global g=>simp only[ev,Option.some.injEq]at h;exact h
  | func f=>simp only[ev,Option.some.injEq]at h;exact h
def evs (n:Nat) (l:List (Nat × Value)):List Operand->Option (List Value)
  | []=>some []
  | x :: r=>match ev n l x,evs n l r with
    | some v,some vs=>some (v :: vs)
    | _,_=>none
theorem mP {xs:List Operand} {vs:List Value} (h:evs n l xs=some vs):xs.map (aQ A D l).eval=vs:=by
  induction xs generalizing vs with
  | nil=>simpa [evs]using h
  | cons x r ih =>
    simp only[evs]at h;split at h
    · rename_i v us h1 h2
      simp at h;subst h;simp[bM h1,ih h2]
    · cases h
def Fits (n:Nat) (l:List (Nat × Value)):List (Nat × Value)->Prop
  | []=>True
  | (t,v) :: r=>ev n l (.tmp t)=some v/\Fits n l r
theorem SB (a:Act) (t:Nat) (v:Value) (h:a.tmps.getD t undef=v):a.put (some t) v=a:=by
  cases a with
  | mk tm ds =>
    simp only[Act.put];congr 1;apply Array.ext
    · simp
    · intro i A B
      rw[Array.getElem_setIfInBounds];split
      · rename_i e;subst e;subst h;simp at A;simp[Array.getD,A]
      · rfl
theorem afT (a:Act) (h:a.defers=D):(⟨a.tmps,D⟩:Act)=a:=by cases a;subst h;rfl
theorem cV {a:List (Nat × Value)} (h:Fits n l a):aQ (⟨(aQ A D l).tmps,ze⟩:Fr n) D a=aQ A D l:=by
  induction a with
  | nil=>exact afT _ fK
  | cons p r ih =>
    obtain⟨t,v⟩:=p;simp only[Fits]at h;simp only[aQ];rw[ih h.2];exact SB _ _ _ (by have:=bM (A:=A) (D:=D) h.1;simpa [Act.eval]using this)
end
structure Md (S:List Nat) (w w':World):Prop where
  os:w'.os=w.os
  tape:w'.tape=w.tape
  output:w'.output=w.output
  size:w.heap.size<=w'.heap.size
  block:∀k,k<w.heap.size->k∉S->w'.heap[k]? = w.heap[k]?
class Tp (w w':World) (A:Prop) (B:outParam Prop):Prop where t:Md [] w w'->A->B
theorem k2 {w c:World} {A e d f:Prop} [Tp w c A d] [Tp w c e f] (m:Md [] w c) (a:A) (b:e):d/\f:=⟨Tp.t m a,Tp.t m b⟩
theorem k3 {w d:World} {A f C e g h:Prop} [Tp w d A e] [Tp w d f g] [Tp w d C h] (m:Md [] w d) (a:A) (b:f) (c:C):e/\g/\h:=⟨Tp.t m a,Tp.t m b,Tp.t m c⟩
theorem k4 {w e:World} {A g C D f h i j:Prop} [Tp w e A f] [Tp w e g h] [Tp w e C i] [Tp w e D j] (m:Md [] w e) (a:A) (b:g) (c:C) (d:D):f/\h/\i/\j:=⟨Tp.t m a,Tp.t m b,Tp.t m c,Tp.t m d⟩
theorem k5 {w f:World} {A h C D E g i j k l:Prop} [Tp w f A g] [Tp w f h i] [Tp w f C j] [Tp w f D k] [Tp w f E l] (m:Md [] w f) (a:A) (b:h) (c:C) (d:D) (e:E):g/\i/\j/\k/\l:=⟨Tp.t m a,Tp.t m b,Tp.t m c,Tp.t m d,Tp.t m e⟩
theorem k6 {w g:World} {A i C D E o h j k l n p:Prop} [Tp w g A h] [Tp w g i j] [Tp w g C k] [Tp w g D l] [Tp w g E n] [Tp w g o p] (m:Md [] w g) (a:A) (b:i) (c:C) (d:D) (e:E) (f:o):h/\j/\k/\l/\n/\p:=⟨Tp.t m a,Tp.t m b,Tp.t m c,Tp.t m d,Tp.t m e,Tp.t m f⟩
theorem k7 {w h:World} {A j C D E p G i k l n o q r:Prop} [Tp w h A i] [Tp w h j k] [Tp w h C l] [Tp w h D n] [Tp w h E o] [Tp w h p q] [Tp w h G r] (m:Md [] w h) (a:A) (b:j) (c:C) (d:D) (e:E) (f:p) (g:G):i/\k/\l/\n/\o/\q/\r:=⟨Tp.t m a,Tp.t m b,Tp.t m c,Tp.t m d,Tp.t m e,Tp.t m f,Tp.t m g⟩
theorem k8 {w i:World} {A k C D E q G H j l n o p r s u:Prop} [Tp w i A j] [Tp w i k l] [Tp w i C n] [Tp w i D o] [Tp w i E p] [Tp w i q r] [Tp w i G s] [Tp w i H u] (m:Md [] w i) (a:A) (b:k) (c:C) (d:D) (e:E) (f:q) (g:G) (h:H):j/\l/\n/\o/\p/\r/\s/\u:=⟨Tp.t m a,Tp.t m b,Tp.t m c,Tp.t m d,Tp.t m e,Tp.t m f,Tp.t m g,Tp.t m h⟩
theorem Md.refl (S:List Nat) (w:World):Md S w w:=⟨q,q,q,Nat.le_refl _,fun _ _ _=>rfl⟩
theorem Md.trans {S:List Nat} {a b c:World} (h:Md S a b) (k:Md S b c):Md S a c :=
  ⟨k.os.trans h.os,k.tape.trans h.tape,k.output.trans h.output,lv h.size k.size,fun i hi d=>(k.block i (lj hi h.size) d).trans (h.block i hi d)⟩
theorem Md.mono {S T:List Nat} {a b:World} (h:Md S a b) (d:∀k,k∈S->k<a.heap.size->k∈T):Md T a b :=
  ⟨h.os,h.tape,h.output,h.size,fun i hi e=>h.block i hi fun c=>e (d i c hi)⟩
theorem Md.step {S T:List Nat} {a b c:World} (h:Md S a b) (k:Md T b c) (e:∀i,i∈T->i∈S\/a.heap.size<=i):Md S a c :=
  ⟨k.os.trans h.os,k.tape.trans h.tape,k.output.trans h.output,lv h.size k.size,fun i hi d =>
    (k.block i (lj hi h.size) fun f=>(e i f).elim d fun g=>by omega).trans (h.block i hi d)⟩
theorem Md.k {S:List Nat} {a b c:World} (h:Md S a b) (k:Md [] b c):Md S a c:=h.step k Oy
instance anB {S:List Nat} {a b c:World}:Tp b c (Md S a b) (Md S a c):=⟨fun m h=>h.k m⟩
theorem Md.dX {S:List Nat} {a b c:World} {i:Nat} (h:Md S a b) (k:Md [i] b c) (hi:a.heap.size<=i):Md S a c :=
  h.step k (by intro e d;simp at d;subst d;exact .inr hi)
theorem Md.gT {S:List Nat} {a b c:World} {i:Nat} (h:Md S a b) (k:Md [i] b c) (hi:i∈S):Md S a c :=
  h.step k (by intro e d;simp at d;subst d;exact .inl hi)
theorem Md.below {w a:World} (h:Md [] w a):Below w.heap.size w a:=⟨h.os,h.tape,h.output,h.size,fun k hk=>h.block k hk Oy⟩
theorem Md.drew (w:World):Md [] w {w with drawn:=w.drawn+1}:=⟨q,q,q,Nat.le_refl _,fun _ _ _=>rfl⟩
theorem Md.alloc (w:World) (o:Obj):Md [] w (w.alloc o):=⟨q,q,q,by simp,fun _ hk _=>heap_alloc_old w o hk⟩
theorem Md.setCell (w:World) (a:Addr) (u:Value):Md [a.block] w (w.setCell a u) :=
  ⟨q,q,q,by simp[World.setCell],fun k _ b=>Below.heap_setCell w a u k (by simpa using b)⟩
theorem Md.grown {w a:World} {r:Option Nat} (h:w.grownBy a r):Md r.toList w a :=
  ⟨h.os,h.tape,h.output,h.size,fun k hk b=>h.block k hk (by rintro rfl;simp at b)⟩
theorem Md.cell {S:List Nat} {w b:World} {p:Addr} {u:Value} (h:Md S w b) (a:w.cell? p=some u) (c:p.block∉S):b.cell? p=some u :=
  (World.cell?_of_block (h.block p.block (World.block_lt_of_cell? w p a) c)).trans a
def bC (w:World) (b:Nat) (cs:List Value) (ty:TypeId):Prop:=w.heap[b]? = some (.cells cs.toArray ty (0,0))
section
variable {w w':World} {b:Nat} {cs:List Value} {ty:TypeId}
theorem bC.lt (h:bC w b cs ty):b<w.heap.size:=(Array.getElem?_eq_some_iff.1 h).1
theorem bC.md {S:List Nat} (h:bC w b cs ty) (m:Md S w w') (a:b∉S):bC w' b cs ty:=(m.block b h.lt a).trans h
theorem bC.o (h:bC w b cs ty) (m:Md [] w w'):bC w' b cs ty:=h.md m Oy
instance an0:Tp w w' (bC w b cs ty) (bC w' b cs ty):=⟨fun m h=>h.o m⟩
theorem bC.uO {i:Nat} (h:bC w b cs ty) (m:Md [i] w w') (hi:b≠i):bC w' b cs ty:=h.md m (by simpa using hi)
theorem bC.cell (h:bC w b cs ty) (j:Nat):w.cell? ⟨b,j,none⟩=cs[j]?:=by unfold bC at h;simp[World.cell?,h]
theorem bC.frozen (h:bC w b cs ty) (j:Nat):w.frozen? ⟨b,j,none⟩=false:=by unfold bC at h;simp[World.frozen?,h]
theorem bC.set (h:bC w b cs ty) (j:Nat) (u:Value):bC (w.setCell ⟨b,j,none⟩ u) b (cs.set j u) ty:=by have A:=h.lt;unfold bC at h ⊢;simp only[World.setCell,Array.getElem?_modify,h];simp
theorem bC.new (w:World) (cs:List Value) (ty:TypeId):bC (w.alloc (.cells cs.toArray ty)) w.heap.size cs ty:=heap_alloc_new w _
end
def Sl (w:World) (v:Value) (l:List Value):Prop :=
  ∃a cap,v = .slice a l.length cap/\l.length<=cap/\cap<=maxLen/\(a=none->cap=0)/\∀p,a=some p->∀j u,l[j]? = some u->w.cell? (p.add j)=some u
def b8 (x:UInt8):Value:=.int .u8 (x.toNat:Int)
def By (w:World) (v:Value) (l:List UInt8):Prop:=Sl w v (l.map b8)
def mO:Value->Nat->Value
  | .slice (some p) _ _,i=>.pointer (some (p.add i))
  | _,_=>undef
def oJ:Value->Nat->Nat->Value
  | .slice a _ cap,lo,hi=>.slice (if cap=lo then a else a.map (·.add lo)) (hi-lo) (cap-lo)
  | _,_,_=>undef
theorem Addr.add_block (p:Addr) (j:Nat):(p.add j).block=p.block:=by unfold Addr.add;split<;>rfl
theorem Addr.add_add (p:Addr) (i j:Nat):(p.add i).add j=p.add (i+j):=by
  unfold Addr.add
  by_cases hi:i=0 <;> by_cases hj:j=0 <;> simp[hi,hj]
  omega
theorem Addr.kH (b o j:Nat):(⟨b,o,none⟩:Addr).add j=⟨b,o+j,none⟩:=by unfold Addr.add;split<;>simp_all
section
variable {w w':World} {v:Value} {l:List Value}
theorem Sl.nil (w:World):Sl w (.slice none 0 0) []:=⟨none,0,q,Nat.le_refl _,by simp[maxLen],fun _=>rfl,by simp⟩
theorem Sl.EL (h:Sl w v l):l.length<=maxLen:=by obtain⟨a,A,_,B,C,_⟩:=h;omega
theorem Sl.o (h:Sl w v l) (m:Md [] w w'):Sl w' v l:=by obtain⟨a,A,B,C,D,E,F⟩:=h;exact⟨a,A,B,C,D,E,fun p G j u H=>m.cell (F p G j u H) Oy⟩
instance anE:Tp w w' (Sl w v l) (Sl w' v l):=⟨fun m h=>h.o m⟩
def ah:Value->Option Nat
  | .slice (some p) _ _=>some p.block
  | _=>none
theorem SS:(∀{c:Prop} {h:Decidable c} (_:c) {α:Type} {t e:α},(if c then t else e)=t)/\(∀{c:Prop} {h:Decidable c} (_:¬c) {α:Type} {t e:α},(if c then t else e)=e)/\(∀{α:Type} {a b:α},(some a).getD b=a)/\(∀{α:Type} {a b:α},(some a=some b)=(a=b))/\((false=true)=False)/\((true=false)=False)/\(∀{h:Decidable True},@decide True h=true)/\(∀{h:Decidable False},@decide False h=false)/\((¬True)=False)/\((¬False)=True) :=
  ⟨fun h=>if_pos h,fun h=>if_neg h,q,by simp,by simp,by simp,by simp,by simp,by simp,by simp⟩
theorem LL:(∀{α:Type} {a:α} {l:List α},(a :: l).length=l.length+1)/\(∀{α:Type},([]:List α).length=0)/\(∀{α:Type} {a b:List α},(a ++ b).length=a.length+b.length)/\(∀{α:Type} {n:Nat} {a:α},(List.replicate n a).length=n)/\(∀(n:Nat),0+n=n) :=
  ⟨q,q,by simp,by simp,by simp⟩
def zr (n:Nat) (v:Value):List Value:=List.replicate n v
def ml (n:Nat):List (Nat × Bool):=(List.range n).map fun i=>(i,true)
abbrev Ly:=List UInt8
abbrev vS (b:Nat) (x y z:Value):List Nat:=b :: (ah x).toList ++ ((ah y).toList ++ ((ah z).toList))
def OE (v:Value) (m:Nat):Prop:=∃a cap,v = .slice a m cap/\m<=cap/\cap<=maxLen/\(a=none->cap=0)
theorem Sl.di (h:Sl w v l):OE v l.length:=by obtain⟨a,A,B,C,D,E,_⟩:=h;exact⟨a,A,B,C,D,E⟩
def Apart {α:Type} (v:Value) (l:List α) (S:List Nat):Prop:=∀b,ah v=some b->l≠[]->b∉S
theorem Sl.lt {b:Nat} (h:Sl w v l) (hb:ah v=some b) (d:l≠[]):b<w.heap.size:=by
  obtain⟨c,e,a,D,f,g,C⟩:=h;cases l with
  | nil=>exact absurd q d
  | cons u r =>
    subst a;cases c with
    | none=>simp[ah]at hb
    | some p =>
      have:=World.block_lt_of_cell? w _ (C p q 0 u q);rw[Addr.add_block]at this;simp[ah]at hb;omega
theorem Apart.aj0 {S:List Nat} (h:Sl w v l) (a:∀i∈S,w.heap.size<=i):Apart v l S:=fun b hb c d=>by have:=h.lt hb c;have:=a b d;omega
theorem GU {lo hi b:Nat} (h:ah (oJ v lo hi)=some b):ah v=some b:=by
  cases v with
  | slice a len cap =>
    cases a with
    | none=>simp only[oJ]at h;split at h <;> simp[ah]at h
    | some p =>
      simp only[oJ]at h;split at h
      · exact h
      · simp only[Option.map_some,ah,Addr.add_block]at h;exact h
  | _=>simp[oJ,undef,ah]at h
theorem Apart.sub {c:Type} {l:List c} {S:List Nat} (h:Apart v l S) (lo hi:Nat):Apart (oJ v lo hi) ((l.take hi).drop lo) S:=fun b hb a=>h b (GU hb) (by rintro rfl;simp at a)
theorem Sl.md {S:List Nat} (h:Sl w v l) (m:Md S w w') (f:Apart v l S):Sl w' v l:=by obtain⟨e,b,a,c,d,G,H⟩:=h;refine⟨e,b,a,c,d,G,fun p C g i D=>m.cell (H p C g i D) ?_⟩;subst a;subst C;rw[Addr.add_block];exact f _ q (by rintro rfl;simp at D)
theorem Sl.cG {b:Nat} {cs:List Value} {ty:TypeId} (h:bC w b cs ty) (a:cs.length<=maxLen):Sl w (.slice (some ⟨b,0,none⟩) cs.length cs.length) cs :=
  ⟨_,_,q,Nat.le_refl _,a,by simp,fun p c e f d=>by cases c;rw[Addr.kH,Nat.zero_add,h.cell];exact d⟩
theorem Sl.rZ {base:Nat} {e:TypeId} (h:w.ownsRow base e 1 v l.length l):Sl w v l:=by
  rcases h.2 with⟨rfl,C⟩|⟨g,A,B,rfl,H,I,E,D,J,K⟩
  · have:l=[]:=List.eq_nil_of_length_eq_zero C
    subst this;exact Sl.nil w
  exact⟨_,A,q,E,D,by simp,fun p F j u G=>by cases F;exact h.cells (g:=g) q j u G⟩
theorem Sl.sub (h:Sl w v l) (lo hi:Nat) (h1:lo<=hi) (j:hi<=l.length):Sl w (oJ v lo hi) ((l.take hi).drop lo):=by
  obtain⟨b,c,rfl,G,H,e,f⟩:=h;refine⟨if c=lo then b else b.map (·.add lo),c-lo,?_,?_,by omega,?_,?_⟩
  · simp only[oJ];congr 1;simp;omega
  · simp;omega
  · intro h
    split at h
    · omega
    cases b with
    | none=>have:=e rfl;omega
    | some p=>simp at h
  intro p a d g C;have i:d<hi-lo:=by have:=(List.getElem?_eq_some_iff.1 C).1;simp at this;omega
  have D:c≠lo:=by omega
  rw[if_neg D]at a;cases b with
  | none=>simp at a
  | some q =>
    simp at a;subst a;rw[Addr.add_add];refine f q rfl (lo+d) g ?_;rw[List.getElem?_drop,List.getElem?_take]at C;rw[if_pos Xx]at C;exact C
end
theorem By.sub {w:World} {v:Value} {l:Ly} (h:By w v l) (lo hi:Nat) (h1:lo<=hi) (a:hi<=l.length):By w (oJ v lo hi) ((l.take hi).drop lo):=by
  have:=Sl.sub h lo hi h1 (by simpa using a);unfold By
  rwa [List.map_drop,List.map_take]
theorem By.di {w:World} {v:Value} {l:Ly} (h:By w v l):OE v l.length:=by have:=Sl.di h;simpa using this
theorem By.o {w a:World} {v:Value} {l:Ly} (h:By w v l) (m:Md [] w a):By a v l:=Sl.o h m
instance an9 {w w':World} {v:Value} {l:Ly}:Tp w w' (By w v l) (By w' v l):=⟨fun m h=>h.o m⟩
theorem By.md {S:List Nat} {w a:World} {v:Value} {l:Ly} (h:By w v l) (m:Md S w a) (d:Apart v l S):By a v l:=Sl.md h m (fun b hb c=>d b hb (by rintro rfl;simp at c))
theorem Apart.agP {w:World} {v:Value} {l:Ly} {S:List Nat} (h:By w v l) (a:∀i∈S,w.heap.size<=i):Apart v l S:=fun b hb c=>Apart.aj0 h a b hb (by simpa using c)
theorem By.cG {w:World} {b:Nat} {l:Ly} {ty:TypeId} {m:Nat} (h:bC w b (l.map b8) ty) (a:l.length=m) (c:m<=maxLen):By w (.slice (some ⟨b,0,none⟩) m m) l:=by have:=Sl.cG h (by simpa [a]using c);simpa [By,a]using this
theorem By.EL {w:World} {v:Value} {l:Ly} (h:By w v l):l.length<=maxLen:=by have:=Sl.EL h;simpa using this
theorem XT (l:Ly) (i:Nat) (h:i<l.length):(l.map b8)[i]? = some (b8 (l.getD i 0)):=by simp[List.getD,h]
theorem By.head {w:World} {v:Value} {l:Ly} (h:By w v l) (k:Nat) (hk:k<=l.length):By w (oJ v 0 k) (l.take k):=by simpa using h.sub 0 k (Nat.zero_le _) hk
theorem By.tail {w:World} {v:Value} {l:Ly} (h:By w v l) (k:Nat) (hk:k<=l.length):By w (oJ v k l.length) (l.drop k):=by simpa using h.sub k l.length hk (Nat.le_refl _)
theorem Apart.tail {α:Type} {v:Value} {l:List α} {S:List Nat} (h:Apart v l S) (k:Nat):Apart (oJ v k l.length) (l.drop k) S:=by simpa using h.sub k l.length
def iI (P:Program) (t:TypeId):Bool :=
  match P.underlying t with
  | some (.struct _)|some (.array _ _)|none=>false
  | some _=>Nat.beq (P.cellsOf t) 1
def fI (P:Program) (t:TypeId) (n:Nat):Bool :=
  match P.underlying t with
  | some (.struct _)|some (.array _ _)=>match P.info? t with
    | some i=>Nat.beq i.size n
    | none=>false
  | _=>false
def aP (P:Program) (s:TypeId) (f:Nat):Option Nat :=
  match P.underlying s with
  | some (.struct fs)=>match fs[f]? with
    | some fd=>match P.info? fd.type with
      | some i=>if i.size=0 then none else some fd.offset
      | none=>none
    | none=>none
  | _=>none
def dU (P:Program) (t:TypeId):Option (List Value) :=
  match P.info? t with
  | some i=>match i.zero with
    | some z=>some z.cells.toList
    | none=>none
  | none=>none
def gw (P:Program) (e:TypeId) (n:Nat):Bool :=
  match P.info? e with
  | some i=>Nat.beq i.size n
  | none=>false
theorem EA {P:Program} {t:TypeId} (h:iI P t=true):∃d i,P.underlying t=some d/\P.info? t=some i/\i.size=1/\(d matches .struct _|.array _ _)=false:=by
  unfold iI at h;split at h
  · cases h
  · cases h
  · cases h
  rename_i d h1 h2 hd;refine⟨d,?_⟩;cases hi:P.info? t with
  | none=>simp[Program.cellsOf,hi]at h
  | some i =>
    refine⟨i,hd,q,by simpa [Program.cellsOf,hi]using h,?_⟩;cases d <;> simp_all
theorem ql {P:Program} {t:TypeId} {n:Nat} (h:fI P t n=true):∃d i,P.underlying t=some d/\P.info? t=some i/\i.size=n/\(d matches .struct _|.array _ _)=true:=by
  unfold fI at h;split at h
  · rename_i d hd
    split at h
    · rename_i i hi;exact⟨_,i,hd,hi,by simpa using h,q⟩
    cases h
  · rename_i d hd
    split at h
    · rename_i i hi;exact⟨_,i,hd,hi,by simpa using h,q⟩
    cases h
  cases h
theorem nS {P:Program} {t:TypeId} (h:iI P t=true) (w:World):(isAgg t).run P w = .ok false w:=by obtain⟨d,i,A,B,C,D⟩:=EA h;simp only[isAgg,Sem.run_bind,run_underlying A,Result.andThen_ok];cases d <;> simp_all
theorem vC {P:Program} {t:TypeId} {n:Nat} (h:fI P t n=true) (w:World):(isAgg t).run P w = .ok true w:=by obtain⟨d,i,A,B,C,D⟩:=ql h;simp only[isAgg,Sem.run_bind,run_underlying A,Result.andThen_ok];cases d <;> simp_all
theorem e7 {P:Program} {t:TypeId} {i:TypeInfo} (h:P.info? t=some i) (w:World):(sizeOf t).run P w = .ok i.size w:=by simp[sizeOf,typeInfo,h]
end Go.Wk
namespace Go.Wk
open Go Go.RowKit
def bZ (P:Program) (o:Oper) (e:Operand->Value) (w:World) (v:Value):Prop:=(execOp e o).run P w = .ok (.value v) w
section
variable {P:Program} {n:Nat} {A:Fr n} {D:List Deferred} {l:List (Nat × Value)} {w:World}
variable {d:Option Tmp} {ty:TypeId} {ps:String} {af:Array Edge} {g:Option (Nat × Bool)}
theorem aM {x:Operand} {v:Value} (h:ev n l x=some v):bZ P ⟨d,.move x,ty,ps,af,g⟩ (aQ A D l).eval w v:=by simp[bZ,execOp,bM h]
theorem eX {x:Operand} {v:Value} (h:ev n l x=some v):bZ P ⟨d,.assign x,ty,ps,af,g⟩ (aQ A D l).eval w v:=by simp[bZ,execOp,bM h]
theorem bg {c x y:Operand} {b:Bool} {v:Value} (a:ev n l c=some (.bool b)) (hb:b=true) (h:ev n l x=some v) :
    bZ P ⟨d,.pick c x y,ty,ps,af,g⟩ (aQ A D l).eval w v:=by
  subst hb;simp[bZ,execOp,bM h,bM a,asBool]
theorem aZ {c x y:Operand} {b:Bool} {v:Value} (a:ev n l c=some (.bool b)) (hb:b=false) (h:ev n l y=some v) :
    bZ P ⟨d,.pick c x y,ty,ps,af,g⟩ (aQ A D l).eval w v:=by
  subst hb;simp[bZ,execOp,bM h,bM a,asBool]
theorem jJ {x:Operand} {i:Nat} {vs:Array Value} {v:Value} (h:ev n l x=some (.tuple vs)) (a:vs[i]? = some v) :
    bZ P ⟨d,.extract x i,ty,ps,af,g⟩ (aQ A D l).eval w v:=by
  simp[bZ,execOp,bM h,Instr.extract,a]
theorem gR {x:Operand} {t:TypeId} {b:Bool} (h:ev n l x=some (.bool b)) :
    bZ P ⟨d,.unOp .not t x,ty,ps,af,g⟩ (aQ A D l).eval w (.bool !b):=by
  simp[bZ,execOp,bM h,Op.unary]
theorem cA {x:Operand} {p:Addr} (h:ev n l x=some (.pointer (some p))) :
    bZ P ⟨d,.nilCheck x,ty,ps,af,g⟩ (aQ A D l).eval w (.pointer (some p)):=by
  simp[bZ,execOp,bM h]
theorem oz {c:BinOp} {x y:Operand} {t u:TypeId} {k j:IntKind} {a b:Int} {r:Value} (f:ev n l x=some (.int k a)) (h:ev n l y=some (.int j b))
    (hr:(binOp c t (.int k a) (.int j b)).run P w = .ok r w):bZ P ⟨d,.binOp c t x y u,ty,ps,af,g⟩ (aQ A D l).eval w r:=by
  have e:(eqGuard c t x y (.int k a) (.int j b)).run P w = .ok () w:=by unfold eqGuard;cases c <;> simp
  simp[bZ,execOp,bM f,bM h,e,hr]
theorem iJ {x y:Operand} {t u:TypeId} {k:IntKind} {a b:Int} (c:ev n l x=some (.int k a)) (e:ev n l y=some (.int k b)) :
    bZ P ⟨d,.binOp .add t x y u,ty,ps,af,g⟩ (aQ A D l).eval w (.int k (k.wrap (a+b))):=oz c e (by simp[binOp,Op.intArith])
theorem iR {x y:Operand} {t u:TypeId} {k:IntKind} {a b:Int} (c:ev n l x=some (.int k a)) (e:ev n l y=some (.int k b)) :
    bZ P ⟨d,.binOp .sub t x y u,ty,ps,af,g⟩ (aQ A D l).eval w (.int k (k.wrap (a-b))):=oz c e (by simp[binOp,Op.intArith])
theorem alQ {x y:Operand} {t u:TypeId} {k:IntKind} {a b:Int} (c:ev n l x=some (.int k a)) (e:ev n l y=some (.int k b)) :
    bZ P ⟨d,.binOp .mul t x y u,ty,ps,af,g⟩ (aQ A D l).eval w (.int k (k.wrap (a*b))):=oz c e (by simp[binOp,Op.intArith])
theorem alS {x y:Operand} {t u:TypeId} {k:IntKind} {a b:Int} (e:ev n l x=some (.int k a)) (f:ev n l y=some (.int k b)) (c:b≠0) :
    bZ P ⟨d,.binOp .quo t x y u,ty,ps,af,g⟩ (aQ A D l).eval w (.int k (k.wrap (a.tdiv b))):=oz e f (by simp[binOp,Op.intDiv,c])
theorem afd {x y:Operand} {t u:TypeId} {k:IntKind} {a b:Int} (e:ev n l x=some (.int k a)) (f:ev n l y=some (.int k b)) (c:b≠0) :
    bZ P ⟨d,.binOp .rem t x y u,ty,ps,af,g⟩ (aQ A D l).eval w (.int k (a.tmod b)):=oz e f (by simp[binOp,Op.intDiv,c])
theorem aeX {x y:Operand} {t u:TypeId} {k:IntKind} {a b:Int} (c:ev n l x=some (.int k a)) (e:ev n l y=some (.int k b)) :
    bZ P ⟨d,.binOp .and t x y u,ty,ps,af,g⟩ (aQ A D l).eval w (.int k (bits .and k a b)):=oz c e (by simp[binOp];rfl)
theorem zk {x y:Operand} {t u:TypeId} {k:IntKind} {a b:Int} (c:ev n l x=some (.int k a)) (e:ev n l y=some (.int k b)) :
    bZ P ⟨d,.binOp .or t x y u,ty,ps,af,g⟩ (aQ A D l).eval w (.int k (bits .or k a b)):=oz c e (by simp[binOp];rfl)
theorem eK {x y:Operand} {t u:TypeId} {k:IntKind} {a b:Int} (c:ev n l x=some (.int k a)) (e:ev n l y=some (.int k b)) :
    bZ P ⟨d,.binOp .xor t x y u,ty,ps,af,g⟩ (aQ A D l).eval w (.int k (bits .xor k a b)):=oz c e (by simp[binOp];rfl)
theorem aeY {x y:Operand} {t u:TypeId} {k:IntKind} {a b:Int} (c:ev n l x=some (.int k a)) (e:ev n l y=some (.int k b)) :
    bZ P ⟨d,.binOp .andNot t x y u,ty,ps,af,g⟩ (aQ A D l).eval w (.int k (bits .andNot k a b)):=oz c e (by simp[binOp];rfl)
def ni (k:IntKind) (a b:Int):Int:=k.wrap (a*2 ^ min b.toNat k.bits)
def ah0 (k:IntKind) (a b:Int):Int:=a/2 ^ min b.toNat k.bits
theorem qu {x y:Operand} {t u:TypeId} {k j:IntKind} {a b:Int} (e:ev n l x=some (.int k a)) (f:ev n l y=some (.int j b)) (c:0<=b) :
    bZ P ⟨d,.binOp .shl t x y u,ty,ps,af,g⟩ (aQ A D l).eval w (.int k (ni k a b)):=oz e f (by simp only[binOp];rw[shift_shl_any k j a b c];rfl)
theorem SG {x y:Operand} {t u:TypeId} {k j:IntKind} {a b:Int} (e:ev n l x=some (.int k a)) (f:ev n l y=some (.int j b)) (c:0<=b) :
    bZ P ⟨d,.binOp .shr t x y u,ty,ps,af,g⟩ (aQ A D l).eval w (.int k (ah0 k a b)):=oz e f (by simp only[binOp];rw[shift_shr_any k j a b c];rfl)
theorem lT {x y:Operand} {t u:TypeId} {k:IntKind} {a b:Int} (c:ev n l x=some (.int k a)) (e:ev n l y=some (.int k b)) :
    bZ P ⟨d,.binOp .eql t x y u,ty,ps,af,g⟩ (aQ A D l).eval w (.bool (decide (a=b))):=oz c e (by simp[binOp,Op.intCmp];rw[Bool.eq_iff_iff];simp)
theorem VX {x y:Operand} {t u:TypeId} {k:IntKind} {a b:Int} (c:ev n l x=some (.int k a)) (e:ev n l y=some (.int k b)) :
    bZ P ⟨d,.binOp .neq t x y u,ty,ps,af,g⟩ (aQ A D l).eval w (.bool (decide (a≠b))):=oz c e (by simp[binOp,Op.intCmp];rw[Bool.eq_iff_iff];simp)
theorem rJ {x y:Operand} {t u:TypeId} {k:IntKind} {a b:Int} (c:ev n l x=some (.int k a)) (e:ev n l y=some (.int k b)) :
    bZ P ⟨d,.binOp .lss t x y u,ty,ps,af,g⟩ (aQ A D l).eval w (.bool (decide (a<b))):=oz c e (by simp[binOp,Op.intCmp])
theorem xL {x y:Operand} {t u:TypeId} {k:IntKind} {a b:Int} (c:ev n l x=some (.int k a)) (e:ev n l y=some (.int k b)) :
    bZ P ⟨d,.binOp .leq t x y u,ty,ps,af,g⟩ (aQ A D l).eval w (.bool (decide (a<=b))):=oz c e (by simp[binOp,Op.intCmp])
theorem vi {x y:Operand} {t u:TypeId} {k:IntKind} {a b:Int} (c:ev n l x=some (.int k a)) (e:ev n l y=some (.int k b)) :
    bZ P ⟨d,.binOp .gtr t x y u,ty,ps,af,g⟩ (aQ A D l).eval w (.bool (decide (b<a))):=oz c e (by simp[binOp,Op.intCmp])
theorem qc {x y:Operand} {t u:TypeId} {k:IntKind} {a b:Int} (c:ev n l x=some (.int k a)) (e:ev n l y=some (.int k b)) :
    bZ P ⟨d,.binOp .geq t x y u,ty,ps,af,g⟩ (aQ A D l).eval w (.bool (decide (b<=a))):=oz c e (by simp[binOp,Op.intCmp])
theorem wrap_i64 {x:Int} (a:-9223372036854775808<=x) (h1:x<=9223372036854775807):IntKind.i64.wrap x=x:=by simp[IntKind.wrap,IntKind.bits,IntKind.signed];omega
theorem wrap_u64 {x:Int} (a:0<=x) (h1:x<18446744073709551616):IntKind.u64.wrap x=x:=by simp[IntKind.wrap,IntKind.bits,IntKind.signed];omega
theorem wrap_u32 {x:Int} (a:0<=x) (h1:x<4294967296):IntKind.u32.wrap x=x:=by simp[IntKind.wrap,IntKind.bits,IntKind.signed];omega
theorem O3 (x:Int):IntKind.u64.wrap x=x%18446744073709551616:=by simp[IntKind.wrap,IntKind.bits,IntKind.signed]
theorem TQ (x:Int):IntKind.u8.wrap x=x%256:=by simp[IntKind.wrap,IntKind.bits,IntKind.signed]
theorem eG {x y:Operand} {t u:TypeId} {a b:Int} (c:ev n l x=some (.int .i64 a)) (e:ev n l y=some (.int .i64 b)) (h:-9223372036854775808<=a+b/\a+b<=9223372036854775807) :
    bZ P ⟨d,.binOp .add t x y u,ty,ps,af,g⟩ (aQ A D l).eval w (.int .i64 (a+b)):=by have:=iJ (P:=P) (A:=A) (D:=D) (w:=w) (d:=d) (t:=t) (u:=u) (ty:=ty) (ps:=ps) (af:=af) (g:=g) c e;rwa [wrap_i64 h.1 h.2]at this
theorem jK {x y:Operand} {t u:TypeId} {a b:Int} (c:ev n l x=some (.int .i64 a)) (e:ev n l y=some (.int .i64 b)) (h:-9223372036854775808<=a-b/\a-b<=9223372036854775807) :
    bZ P ⟨d,.binOp .sub t x y u,ty,ps,af,g⟩ (aQ A D l).eval w (.int .i64 (a-b)):=by have:=iR (P:=P) (A:=A) (D:=D) (w:=w) (d:=d) (t:=t) (u:=u) (ty:=ty) (ps:=ps) (af:=af) (g:=g) c e;rwa [wrap_i64 h.1 h.2]at this
theorem iO {x:Operand} {s t:TypeId} {k j:IntKind} {a:Int} (c:(P.underlying s).isSome=true) (e:P.underlying t=some (.int k)) (f:ev n l x=some (.int j a)) :
    bZ P ⟨d,.convert s t x,ty,ps,af,g⟩ (aQ A D l).eval w (.int k (k.wrap a)):=by
  obtain⟨C,b⟩:=Option.isSome_iff_exists.1 c;simp[bZ,execOp,bM f,convert,run_underlying b,run_underlying e,Conv.intToInt]
theorem ai3 {x y:Operand} {f:Array TypeId} {k j:IntKind} {a b:Int} (c:ev n l x=some (.int k a)) (e:ev n l y=some (.int j b)) :
    bZ P ⟨d,.call {callee:=.builtin .min,args:=#[x,y],argTypes:=f},ty,ps,af,g⟩ (aQ A D l).eval w (.int k (if b<a then b else a)):=by
  simp[bZ,execOp,bM c,bM e,resolve,invoke,builtin,Builtin.min_,Builtin.min2]
theorem j9 {x:Operand} {v:Value} {m:Nat} {t e:TypeId} (c:ev n l x=some v) (b:P.underlying t=some (.slice e)) (a:OE v m) :
    bZ P ⟨d,.call {callee:=.builtin .len,args:=#[x],argTypes:=#[t]},ty,ps,af,g⟩ (aQ A D l).eval w (.int .i64 m):=by
  obtain⟨h,f,rfl,_⟩:=a;simp[bZ,execOp,bM c,resolve,invoke,builtin,Builtin.len_,run_underlying b,goInt]
theorem tX {x y:Operand} {v:Value} {m:Nat} {t e:TypeId} {k:IntKind} {i:Int} (sz:Nat) (j:ev n l x=some v) (o:ev n l y=some (.int k i)) (h:P.underlying t=some (.slice e)) (a:gw P e sz=true)
    (hS:OE v m) (hi:0<=i/\i<m):bZ P ⟨d,.indexAddr t x y,ty,ps,af,g⟩ (aQ A D l).eval w (mO v (i.toNat*sz)):=by
  obtain⟨f,C,rfl,q,G,c⟩:=hS;unfold gw at a;split at a
  · rename_i inf hinf
    have b:inf.size=sz:=(by simpa using a);cases f with
    | none=>have:=c rfl;omega
    | some p=>simp[bZ,execOp,bM j,bM o,Instr.indexAt,asIntOf,run_underlying h,e7 hinf,hi.1,hi.2,b,mO]
  cases a
theorem BF {x y:Operand} {v:Value} {m:Nat} {t e:TypeId} {k:IntKind} {i:Int} (c:ev n l x=some v) (f:ev n l y=some (.int k i)) (b:P.underlying t=some (.slice e)) (a:gw P e 1=true)
    (hS:OE v m) (hi:0<=i/\i<m):bZ P ⟨d,.indexAddr t x y,ty,ps,af,g⟩ (aQ A D l).eval w (mO v i.toNat):=by
  have:=tX (P:=P) (A:=A) (D:=D) (w:=w) (d:=d) (ty:=ty) (ps:=ps) (af:=af) (g:=g) 1 c f b a hS hi;simpa using this
theorem mh {x:Operand} {lo hi:Option Operand} {v:Value} {m:Nat} {t e:TypeId} (L H:Nat) (c:P.underlying t=some (.slice e)) (b:gw P e 1=true) (f:ev n l x=some v)
    (hS:OE v m) (h1:L<=H) (h2:H<=m)
    (hlo:match lo with|none=>L=0|some y=>∃k,ev n l y=some (.int k L)) (hhi:match hi with|none=>H=m|some y=>∃k,ev n l y=some (.int k H)) :
    bZ P ⟨d,.slice t x lo hi none,ty,ps,af,g⟩ (aQ A D l).eval w (oJ v L H):=by
  obtain⟨p,C,rfl,G,j,o⟩:=hS;unfold gw at b;split at b
  · rename_i inf hinf
    have a:inf.size=1:=(by simpa using b);have h:H<=C:=(by omega);cases lo with
    | none =>
      simp only at hlo;subst hlo;cases hi with
      | none =>
        simp only at hhi;subst hhi;simp[bZ,execOp,bM f,Instr.sliceAt,Instr.slice,Instr.sliceBounds,run_underlying c,e7 hinf,oJ,a]
      | some y =>
        simp only at hhi;obtain⟨k,hk⟩:=hhi;simp[bZ,execOp,bM f,bM hk,Instr.sliceAt,Instr.slice,Instr.sliceBounds,Instr.sliceBound,asIntOf,run_underlying c,e7 hinf,oJ,a,h]
    | some z =>
      simp only at hlo;obtain⟨q,i⟩:=hlo;cases hi with
      | none =>
        simp only at hhi;subst hhi;simp[bZ,execOp,bM f,bM i,Instr.sliceAt,Instr.slice,Instr.sliceBounds,Instr.sliceBound,asIntOf,run_underlying c,e7 hinf,oJ,a,h1]
      | some y =>
        simp only at hhi;obtain⟨k,hk⟩:=hhi;simp[bZ,execOp,bM f,bM i,bM hk,Instr.sliceAt,Instr.slice,Instr.sliceBounds,Instr.sliceBound,asIntOf,run_underlying c,e7 hinf,oJ,a,h1,h]
  cases b
theorem gh {x:Operand} {p:Addr} {t e:TypeId} {m:Nat} (b:P.underlying t=some (.array m e)) (a:gw P e 1=true) (c:ev n l x=some (.pointer (some p))) (f:m≠0) :
    bZ P ⟨d,.slice t x none none none,ty,ps,af,g⟩ (aQ A D l).eval w (.slice (some p) m m):=by
  unfold gw at a;split at a
  · rename_i inf hinf
    simp[bZ,execOp,bM c,Instr.sliceAt,Instr.sureAddr,Instr.sliceBounds,run_underlying b,e7 hinf,Addr.add]
  cases a
theorem VW {x:Operand} {t:TypeId} {p:Addr} {u:Value} (c:ev n l x=some (.pointer (some p))) (a:iI P t=true) (b:w.cell? p=some u) :
    bZ P ⟨d,.load t x,ty,ps,af,g⟩ (aQ A D l).eval w u:=by
  simp[bZ,execOp,bM c,Instr.loadAt,Instr.sureAddr,loadVar,nS a,b]
theorem aG {x:Operand} {t ty':TypeId} {b j:Nat} {cs:List Value} {u:Value} (f:ev n l x=some (.pointer (some ⟨b,j,none⟩))) (c:iI P t=true) (a:bC w b cs ty') (e:cs[j]? = some u) :
    bZ P ⟨d,.load t x,ty,ps,af,g⟩ (aQ A D l).eval w u:=VW f c (by rw[a.cell];exact e)
theorem afa {x:Operand} {t:TypeId} {i:Nat} {v u:Value} {b:List Value} (j:ev n l x=some (mO v i)) (h:iI P t=true) (f:Sl w v b) (a:b[i]? = some u) :
    bZ P ⟨d,.load t x,ty,ps,af,g⟩ (aQ A D l).eval w u:=by
  obtain⟨e,k,rfl,m,G,C,c⟩:=f;have H:=(List.getElem?_eq_some_iff.1 a).1;cases e with
  | none=>have:=C rfl;omega
  | some p=>exact VW (p:=p.add i) j h (c p q i u a)
theorem BG {x:Operand} {t:TypeId} {i:Nat} {v:Value} {a:Ly} (f:ev n l x=some (mO v i)) (c:iI P t=true) (b:By w v a) (e:i<a.length) :
    bZ P ⟨d,.load t x,ty,ps,af,g⟩ (aQ A D l).eval w (b8 (a.getD i 0)):=afa f c b (XT a i e)
theorem zi {x:Operand} {t:TypeId} {p:Addr} {m:Nat} {cs:List Value} (j:ev n l x=some (.pointer (some p))) (a:fI P t m=true) (i:cs.length=m) (h:∀b c,cs[b]? = some c->w.cell? (p.add b)=some c) :
    bZ P ⟨d,.load t x,ty,ps,af,g⟩ (aQ A D l).eval w (.agg cs.toArray):=by
  obtain⟨G,k,H,e,C,o⟩:=ql a;have f:=run_loadCells_list (P:=P) (w:=w) p cs h;simp[bZ,execOp,bM j,Instr.loadAt,Instr.sureAddr,loadVar,vC a,e7 e,C,<- i,f]
theorem nM {x:Operand} {t ty':TypeId} {b:Nat} {cs:List Value} (f:ev n l x=some (.pointer (some ⟨b,0,none⟩))) (c:fI P t cs.length=true) (a:bC w b cs ty') :
    bZ P ⟨d,.load t x,ty,ps,af,g⟩ (aQ A D l).eval w (.agg cs.toArray) :=
  zi f c q fun h i e=>by rw[Addr.kH,Nat.zero_add,a.cell];exact e
theorem aJ {x:Operand} {s:TypeId} {f b o c:Nat} (e:ev n l x=some (.pointer (some ⟨b,o,none⟩))) (a:aP P s f=some c) :
    bZ P ⟨d,.fieldAddr s x f,ty,ps,af,g⟩ (aQ A D l).eval w (.pointer (some ⟨b,o+c,none⟩)):=by
  unfold aP at a;split at a
  · rename_i fs hfs
    split at a
    · rename_i fd hfd
      split at a
      · rename_i inf hinf
        split at a
        · cases a
        rename_i hz;simp only[Option.some.injEq]at a;subst a;simp[bZ,execOp,bM e,Instr.fieldAt,Instr.sureAddr,run_underlying hfs,hfd,fieldPlace,e7 hinf,hz,Addr.kH]
      cases a
    cases a
  cases a
theorem By.rZ {e:TypeId} {v:Value} {a:Ly} (h:w.ownsRow 0 e 1 v a.length (a.map b8)):By w v a:=Sl.rZ (e:=e) (base:=0) (by simpa using h)
theorem fw {x y:Operand} {t e:TypeId} {m b o:Nat} {k:IntKind} {i:Int} (h:ev n l x=some (.pointer (some ⟨b,o,none⟩))) (j:ev n l y=some (.int k i)) (f:P.underlying t=some (.array m e)) (a:gw P e 1=true)
    (hi:0<=i/\i<m):bZ P ⟨d,.indexAddr t x y,ty,ps,af,g⟩ (aQ A D l).eval w (.pointer (some ⟨b,o+i.toNat,none⟩)):=by
  unfold gw at a;split at a
  · rename_i inf hinf
    have c:inf.size=1:=(by simpa using a);simp[bZ,execOp,bM h,bM j,Instr.indexAt,Instr.sureAddr,asIntOf,run_underlying f,e7 hinf,hi.1,hi.2,c,Addr.kH]
  cases a
theorem bZ.jy {o:Oper} {e:Operand->Value} {k:IntKind} {a b:Int} (h:bZ P o e w (.int k a)) (c:a=b):bZ P o e w (.int k b):=c ▸ h
theorem bZ.Io {o:Oper} {e:Operand->Value} {a b:Bool} (h:bZ P o e w (.bool a)) (c:a=b):bZ P o e w (.bool b):=c ▸ h
end
end Go.Wk
namespace Go.Wk
open Go Go.RowKit
section
variable {P:Program} {n:Nat} {A:Fr n} {D:List Deferred} {l:List (Nat × Value)} {w:World} {ops:Array Oper} {rest:List Oper} {Q:Exit->Act->World->Prop}
variable {d:Tmp} {op:Op} {ty:TypeId} {ps:String} {af:Array Edge}
theorem fU {o:Oper} {a:Act} (b:o.guard=none) (h:o.wp P a w (wpList P ops Q rest) Q):wpList P ops Q (o :: rest) a w:=by unfold wpList;rw[if_pos (by simp[Region.wanted,b])];exact .inl h
theorem LG {o:Oper} {a:Act} {v:Value} {b:Act->World->Prop} (c:bZ P o a.eval w v) (h:b (a.put o.dst v) w):o.wp P a w b Q:=by unfold Oper.wp;unfold bZ at c;rw[c];exact h
theorem st (v:Value) (a:bZ P ⟨some d,op,ty,ps,af,none⟩ (aQ A D l).eval w v) (k:wpList P ops Q rest (aQ A D ((d,v) :: l)) w) :
    wpList P ops Q (⟨some d,op,ty,ps,af,none⟩ :: rest) (aQ A D l) w:=fU q (LG a k)
theorem nO {j t:Nat} {o:Oper} {b:Bool} (f:ops[j]? = some o) (g:o.dst=some t) (h:ev n l (.tmp t)=some (.bool b)):yielded ops (aQ A D l).tmps j=some b:=by
  have a:=bM (A:=A) (D:=D) h;have e:(aQ A D l).tmps.size=n:=ze;have d:t<n:=by
    simp only[ev]at h;cases hb:Nat.ble n t with
    | true=>simp[hb]at h
    | false=>exact Nat.lt_of_not_le fun C=>by rw[Nat.ble_eq_true_of_le C]at hb;cases hb
  simp only[Act.eval,Array.getD,e,d,dite_true]at a;have c:(aQ A D l).tmps[t]? = some (.bool b):=by rw[Array.getElem?_eq_getElem Xx];exact congrArg some a
  simp[yielded,f,g,c]
theorem af4 {j t:Nat} {o:Oper} {b a:Bool} (v:Value) (c:ops[j]? = some o) (e:o.dst=some t) (f:ev n l (.tmp t)=some (.bool b)) (hb:b=a)
    (hr:bZ P ⟨some d,op,ty,ps,af,some (j,a)⟩ (aQ A D l).eval w v) (k:wpList P ops Q rest (aQ A D ((d,v) :: l)) w) :
    wpList P ops Q (⟨some d,op,ty,ps,af,some (j,a)⟩ :: rest) (aQ A D l) w:=by
  unfold wpList;rw[if_pos (by simp[Region.wanted,nO c e f,hb])];exact .inl (LG hr k)
theorem ah3 {j t:Nat} {o:Oper} {b a:Bool} (c:ops[j]? = some o) (e:o.dst=some t) (f:ev n l (.tmp t)=some (.bool b)) (hb:b = !a)
    (k:wpList P ops Q rest (aQ A D ((d,undef) :: l)) w) :
    wpList P ops Q (⟨some d,op,ty,ps,af,some (j,a)⟩ :: rest) (aQ A D l) w:=by
  unfold wpList;rw[if_neg (by subst hb;simp[Region.wanted,nO c e f])];exact k
theorem bX {t:Nat} {b:Bool} (_:ev n l (.tmp t)=some (.bool b)) (h1:b=true->wpList P ops Q rest (aQ A D l) w) (a:b=false->wpList P ops Q rest (aQ A D l) w):wpList P ops Q rest (aQ A D l) w:=by cases b<;>simp_all
theorem aA {a:Act} (h:Q .normal a w):wpList P ops Q [] a w:=h
theorem aH {id:Nat} {lo:List Oper} {a:Act} (h:wpList P lo.toArray Q lo a w):(Code.region id lo.toArray false).wp P Q a w:=wp_region_lit h
theorem aD {x y:Code} {a:Act} (h:x.wp P (Exit.then (fun a w=>y.wp P Q a w) Q) a w):(Code.seq x y).wp P Q a w:=wp_seq h
theorem aj {K:Act->World->Prop} {a:Act} (h:K a w):Exit.then K Q .normal a w:=h
theorem aL {a:Act} (h:Q .normal a w):Code.skip.wp P Q a w:=wp_skip h
theorem iM {a:Act} (h:Q .ret a w):Code.ret.wp P Q a w:=wp_ret h
theorem bW {id:Nat} {a:Act} (h:Q (.exit id) a w):(Code.exit id).wp P Q a w:=wp_exit h
theorem aS {id:Nat} {c:Code} {a:Act} (h:c.wp P (Exit.inBlock id Q) a w):(Code.block id c).wp P Q a w:=wp_block h
theorem aY {K:Act->World->Prop} {id:Nat} {a:Act} (h:Q (.exit id) a w):Exit.then K Q (.exit id) a w:=h
theorem cO {id:Nat} {a:Act} (h:Q .normal a w):Exit.inBlock id Q (.exit id) a w:=by simpa [Exit.inBlock]using h
theorem afI {id b:Nat} {a:Act} (c:Nat.beq b id=false) (h:Q (.exit b) a w):Exit.inBlock id Q (.exit b) a w:=by
  have:b≠id:=fun h=>by subst h;simp at c
  simpa [Exit.inBlock,this]using h
theorem bE {id:Nat} {a:Act} (h:Q .normal a w):Exit.inBlock id Q .normal a w:=h
theorem aI {K:Act->World->Prop} {a:Act} (h:Q .ret a w):Exit.then K Q .ret a w:=h
theorem aU {id:Nat} {a:Act} (h:Q .ret a w):Exit.inBlock id Q .ret a w:=h
theorem bJ {c:Operand} {x y:Code} {b:Bool} (d:ev n l c=some (.bool b)) (h1:b=true->x.wp P Q (aQ A D l) w) (a:b=false->y.wp P Q (aQ A D l) w) :
    (Code.cond c x y).wp P Q (aQ A D l) w:=wp_cond_split (bM d) h1 a
theorem gK {c:Operand} {x y:Code} {b:Bool} (d:ev n l c=some (.bool b)) (hb:b=true) (h:x.wp P Q (aQ A D l) w):(Code.cond c x y).wp P Q (aQ A D l) w :=
  bJ d (fun _=>h) (fun a=>by rw[hb]at a;cases a)
theorem iw {c:Operand} {x y:Code} {b:Bool} (d:ev n l c=some (.bool b)) (hb:b=false) (h:y.wp P Q (aQ A D l) w):(Code.cond c x y).wp P Q (aQ A D l) w :=
  bJ d (fun a=>by rw[hb]at a;cases a) (fun _=>h)
def OC {X:Type} (n:Nat) (D:List Deferred) (inv:X->List (Nat × Value)) (W:X->World->Prop) (mu:X->Nat) (x:X) (a:Act) (w:World):Prop :=
  ∃(x':X) (B:Fr n),a=aQ B D (inv x')/\W x' w/\mu x'<mu x
theorem js {X:Type} {c:Code} (inv:X->List (Nat × Value)) (W:X->World->Prop) (d:X->Nat) (x0:X) (k:Fits n l (inv x0)) (o:W x0 w)
    (round:∀(x:X) (b:Fr n) (a:World),W x a->c.wp P (Exit.then (OC n D inv W d x) Q) (aQ b D (inv x)) a) :
    (Code.loop c).wp P Q (aQ A D l) w:=by
  refine wp_loop_ghost (fun m e a=>∃(x:X) (b:Fr n),e=aQ b D (inv x)/\W x a/\d x=m) (d x0) ⟨x0,_,(cV (A:=A) (D:=D) k).symm,o,q⟩ ?_;rintro m e a ⟨x,b,rfl,i,rfl⟩;refine wp_mono (round x b a i) ?_;intro j p r h;cases j with
  | normal=>obtain⟨C,f,g,G,H⟩:=h;exact⟨d C,H,C,f,g,G,q⟩
  | _=>exact h
theorem next {X:Type} {inv:X->List (Nat × Value)} {W:X->World->Prop} {b:X->Nat} {x:X} (a:X) (d:b a<b x) (c:Fits n l (inv a)) (e:W a w) :
    OC n D inv W b x (aQ A D l) w:=⟨a,_,(cV (A:=A) (D:=D) c).symm,e,d⟩
def cu (P:Program) (f:FuncId):Bool :=
  match P.funcs[f]? with
  | some fn => !(fn.name == "runtime.NumGoroutine") && fn.body.isSome
  | none=>false
theorem po {f:FuncId} (hf:cu P f=true) (args:Array Value):(callFunc f args).run P w = .ok (.enter f args) w:=by
  unfold cu at hf;split at hf
  · rename_i fn hfn
    simp only[Bool.and_eq_true,Bool.not_eq_true']at hf;have A : ¬ fn.name = "runtime.NumGoroutine" := by have := hf.1; simpa using this
    have B:¬fn.body=none:=(by intro C;rw[C]at hf;simp at hf);simp[callFunc,hfn,A,B]
  · cases hf
theorem yu {f:FuncId} {xs:List Operand} {e:Array TypeId} {vs:List Value} {b:Option Tmp} {g:Option (Nat × Bool)} (d:cu P f=true) (c:evs n l xs=some vs) :
    (execOp (aQ A D l).eval ⟨b,.call {callee:=.value (.func f),args:=xs.toArray,argTypes:=e},ty,ps,af,g⟩).run P w = .ok (.enter f vs.toArray) w:=by
  have a:=mP (A:=A) (D:=D) c;simp only[execOp,resolve,Act.eval,Deferred.ofValue,List.map_toArray,a];simp[invoke,po d]
theorem ax {f:FuncId} {xs:List Operand} {i:Array TypeId} {vs:List Value} {R:Ending->World->Prop} (h:cu P f=true) (e:evs n l xs=some vs) (g:Calls P f vs.toArray w R)
    (k:∀a b,R a b->∃v,a = .returned v/\wpList P ops Q rest (aQ A D ((d,v) :: l)) b) :
    wpList P ops Q (⟨some d,.call {callee:=.value (.func f),args:=xs.toArray,argTypes:=i},ty,ps,af,none⟩ :: rest) (aQ A D l) w:=by
  refine fU q ?_;unfold Oper.wp;rw[yu h e];refine g.mono fun a b c=>?_;obtain⟨v,rfl,hk⟩:=k a b c;exact hk
theorem fM {f:FuncId} {xs:List Operand} {p:Array TypeId} {vs:List Value} {R:Ending->World->Prop} {j t:Nat} {o:Oper} {b e:Bool} (h:ops[j]? = some o) (i:o.dst=some t) (m:ev n l (.tmp t)=some (.bool b)) (hb:b=e)
    (hf:cu P f=true) (ha:evs n l xs=some vs) (hc:Calls P f vs.toArray w R)
    (k:∀a c,R a c->∃v,a = .returned v/\wpList P ops Q rest (aQ A D ((d,v) :: l)) c) :
    wpList P ops Q (⟨some d,.call {callee:=.value (.func f),args:=xs.toArray,argTypes:=p},ty,ps,af,some (j,e)⟩ :: rest) (aQ A D l) w:=by
  unfold wpList;rw[if_pos (by simp[Region.wanted,nO h i m,hb])];refine .inl ?_;unfold Oper.wp;rw[yu hf ha];refine hc.mono fun a c g=>?_;obtain⟨v,rfl,hk⟩:=k a c g;exact hk
def sV:Nat->List Value->List (Nat × Value)
  | _,[]=>[]
  | i,v :: r=>(i,v) :: sV (i+1) r
theorem JW {a:Fr n} {b:List (Nat × Value)} (h:∀p∈b,a.tmps.getD p.1 undef=p.2):aQ a D b=⟨a.tmps,D⟩:=by
  induction b with
  | nil=>rfl
  | cons p r ih =>
    simp only[aQ];rw[ih fun q c=>h q (by simp[c])];exact SB _ _ _ (h p Oy)
theorem EV {vs:List Value} {i:Nat} {p:Nat × Value} (h:p∈sV i vs):∃j,p.1=i+j/\vs[j]? = some p.2:=by
  induction vs generalizing i with
  | nil=>simp[sV]at h
  | cons v r ih =>
    simp only[sV,List.mem_cons]at h
    rcases h with rfl|h
    · exact⟨0,q,q⟩
    · obtain⟨j,B,A⟩:=ih h
      exact⟨j+1,by omega,by simpa using A⟩
theorem enter {f:FuncId} {fn:Func} {c:Code} {vs:List Value} {R:Ending->World->Prop} (g:P.funcs[f]? = some fn) (hb:fn.body=some c) (j:fn.ntmps=n) (i:Nat.ble vs.length n=true)
    (h:∀b:Fr n,c.wp P (bodyPost P fn R) (aQ b [] (sV 0 vs)) w):Calls P f vs.toArray w R:=by
  refine calls_of_wp g hb ?_;have l:vs.length<=n:=lB i;have D:(vs.toArray ++ Array.replicate (fn.ntmps-vs.toArray.size) undef).size=n:=by simp[j];omega
  have:=h ⟨_,D⟩
  rwa [JW]at this
  intro p H;obtain⟨k,d,e⟩:=EV H;have G:=(List.getElem?_eq_some_iff.1 e);obtain⟨a,C⟩:=G;simp only[d,Nat.zero_add,Array.getD];rw[dif_pos Ym];show(vs.toArray ++ _)[k]'_=_;rw[Array.getElem_append_left (by simpa using a)];simpa using C
def sG:Exit->Prop
  | .ret|.normal=>True
  | _=>False
theorem bp {fn:Func} {R:Ending->World->Prop} {e:Exit} {v:Value} {a:Act} (b:sG e) (hd:a.defers=[]) (c:(results fn a.tmps).run P w = .ok v w) (h:R (.returned v) w):bodyPost P fn R e a w:=by cases e <;> simp only[sG]at b <;> exact⟨hd,v,c,h⟩
theorem oU {t:Nat} {v:Value} (h:ev n l (.tmp t)=some v):(aQ A D l).tmps.getD t undef=v:=bM (A:=A) (D:=D) h
theorem DI {t:Nat} {v:Value} (h:ev n l (.tmp t)=some v):(aQ A D l).tmps[t]?.getD undef=v:=by simpa using oU (A:=A) (D:=D) h
theorem abl {fn:Func} {R:Ending->World->Prop} {e:Exit} (a:sG e) (b:fn.results = #[]) (h:R (.returned (.tuple #[])) w):bodyPost P fn R e (aQ A [] l) w :=
  bp a fK (results_none b _ _ _) h
theorem gX {fn:Func} {R:Ending->World->Prop} {e:Exit} {t:Nat} {v:Value} (a:sG e) (b:fn.results = #[.tmp t]) (c:ev n l (.tmp t)=some v) (h:R (.returned v) w):bodyPost P fn R e (aQ A [] l) w :=
  bp a fK (results_tmp b _ _ _) (by rw[oU c];exact h)
theorem ank {fn:Func} {R:Ending->World->Prop} {e:Exit} {t u:Nat} {v a:Value} (b:sG e) (c:fn.results = #[.tmp t,.tmp u]) (d:ev n l (.tmp t)=some v) (f:ev n l (.tmp u)=some a)
    (h:R (.returned (.tuple #[v,a])) w):bodyPost P fn R e (aQ A [] l) w :=
  bp b fK (results_tmp2 c _ _ _) (by rw[oU d,oU f];exact h)
theorem alU {fn:Func} {R:Ending->World->Prop} {e:Exit} {t u x:Nat} {v a b:Value} (c:sG e) (d:fn.results = #[.tmp t,.tmp u,.tmp x]) (f:ev n l (.tmp t)=some v) (g:ev n l (.tmp u)=some a) (i:ev n l (.tmp x)=some b)
    (h:R (.returned (.tuple #[v,a,b])) w):bodyPost P fn R e (aQ A [] l) w :=
  bp c fK (results_tmp3 d _ _ _) (by rw[oU f,oU g,oU i];exact h)
theorem oH {t ty':TypeId} {b:Nat} {cs:List Value} (a:fI P t cs.length=true) (e:bC w b cs ty'):(loadVar t ⟨b,0,none⟩).run P w = .ok (.agg cs.toArray) w:=by
  obtain⟨g,f,G,c,d,H⟩:=ql a;have D:=run_loadCells_list (P:=P) (w:=w) ⟨b,0,none⟩ cs fun h i C=>by rw[Addr.kH,Nat.zero_add,e.cell];exact C
  simp[loadVar,vC a,e7 c,d,D]
theorem alX {fn:Func} {R:Ending->World->Prop} {e:Exit} {t:Nat} {a ty':TypeId} {b:Nat} {cs:List Value} (c:sG e) (d:fn.results = #[.cell t a]) (f:ev n l (.tmp t)=some (.pointer (some ⟨b,0,none⟩)))
    (hT:fI P a cs.length=true) (hB:bC w b cs ty') (h:R (.returned (.agg cs.toArray)) w):bodyPost P fn R e (aQ A [] l) w :=
  bp c fK (by simp[results,d,DI f,asAddr,oH hT hB]) h
theorem zQ {fn:Func} {R:Ending->World->Prop} {e:Exit} {t u:Nat} {a ty':TypeId} {b:Nat} {cs:List Value} {v:Value} (c:sG e) (d:fn.results = #[.cell t a,.tmp u]) (f:ev n l (.tmp t)=some (.pointer (some ⟨b,0,none⟩)))
    (hT:fI P a cs.length=true) (hB:bC w b cs ty') (hv':ev n l (.tmp u)=some v) (h:R (.returned (.tuple #[.agg cs.toArray,v])) w):bodyPost P fn R e (aQ A [] l) w :=
  bp c fK (by simp[results,d,DI f,DI hv',asAddr,oH hT hB]) h
theorem bn {x y:Operand} {t ty':TypeId} {b j:Nat} {cs:List Value} {u:Value} (h:ev n l x=some (.pointer (some ⟨b,j,none⟩))) (i:ev n l y=some u) (f:iI P t=true) (g:u.oneCell'=true)
    (hB:bC w b cs ty') (hj:j<cs.length) (k:∀a,Md [b] w a->bC a b (cs.set j u) ty'->wpList P ops Q rest (aQ A D l) a) :
    wpList P ops Q (⟨none,.store t x y,ty,ps,af,none⟩ :: rest) (aQ A D l) w:=by
  refine fU q ?_;obtain⟨m,H,o,d,e,p⟩:=EA f;have G:u.cells = #[u]:=by cases u <;> simp_all [Value.cells,Value.oneCell']
  have c:w.cell? ⟨b,j,none⟩=some cs[j]:=by rw[hB.cell];simp[hj]
  have C:(execOp (aQ A D l).eval ⟨none,.store t x y,ty,ps,af,none⟩).run P w = .ok .skip (w.setCell ⟨b,j,none⟩ u):=by simp[execOp,bM h,bM i,Instr.storeAt,Instr.sureAddr,storeVar,e7 d,e,G,storeCells,Addr.add,run_store P w _ u _ g,c,hB.frozen]
  unfold Oper.wp;rw[C];exact k _ (Md.setCell w ⟨b,j,none⟩ u) (hB.set j u)
def fB (cs:List Value) (j:Nat) (us:List Value):List Value:=cs.take j ++ us ++ cs.drop (j+us.length)
theorem bC.setRow {b:Nat} {cs us:List Value} {ty':TypeId} (a:bC w b cs ty'):bC (w.setRow b us.toArray) b us ty':=setRow_heap w b _ _ ty' _ a
theorem Md.setRow (w:World) (b:Nat) (us:Array Value):Md [b] w (w.setRow b us):=⟨q,q,q,by simp,fun k _ a=>setRow_other w b k us (by simpa using a)⟩
theorem aK {x y:Operand} {t ty':TypeId} {b j:Nat} {cs us:List Value} (g:ev n l x=some (.pointer (some ⟨b,j,none⟩))) (h:ev n l y=some (.agg us.toArray)) (f:fI P t us.length=true)
    (hu:∀i∈us,i.oneCell'=true) (hB:bC w b cs ty') (hj:j+us.length<=cs.length) (k:∀a,Md [b] w a->bC a b (fB cs j us) ty'->wpList P ops Q rest (aQ A D l) a) :
    wpList P ops Q (⟨none,.store t x y,ty,ps,af,none⟩ :: rest) (aQ A D l) w:=by
  refine fU q ?_;obtain⟨H,G,m,d,e,o⟩:=ql f;have C:=run_storeCells_at P b j ty' us 0 cs.toArray w hB (by simpa using hj) hu;have c:(execOp (aQ A D l).eval ⟨none,.store t x y,ty,ps,af,none⟩).run P w = .ok .skip (w.setRow b (fB cs j us).toArray):=by simp[execOp,bM g,bM h,Instr.storeAt,Instr.sureAddr,storeVar,e7 d,e,Value.cells,C,fB]
  unfold Oper.wp;rw[c];exact k _ (Md.setRow w b _) hB.setRow
theorem eY {x y:Operand} {t ty':TypeId} {b:Nat} {cs us:List Value} (e:ev n l x=some (.pointer (some ⟨b,0,none⟩))) (f:ev n l y=some (.agg us.toArray)) (c:fI P t us.length=true)
    (hu:∀g∈us,g.oneCell'=true) (hB:bC w b cs ty') (hj:us.length=cs.length) (k:∀a,Md [b] w a->bC a b us ty'->wpList P ops Q rest (aQ A D l) a) :
    wpList P ops Q (⟨none,.store t x y,ty,ps,af,none⟩ :: rest) (aQ A D l) w :=
  aK e f c hu hB (by omega) fun a d hb => k a d (by have : fB cs 0 us = us := by simp [fB, hj]
                                                    rwa [this]at hb)
theorem bI {t:TypeId} {cs:List Value} (a:dU P t=some cs)
    (k:∀b c,w.heap.size<=b->b<c.heap.size->Md [] w c->bC c b cs t->wpList P ops Q rest (aQ A D ((d,.pointer (some ⟨b,0,none⟩)) :: l)) c) :
    wpList P ops Q (⟨some d,.alloc t,ty,ps,af,none⟩ :: rest) (aQ A D l) w:=by
  refine fU q ?_;unfold dU at a;split at a
  · rename_i i hi
    split at a
    · rename_i z hzz
      simp only[Option.some.injEq]at a;have e:(execOp (aQ A D l).eval ⟨some d,.alloc t,ty,ps,af,none⟩).run P w = .ok (.value (.pointer (some ⟨w.heap.size,0,none⟩))) (w.alloc (.cells cs.toArray t)):=(by subst a;simp[execOp,Instr.alloc,zeroValue,typeInfo,hi,hzz,newVar,newRow]);unfold Oper.wp;rw[e];exact k _ _ (Nat.le_refl _) Oy (Md.alloc w _) (bC.new w cs t)
    cases a
  cases a
theorem dS {t:TypeId} {x:Operand} {v:Value} {cs:List Value} (f:ev n l x=some v) (e:v.cells=cs.toArray)
    (k:∀b a,w.heap.size<=b->b<a.heap.size->Md [] w a->bC a b cs t->wpList P ops Q rest (aQ A D ((d,.pointer (some ⟨b,0,none⟩)) :: l)) a) :
    wpList P ops Q (⟨some d,.box t x,ty,ps,af,none⟩ :: rest) (aQ A D l) w:=by
  refine fU q ?_;have c:(execOp (aQ A D l).eval ⟨some d,.box t x,ty,ps,af,none⟩).run P w = .ok (.value (.pointer (some ⟨w.heap.size,0,none⟩))) (w.alloc (.cells cs.toArray t)):=by simp[execOp,Instr.box,newVar,newRow,bM f,e]
  unfold Oper.wp;rw[c];exact k _ _ (Nat.le_refl _) Oy (Md.alloc w _) (bC.new w cs t)
theorem dK {v:Value} (h:v.oneCell'=true):v.cells = #[v]:=by cases v<;>simp_all [Value.cells,Value.oneCell']
theorem Sl.bB {v:Value} {a:List Value} (h:Sl w v a):v.oneCell'=true:=by obtain⟨b,c,rfl,_⟩:=h;rfl
def su (cs:List Value):List (Nat × Value)->List Value
  | []=>cs
  | (i,v) :: r=>su (cs.set i v) r
def pD:List Value->Prop
  | []=>True
  | v :: r=>v.oneCell'=true/\pD r
def xV:List (Nat × Nat)->List Value->List (Nat × Value)
  | (_,o) :: r,v :: vs=>(o,v) :: xV r vs
  | _,_=>[]
theorem wJ {place:Nat->Option (Nat × Nat)}:∀(ps:List (Nat × Nat)) (vs:List Value) (cs:List Value),ps.length=vs.length->(∀p∈ps,place p.1=some (p.2,1)/\p.2<cs.length)->pD vs ->
    Instr.fill place cs.toArray ((ps.map (·.1)).zip vs)=some (su cs (xV ps vs)).toArray
  | [],[],cs,_,_,_=>by simp[Instr.fill,xV,su]
  | (i,o) :: ps,v :: vs,cs,hl,hp,h1=>by have d:=dK h1.1;obtain⟨a,b⟩:=hp (i,o) Oy;have e:=wJ (place:=place) ps vs (cs.set o v) (by simpa using hl) (fun p c=>by have:=hp p (by simp[c]);simpa using this) h1.2;simp only at a b;have hb:¬(cs.length<o+1):=(by omega);simp only[List.map_cons,List.zip_cons_cons,Instr.fill,a,d];simp[xV,su,e,hb]
  | [],_ :: _,_,hl,_,_=>by simp at hl
  | _ :: _,[],_,hl,_,_=>by simp at hl
def fH (P:Program) (t:TypeId):Option (List (Nat × Nat)) :=
  match P.underlying t with
  | some (.array m e)=>match P.info? e with
    | some ie=>some ((List.range m).map fun i=>(i*ie.size,ie.size))
    | none=>none
  | some (.struct ak)=>ak.toList.mapM (fun f=>(P.info? f.type).map fun i=>(f.offset,i.size))
  | _=>none
def aeO (pl:List (Nat × Nat)) (m:Nat):List (Nat × Nat)->Bool
  | []=>true
  | (i,o) :: r=>(match pl[i]? with
    | some (o',s)=>Nat.beq o' o && Nat.beq s 1 && Nat.ble (o+1) m
    | none=>false) && aeO pl m r
theorem K1 {pl:List (Nat × Nat)} {m:Nat}:∀{ps:List (Nat × Nat)},aeO pl m ps=true->∀p∈ps,pl[p.1]? = some (p.2,1)/\p.2<m
  | [],_,p,hp=>by cases hp
  | (i,o) :: r,h,p,hp=>by
    simp only[aeO,Bool.and_eq_true]at h
    rcases List.mem_cons.1 hp with rfl|hp'
    · cases hq:pl[i]? with
      | none=>rw[hq]at h;simp at h
      | some q =>
        obtain⟨f,s⟩:=q;rw[hq]at h;simp only[Bool.and_eq_true]at h;obtain⟨⟨⟨c,d⟩,e⟩,_⟩:=h;have a:=Nat.eq_of_beq_eq_true c;have b:=Nat.eq_of_beq_eq_true d;subst a;subst b;exact⟨rfl,lB e⟩
    · exact K1 h.2 p hp'
theorem ZG {t:TypeId} {zs vs:List Value} {pl ps:List (Nat × Nat)} (c:dU P t=some zs) (b:fH P t=some pl) (i:ps.length=vs.length) (j:aeO pl zs.length ps=true) (h1:pD vs) :
    P.built t ((ps.map (·.1)).zip vs)=some (su zs (xV ps vs)).toArray:=by
  have h:=K1 j;unfold dU at c;cases hi:P.info? t with
  | none=>simp[hi]at c
  | some it =>
    cases hzz:it.zero with
    | none=>simp[hi,hzz]at c
    | some z =>
      simp only[hi,hzz,Option.some.injEq]at c;have C:z.cells=zs.toArray:=(by rw[<- c]);unfold fH at b;unfold Program.built;cases hu:P.underlying t with
      | none=>simp[hu]at b
      | some d =>
        cases d <;> try (simp[hu]at b;done)
        case array m e =>
          cases hie:P.info? e with
          | none=>simp[hu,hie]at b
          | some ie =>
            simp only[hu,hie,Option.some.injEq]at b;simp only[hi,hzz,hie,C];refine wJ ps vs zs i (fun p f=>?_) h1;obtain⟨a,D⟩:=h p f;rw[<- b,List.getElem?_map]at a;have G:(List.range m)[p.1]? = some p.1:=by
              cases hq:(List.range m)[p.1]? with
              | none=>rw[hq]at a;simp at a
              | some q=>have:=List.getElem?_eq_some_iff.1 hq;obtain⟨H,g⟩:=this;simp at g;rw[<- g]
            rw[G]at a;simp only[Option.map_some,Option.some.injEq,Prod.mk.injEq]at a;exact⟨by rw[a.1,a.2],D⟩
        case struct ak =>
          simp only[hu]at b;simp only[hi,hzz,b,C];refine wJ ps vs zs i (fun p f=>?_) h1;obtain⟨a,D⟩:=h p f;exact⟨by simpa using a,D⟩
theorem jD {t:TypeId} {parts:List (Nat × Operand)} {zs vs cs:List Value} {pl ps:List (Nat × Nat)} {d:Option Tmp} {j:String} {g:Option (Nat × Bool)} (i:dU P t=some zs) (f:fH P t=some pl) (h:parts.map (·.1)=ps.map (·.1)) (e:evs n l (parts.map (·.2))=some vs)
    (h1:pD vs) (hl:ps.length=vs.length) (hps:aeO pl zs.length ps=true) (hcs:su zs (xV ps vs)=cs) :
    bZ P ⟨d,.build t parts.toArray,ty,j,af,g⟩ (aQ A D l).eval w (.agg cs.toArray):=by
  have b:=mP (A:=A) (D:=D) e;have a:parts.map (fun p=>(p.1,(aQ A D l).eval p.2))=(ps.map (·.1)).zip vs:=by rw[<- h,<- b,List.map_map,List.zip_map'];rfl
  have C:=ZG i f hl hps h1;rw[<- a]at C;have c:=run_build (P:=P) w t (parts.map (fun p=>(p.1,(aQ A D l).eval p.2))).toArray _ (by simpa using C);subst hcs;simp only[bZ,execOp,List.map_toArray];show Sem.run P (do pure (Next.value (<- Instr.build t (parts.map fun x=>(x.1,(aQ A D l).eval x.2)).toArray))) w=_;simp[c]
variable {C:World->Prop} {QQ:Act->Prop}
theorem AJ {id:Nat} {lo:List Oper} {a:Act} (C:World->Prop) (f:P.follows .mixedOrders=true) (d:Region.lexB .any lo.toArray=true) (e:C {w with drawn:=w.drawn+1})
    (h:wpQuiet P lo.toArray C (fun c=>∀b,C b->Q .normal c b) lo a):(Code.region id lo.toArray true).wp P Q a w :=
  wp_region_quiet f d e (by simpa using h)
theorem ahh {o:Oper} {a:Act} (b:o.guard=none) (h:o.quiet P a C (wpQuiet P ops C QQ rest)):wpQuiet P ops C QQ (o :: rest) a:=by unfold wpQuiet;rw[if_pos (by simp[Region.wanted,b])];exact h
theorem NP {o:Oper} {a:Act} {c:Act->Prop} (v:Value) (d:∀b,C b->bZ P o a.eval b v) (h:c (a.put o.dst v)):o.quiet P a C c :=
  ⟨v,fun b e=>by have:=d b e;unfold bZ at this;unfold Oper.quietAt;rw[this];exact⟨q,q⟩,h⟩
theorem qz (v:Value) (b:∀a,C a->bZ P ⟨some d,op,ty,ps,af,none⟩ (aQ A D l).eval a v) (k:wpQuiet P ops C QQ rest (aQ A D ((d,v) :: l))) :
    wpQuiet P ops C QQ (⟨some d,op,ty,ps,af,none⟩ :: rest) (aQ A D l):=ahh q (NP v b k)
theorem Zk {a:Act} (h:QQ a):wpQuiet P ops C QQ [] a:=h
variable {QS:Act->Prop}
theorem ahv {o:Oper} {a:Act} (b:o.guard=none) (h:o.still P a w (wpStill P ops w QS rest)):wpStill P ops w QS (o :: rest) a:=by unfold wpStill;rw[if_pos (by simp[Region.wanted,b])];exact h
theorem s (v:Value) (a:bZ P ⟨some d,op,ty,ps,af,none⟩ (aQ A D l).eval w v) (k:wpStill P ops w QS rest (aQ A D ((d,v) :: l))) :
    wpStill P ops w QS (⟨some d,op,ty,ps,af,none⟩ :: rest) (aQ A D l):=ahv q (by unfold bZ at a;unfold Oper.still;rw[a];exact⟨q,k⟩)
def wF (P:Program) (e:TypeId) (sz by':Nat):Bool :=
  match P.info? e with
  | some i=>match i.zero with
    | some z=>Nat.beq i.size sz && Nat.beq i.bytes by' && Nat.beq z.cells.size sz
    | none=>false
  | none=>false
theorem qU {e:TypeId} {sz a:Nat} (h:wF P e sz a=true):∃i z,P.info? e=some i/\i.zero=some z/\i.size=sz/\i.bytes=a/\z.cells.size=sz:=by
  unfold wF at h;split at h
  · rename_i i hi
    split at h
    · rename_i z hz
      simp only[Bool.and_eq_true]at h;exact⟨i,z,hi,hz,Nat.eq_of_beq_eq_true h.1.1,Nat.eq_of_beq_eq_true h.1.2,Nat.eq_of_beq_eq_true h.2⟩
    cases h
  cases h
def Own (w:World) (e:TypeId) (sz:Nat) (v:Value) (n:Nat) (xs:List Value):Prop:=w.ownsRow 0 e sz v n xs
theorem Own.nil (w:World) (e:TypeId) (sz:Nat):Own w e sz (.slice none 0 0) 0 []:=World.ownsRow_nil w 0 e sz
theorem Own.md {S:List Nat} {a:World} {e:TypeId} {sz m:Nat} {v:Value} {xs:List Value} (h:Own w e sz v m xs) (c:Md S w a) (d:∀b,ah v=some b->b∉S):Own a e sz v m xs:=by
  refine⟨h.1,?_⟩
  rcases h.2 with F|⟨g,C,D,rfl,E,A,B⟩
  · exact .inl F
  refine .inr ⟨g,C,D,q,E,?_,B⟩;rw[c.block g (Array.getElem?_eq_some_iff.1 A).1 (d g q)];exact A
theorem Own.o {a:World} {e:TypeId} {sz m:Nat} {v:Value} {xs:List Value} (h:Own w e sz v m xs) (b:Md [] w a):Own a e sz v m xs:=h.md b Oy
instance an1 {w':World} {e:TypeId} {sz m:Nat} {v:Value} {xs:List Value}:Tp w w' (Own w e sz v m xs) (Own w' e sz v m xs):=⟨fun m h=>h.o m⟩
theorem Own.lt {e:TypeId} {sz m:Nat} {v:Value} {xs:List Value} (h:Own w e sz v m xs):∀b,ah v=some b->b<w.heap.size:=fun b hb=>(World.ownsRow.lt h b (by cases v<;>simp_all [ah,Value.ownBlock];rename_i a _ _;cases a<;>simp_all)).2
theorem Own.ne {e ty':TypeId} {sz m b:Nat} {v:Value} {xs cs:List Value} (h:Own w e sz v m xs) (a:bC w b cs ty') (f:Nat.beq e ty'=false):∀d,ah v=some d->d≠b:=by
  rintro d c rfl
  rcases h.2 with⟨rfl,_⟩|⟨g,B,C,rfl,_,D,_⟩
  · simp[ah]at c
  simp[ah]at c;subst c;unfold bC at a;rw[D]at a;simp at a;rw[a.2]at f;simp at f
theorem vB {t ty' e:TypeId} {sz y:Nat} (o:P.underlying t=some (.slice e)) (K:wF P e sz y=true) (M:0<sz) {v:Value} {m:Nat} {xs:List Value} (h:Own w e sz v m xs)
    {a:Option Addr} {k c:Nat} {news:List Value} (hl:news.length=k*sz) (ha:a=none->k=0/\c=0) (hnews:∀p,a=some p->∀r j,news[r]? = some j->w.cell? (p.add r)=some j) (h1:∀j∈news,j.oneCell'=true)
    (h63:m+k<=maxLen) (hbytes:(m+k)*y<=140737488355328) :
    ∃n s,(Builtin.append_ #[t,t] ty' #[v,.slice a k c]).run P w = .ok n s/\Own s e sz n (m+k) (xs ++ news)/\Md (ah v).toList w s/\(n = .slice none 0 0↔v = .slice none 0 0/\k=0) /\
      (∀b,ah n=some b->ah v=some b\/w.heap.size<=b):=by
  obtain⟨i,z,H,x,Q,l,F⟩:=qU K;have E:v.ownBlock=ah v:=by rcases h.2 with⟨rfl,_⟩|⟨g,C,D,rfl,_⟩ <;> rfl
  cases a with
  | none =>
    obtain⟨rfl,rfl⟩:=ha q;have:news=[]:=List.eq_nil_of_length_eq_zero (by simpa using hl);subst this;exact⟨v,w,run_append_owned_none w 0 t ty' e i sz o H v m xs h,by simpa using h,Md.refl _ _,by simp,fun b l=>.inl l⟩
  | some p =>
    obtain⟨n,s,u,R,I,A⟩:=run_append_own (P:=P) w 0 t ty' e i z sz y o H x Q l F M v m xs h p k c news hl (hnews p q) h1 h63 hbytes (Nat.zero_le _);refine⟨n,s,u,R,by rw[<- E];exact Md.grown I,A,?_⟩;intro b f;subst Q;subst l
    rcases h.2 with⟨rfl,rfl⟩|⟨g,C,D,rfl,T,V,W,U,J,L⟩
    · by_cases hk:k=0
      · have:=A.2 ⟨q,hk⟩
        rw[this]at f;simp[ah]at f
      · have N:xs=[]:=List.eq_nil_of_length_eq_zero (by simpa using h.1)
        simp only[maxLen]at h63;have d:=run_append_nil (P:=P) w t ty' e i z o H x p k c news hl (hnews p q) Xx Xx (by have l:=hbytes;simp only[Nat.zero_add]at l;omega);rw[u]at d;simp only[Result.ok.injEq]at d;rw[d.1]at f;simp[ah]at f;exact .inr Xx
    · by_cases hroom:m+k<=C
      · have G:m*i.size+news.length<=D.size:=by rw[hl,J,<- Nat.add_mul];exact Nat.mul_le_mul_right _ hroom
        have d:=run_append_room (P:=P) w t ty' e i o H g m C D V p k c news hl (hnews p q) h1 hroom G;rw[u]at d;simp only[Result.ok.injEq]at d;rw[d.1]at f;simp[ah]at f;exact .inl (by simp[ah,f])
      · have B:∀r j,xs[r]? = some j->w.cell? ((⟨g,0,none⟩:Addr).add r)=some j:=World.ownsRow.cells h (g:=g) q
        simp only[maxLen]at h63;have d:=run_append_grow (P:=P) w t ty' e i z o H x ⟨g,0,none⟩ m C xs h.1 B p k c news hl (hnews p q) Xx Xx (growslice_fits Xx hbytes);rw[u]at d;simp only[Result.ok.injEq]at d;rw[d.1]at f;simp[ah]at f;exact .inr Xx
theorem ab1 {x y:Operand} {t e:TypeId} {j:Nat} {v u:Value} {xs ys:List Value} (B:P.underlying t=some (.slice e)) (z:wF P e 1 j=true) (E:ev n l x=some v) (F:ev n l y=some u)
    (hO:Own w e 1 v xs.length xs) (hS:Sl w u ys) (h1:∀u∈ys,u.oneCell'=true) (h63:xs.length+ys.length<=maxLen) (hbytes:(xs.length+ys.length)*j<=140737488355328)
    (k:∀f g,Own g e 1 f (xs ++ ys).length (xs ++ ys)->Md (ah v).toList w g->(f = .slice none 0 0↔v = .slice none 0 0/\ys.length=0)->(∀b,ah f=some b->ah v=some b\/w.heap.size<=b) ->
      wpList P ops Q rest (aQ A D ((d,f) :: l)) g) :
    wpList P ops Q (⟨some d,.call {callee:=.builtin .append,args:=#[x,y],argTypes:=#[t,t]},ty,ps,af,none⟩ :: rest) (aQ A D l) w:=by
  refine fU q ?_;obtain⟨a,C,rfl,I,J,i,G⟩:=hS;obtain⟨f,g,s,H,p,r,o⟩:=vB (P:=P) (w:=w) (ty':=ty) B z Xx hO (a:=a) (k:=ys.length) (c:=C) (news:=ys) Oy (fun h=>⟨by have:=i h;omega,i h⟩) G h1 h63 hbytes;have m:(execOp (aQ A D l).eval ⟨some d,.call {callee:=.builtin .append,args:=#[x,y],argTypes:=#[t,t]},ty,ps,af,none⟩).run P w = .ok (.value f) g:=by simp[execOp,resolve,invoke,builtin,bM E,bM F,s]
  unfold Oper.wp;rw[m];exact k f g (by simpa using H) p r o
theorem BI {x y:Operand} {t f e ty':TypeId} {g o a j:Nat} {u:Value} {cs ys:List Value} (m:P.underlying t=some (.slice e)) (c:gw P e 1=true) (r:ev n l x=some (.slice (some ⟨g,o,none⟩) a j)) (s:ev n l y=some u)
    (hB:bC w g cs ty') (hS:Sl w u ys) (h1:∀u∈ys,u.oneCell'=true) (hfit:o+min ys.length a<=cs.length)
    (k:∀h,Md [g] w h->bC h g (fB cs o (ys.take a)) ty'->wpList P ops Q rest (aQ A D ((d,.int .i64 (min ys.length a:Nat)) :: l)) h) :
    wpList P ops Q (⟨some d,.call {callee:=.builtin .copy,args:=#[x,y],argTypes:=#[t,f]},ty,ps,af,none⟩ :: rest) (aQ A D l) w:=by
  refine fU q ?_;obtain⟨J,v,rfl,L,M,B,E⟩:=hS;unfold gw at c;split at c
  case h_2=>cases c
  rename_i inf hinf;have H:inf.size=1:=by simpa using c
  have i:(ys.take a).length=min ys.length a:=by simp[Nat.min_comm]
  have C:(execOp (aQ A D l).eval ⟨some d,.call {callee:=.builtin .copy,args:=#[x,y],argTypes:=#[t,f]},ty,ps,af,none⟩).run P w =
      .ok (.value (.int .i64 (min ys.length a:Nat))) (w.setRow g (fB cs o (ys.take a)).toArray):=by
    cases J with
    | none =>
      have R:=B q;have z:ys=[]:=List.eq_nil_of_length_eq_zero Xx;subst z;have G:fB cs o []=cs:=(by simp[fB]);simp only[List.take_nil,G];have:w.setRow g cs.toArray=w:=setRow_self w g _ ty' _ hB;rw[this];simp[execOp,resolve,invoke,builtin,bM r,bM s,Builtin.copy_,run_underlying m,Builtin.lenOf,Builtin.firstCells,e7 hinf,storeCells,goInt]
    | some p =>
      have F:=run_copy_row (P:=P) w t f ty e g o a j p ys.length v cs.toArray ty' (ys.take a) m (by simp[hinf,H]) hB i
        (fun K u b=>E p q K u (by rw[List.getElem?_take]at b;split at b;exact b;cases b)) (by rw[i];simpa using hfit) (fun u I=>h1 u (List.mem_of_mem_take I))
      simp[execOp,resolve,invoke,builtin,bM r,bM s,F,fB,goInt,Nat.min_comm]
  unfold Oper.wp;rw[C];exact k _ (Md.setRow w g _) hB.setRow
theorem d9 {x:Operand} {k:IntKind} {a b:Int} (h:ev n l x=some (.int k a)) (e:a=b):ev n l x=some (.int k b):=by rw[h,e]
theorem zV {x:Operand} {a b:Bool} (h:ev n l x=some (.bool a)) (e:a=b):ev n l x=some (.bool b):=by rw[h,e]
theorem AE {k:IntKind} {a b:Int} (e:a=b):Ending.returned (.int k a) = .returned (.int k b):=by rw[e]
theorem oG {a b:Bool} (e:a=b):Ending.returned (.bool a) = .returned (.bool b):=by rw[e]
theorem anl {a b:Value} (e:a=b):Ending.returned a = .returned b:=by rw[e]
theorem By.dB {v:Value} {a:Ly} (h:By w v a):a.length<=9223372036854775807:=by have:=h.EL;simp only[maxLen]at this;omega
theorem Own.uO {a:World} {e ty':TypeId} {sz m b:Nat} {v:Value} {xs cs:List Value} (h:Own w e sz v m xs) (d:bC w b cs ty') (i:Nat.beq e ty'=false) (g:Md [b] w a):Own a e sz v m xs :=
  h.md g fun c f=>by simpa using h.ne d i c f
theorem bC.mdO {c:World} {e ty':TypeId} {sz m b:Nat} {v:Value} {xs cs:List Value} (a:bC w b cs ty') (h:Own w e sz v m xs) (f:Nat.beq e ty'=false) (d:Md (ah v).toList w c):bC c b cs ty' :=
  a.md d fun hb=>by
    cases hv:ah v with
    | none=>rw[hv]at hb;simp at hb
    | some b'=>rw[hv]at hb;simp at hb;exact h.ne a f b' hv hb.symm
theorem Md.dh {a c:World} {S:List Nat} {v:Value} (d:Md S a w) (e:Md (ah v).toList w c) (f:∀b,ah v=some b->b∈S\/a.heap.size<=b):Md S a c :=
  d.step e fun i hi=>by
    cases h:ah v with
    | none=>rw[h]at hi;simp at hi
    | some b=>rw[h]at hi;simp at hi;subst hi;exact f i h
theorem za (c:Ly):∀a∈c.map b8,a.oneCell'=true:=by intro a b;obtain⟨x,_,rfl⟩:=List.mem_map.1 b;rfl
theorem aiB {e:Type} {b c:Nat} {o:Nat} {len cap:Nat} {d:List e} (h:b≠c):Apart (.slice (some ⟨b,o,none⟩) len cap) d [c]:=by intro f a _;simp[ah]at a;subst a;simpa using h
theorem OO {v:Value} {a:Ly} {b:Nat} (h:By w v a) (hb:w.heap.size<=b):Apart v a [b]:=Apart.agP h (by intro i hi;simp at hi;subst hi;exact hb)
theorem WJ {x y:Operand} {t e:TypeId} {v u:Value} {xs ys:Ly} (m:P.underlying t=some (.slice e)) (j:wF P e 1 1=true) (o:ev n l x=some v) (p:ev n l y=some u)
    (hO:Own w e 1 v xs.length (xs.map b8)) (hS:By w u ys) (hbytes:xs.length+ys.length<=140737488355328)
    (k:∀a c,Own c e 1 a (xs ++ ys).length ((xs ++ ys).map b8)->Md (ah v).toList w c->(a = .slice none 0 0↔v = .slice none 0 0/\ys.length=0)->(∀b,ah a=some b->ah v=some b\/w.heap.size<=b) ->
      wpList P ops Q rest (aQ A D ((d,a) :: l)) c) :
    wpList P ops Q (⟨some d,.call {callee:=.builtin .append,args:=#[x,y],argTypes:=#[t,t]},ty,ps,af,none⟩ :: rest) (aQ A D l) w :=
  ab1 (xs:=xs.map b8) (ys:=ys.map b8) m j o p (by simpa using hO) hS (za _) (by simp[maxLen];omega) Ym fun a c f g h i=>k a c (by simpa using f) g (by simpa using h) i
theorem Own.amm {e:TypeId} {m:Nat} {v:Value} {xs:List Value} (h:Own w e 1 v m xs):Own w e 1 (oJ v 0 0) 0 []:=by
  rcases h.2 with⟨rfl,rfl⟩|⟨g,A,B,rfl,C,E,G,D,F,H⟩
  · exact Own.nil w e 1
  refine⟨by simp,.inr ⟨g,A,B,?_,C,E,Nat.zero_le _,D,F,by simp⟩⟩;simp[oJ,Addr.add]
theorem TN {v:Value} {b:Nat} (h:ah (oJ v 0 0)=some b):ah v=some b:=GU h
theorem acO {place:Nat->Option (Nat × Nat)} {ps:List (Nat × Nat)} {vs cs:List Value} (a:ps.length=vs.length) (b:∀p∈ps,place p.1=some (p.2,1)/\p.2<cs.length) (h1:pD vs) :
    Instr.fill place cs.toArray ((ps.map (·.1)).zip vs)=some (su cs (xV ps vs)).toArray:=wJ ps vs cs a b h1
def HE:Nat->Nat->List (Nat × Nat)
  | _,0=>[]
  | i,k+1=>(i,i) :: HE (i+1) k
theorem adv (i k:Nat):(HE i k).length=k:=by induction k generalizing i with|zero=>rfl|succ k ih=>simp[HE,ih]
theorem RB {p:Nat × Nat}:∀{i k:Nat},p∈HE i k->p.1=p.2/\p.2<i+k
  | _,0,h=>by cases h
  | i,k+1,h=>by
    rcases List.mem_cons.1 h with rfl|h
    · exact⟨q,by simp⟩
    · have:=RB h;omega
theorem Zv:∀(vs:List Value) (pre cs:List Value),cs.length=vs.length->su (pre ++ cs) (xV (HE pre.length vs.length) vs)=pre ++ vs
  | [],pre,cs,h=>by have:cs=[]:=List.eq_nil_of_length_eq_zero (by simpa using h);subst this;rfl
  | v :: vs,pre,c :: cs,h=>by simp only[List.length_cons,HE,xV,su];have e:(pre ++ c :: cs).set pre.length v=(pre ++ [v]) ++ cs:=(by simp);rw[e];have:=Zv vs (pre ++ [v]) cs (by simpa using h);simp only[List.length_append,List.length_cons,List.length_nil,Nat.zero_add]at this;rw[this];simp
  | _ :: _,_,[],h=>by simp at h
theorem qQ {t e:TypeId} {m y:Nat} {parts:List (Nat × Operand)} {vs:List Value} (I:P.underlying t=some (.slice e)) (B:wF P e 1 y=true) (L:m<=16777216) (F:parts.map (·.1)=(HE 0 m).map (·.1)) (E:evs n l (parts.map (·.2))=some vs)
    (hlen:vs.length=m) (h1:pD vs) (h0:m≠0)
    (k:∀b c,w.heap.size<=b->b<c.heap.size->Md [] w c->bC c b vs e->wpList P ops Q rest (aQ A D ((d,.slice (some ⟨b,0,none⟩) m m) :: l)) c) :
    wpList P ops Q (⟨some d,.buildSlice t m parts.toArray,ty,ps,af,none⟩ :: rest) (aQ A D l) w:=by
  refine fU rfl ?_;obtain⟨i,z,h,V,v,W,f⟩:=qU B;have R:=mP (A:=A) (D:=D) E;have G:parts.map (fun p=>(p.1,(aQ A D l).eval p.2))=((HE 0 m).map (·.1)).zip vs:=by rw[<- F,<- R,List.map_map,List.zip_map'];rfl
  have C:∀cs:List Value,cs.length=m->Instr.fill (fun i=>some (i*1,1)) cs.toArray (((HE 0 m).map (·.1)).zip vs)=some vs.toArray:=by intro cs J;have:=acO (place:=fun i=>some (i*1,1)) (ps:=HE 0 m) (vs:=vs) (cs:=cs) (by rw[adv,hlen]) (fun p T=>by have:=RB T;simp only[Nat.mul_one];exact⟨by rw[this.1],by omega⟩) h1;have g:=Zv vs [] cs Xx;simp only[List.nil_append,List.length_nil]at g;rw[hlen]at g;rw[this,g]
  have j:(execOp (aQ A D l).eval ⟨some d,.buildSlice t m parts.toArray,ty,ps,af,none⟩).run P w = .ok (.value (.slice (some ⟨w.heap.size,0,none⟩) m m)) (w.alloc (.cells vs.toArray e)):=by
    have r:∃a,z.cells = #[a]:=by
      cases hzc:z.cells with
      | mk q=>rw[hzc]at f;simp at f;match q,f with|[a],_=>exact⟨a,rfl⟩
    obtain⟨a,s⟩:=r;have H:(if m=0 then(#[]:Array Value)else #[a]).size<=1:=(by split <;> simp);have K:¬(16777216<m):=(by omega);show Sem.run P (do pure (Next.value (<- Instr.buildSlice t m ((parts.toArray).map fun x=>(x.1,(aQ A D l).eval x.2))))) w=_;rw[List.map_toArray,G];have o:((List.range m).map fun x=>(#[a]:Array Value)[x%1]!).length=m:=(by simp);have:=C _ o;simp only[Nat.mul_one]at this;simp only[Instr.buildSlice,Sem.run_bind,run_underlying I,Result.andThen_ok,e7 h,v,Nat.mul_one];simp[show ¬(16777216<m)by omega,h0,zeroValue,typeInfo,h,V,s,newRow];have u:Array.map (fun x=>([a]:List Value)[x%1]?.getD default) (Array.range m)=((List.range m).map fun x=>(#[a]:Array Value)[x%1]!).toArray:=(by apply Array.ext';simp);rw[u,this];simp
  unfold Oper.wp;rw[j];exact k _ _ (Nat.le_refl _) Oy (Md.alloc w _) (bC.new w vs e)
theorem ahj {x:Operand} {t u e:TypeId} {p:Addr} {g:Option (Nat × Bool)} (f:ev n l x=some (.pointer (some p))) (a:P.underlying t=some (.pointer e)) :
    bZ P ⟨some d,.binOp .eql t x (.const (.pointer none)) u,ty,ps,af,g⟩ (aQ A D l).eval w (.bool false):=by
  have c:P.underlying t=some (.pointer (P.pointee t)):=by rw[a];simp[Program.pointee,a]
  have h:=run_eql_pointer_nil (P:=P) w t (some p) c;have b:(aQ A D l).eval (.const (.pointer none)) = .pointer none:=rfl;have C:(eqGuard .eql t x (.const (.pointer none)) (.pointer (some p)) (.pointer none)).run P w = .ok () w:=by unfold eqGuard;simp
  simp[bZ,execOp,bM f,b,C,h]
end
end Go.Wk
namespace Go.Wk
open Go Go.RowKit
section
variable {P:Program} {ops:Array Oper} {md:Region.Mode} {C:World->Prop} {Q:Exit->Act->World->Prop}
def QF:Exit->Act->World->Prop:=fun _ _ _=>False
def opC (P:Program) (ops:Array Oper) (C:World->Prop) (i:Nat) (K:Act->World->Prop) (a:Act) (w:World):Prop :=
  match ops[i]? with
  | none=>K a w
  | some o=>if Region.wanted o (yielded ops a.tmps)then o.wp P a w (fun a' w'=>C w'/\K a' w') QF else K (a.put o.dst undef) w
def lI (P:Program) (md:Region.Mode) (ops:Array Oper) (C:World->Prop) (Q:Act->World->Prop):Nat->Array Bool->Act->World->Prop
  | 0,listed,a,w=>Region.ready md ops listed=[]/\Q a w
  | f+1,listed,a,w=>(Region.ready md ops listed=[]->Q a w)/\∀i∈Region.ready md ops listed,opC P ops C i (lI P md ops C Q f (listed.setIfInBounds i true)) a w
theorem WV {o:Oper} {a:Act} {w:World} {g i:Act->World->Prop} (h:∀a w,g a w->i a w) (b:o.wp P a w g QF):o.wp P a w i Q:=by
  unfold Oper.wp at *;generalize (execOp a.eval o).run P w=r at *;cases r with
  | ok x w' =>
    cases x <;> simp only[Oper.upon]at b ⊢
    case value v=>exact h _ _ b
    case skip=>exact h _ _ b
    case defer d=>exact h _ _ b
    case enter f args =>
      refine b.mono fun k j e=>?_;cases k with
      | returned v=>exact h _ _ e
      | panicked c=>exact e.elim
      | outgrown=>obtain⟨_,_,e⟩:=e;exact e.elim
    case row r args=>exact b.mono fun v j e=>h _ _ e
  | halt x w' =>
    cases x <;> simp only[Oper.upon]at b ⊢
    exact b.elim
theorem uZ {o:Oper} {a:Act} {w:World} {b c:Act->World->Prop} (h:∀a w,b a w->c a w) (d:o.wp P a w b QF):o.wp P a w c QF:=WV (Q:=QF) h d
theorem pX {QN:Act->World->Prop} (c:∀a w,QN a w->Q .normal a w):∀(f:Nat) (listed:Array Bool) (a:Act) (w:World),lI P md ops C QN f listed a w->wpAny P md ops Q f listed a w
  | 0,_,_,_,h=>⟨h.1,c _ _ h.2⟩
  | f+1,listed,a,w,h=>⟨fun e=>c _ _ (h.1 e),fun i hi=>by
      have b:=h.2 i hi;unfold opC at b;unfold wpOp;split
      · rename_i ho;rw[ho]at b;exact pX c f _ a w b
      · rename_i o ho
        rw[ho]at b;simp only at b;split
        · rename_i hw;rw[if_pos hw]at b;exact .inl (WV (fun d j g=>pX c f _ d j g.2) b)
        · rename_i hw;rw[if_neg hw]at b;exact pX c f _ _ w b⟩
def Qv (P:Program) (ops:Array Oper) (C:World->Prop) (o:Oper) (v:Value) (a:Act):Prop :=
  (Region.wanted o (yielded ops a.tmps)=true/\∀w,C w->(execOp a.eval o).run P w = .ok (.value v) w)\/(Region.wanted o (yielded ops a.tmps)=false/\v=undef)
theorem Qv.opC {i:Nat} {o:Oper} {v:Value} {a:Act} {w:World} {b:Act->World->Prop} (hi:ops[i]? = some o) (c:C w) (d:Qv P ops C o v a) (h:b (a.put o.dst v) w):Wk.opC P ops C i b a w:=by
  unfold Wk.opC;simp only[hi]
  rcases d with⟨A,B⟩|⟨A,rfl⟩
  · rw[if_pos A];unfold Oper.wp;rw[B w c];exact⟨c,h⟩
  rw[if_neg (by rw[A];simp)];exact h
theorem Qv.keep {c:Oper} {v:Value} {a:Act} {d:Option Tmp} {u:Value} (g:∀f b,c.op≠.select f b) (h:∀e,d=some e->e∉c.looksAt ops) (i:Qv P ops C c v a):Qv P ops C c v (a.put d u):=by unfold Qv at *;rw[execOp_put c g a d u h,wanted_put c a d u h];exact i
theorem YV {j:Nat} {i k:Oper} {v:Value} {a:Act} {w:World} {o p:Act->World->Prop} (u:ops[j]? = some k) (t:i.apart ops k=true) (y:∀s b,k.op≠.select s b)
    (hK:∀(b:Act) e w',b.tmps=a.tmps->C w'->o ((b.put k.dst e).put i.dst v) w'->p (b.put k.dst e) w') (hw:C w)
    (h:opC P ops C j o (a.put i.dst v) w):opC P ops C j p a w:=by
  obtain⟨n,D,z⟩:=Oper.apart_spec t;unfold opC at *;simp only[u]at *;rw[wanted_put k a i.dst v n]at h;split
  · rename_i hwt
    rw[if_pos hwt]at h;unfold Oper.wp at *;rw[execOp_put k y a i.dst v n]at h;generalize hr:(execOp a.eval k).run P w=r at *;cases r with
    | ok x w' =>
      cases x <;> simp only[Oper.upon]at h ⊢
      case value e=>exact⟨h.1,hK a e w' q h.1 (by rw[<- Act.put_comm a v e D];exact h.2)⟩
      case skip=>exact⟨h.1,hK a undef w' q h.1 (by rw[<- Act.put_comm a v undef D];exact h.2)⟩
      case defer d =>
        have m:({a.put i.dst v with defers:=d :: (a.put i.dst v).defers}:Act)=({a with defers:=d :: a.defers}:Act).put i.dst v:=(by cases i.dst <;> rfl);refine⟨h.1,hK {a with defers:=d :: a.defers} undef w' q h.1 ?_⟩;rw[<- Act.put_comm _ v undef D,<- m];exact h.2
      case enter f args =>
        refine h.mono fun m l g=>?_;cases m with
        | returned e=>exact⟨g.1,hK a e l q g.1 (by rw[<- Act.put_comm a v e D];exact g.2)⟩
        | panicked c=>exact g
        | outgrown=>exact g
      case row r args=>exact h.mono fun e l g=>⟨g.1,hK a e l q g.1 (by rw[<- Act.put_comm a v e D];exact g.2)⟩
    | halt x w' =>
      cases x <;> simp only[Oper.upon]at h ⊢
      exact h
  rename_i hwt;rw[if_neg hwt]at h;exact hK a undef w q hw (by rw[<- Act.put_comm a v undef D];exact h)
theorem Qv.same {d:Oper} {v:Value} {a b:Act} (c:b.tmps=a.tmps) (f:Qv P ops C d v a):Qv P ops C d v b:=by
  have e:b.eval=a.eval:=by funext x;cases x <;> simp[Act.eval,c]
  unfold Qv at *;rw[e,c];exact f
theorem sA {QN:Act->World->Prop} {i:Nat} {l:Oper} {v:Value} (hi:ops[i]? = some l) (A:∀(j:Nat) (o:Oper) p b,ops[j]? = some o->o.op≠.select p b) :
    ∀(f:Nat) (listed:Array Bool) (a:Act) (w:World),
      (∀j g,ops[j]? = some g->j≠i->listed.getD j true=false->(∀d∈g.after,Region.binds md d=true->d.on≠i)->l.apart ops g=true) ->
      i∈Region.ready md ops listed->C w->Qv P ops C l v a ->
      lI P md ops C QN f (listed.setIfInBounds i true) (a.put l.dst v) w->lI P md ops C QN (f+1) listed a w:=by
  intro f
  induction f with
  | zero =>
    intro listed a w _ e q s H;refine⟨fun h=>(by rw[h]at e;cases e),fun j r=>?_⟩
    by_cases hji:j=i
    · subst hji;exact s.opC hi q H
    · have:=ready_mono r hji
      rw[H.1]at this;cases this
  | succ f ih =>
    intro listed a w u e q s H;refine⟨fun h=>(by rw[h]at e;cases e),fun j r=>?_⟩
    by_cases hji:j=i
    · subst hji;exact s.opC hi q H
    · have F:=H.2 j (ready_mono r hji)
      obtain⟨x,g,D,G⟩:=mem_ready.1 r;have B:∀d∈g.after,Region.binds md d=true->d.on≠i:=fun d c t T=>by
        have m:=G d c t;have W:=(mem_ready.1 e).1;rw[T]at m
        rcases Nat.lt_or_ge i listed.size with Q|Q
        · simp[Q]at W m;rw[W]at m;cases m
        · simp[Array.getElem?_eq_none Q]at m
      have y:=u j g D hji x B;obtain⟨_,_,I⟩:=Oper.apart_spec y;have L:∀k n,ops[k]? = some n->k≠i->(listed.setIfInBounds j true).getD k true=false ->
          (∀d∈n.after,Region.binds md d=true->d.on≠i)->l.apart ops n=true:=fun k n hk E z V=>by
        refine u k n hk E ?_ V
        by_cases hjk:j=k
        · subst hjk;exact x
        · rw[getD_set_ne true hjk]at z;exact z
      refine YV D y (fun p b=>A j g p b D) (fun b M K t R J=>?_) q F;refine ih (listed.setIfInBounds j true) _ K L (ready_mono e (Ne.symm hji)) R ((s.same t).keep (fun p b=>A i l p b hi) I) ?_;rw[Array.setIfInBounds_comm _ _ hji];exact J
def tN (l:List Oper):List (Nat × Bool)->List (Bool × Oper)
  | []=>[]
  | (i,q) :: r=>match l[i]? with
    | some o=>(q,o) :: tN l r
    | none=>tN l r
def fD (P:Program) (ops:Array Oper) (C:World->Prop) (QN:Act->World->Prop):List (Bool × Oper)->Act->World->Prop
  | [],a,w=>QN a w
  | (true,o) :: r,a,w=>if Region.wanted o (yielded ops a.tmps)then ∃v,(∀w',C w'->(execOp a.eval o).run P w' = .ok (.value v) w')/\fD P ops C QN r (a.put o.dst v) w else fD P ops C QN r (a.put o.dst undef) w
  | (false,o) :: r,a,w=>if Region.wanted o (yielded ops a.tmps)then o.wp P a w (fun a' w'=>C w'/\∃C':World->Prop,C' w'/\(∀x,C' x->C x)/\fD P ops C' QN r a' w') QF else fD P ops C QN r (a.put o.dst undef) w
theorem qF {d:World->Prop} {QN:Act->World->Prop} (c:∀x,d x->C x):∀(f:Nat) (listed:Array Bool) (a:Act) (w:World),lI P md ops d QN f listed a w->lI P md ops C QN f listed a w
  | 0,_,_,_,h=>h
  | f+1,listed,a,w,h=>⟨h.1,fun i hi=>by
      have b:=h.2 i hi;unfold opC at *;split
      · rename_i ho;rw[ho]at b;exact qF c f _ a w b
      · rename_i o ho
        rw[ho]at b;simp only at b;split
        · rename_i hw;rw[if_pos hw]at b;exact uZ (fun g j e=>⟨c _ e.1,qF c f _ g j e.2⟩) b
        · rename_i hw;rw[if_neg hw]at b;exact qF c f _ _ w b⟩
def adL (md:Region.Mode) (ops:Array Oper):List (Nat × Bool)->Array Bool->Bool
  | [],listed=>(Region.ready md ops listed).isEmpty
  | (i,q) :: r,listed=>(ops[i]?).isSome && (if q then(Region.ready md ops listed).contains i && Region.free md ops listed i else decide (Region.ready md ops listed=[i])) && adL md ops r (listed.setIfInBounds i true)
theorem lZ {QN:Act->World->Prop} (d:Region.noSelect ops=true):∀{C:World->Prop} (f:List (Nat × Bool)) (listed:Array Bool) (a:Act) (w:World),C w->adL md ops f listed=true ->
    fD P ops C QN (tN ops.toList f) a w->lI P md ops C QN f.length listed a w
  | _,[],listed,a,w,_,hB,h=>⟨by simpa [adL]using hB,h⟩
  | _,(i,q) :: r,listed,a,w,hC,hB,h=>by
    simp only[adL,Bool.and_eq_true]at hB;obtain⟨⟨p,b⟩,e⟩:=hB;obtain⟨o,c⟩:=Option.isSome_iff_exists.1 p;have s:ops.toList[i]? = some o:=(by simpa using c);simp only[tN,s]at h;cases q with
    | true =>
      simp only[if_true,Bool.and_eq_true]at b;simp only[fD]at h;have j:i∈Region.ready md ops listed:=(by simpa using b.1);split at h
      · rename_i hw
        obtain⟨v,n,hk⟩:=h;exact sA c (Region.noSelect_spec d) r.length listed a w (Region.free_spec c b.2) j hC (.inl ⟨hw,n⟩) (lZ d r _ _ _ hC e hk)
      · rename_i hw
        exact sA c (Region.noSelect_spec d) r.length listed a w (Region.free_spec c b.2) j hC (.inr ⟨by simpa using hw,rfl⟩) (lZ d r _ _ _ hC e h)
    | false =>
      simp only[Bool.false_eq_true,if_false,decide_eq_true_eq]at b;simp only[fD]at h;refine⟨fun g=>(by rw[b]at g;cases g),fun t D=>?_⟩;rw[b]at D;have l:t=i:=(by simpa using D);subst l;unfold opC;simp only[c];split at h
      · rename_i hw
        rw[if_pos hw];exact uZ (fun x y k=>⟨k.1,by obtain⟨u,G,H,m⟩:=k.2;exact qF H _ _ _ _ (lZ d r _ _ _ G e m)⟩) h
      · rename_i hw
        rw[if_neg hw];exact lZ d r _ _ _ hC e h
def ait (md:Region.Mode) (ops:Array Oper) (ord:List (Nat × Bool)):Bool:=Region.noSelect ops && decide (ord.length=ops.size) && adL md ops ord (Array.replicate ops.size false)
theorem CF {id:Nat} {lo:List Oper} {a:Act} {w:World} (b:List (Nat × Bool)) (C:World->Prop) (j:P.follows .mixedOrders=true) (d:ait .any lo.toArray b=true)
    (h:∀c,Md [] w c->C c/\fD P lo.toArray C (fun a w=>Q .normal a w) (tN lo b) a c):(Code.region id lo.toArray true).wp P Q a w:=by
  simp only[ait,Bool.and_eq_true,decide_eq_true_eq]at d;obtain⟨⟨e,f⟩,D⟩:=d;obtain⟨g,hk⟩:=h _ (Md.drew w);refine wp_region_any j (pX (C:=C) (QN:=fun a w=>Q .normal a w) (fun _ _ i=>i) _ _ _ _ ?_);have:=lZ (md:=.any) (C:=C) (QN:=fun a w=>Q .normal a w) e b _ a _ g D hk
  rwa [f]at this
variable {n:Nat} {A:Fr n} {D:List Deferred} {l:List (Nat × Value)} {w:World} {QN:Act->World->Prop} {rest:List (Bool × Oper)}
variable {d:Tmp} {op:Op} {ty:TypeId} {ps:String} {af:Array Edge}
theorem m (v:Value) (b:∀a,C a->bZ P ⟨some d,op,ty,ps,af,none⟩ (aQ A D l).eval a v) (k:fD P ops C QN rest (aQ A D ((d,v) :: l)) w) :
    fD P ops C QN ((true,⟨some d,op,ty,ps,af,none⟩) :: rest) (aQ A D l) w:=by
  unfold fD;rw[if_pos (by simp[Region.wanted])];exact⟨v,b,k⟩
theorem qL {j t:Nat} {o:Oper} {b a:Bool} (v:Value) (e:ops[j]? = some o) (f:o.dst=some t) (g:ev n l (.tmp t)=some (.bool b)) (hb:b=a)
    (hr:∀c,C c->bZ P ⟨some d,op,ty,ps,af,some (j,a)⟩ (aQ A D l).eval c v) (k:fD P ops C QN rest (aQ A D ((d,v) :: l)) w) :
    fD P ops C QN ((true,⟨some d,op,ty,ps,af,some (j,a)⟩) :: rest) (aQ A D l) w:=by
  unfold fD;rw[if_pos (by simp[Region.wanted,nO e f g,hb])];exact⟨v,hr,k⟩
theorem eD {q:Bool} {j t:Nat} {o:Oper} {b a:Bool} (c:ops[j]? = some o) (e:o.dst=some t) (f:ev n l (.tmp t)=some (.bool b)) (hb:b = !a)
    (k:fD P ops C QN rest (aQ A D ((d,undef) :: l)) w) :
    fD P ops C QN ((q,⟨some d,op,ty,ps,af,some (j,a)⟩) :: rest) (aQ A D l) w:=by
  cases q <;> unfold fD <;> rw[if_neg (by subst hb;simp[Region.wanted,nO c e f])] <;> exact k
theorem NF {t:Nat} {b:Bool} {a:List (Bool × Oper)} (_:ev n l (.tmp t)=some (.bool b)) (h1:b=true->fD P ops C QN a (aQ A D l) w) (c:b=false->fD P ops C QN a (aQ A D l) w):fD P ops C QN a (aQ A D l) w:=by cases b<;>simp_all
theorem dD {a:Act} (h:QN a w):fD P ops C QN [] a w:=h
theorem m_c {o:Oper} {a:Act} (h:wpList P ops (fun i l e=>i = .normal/\C e/\∃g:World->Prop,g e/\(∀x,g x->C x)/\fD P ops g QN rest l e) [o] a w) (j:Region.wanted o (yielded ops a.tmps)=true):fD P ops C QN ((false,o) :: rest) a w:=by
  unfold fD;rw[if_pos j];unfold wpList at h;rw[if_pos j]at h
  rcases h with h|h
  · unfold Oper.wp at *
    generalize (execOp a.eval o).run P w=r at *;cases r with
    | ok x e =>
      cases x <;> simp only[Oper.upon]at h ⊢
      case value v=>exact(show _/\_ from h).2
      case skip=>exact(show _/\_ from h).2
      case defer d=>exact(show _/\_ from h).2
      case enter f args =>
        refine h.mono fun i k b=>?_;cases i with
        | returned v=>exact(show _/\_ from b).2
        | panicked c=>exact absurd b.1 Oy
        | outgrown=>obtain⟨_,_,b⟩:=b;exact absurd b.1 Oy
      case row r args=>exact h.mono fun v k b=>(show _/\_ from b).2
    | halt x e =>
      cases x <;> simp only[Oper.upon]at h ⊢
      exact absurd h.1 Oy
  obtain⟨_,_,_,b⟩:=h;exact absurd b.1 Oy
theorem al2 {i j:Exit->Act->World->Prop} (b:∀g a w,i g a w->j g a w) {a:Act} {o:Oper} (h:wpList P ops i [o] a w):wpList P ops j [o] a w:=by
  unfold wpList at *;split
  · rename_i hw
    rw[if_pos hw]at h
    rcases h with h|h
    · refine .inl ?_
      unfold Oper.wp at *;generalize (execOp a.eval o).run P w=r at *;cases r with
      | ok x w' =>
        cases x <;> simp only[Oper.upon]at h ⊢
        case value v=>exact b _ _ _ h
        case skip=>exact b _ _ _ h
        case defer d=>exact b _ _ _ h
        case enter f args =>
          refine h.mono fun g k e=>?_;cases g with
          | returned v=>exact b _ _ _ e
          | panicked c=>exact b _ _ _ e
          | outgrown=>obtain⟨C,D,e⟩:=e;exact⟨C,D,b _ _ _ e⟩
        case row r args=>exact h.mono fun v k e=>b _ _ _ e
      | halt x w' =>
        cases x <;> simp only[Oper.upon]at h ⊢
        exact b _ _ _ h
    obtain⟨C,D,l,e⟩:=h;exact .inr ⟨C,D,l,b _ _ _ e⟩
  rename_i hw;rw[if_neg hw]at h;exact b _ _ _ h
theorem mL {o:Oper} {a:Act} (h:wpList P ops (fun e d c=>e = .normal/\C c/\fD P ops C QN rest d c) [o] a w) (f:Region.wanted o (yielded ops a.tmps)=true):fD P ops C QN ((false,o) :: rest) a w :=
  m_c (al2 (fun _ _ _ b=>⟨b.1,b.2.1,C,b.2.1,fun _ h=>h,b.2.2⟩) h) f
theorem al6 {j t:Nat} {o a:Oper} {b d:Bool} (i:ops[j]? = some a) (k:a.dst=some t) (m:ev n l (.tmp t)=some (.bool b)) (hb:b=d) (g:o.guard=some (j,d))
    (h:wpList P ops (fun f e c=>f = .normal/\C c/\fD P ops C QN rest e c) [o] (aQ A D l) w):fD P ops C QN ((false,o) :: rest) (aQ A D l) w :=
  mL h (by simp[Region.wanted,g,nO i k m,hb])
end
end Go.Wk
namespace Go.Wk
open Go Go.RowKit
def str (s:Ly):Value:=.string ⟨s.toArray⟩
section
variable {P:Program} {n:Nat} {A:Fr n} {D:List Deferred} {l:List (Nat × Value)} {w:World}
variable {d:Option Tmp} {ty:TypeId} {ps:String} {af:Array Edge} {g:Option (Nat × Bool)}
theorem sj {x:Operand} {s:Ly} {t:TypeId} (c:ev n l x=some (str s)) (b:P.underlying t=some .string) :
    bZ P ⟨d,.call {callee:=.builtin .len,args:=#[x],argTypes:=#[t]},ty,ps,af,g⟩ (aQ A D l).eval w (.int .i64 s.length):=by
  have a:(⟨s.toArray⟩:ByteArray).size=s.length:=by simp[ByteArray.size]
  simp[bZ,execOp,bM c,resolve,invoke,builtin,Builtin.len_,run_underlying b,goInt,str,a]
theorem ajD {x y:Operand} {s:Ly} {t:TypeId} {k:IntKind} {i:Int} (c:ev n l x=some (str s)) (e:ev n l y=some (.int k i)) (b:P.underlying t=some .string) (hi:0<=i/\i<s.length) :
    bZ P ⟨d,.index t x y,ty,ps,af,g⟩ (aQ A D l).eval w (b8 (s.getD i.toNat 0)):=by
  have h:=run_index_string (P:=P) w t ⟨s.toArray⟩ k i b;have a:(⟨s.toArray⟩:ByteArray).size=s.length:=by simp[ByteArray.size]
  rw[dif_pos (by rw[a];exact hi)]at h;have C:((⟨s.toArray⟩:ByteArray)[i.toNat]'(by rw[a];omega))=s.getD i.toNat 0:=by show s.toArray[i.toNat]'_=_;have:i.toNat<s.length:=(by omega);simp[List.getD,this]
  rw[C]at h;simp[bZ,execOp,bM c,bM e,str,b8,h]
theorem xK {x y:Operand} {s:Ly} {t:TypeId} {k:IntKind} {i:Nat} (b:ev n l x=some (str s)) (c:ev n l y=some (.int k (i:Int))) (a:P.underlying t=some .string) (hi:i<s.length) :
    bZ P ⟨d,.index t x y,ty,ps,af,g⟩ (aQ A D l).eval w (b8 (s.getD i 0)):=by
  have:=ajD (P:=P) (A:=A) (D:=D) (w:=w) (d:=d) (ty:=ty) (ps:=ps) (af:=af) (g:=g) b c a Xx;simpa using this
theorem xM {c:BinOp} {x y:Operand} {t u:TypeId} {a b:Ly} {r:Value} (f:ev n l x=some (str a)) (h:ev n l y=some (str b)) (e:∀v,(eqGuard c t x y (str a) v).run P w = .ok () w)
    (hr:(binOp c t (str a) (str b)).run P w = .ok r w):bZ P ⟨d,.binOp c t x y u,ty,ps,af,g⟩ (aQ A D l).eval w r:=by
  simp[bZ,execOp,bM f,bM h,e,hr]
theorem rO (b:BinOp) (t:TypeId) (x y:Operand) (a:Ly) (v:Value):(eqGuard b t x y (str a) v).run P w = .ok () w:=by unfold eqGuard str;cases b<;>simp
theorem BJ (a b:Ly):((⟨a.toArray⟩:ByteArray).toList == (⟨b.toArray⟩:ByteArray).toList)=decide (a=b):=by rw[ByteArray.toList_eq,ByteArray.toList_eq];rw[Bool.eq_iff_iff];simp
theorem NR {x y:Operand} {t u:TypeId} {a b:Ly} (e:ev n l x=some (str a)) (f:ev n l y=some (str b)) (c:a.length+b.length<=9223372036854775807) :
    bZ P ⟨d,.binOp .add t x y u,ty,ps,af,g⟩ (aQ A D l).eval w (str (a ++ b)):=by
  refine xM e f (rO _ _ _ _ _) ?_;have h:=run_string_add_sum (P:=P) (w:=w) ⟨a.toArray⟩ ⟨b.toArray⟩ (by simpa [ByteArray.size]using c);simp only[binOp,str];rw[h];congr 2
theorem pO {x y:Operand} {t u:TypeId} {a b:Ly} (c:ev n l x=some (str a)) (e:ev n l y=some (str b)) :
    bZ P ⟨d,.binOp .eql t x y u,ty,ps,af,g⟩ (aQ A D l).eval w (.bool (decide (a=b))) :=
  xM c e (rO _ _ _ _ _) (by simp only[binOp,str,Op.stringOp,BJ,Sem.run_pure])
theorem ajG {x y:Operand} {t u:TypeId} {a b:Ly} (c:ev n l x=some (str a)) (e:ev n l y=some (str b)) :
    bZ P ⟨d,.binOp .neq t x y u,ty,ps,af,g⟩ (aQ A D l).eval w (.bool (!decide (a=b))) :=
  xM c e (rO _ _ _ _ _) (by simp only[binOp,str,Op.stringOp,BJ,Sem.run_pure])
theorem afb {x y:Operand} {t u:TypeId} {a b:Ly} (c:ev n l x=some (str a)) (e:ev n l y=some (str b)) :
    bZ P ⟨d,.binOp .lss t x y u,ty,ps,af,g⟩ (aQ A D l).eval w (.bool (Op.bytesLess a b)) :=
  xM c e (rO _ _ _ _ _) (by simp only[binOp,str,Op.stringOp,Sem.run_pure,ByteArray.toList_eq])
theorem ajC {x y:Operand} {t u:TypeId} {a b:Ly} (c:ev n l x=some (str a)) (e:ev n l y=some (str b)) :
    bZ P ⟨d,.binOp .gtr t x y u,ty,ps,af,g⟩ (aQ A D l).eval w (.bool (!(Op.bytesLess a b || decide (a=b)))) :=
  xM c e (rO _ _ _ _ _) (by simp only[binOp,str,Op.stringOp,Sem.run_pure];rw[BJ];simp only[ByteArray.toList_eq])
theorem ou {x:Operand} {v:Value} {s:Ly} {src a e:TypeId} (i:P.underlying src=some (.slice e)) (h:P.underlying e=some (.int .u8)) (hd:P.underlying a=some .string) (j:ev n l x=some v) (o:By w v s) :
    bZ P ⟨d,.convert src a x,ty,ps,af,g⟩ (aQ A D l).eval w (str s):=by
  obtain⟨f,b,rfl,t,u,k,G⟩:=o;have c:(convert src a (.slice f (s.map b8).length b)).run P w = .ok (str s) w:=by
    cases f with
    | none =>
      have y:=k q;have m:(s.map b8).length=0:=(by omega);have C:s=[]:=(by simpa using m);subst C;have:=run_convert_bytes_string (P:=P) w src a e none 0 b i h hd;simp only[List.map_nil,List.length_nil];rw[this];rfl
    | some p =>
      have:=run_convert_bytes_back (P:=P) w src a e p b s i h hd (fun r H=>G p q r _ (by simp[b8,H]));simpa [str]using this
  simp only[List.length_map]at c j;simp[bZ,execOp,bM j,c]
theorem PO (w:World) (a:Addr) (k:Nat) (p:Addr):(w.freeze a k).cell? p=w.cell? p:=by
  unfold World.freeze;split
  · rfl
  unfold World.cell?;simp only[Array.getElem?_modify]
  by_cases h:a.block=p.block
  · rw[if_pos h]
    cases w.heap[p.block]? with
    | none=>rfl
    | some o=>cases o <;> rfl
  rw[if_neg h]
theorem Md.freeze (w:World) (a:Addr) (k:Nat):Md [a.block] w (w.freeze a k):=by
  unfold World.freeze;split
  · exact⟨q,q,q,Nat.le_refl _,fun _ _ _=>rfl⟩
  refine⟨q,q,q,by simp,fun j _ A=>?_⟩;simp only[Array.getElem?_modify];rw[if_neg (by rintro rfl;simp at A)]
theorem Zw {f:Array Oper} {Q:Exit->Act->World->Prop} {rest:List Oper} {d:Tmp} {x:Operand} {s:Ly} {t e:TypeId} {b m c:Nat} {ty':TypeId} (z:P.underlying t=some (.slice e)) (y:P.underlying e=some (.int .u8))
    (hx:ev n l x=some (.slice (some ⟨b,0,none⟩) m c)) (hB:bC w b (s.map b8) ty') (hY:By w (.slice (some ⟨b,0,none⟩) m c) s)
    (k:∀a,Md [b] w a->By a (.slice (some ⟨b,0,none⟩) m c) s->wpList P f Q rest (aQ A D ((d,.slice (some ⟨b,0,none⟩) m c) :: l)) a) :
    wpList P f Q (⟨some d,.convert t t x,ty,ps,af,none⟩ :: rest) (aQ A D l) w:=by
  refine fU q ?_;have h:w.shape? b=some (ty',(s.map b8).toArray.size):=by unfold bC at hB;simp[World.shape?,hB]
  have g:(execOp (aQ A D l).eval ⟨some d,.convert t t x,ty,ps,af,none⟩).run P w = .ok (.value (.slice (some ⟨b,0,none⟩) m c)) (w.freeze ⟨b,(s.map b8).toArray.size,none⟩ 1):=by simp[execOp,bM hx,convert,run_underlying z,run_underlying y,markStringish,h]
  unfold Oper.wp;rw[g];refine k _ (Md.freeze w ⟨b,_,none⟩ _) ?_;obtain⟨v,C,i,G,H,j,o⟩:=hY;exact⟨v,C,i,G,H,j,fun p u B E r=>by rw[PO];exact o p u B E r⟩
theorem lg {j:Array Oper} {Q:Exit->Act->World->Prop} {rest:List Oper} {d:Tmp} {x:Operand} {s:Ly} {src a e:TypeId} (u:P.underlying src=some .string) (hd:P.underlying a=some (.slice e)) (t:P.underlying e=some (.int .u8))
    (hx:ev n l x=some (str s)) (hl:s.length<=maxLen)
    (k:∀v f,Md [] w f->By f v s->(∀b,ah v=some b->w.heap.size<=b/\b<f.heap.size)->wpList P j Q rest (aQ A D ((d,v) :: l)) f) :
    wpList P j Q (⟨some d,.convert src a x,ty,ps,af,none⟩ :: rest) (aQ A D l) w:=by
  refine fU q ?_;have i:=run_bytes_of_string (P:=P) w src a e ⟨s.toArray⟩ u hd t;have m:(⟨s.toArray⟩:ByteArray).size=s.length:=by simp[ByteArray.size]
  have C:(execOp (aQ A D l).eval ⟨some d,.convert src a x,ty,ps,af,none⟩).run P w = .ok (.value (.slice (some ⟨w.heap.size,0,none⟩) s.length (grownCap w s.length 0 e)))
      (w.drew.alloc (.cells (bytesRow ⟨s.toArray⟩ (grownCap w s.length 0 e)) e ((bytesRow ⟨s.toArray⟩ (grownCap w s.length 0 e)).size,(bytesRow ⟨s.toArray⟩ (grownCap w s.length 0 e)).size+1))):=by
    rw[m]at i;simp[execOp,bM hx,str,i]
  unfold Oper.wp;rw[C];refine k _ _ ⟨q,q,q,by simp,fun _ hk _=>heap_alloc_old _ _ hk⟩ ?_ ?_
  · refine⟨_,_,by simp;exact⟨q,q⟩,?_,?_,by simp,?_⟩
    · simpa using grownCap_ge w s.length 0 e
    · exact grownCap_le_maxLen w _ _ _ hl
    intro p H c y g;simp at H;subst H;have h:c<s.length:=(by have:=(List.getElem?_eq_some_iff.1 g).1;simpa using this);have r:=World.cell?_alloc_mark w.drew (bytesRow ⟨s.toArray⟩ (grownCap w s.length 0 e)) e ((bytesRow ⟨s.toArray⟩ (grownCap w s.length 0 e)).size,(bytesRow ⟨s.toArray⟩ (grownCap w s.length 0 e)).size+1) c;have o:(⟨w.heap.size,0,none⟩:Addr).add c=⟨w.heap.size,c,none⟩:=(by unfold Addr.add;split <;> simp_all);rw[o];refine r.trans ?_;simp[h,b8]at g;simp[bytesRow,Array.getElem?_append,h,g]
  intro b G;simp[ah]at G;subst G;simp
def pairT (P:Program) (t f:TypeId):Bool :=
  match P.underlying t with
  | some (.struct fs) => (fs.toList.map fun x => (x.type, x.offset)) == [(f, 0), (f, 1)] && fs.toList.all (fun x => x.name != "_") && iI P f && !P.stoodInHeld t && !P.eqGuardType P.depth t
  | _=>false
def mX (p:List UInt8 × List UInt8):Value:=.agg #[str p.1,str p.2]
theorem SR {t f:TypeId} (e:pairT P t f=true) (y:P.underlying f=some .string) (p q:List UInt8 × List UInt8) (w:World) (k:Nat):(Op.equalIn (k+2) t (mX p) (mX q)).run P w = .ok (decide (p=q)) w:=by
  unfold pairT at e;split at e
  · rename_i fs I
    simp only[Bool.and_eq_true,Bool.not_eq_true']at e;obtain⟨⟨⟨⟨H,c⟩,o⟩,r⟩,T⟩:=e;have i:P.fieldsOf t=fs:=(by simp[Program.fieldsOf,I]);have z:P.underlying t=some (.struct (P.fieldsOf t)):=(by rw[i];exact I);have h:=run_equalIn_struct (P:=P) w (k+1) t #[str p.1,str p.2] #[str q.1,str q.2] z r;unfold mX;rw[h,i];obtain⟨n⟩:=fs;simp only at H c ⊢;have a:=eq_of_beq H
    match n,a,c with
    | [],a,_=>simp at a
    | [_],a,_=>simp at a
    | _ :: _ :: _ :: _,a,_=>simp at a
    | [g,b],a,c =>
      simp only[List.map_cons,List.map_nil,List.cons.injEq,Prod.mk.injEq,and_true]at a;obtain⟨⟨s,D⟩,u,m⟩:=a;simp only[List.all_cons,List.all_nil,Bool.and_true,Bool.and_eq_true,bne_iff_ne]at c;have j:=nS o;have G:∀(g b:Ly) (w:World),(Op.equalIn (k+1) f (str g) (str b)).run P w = .ok (decide (g=b)) w:=fun g b w=>by unfold str;rw[run_equalIn_string w k f _ _ y,BJ]
      have l:∀(d v:Value) (w:World),(part f #[d,v] 0).run P w = .ok d w:=fun d v w=>by simp[part,j]
      have C:∀(d v:Value) (w:World),(part f #[d,v] 1).run P w = .ok v w:=fun d v w=>by simp[part,j]
      simp only[Op.eqFields,ne_eq,c.1,c.2,not_false_eq_true,if_true,s,D,u,m,Sem.run_bind,l,C,Result.andThen_ok,G];have A:=l;have B:=C;obtain⟨C,Q⟩:=p;obtain⟨R,x⟩:=q
      by_cases h6:C=R <;> by_cases h7:Q=x <;> simp[h6,h7,Sem.run_ite,A,B,G]
  cases e
theorem VK {t f:TypeId} (a:pairT P t f=true) (b:BinOp) (x y:Operand) (p q:List UInt8 × List UInt8):(eqGuard b t x y (mX p) (mX q)).run P w = .ok () w:=by
  unfold pairT at a;split at a
  · simp only[Bool.and_eq_true,Bool.not_eq_true']at a
    exact run_eqGuard_agg w b t x y _ _ a.2
  cases a
theorem ajB {x y:Operand} {t f u:TypeId} {p q:List UInt8 × List UInt8} (a:pairT P t f=true) (c:P.underlying f=some .string) (e:ev n l x=some (mX p)) (h:ev n l y=some (mX q)) :
    bZ P ⟨d,.binOp .eql t x y u,ty,ps,af,g⟩ (aQ A D l).eval w (.bool (decide (p=q))):=by
  have b:=VK (w:=w) a .eql x y p q;have C:(binOp .eql t (mX p) (mX q)).run P w = .ok (.bool (decide (p=q))) w:=by rw[mX,mX,run_eql_struct,<- mX,<- mX,SR a c p q w 9998];rfl
  simp[bZ,execOp,bM e,bM h,b,C]
theorem kF {b:Array Oper} {Q:Exit->Act->World->Prop} {rest:List Oper} {h:Op} {d:Tmp} {j t:Nat} {o:Oper} {i:Bool} (e:b[j]? = some o) (f:o.dst=some t) (g:ev n l (.tmp t)=some undef)
    (k:wpList P b Q rest (aQ A D ((d,undef) :: l)) w) :
    wpList P b Q (⟨some d,h,ty,ps,af,some (j,i)⟩ :: rest) (aQ A D l) w:=by
  have a:=bM (A:=A) (D:=D) g;have c:yielded b (aQ A D l).tmps j=none:=by
    simp only[Act.eval]at a;unfold yielded;simp[e,f];rw[Array.getD_eq_getD_getElem?]at a;cases hq:(aQ A D l).tmps[t]? with
    | none=>rfl
    | some v=>rw[hq]at a;simp at a;rw[a];rfl
  unfold wpList;rw[if_neg (by simp[Region.wanted,c])];exact k
end
end Go.Wk
namespace Go.Wk
open Go Go.RowKit
def akm (cs:List Value):Prop:=∀u∈cs,u.oneCell'=true
structure Dt (α:Type) where
  n:Nat
  pos:0<n
  oN:World->(Nat->Prop)->List Value->α->Prop
  len:∀{w Q cs x},oN w Q cs x->cs.length=n
  one:∀{w Q cs x},oN w Q cs x->akm cs
  md:∀{S w w' Q cs x},oN w Q cs x->Md S w w'->(∀b∈S,¬Q b)->oN w' Q cs x
  sub:∀{w Q Q' cs x},oN w Q cs x->(∀b,Q b->b<w.heap.size->Q' b)->oN w Q' cs x
def ug {α:Type} (f:α->Value) (h1:∀x,(f x).oneCell'=true) (ok:α->Prop):Dt α where
  n:=1
  pos:=Nat.zero_lt_one
  oN _ _ cs x:=cs=[f x]/\ok x
  len:=by rintro _ _ _ _ ⟨rfl,_⟩;rfl
  one:=by rintro _ _ _ _ ⟨rfl,_⟩ u hu;simp at hu;subst hu;exact h1 _
  md:=fun h _ _=>h
  sub:=fun h _=>h
def cZ:Dt Nat:=ug (fun x=>.int .u64 (x:Int)) (fun _=>rfl) (fun x=>x<18446744073709551616)
def tU32:Dt Nat:=ug (fun x=>.int .u32 (x:Int)) (fun _=>rfl) (fun x=>x<4294967296)
def eI:Dt Nat:=ug (fun x=>.int .i64 (x:Int)) (fun _=>rfl) (fun x=>x<9223372036854775808)
def ny:Dt Int:=ug (fun x=>.int .i64 x) (fun _=>rfl) (fun x=>-9223372036854775808<=x/\x<9223372036854775808)
def eC:Dt UInt8:=ug b8 (fun _=>rfl) (fun _=>True)
def amb:Dt Bool:=ug (fun x=>.bool x) (fun _=>rfl) (fun _=>True)
def ij:Dt (List UInt8):=ug str (fun _=>rfl) (fun _=>True)
def iY (l:Ly):List Value:=[b8 (l.getD 0 0),b8 (l.getD 1 0),b8 (l.getD 2 0),b8 (l.getD 3 0),b8 (l.getD 4 0),b8 (l.getD 5 0),b8 (l.getD 6 0),b8 (l.getD 7 0),b8 (l.getD 8 0),b8 (l.getD 9 0),b8 (l.getD 10 0),b8 (l.getD 11 0),b8 (l.getD 12 0),b8 (l.getD 13 0),b8 (l.getD 14 0),b8 (l.getD 15 0)]
theorem oV {l:Ly} (h:l.length=16):iY l=l.map b8:=by
  apply List.ext_getElem
  · simp[iY,h]
  intro i C E;simp[iY]at C;simp only[List.getElem_map];have A:i<l.length:=by omega
  rcases Nat.lt_or_ge i 8 with D|D
  · rcases Nat.lt_or_ge i 4 with B|B
    · rcases(show i=0\/i=1\/i=2\/i=3 by omega)with rfl|rfl|rfl|rfl <;> simp[iY,List.getD,A]
    rcases(show i=4\/i=5\/i=6\/i=7 by omega)with rfl|rfl|rfl|rfl <;> simp[iY,List.getD,A]
  rcases Nat.lt_or_ge i 12 with B|B
  · rcases(show i=8\/i=9\/i=10\/i=11 by omega)with rfl|rfl|rfl|rfl <;> simp[iY,List.getD,A]
  rcases(show i=12\/i=13\/i=14\/i=15 by omega)with rfl|rfl|rfl|rfl <;> simp[iY,List.getD,A]
def tId:Dt (List UInt8) where
  n:=16
  pos:=by decide
  oN _ _ cs x:=cs=iY x/\x.length=16
  len:=by rintro _ _ _ _ ⟨rfl,_⟩;rfl
  one:=by rintro _ _ _ _ ⟨rfl,h⟩;rw[oV h];exact za _
  md:=fun h _ _=>h
  sub:=fun h _=>h
def fR {α β:Type} (A:Dt α) (B:Dt β):Dt (α × β) where
  n:=A.n+B.n
  pos:=lj A.pos (Nat.le_add_right _ _)
  oN w Q cs p:=∃c1 c2,cs=c1 ++ c2/\A.oN w Q c1 p.1/\B.oN w Q c2 p.2
  len:=by rintro _ _ _ _ ⟨c1,c2,rfl,h1,h2⟩;simp[A.len h1,B.len h2]
  one:=by
    rintro _ _ _ _ ⟨c1,c2,rfl,h1,h2⟩ u hu
    rcases List.mem_append.1 hu with h|h
    · exact A.one h1 u h
    · exact B.one h2 u h
  md:=fun⟨c1,c2,h,h1,h2⟩ m hs=>⟨c1,c2,h,A.md h1 m hs,B.md h2 m hs⟩
  sub:=fun⟨c1,c2,h,h1,h2⟩ s=>⟨c1,c2,h,A.sub h1 s,B.sub h2 s⟩
def uh {α β:Type} (f:β->α) (A:Dt α):Dt β where
  n:=A.n
  pos:=A.pos
  oN w Q cs x:=A.oN w Q cs (f x)
  len:=A.len
  one:=A.one
  md:=A.md
  sub:=A.sub
section
variable {α:Type} {T:Dt α} {w w':World} {Q Q':Nat->Prop}
def rQ (T:Dt α) (w:World) (Q:Nat->Prop):List Value->List α->Prop
  | cs,[]=>cs=[]
  | cs,x :: xs=>∃c r,cs=c ++ r/\T.oN w Q c x/\rQ T w Q r xs
theorem rQ.len {cs:List Value} {xs:List α} (h:rQ T w Q cs xs):cs.length=xs.length*T.n:=by
  induction xs generalizing cs with
  | nil=>simp only[rQ]at h;subst h;simp
  | cons x xs ih =>
    obtain⟨c,r,rfl,A,B⟩:=h;simp[T.len A,ih B,Nat.succ_mul,Nat.add_comm]
theorem rQ.one {cs:List Value} {xs:List α} (h:rQ T w Q cs xs):akm cs:=by
  induction xs generalizing cs with
  | nil=>simp only[rQ]at h;subst h;intro u A;simp at A
  | cons x xs ih =>
    obtain⟨c,r,rfl,B,C⟩:=h;intro u A
    rcases List.mem_append.1 A with h|h
    · exact T.one B u h
    · exact ih C u h
theorem rQ.md {S:List Nat} {cs:List Value} {xs:List α} (h:rQ T w Q cs xs) (m:Md S w w') (f:∀b∈S,¬Q b):rQ T w' Q cs xs:=by
  induction xs generalizing cs with
  | nil=>exact h
  | cons x xs ih=>obtain⟨c,r,e,a,d⟩:=h;exact⟨c,r,e,T.md a m f,ih d⟩
theorem rQ.sub {cs:List Value} {xs:List α} (h:rQ T w Q cs xs) (s:∀b,Q b->b<w.heap.size->Q' b):rQ T w Q' cs xs:=by
  induction xs generalizing cs with
  | nil=>exact h
  | cons x xs ih=>obtain⟨c,r,e,A,B⟩:=h;exact⟨c,r,e,T.sub A s,ih B⟩
theorem rQ.append {cs ds:List Value} {xs ys:List α} (h:rQ T w Q cs xs) (k:rQ T w Q ds ys):rQ T w Q (cs ++ ds) (xs ++ ys):=by
  induction xs generalizing cs with
  | nil=>simp only[rQ]at h;subst h;exact k
  | cons x xs ih=>obtain⟨c,r,rfl,A,B⟩:=h;exact⟨c,r ++ ds,by simp,A,ih B⟩
theorem rQ.get {cs:List Value} {xs:List α} {i:Nat} {x:α} (h:rQ T w Q cs xs) (hi:xs[i]? = some x):∃c,T.oN w Q c x/\∀j u,c[j]? = some u->cs[i*T.n+j]? = some u:=by
  induction xs generalizing cs i with
  | nil=>simp at hi
  | cons y xs ih =>
    obtain⟨c,r,rfl,B,C⟩:=h;cases i with
    | zero =>
      simp at hi;subst hi;refine⟨c,B,fun j u A=>?_⟩;have:=(List.getElem?_eq_some_iff.1 A).1;rw[Nat.zero_mul,Nat.zero_add,List.getElem?_append_left this];exact A
    | succ i =>
      obtain⟨d,E,D⟩:=ih C (by simpa using hi);refine⟨d,E,fun j u A=>?_⟩;have F:=T.len B;rw[Nat.succ_mul,List.getElem?_append_right Xx];rw[show i*T.n+T.n+j-c.length=i*T.n+j by omega];exact D j u A
theorem rQ.split {cs:List Value} {xs ys:List α} (h:rQ T w Q cs (xs ++ ys)):rQ T w Q (cs.take (xs.length*T.n)) xs/\rQ T w Q (cs.drop (xs.length*T.n)) ys:=by
  induction xs generalizing cs with
  | nil=>simp[rQ];exact h
  | cons x xs ih =>
    obtain⟨c,r,rfl,A,B⟩:=h;obtain⟨C,D⟩:=ih B;have E:=T.len A;have e:(x :: xs).length*T.n=c.length+xs.length*T.n:=(by simp[Nat.succ_mul,E,Nat.add_comm]);rw[e];refine⟨⟨c,r.take (xs.length*T.n),?_,A,C⟩,?_⟩
    · rw[List.take_append,List.take_of_length_le (Nat.le_add_right _ _),Nat.add_sub_cancel_left]
    · rw[List.drop_append,List.drop_of_length_le (Nat.le_add_right _ _),Nat.add_sub_cancel_left];exact D
theorem rQ.set {cs:List Value} {xs:List α} {i:Nat} {c:List Value} {x:α} (h:rQ T w Q cs xs) (k:T.oN w Q c x) (hi:i<xs.length) :
    rQ T w Q (cs.take (i*T.n) ++ c ++ cs.drop (i*T.n+T.n)) (xs.set i x):=by
  have j:xs=xs.take i ++ xs.drop i:=(List.take_append_drop i xs).symm;have f:(xs.take i).length=i:=by simp;omega
  rw[j]at h;obtain⟨b,C⟩:=h.split;rw[f]at b C;obtain⟨y,a,d⟩:∃y a,xs.drop i=y :: a:=by
    cases D:xs.drop i with
    | nil=>have:=congrArg List.length D;simp at this;omega
    | cons y a=>exact⟨y,a,q⟩
  rw[d]at C;obtain⟨l,r,D,H,e⟩:=C;have g:cs.drop (i*T.n+T.n)=r:=by rw[<- List.drop_drop,D];simp[T.len H]
  have G:xs.set i x=xs.take i ++ (x :: a):=by rw[List.set_eq_take_append_cons_drop,if_pos hi];congr 2;have:xs.drop (i+1)=(xs.drop i).drop 1:=(by simp[Nat.add_comm]);rw[this,d];rfl
  rw[G,g,List.append_assoc];exact b.append ⟨c,r,q,k,e⟩
def Ls (T:Dt α) (w:World) (Q:Nat->Prop) (v:Value) (xs:List α):Prop :=
  ∃a cap cs,v = .slice a xs.length cap/\xs.length<=cap/\cap<=maxLen/\(a=none->cap=0)/\(∀p,a=some p->xs≠[]->Q p.block)/\(∀p,a=some p->∀j u,cs[j]? = some u->w.cell? (p.add j)=some u)/\rQ T w Q cs xs
theorem Ls.nil (T:Dt α) (w:World) (Q:Nat->Prop):Ls T w Q (.slice none 0 0) []:=⟨none,0,[],q,Nat.le_refl _,by simp[maxLen],fun _=>rfl,by simp,by simp,q⟩
theorem Ls.md {S:List Nat} {v:Value} {xs:List α} (h:Ls T w Q v xs) (m:Md S w w') (d:∀b∈S,¬Q b):Ls T w' Q v xs:=by obtain⟨l,e,f,G,H,g,i,C,j,a⟩:=h;refine⟨l,e,f,G,H,g,i,C,fun p c n o D=>m.cell (j p c n o D) ?_,a.md m d⟩;rw[Addr.add_block];intro k;refine d _ k (C p c ?_);rintro rfl;simp only[rQ]at a;subst a;simp at D
theorem Ls.o {v:Value} {xs:List α} (h:Ls T w Q v xs) (m:Md [] w w'):Ls T w' Q v xs:=h.md m Oy
instance anA {v:Value} {xs:List α}:Tp w w' (Ls T w Q v xs) (Ls T w' Q v xs):=⟨fun m h=>h.o m⟩
theorem Ls.sub {v:Value} {xs:List α} (h:Ls T w Q v xs) (s:∀b,Q b->b<w.heap.size->Q' b):Ls T w Q' v xs:=by
  obtain⟨a,A,F,G,H,I,J,K,B,C⟩:=h;refine⟨a,A,F,G,H,I,J,fun p D E=>s _ (K p D E) ?_,B,C.sub s⟩;cases xs with
  | nil=>exact absurd q E
  | cons x xs =>
    obtain⟨c,r,rfl,L,M⟩:=C;cases c with
    | nil=>have:=T.len L;have:=T.pos;simp at *;omega
    | cons u c=>have:=World.block_lt_of_cell? w _ (B p D 0 u q);rwa [Addr.add_block]at this
theorem Ls.di {v:Value} {xs:List α} (h:Ls T w Q v xs):OE v xs.length:=by obtain⟨a,A,F,B,C,D,E,_⟩:=h;exact⟨a,A,B,C,D,E⟩
theorem Ls.EL {v:Value} {xs:List α} (h:Ls T w Q v xs):xs.length<=maxLen:=by obtain⟨a,A,B,C,D,E,_⟩:=h;omega
theorem Ls.dB {v:Value} {xs:List α} (h:Ls T w Q v xs):xs.length<=9223372036854775807:=by have:=h.EL;simp only[maxLen]at this;omega
theorem Ls.bB {v:Value} {xs:List α} (h:Ls T w Q v xs):v.oneCell'=true:=by obtain⟨a,A,B,rfl,_⟩:=h;rfl
theorem Ls.by {v:Value} {xs:Ly} (h:Ls eC w Q v xs):By w v xs:=by
  obtain⟨a,A,B,C,D,G,H,I,E,F⟩:=h;have e:B=xs.map b8:=by
    clear C D I E
    induction xs generalizing B with
    | nil=>exact F
    | cons x xs ih=>obtain⟨c,r,rfl,⟨rfl,_⟩,J⟩:=F;rw[ih _ J];rfl
  subst e;exact⟨a,A,by simpa using C,by simpa using D,G,H,E⟩
theorem AL {β:Type} {f:β->Value} {h1:∀x,(f x).oneCell'=true} {ok:β->Prop} {xs:List β} (h:∀x∈xs,ok x):rQ (ug f h1 ok) w Q (xs.map f) xs:=by
  induction xs with
  | nil=>rfl
  | cons x xs ih=>exact⟨[f x],xs.map f,q,⟨q,h x Oy⟩,ih fun y A=>h y (by simp[A])⟩
theorem CR {β:Type} {f:β->Value} {h1:∀x,(f x).oneCell'=true} {ok:β->Prop} {cs:List Value} {xs:List β} (h:rQ (ug f h1 ok) w Q cs xs):cs=xs.map f/\∀x∈xs,ok x:=by
  induction xs generalizing cs with
  | nil=>exact⟨h,by simp⟩
  | cons x xs ih =>
    obtain⟨c,r,rfl,⟨rfl,C⟩,A⟩:=h;obtain⟨rfl,B⟩:=ih A;exact⟨q,by simpa using ⟨C,B⟩⟩
theorem Ls.aiu {a:Type} {f:a->Value} {h1:∀x,(f x).oneCell'=true} {ok:a->Prop} {v:Value} {xs:List a} (h:Sl w v (xs.map f)) (k:∀x∈xs,ok x) (j:∀b,ah v=some b->xs≠[]->Q b):Ls (ug f h1 ok) w Q v xs:=by obtain⟨i,c,rfl,d,C,D,e⟩:=h;exact⟨i,c,xs.map f,by simp,by simpa using d,C,D,fun p g G=>j _ (by subst g;rfl) G,e,AL k⟩
theorem Ls.of_by {v:Value} {xs:Ly} (h:By w v xs) (a:∀b,ah v=some b->xs≠[]->Q b):Ls eC w Q v xs:=Ls.aiu h (fun _ _=>trivial) a
def qR (T:Dt α):Dt (List α) where
  n:=1
  pos:=Nat.zero_lt_one
  oN w Q cs xs:=∃v,cs=[v]/\Ls T w Q v xs
  len:=by rintro _ _ _ _ ⟨v,rfl,_⟩;rfl
  one:=by rintro _ _ _ _ ⟨v,rfl,h⟩ u hu;simp at hu;subst hu;exact h.bB
  md:=fun⟨v,e,h⟩ m hs=>⟨v,e,h.md m hs⟩
  sub:=fun⟨v,e,h⟩ s=>⟨v,e,h.sub s⟩
def Pt (T:Dt α) (ty:TypeId) (w:World) (Q:Nat->Prop) (v:Value) (x:α):Prop:=∃b c,v = .pointer (some ⟨b,0,none⟩)/\Q b/\bC w b c ty/\T.oN w Q c x
theorem Pt.md {ty:TypeId} {S:List Nat} {v:Value} {x:α} (h:Pt T ty w Q v x) (m:Md S w w') (d:∀b∈S,¬Q b):Pt T ty w' Q v x:=by obtain⟨b,c,e,a,C,D⟩:=h;exact⟨b,c,e,a,C.md m fun f=>d b f a,T.md D m d⟩
theorem Pt.o {ty:TypeId} {v:Value} {x:α} (h:Pt T ty w Q v x) (m:Md [] w w'):Pt T ty w' Q v x:=h.md m Oy
instance anD {ty:TypeId} {v:Value} {x:α}:Tp w w' (Pt T ty w Q v x) (Pt T ty w' Q v x):=⟨fun m h=>h.o m⟩
theorem Pt.sub {ty:TypeId} {v:Value} {x:α} (h:Pt T ty w Q v x) (s:∀b,Q b->b<w.heap.size->Q' b):Pt T ty w Q' v x:=by obtain⟨b,c,B,C,A,D⟩:=h;exact⟨b,c,B,s b C A.lt,A,T.sub D s⟩
def tPt (T:Dt α) (ty:TypeId):Dt α where
  n:=1
  pos:=Nat.zero_lt_one
  oN w Q cs x:=∃v,cs=[v]/\Pt T ty w Q v x
  len:=by rintro _ _ _ _ ⟨v,rfl,_⟩;rfl
  one:=by rintro _ _ _ _ ⟨v,rfl,b,c,rfl,_⟩ u hu;simp at hu;subst hu;rfl
  md:=fun⟨v,e,h⟩ m hs=>⟨v,e,h.md m hs⟩
  sub:=fun⟨v,e,h⟩ s=>⟨v,e,h.sub s⟩
def lY (sz:Nat):Value->Nat->Nat->Value
  | .slice a _ cap,lo,hi=>.slice (if cap=lo then a else a.map (·.add (lo*sz))) (hi-lo) (cap-lo)
  | _,_,_=>undef
theorem Ls.part {v:Value} {xs:List α} (h:Ls T w Q v xs) (lo hi:Nat) (h1:lo<=hi) (t:hi<=xs.length):Ls T w Q (lY T.n v lo hi) ((xs.take hi).drop lo):=by
  obtain⟨b,c,R,rfl,r,s,k,l,m,f⟩:=h;have e:((xs.take hi).drop lo).length=hi-lo:=by simp;omega
  have j:xs=(xs.take hi).take lo ++ (((xs.take hi).drop lo) ++ xs.drop hi):=by rw[<- List.append_assoc,List.take_append_drop,List.take_append_drop]
  rw[j]at f;have g:=f.split.2;have G:((xs.take hi).take lo).length=lo:=by simp;omega
  rw[G]at g;have D:=g.split.1;rw[e]at D;refine⟨if c=lo then b else b.map (·.add (lo*T.n)),c-lo,_,?_,?_,by omega,?_,?_,?_,D⟩
  · simp only[lY,e]
  · rw[e];omega
  · intro h
    split at h
    · omega
    cases b with
    | none=>have:=k rfl;omega
    | some p=>simp at h
  · intro p a i
    have C:c≠lo:=(by intro P;apply i;apply List.eq_nil_of_length_eq_zero;omega);rw[if_neg C]at a;cases b with
    | none=>simp at a
    | some q =>
      simp at a;subst a;rw[Addr.add_block];exact l q rfl (by rintro rfl;simp at i)
  intro p a u o H;have d:=(List.getElem?_eq_some_iff.1 H).1;simp only[List.length_take,List.length_drop]at d;have C:c≠lo:=by intro P;have:hi-lo=0:=(by omega);rw[this]at d;simp at d
  rw[if_neg C]at a;cases b with
  | none=>simp at a
  | some q =>
    simp at a;subst a;rw[Addr.add_add];refine m q rfl _ o ?_;rw[List.getElem?_take,if_pos Xx,List.getElem?_drop]at H;exact H
def At (w:World) (v:Value) (k:Nat) (c:List Value):Prop:=∃p l cp,v = .slice (some p) l cp/\∀j u,c[j]? = some u->w.cell? (p.add (k+j))=some u
theorem Ls.get {v:Value} {xs:List α} {i:Nat} {x:α} (h:Ls T w Q v xs) (hi:xs[i]? = some x):∃c,T.oN w Q c x/\At w v (i*T.n) c:=by
  obtain⟨a,A,H,rfl,I,J,B,K,C,D⟩:=h;obtain⟨c,E,F⟩:=D.get hi;cases a with
  | none =>
    have:=B q;have:=(List.getElem?_eq_some_iff.1 hi).1;omega
  | some p=>exact⟨c,E,p,_,A,q,fun j u G=>C p q _ u (F j u G)⟩
theorem At.o {v:Value} {k:Nat} {c:List Value} (h:At w v k c) (m:Md [] w w'):At w' v k c:=by obtain⟨p,l,B,C,D⟩:=h;exact⟨p,l,B,C,fun j u E=>m.cell (D j u E) Oy⟩
instance an8 {v:Value} {k:Nat} {c:List Value}:Tp w w' (At w v k c) (At w' v k c):=⟨fun m h=>h.o m⟩
def Ow (T:Dt α) (e:TypeId) (lo:Nat->Prop) (w:World) (Q:Nat->Prop) (v:Value) (xs:List α):Prop :=
  (∃cs,Own w e T.n v xs.length cs/\rQ T w Q cs xs)/\∀b,ah v=some b->lo b/\¬Q b
theorem Ow.nil (T:Dt α) (e:TypeId) (lo:Nat->Prop) (w:World) (Q:Nat->Prop):Ow T e lo w Q (.slice none 0 0) []:=⟨⟨[],Own.nil w e _,q⟩,by simp[ah]⟩
theorem Ow.md {e:TypeId} {lo:Nat->Prop} {S:List Nat} {v:Value} {xs:List α} (h:Ow T e lo w Q v xs) (m:Md S w w') (f:∀b,ah v=some b->b∉S) (d:∀b∈S,¬Q b):Ow T e lo w' Q v xs:=by obtain⟨⟨a,c,C⟩,D⟩:=h;exact⟨⟨a,c.md m f,C.md m d⟩,D⟩
theorem Ow.o {e:TypeId} {lo:Nat->Prop} {v:Value} {xs:List α} (h:Ow T e lo w Q v xs) (m:Md [] w w'):Ow T e lo w' Q v xs:=h.md m Oy Oy
instance anC {e:TypeId} {lo:Nat->Prop} {v:Value} {xs:List α}:Tp w w' (Ow T e lo w Q v xs) (Ow T e lo w' Q v xs):=⟨fun m h=>h.o m⟩
theorem Ow.lt {e:TypeId} {lo:Nat->Prop} {v:Value} {xs:List α} (h:Ow T e lo w Q v xs):∀b,ah v=some b->b<w.heap.size:=by obtain⟨⟨B,A,C⟩,D⟩:=h;exact A.lt
theorem Ow.sub {e:TypeId} {lo:Nat->Prop} {v:Value} {xs:List α} (h:Ow T e lo w Q v xs) (s:∀b,Q b->b<w.heap.size->Q' b) (t:∀b,Q' b->Q b):Ow T e lo w Q' v xs:=by obtain⟨⟨C,D,E⟩,A⟩:=h;exact⟨⟨C,D,E.sub s⟩,fun b B=>⟨(A b B).1,fun F=>(A b B).2 (t b F)⟩⟩
theorem py {e:TypeId} {sz m:Nat} {v:Value} {cs:List Value} (h:Own w e sz v m cs):∃a cap,v = .slice a m cap/\m<=cap/\cap<=maxLen/\(a=none->cap=0)/\∀p,a=some p->∀j u,cs[j]? = some u->w.cell? (p.add j)=some u:=by
  rcases h.2 with⟨rfl,rfl⟩|⟨g,cap,A,rfl,F,G,C,B,H,I⟩
  · exact⟨none,0,q,Nat.le_refl _,by simp[maxLen],fun _=>rfl,by simp⟩
  exact⟨some ⟨g,0,none⟩,cap,q,C,B,by simp,fun p D j u E=>by cases D;exact World.ownsRow.cells h (g:=g) q j u E⟩
theorem Ow.ls {e:TypeId} {lo:Nat->Prop} {v:Value} {xs:List α} (h:Ow T e lo w Q v xs) (t:∀b,Q b->Q' b) (u:∀b,lo b->Q' b):Ls T w Q' v xs:=by obtain⟨⟨B,C,D⟩,E⟩:=h;obtain⟨a,A,rfl,F,G,H,I⟩:=py C;exact⟨a,A,B,q,F,G,H,fun p K _=>u _ (E _ (by subst K;rfl)).1,I,D.sub fun b J _=>t b J⟩
theorem Ow.get {e:TypeId} {lo:Nat->Prop} {v:Value} {xs:List α} {i:Nat} {x:α} (h:Ow T e lo w Q v xs) (hi:xs[i]? = some x):∃c,T.oN w Q c x/\At w v (i*T.n) c:=by
  obtain⟨⟨I,B,C⟩,_⟩:=h;obtain⟨a,A,rfl,J,K,D,E⟩:=py B;obtain⟨c,F,G⟩:=C.get hi;cases a with
  | none =>
    have:=D q;have:=(List.getElem?_eq_some_iff.1 hi).1;omega
  | some p=>exact⟨c,F,p,_,A,q,fun j u H=>E p q _ u (G j u H)⟩
theorem Ow.read {e:TypeId} {lo:Nat->Prop} {v:Value} {xs:List α} (h:Ow T e lo w Q v xs):Ls T w (fun b=>Q b\/lo b) v xs:=h.ls (fun _=>.inl) (fun _=>.inr)
theorem Ow.di {e:TypeId} {lo:Nat->Prop} {v:Value} {xs:List α} (h:Ow T e lo w Q v xs):OE v xs.length:=h.read.di
theorem Ow.bB {e:TypeId} {lo:Nat->Prop} {v:Value} {xs:List α} (h:Ow T e lo w Q v xs):v.oneCell'=true:=h.read.bB
end
def Up (w:World) (Q:Nat->Prop):Prop:=∀b,w.heap.size<=b->Q b
theorem Up.md {S:List Nat} {w a:World} {Q:Nat->Prop} (u:Up w Q) (m:Md S w a):Up a Q:=fun b hb=>u b (lv m.size hb)
instance anF {w w':World} {Q:Nat->Prop}:Tp w w' (Up w Q) (Up w' Q):=⟨fun m h=>h.md m⟩
theorem jC {Q:Nat->Prop} {w d:World} {b:Nat} (u:Up w Q) (h1:w.heap.size<=b) (e:b<d.heap.size) (m:Md [] w d) :
    ∃c:Nat->Prop,(∀x,Q x->x<w.heap.size->c x)/\(∀x,c x->Q x)/\¬c b/\Up d c :=
  ⟨fun x=>Q x/\x≠b,fun x a f=>⟨a,by omega⟩,fun x a=>a.1,fun h=>h.2 q,fun x a=>⟨u x (lv m.size a),by omega⟩⟩
end Go.Wk
namespace Go.Wk
open Go Go.RowKit
def lim:IntKind->Nat
  | .u8=>256|.u16=>65536|.u32=>4294967296|.u64=>18446744073709551616
  | .i8=>128|.i16=>32768|.i32=>2147483648|.i64=>9223372036854775808
theorem wrapN (k:IntKind) (x:Nat) (h:x<lim k):k.wrap (x:Int)=x:=by cases k <;> simp[IntKind.wrap,IntKind.bits,IntKind.signed,lim]at * <;> omega
theorem afH (k:IntKind) (x:Int) (h:k.signed=false):k.wrap x=((x%(lim k:Int)).toNat:Nat):=by cases k <;> simp[IntKind.wrap,IntKind.bits,IntKind.signed,lim]at * <;> omega
theorem bZ.to {P:Program} {w:World} {o:Oper} {e:Operand->Value} {a b:Value} (h:bZ P o e w a) (c:a=b):bZ P o e w b:=c ▸ h
section
variable {P:Program} {n:Nat} {A:Fr n} {D:List Deferred} {l:List (Nat × Value)} {w:World}
variable {d:Option Tmp} {ty:TypeId} {ps:String} {af:Array Edge} {g:Option (Nat × Bool)}
variable {x y:Operand} {t u:TypeId} {k j:IntKind} {a b:Nat}
theorem iF (L:Nat) (c:lim k=L) (e:ev n l x=some (.int k (a:Int))) (f:ev n l y=some (.int k (b:Int))) (h:a+b<L) :
    bZ P ⟨d,.binOp .add t x y u,ty,ps,af,g⟩ (aQ A D l).eval w (.int k ((a+b:Nat):Int)) :=
  (iJ e f).jy (by rw[<- wrapN k (a+b) (c ▸ h)];rfl)
theorem qP (L:Nat) (f:lim k=L) (c:ev n l x=some (.int k (a:Int))) (e:ev n l y=some (.int k (b:Int))) (h:b<=a/\a<L) :
    bZ P ⟨d,.binOp .sub t x y u,ty,ps,af,g⟩ (aQ A D l).eval w (.int k ((a-b:Nat):Int)) :=
  (iR c e).jy (by rw[<- wrapN k (a-b) Xx];congr 1;omega)
theorem qO (L:Nat) (c:lim k=L) (e:ev n l x=some (.int k (a:Int))) (f:ev n l y=some (.int k (b:Int))) (h:a*b<L) :
    bZ P ⟨d,.binOp .mul t x y u,ty,ps,af,g⟩ (aQ A D l).eval w (.int k ((a*b:Nat):Int)) :=
  (alQ e f).jy (by rw[<- wrapN k (a*b) (c ▸ h),Int.natCast_mul])
theorem tP (L:Nat) (c:lim k=L) (e:k.signed=false) (f:ev n l x=some (.int k (a:Int))) (h:ev n l y=some (.int k (b:Int))) :
    bZ P ⟨d,.binOp .add t x y u,ty,ps,af,g⟩ (aQ A D l).eval w (.int k (((a+b)%L:Nat):Int)) :=
  (iJ f h).jy (by rw[afH k _ e,c,show(a:Int)+b=((a+b:Nat):Int)from rfl,<- Int.natCast_emod,Int.toNat_natCast])
theorem VY (L:Nat) (c:lim k=L) (e:ev n l x=some (.int k (a:Int))) (f:ev n l y=some (.int k (b:Int))) (h:b≠0/\a<L) :
    bZ P ⟨d,.binOp .quo t x y u,ty,ps,af,g⟩ (aQ A D l).eval w (.int k ((a/b:Nat):Int)) :=
  (alS e f Xx).jy (by
    rw[show Int.tdiv (a:Int) b=((a/b:Nat):Int)from rfl];exact wrapN k _ (c ▸ Nat.lt_of_le_of_lt (Nat.div_le_self _ _) h.2))
theorem pP (c:ev n l x=some (.int k (a:Int))) (e:ev n l y=some (.int k (b:Int))) (h:b≠0) :
    bZ P ⟨d,.binOp .rem t x y u,ty,ps,af,g⟩ (aQ A D l).eval w (.int k ((a%b:Nat):Int)) :=
  (afd c e Xx).jy q
theorem iQ (c:ev n l x=some (.int k (a:Int))) (e:ev n l y=some (.int k (b:Int))):bZ P ⟨d,.binOp .eql t x y u,ty,ps,af,g⟩ (aQ A D l).eval w (.bool (decide (a=b))) :=
  (lT c e).Io (decide_eq_decide.2 Xx)
theorem eU (c:ev n l x=some (.int k (a:Int))) (e:ev n l y=some (.int k (b:Int))):bZ P ⟨d,.binOp .neq t x y u,ty,ps,af,g⟩ (aQ A D l).eval w (.bool (decide (a≠b))) :=
  (VX c e).Io (decide_eq_decide.2 Xx)
theorem dN (c:ev n l x=some (.int k (a:Int))) (e:ev n l y=some (.int k (b:Int))):bZ P ⟨d,.binOp .lss t x y u,ty,ps,af,g⟩ (aQ A D l).eval w (.bool (decide (a<b))) :=
  (rJ c e).Io (decide_eq_decide.2 Xx)
theorem KF (c:ev n l x=some (.int k (a:Int))) (e:ev n l y=some (.int k (b:Int))):bZ P ⟨d,.binOp .leq t x y u,ty,ps,af,g⟩ (aQ A D l).eval w (.bool (decide (a<=b))) :=
  (xL c e).Io (decide_eq_decide.2 Xx)
theorem kL (c:ev n l x=some (.int k (a:Int))) (e:ev n l y=some (.int k (b:Int))):bZ P ⟨d,.binOp .gtr t x y u,ty,ps,af,g⟩ (aQ A D l).eval w (.bool (decide (b<a))) :=
  (vi c e).Io (decide_eq_decide.2 Xx)
theorem KE (c:ev n l x=some (.int k (a:Int))) (e:ev n l y=some (.int k (b:Int))):bZ P ⟨d,.binOp .geq t x y u,ty,ps,af,g⟩ (aQ A D l).eval w (.bool (decide (b<=a))) :=
  (qc c e).Io (decide_eq_decide.2 Xx)
theorem dJ {s:TypeId} (L:Nat) (b:lim k=L) (c:(P.underlying s).isSome=true) (e:P.underlying t=some (.int k)) (f:ev n l x=some (.int j (a:Int))) (h:a<L) :
    bZ P ⟨d,.convert s t x,ty,ps,af,g⟩ (aQ A D l).eval w (.int k (a:Int)):=(iO c e f).jy (wrapN k a (b ▸ h))
theorem si {s:TypeId} (L:Nat) (b:lim k=L) (hk:k.signed=false) (c:(P.underlying s).isSome=true) (e:P.underlying t=some (.int k)) (f:ev n l x=some (.int j (a:Int))) :
    bZ P ⟨d,.convert s t x,ty,ps,af,g⟩ (aQ A D l).eval w (.int k ((a%L:Nat):Int)):=(iO c e f).jy (by rw[afH k _ hk,b,<- Int.natCast_emod,Int.toNat_natCast])
theorem ajF (c:ev n l x=some (.int k (a:Int))) (e:ev n l y=some (.int j (b:Int))) {f:Array TypeId} :
    bZ P ⟨d,.call {callee:=.builtin .min,args:=#[x,y],argTypes:=f},ty,ps,af,g⟩ (aQ A D l).eval w (.int k ((min a b:Nat):Int)) :=
  (ai3 c e).jy (by split<;>omega)
theorem ajE {a b:Int} (c:ev n l x=some (.int k a)) (e:ev n l y=some (.int j b)) {f:Array TypeId} :
    bZ P ⟨d,.call {callee:=.builtin .max,args:=#[x,y],argTypes:=f},ty,ps,af,g⟩ (aQ A D l).eval w (.int k (if a<b then b else a)):=by
  simp[bZ,execOp,bM c,bM e,resolve,invoke,builtin,Builtin.max_,Builtin.max2]
theorem afc (c:ev n l x=some (.int k (a:Int))) (e:ev n l y=some (.int j (b:Int))) {f:Array TypeId} :
    bZ P ⟨d,.call {callee:=.builtin .max,args:=#[x,y],argTypes:=f},ty,ps,af,g⟩ (aQ A D l).eval w (.int k ((max a b:Nat):Int)) :=
  (ajE c e).jy (by split<;>omega)
theorem ajI (L:Nat) (c:lim k=L) (f:k.signed=false) (s:Nat) (e:k.bits=s) (i:ev n l x=some (.int k (a:Int))) (m:ev n l y=some (.int j (b:Int))) (h:b<=s) :
    bZ P ⟨d,.binOp .shl t x y u,ty,ps,af,g⟩ (aQ A D l).eval w (.int k ((a*2 ^ b%L:Nat):Int)) :=
  (qu i m Xx).jy (by
    unfold ni;rw[afH k _ f,c,e,Int.toNat_natCast,Nat.min_eq_left h];rw[show(a:Int)*2 ^ b=((a*2 ^ b:Nat):Int)by simp,<- Int.natCast_emod,Int.toNat_natCast])
theorem ajJ (s:Nat) (c:k.bits=s) (e:ev n l x=some (.int k (a:Int))) (f:ev n l y=some (.int j (b:Int))) (h:b<=s) :
    bZ P ⟨d,.binOp .shr t x y u,ty,ps,af,g⟩ (aQ A D l).eval w (.int k ((a/2 ^ b:Nat):Int)) :=
  (SG e f Xx).jy (by
    unfold ah0;rw[c,Int.toNat_natCast,Nat.min_eq_left h];simp)
theorem EM (hk:k.signed=false):lim k=2 ^ k.bits:=by cases k<;>simp[IntKind.signed]at hk<;>rfl
theorem acr (hk:k.signed=false) (d:a<lim k) (hb:b<lim k):bits .xor k (a:Int) (b:Int)=((a ^^^ b:Nat):Int):=by
  have c:=EM hk;have e:a ^^^ b<lim k:=by rw[c];exact Nat.xor_lt_two_pow (c ▸ d) (c ▸ hb)
  unfold bits;simp only[BitVec.ofInt_natCast,BitVec.toNat_xor,BitVec.toNat_ofNat,<- c,Nat.mod_eq_of_lt d,Nat.mod_eq_of_lt hb];exact wrapN k _ e
theorem agh (hk:k.signed=false) (d:a<lim k) (hb:b<lim k):bits .or k (a:Int) (b:Int)=((a ||| b:Nat):Int):=by
  have c:=EM hk;have e:a ||| b<lim k:=by rw[c];exact Nat.or_lt_two_pow (c ▸ d) (c ▸ hb)
  unfold bits;simp only[BitVec.ofInt_natCast,BitVec.toNat_or,BitVec.toNat_ofNat,<- c,Nat.mod_eq_of_lt d,Nat.mod_eq_of_lt hb];exact wrapN k _ e
theorem acp (hk:k.signed=false) (c:a<lim k) (hb:b<lim k):bits .and k (a:Int) (b:Int)=((a &&& b:Nat):Int):=by have e:=EM hk;have d:a &&& b<lim k:=Nat.lt_of_le_of_lt Nat.and_le_left c;unfold bits;simp only[BitVec.ofInt_natCast,BitVec.toNat_and,BitVec.toNat_ofNat,<- e,Nat.mod_eq_of_lt c,Nat.mod_eq_of_lt hb];exact wrapN k _ d
theorem aff (L:Nat) (c:lim k=L) (hk:k.signed=false) (e:ev n l x=some (.int k (a:Int))) (f:ev n l y=some (.int k (b:Int))) (h:a<L/\b<L) :
    bZ P ⟨d,.binOp .xor t x y u,ty,ps,af,g⟩ (aQ A D l).eval w (.int k ((a ^^^ b:Nat):Int)):=(eK e f).jy (acr hk (c ▸ h.1) (c ▸ h.2))
theorem alR (L:Nat) (c:lim k=L) (hk:k.signed=false) (e:ev n l x=some (.int k (a:Int))) (f:ev n l y=some (.int k (b:Int))) (h:a<L/\b<L) :
    bZ P ⟨d,.binOp .or t x y u,ty,ps,af,g⟩ (aQ A D l).eval w (.int k ((a ||| b:Nat):Int)):=(zk e f).jy (agh hk (c ▸ h.1) (c ▸ h.2))
theorem ajA (L:Nat) (c:lim k=L) (hk:k.signed=false) (e:ev n l x=some (.int k (a:Int))) (f:ev n l y=some (.int k (b:Int))) (h:a<L/\b<L) :
    bZ P ⟨d,.binOp .and t x y u,ty,ps,af,g⟩ (aQ A D l).eval w (.int k ((a &&& b:Nat):Int)):=(aeX e f).jy (acp hk (c ▸ h.1) (c ▸ h.2))
theorem ajH (L:Nat) (c:lim k=L) (s:Nat) (e:k.bits=s) (f:ev n l x=some (.int k (a:Int))) (i:ev n l y=some (.int j (b:Int))) (h:b<=s/\a*2 ^ b<L) :
    bZ P ⟨d,.binOp .shl t x y u,ty,ps,af,g⟩ (aQ A D l).eval w (.int k ((a*2 ^ b:Nat):Int)) :=
  (qu f i Xx).jy (by
    unfold ni;rw[e,Int.toNat_natCast,Nat.min_eq_left h.1,show(a:Int)*2 ^ b=((a*2 ^ b:Nat):Int)by simp];exact wrapN k _ (c ▸ h.2))
theorem aeZ {s:TypeId} {z:Int} (L:Nat) (e:lim k=L) (a:(P.underlying s).isSome=true) (b:P.underlying t=some (.int k)) (c:ev n l x=some (.int j z)) (h:0<=z/\z<L) :
    bZ P ⟨d,.convert s t x,ty,ps,af,g⟩ (aQ A D l).eval w (.int k ((z.toNat:Nat):Int)) :=
  (iO a b c).jy (by rw[show z=((z.toNat:Nat):Int)by omega];exact wrapN k _ Xx)
variable {α:Type} {T:Dt α} {Q:Nat->Prop} {v:Value} {xs:List α}
theorem bf {e:TypeId} {m i:Nat} (sz:Nat) (f:ev n l x=some v) (h:ev n l y=some (.int k (i:Int))) (c:P.underlying t=some (.slice e)) (a:gw P e sz=true) (b:OE v m) (hi:i<m) :
    bZ P ⟨d,.indexAddr t x y,ty,ps,af,g⟩ (aQ A D l).eval w (mO v (i*sz)):=by
  have:=tX (P:=P) (A:=A) (D:=D) (w:=w) (d:=d) (ty:=ty) (ps:=ps) (af:=af) (g:=g) sz f h c a b Xx;simpa using this
theorem cF {e:TypeId} {m b o i:Nat} (sz:Nat) (h:ev n l x=some (.pointer (some ⟨b,o,none⟩))) (j:ev n l y=some (.int k (i:Int))) (f:P.underlying t=some (.array m e)) (a:gw P e sz=true) (hi:i<m) :
    bZ P ⟨d,.indexAddr t x y,ty,ps,af,g⟩ (aQ A D l).eval w (.pointer (some ⟨b,o+i*sz,none⟩)):=by
  unfold gw at a;split at a
  · rename_i inf hinf
    have c:inf.size=sz:=(by simpa using a);simp[bZ,execOp,bM h,bM j,Instr.indexAt,Instr.sureAddr,asIntOf,run_underlying f,e7 hinf,hi,c,Addr.kH]
  cases a
theorem CQ {kk:Nat} {c:List Value} (h:At w v kk c):∃p:Addr,(∀m,mO v m = .pointer (some (p.add m)))/\∀j u,c[j]? = some u->w.cell? (p.add (kk+j))=some u:=by obtain⟨p,l,B,rfl,A⟩:=h;exact⟨p,fun _=>rfl,A⟩
theorem gQ {s:TypeId} {f m e kk:Nat} {c:List Value} (b:ev n l x=some (mO v m)) (i:At w v kk c) (a:aP P s f=some e) :
    bZ P ⟨d,.fieldAddr s x f,ty,ps,af,g⟩ (aQ A D l).eval w (mO v (m+e)):=by
  obtain⟨p,h,_⟩:=CQ i;rw[h]at b ⊢;unfold aP at a;split at a
  · rename_i fs hfs
    split at a
    · rename_i fd hfd
      split at a
      · rename_i inf hinf
        split at a
        · cases a
        rename_i hz;simp only[Option.some.injEq]at a;subst a;simp[bZ,execOp,bM b,Instr.fieldAt,Instr.sureAddr,run_underlying hfs,hfd,fieldPlace,e7 hinf,hz,Addr.add_add]
      cases a
    cases a
  cases a
theorem bP {m kk:Nat} {c:List Value} {r:Value} (j:Nat) (a:ev n l x=some (mO v m)) (i:m=kk+j) (f:iI P t=true) (e:At w v kk c) (h:c[j]? = some r) :
    bZ P ⟨d,.load t x,ty,ps,af,g⟩ (aQ A D l).eval w r:=by
  obtain⟨p,C,b⟩:=CQ e;rw[C]at a;exact VW a f (by rw[i];exact b j r h)
theorem gH {m kk:Nat} {c:List Value} (cs:List Value) (o:Nat) (b:ev n l x=some (mO v m)) (k:m=kk+o) (i:fI P t cs.length=true) (h:At w v kk c) (j:(c.drop o).take cs.length=cs) :
    bZ P ⟨d,.load t x,ty,ps,af,g⟩ (aQ A D l).eval w (.agg cs.toArray):=by
  obtain⟨p,f,C⟩:=CQ h;rw[f]at b;refine zi b i q fun s r a=>?_;have e:=(List.getElem?_eq_some_iff.1 a).1;rw[Addr.add_add,k,Nat.add_assoc];refine C _ r ?_;rw[<- j,List.getElem?_take,if_pos e,List.getElem?_drop]at a;exact a
theorem bL {ty':TypeId} {b o:Nat} {c:List Value} (cs:List Value) (i:ev n l x=some (.pointer (some ⟨b,o,none⟩))) (f:fI P t cs.length=true) (e:bC w b c ty') (h:(c.drop o).take cs.length=cs) :
    bZ P ⟨d,.load t x,ty,ps,af,g⟩ (aQ A D l).eval w (.agg cs.toArray):=by
  refine zi i f q fun j r a=>?_;have C:=(List.getElem?_eq_some_iff.1 a).1;rw[Addr.kH,e.cell];rw[<- h,List.getElem?_take,if_pos C,List.getElem?_drop]at a;exact a
theorem fP {lo hi:Option Operand} {m e:Nat} (sz L H:Nat) (c:P.underlying t=some (.slice e)) (b:gw P e sz=true) (f:ev n l x=some v)
    (hS:OE v m) (h1:L<=H) (h2:H<=m)
    (hlo:match lo with|none=>L=0|some y=>∃k,ev n l y=some (.int k (L:Int))) (hhi:match hi with|none=>H=m|some y=>∃k,ev n l y=some (.int k (H:Int))) :
    bZ P ⟨d,.slice t x lo hi none,ty,ps,af,g⟩ (aQ A D l).eval w (lY sz v L H):=by
  obtain⟨p,C,rfl,G,j,o⟩:=hS;unfold gw at b;split at b
  · rename_i inf hinf
    have a:inf.size=sz:=(by simpa using b);have h:H<=C:=(by omega);cases lo with
    | none =>
      simp only at hlo;subst hlo;cases hi with
      | none =>
        simp only at hhi;subst hhi;simp[bZ,execOp,bM f,Instr.sliceAt,Instr.slice,Instr.sliceBounds,run_underlying c,e7 hinf,lY,a]
      | some y =>
        simp only at hhi;obtain⟨k,hk⟩:=hhi;simp[bZ,execOp,bM f,bM hk,Instr.sliceAt,Instr.slice,Instr.sliceBounds,Instr.sliceBound,asIntOf,run_underlying c,e7 hinf,lY,a,h]
    | some z =>
      simp only at hlo;obtain⟨q,i⟩:=hlo;cases hi with
      | none =>
        simp only at hhi;subst hhi;simp[bZ,execOp,bM f,bM i,Instr.sliceAt,Instr.slice,Instr.sliceBounds,Instr.sliceBound,asIntOf,run_underlying c,e7 hinf,lY,a,h1]
      | some y =>
        simp only at hhi;obtain⟨k,hk⟩:=hhi;simp[bZ,execOp,bM f,bM i,bM hk,Instr.sliceAt,Instr.slice,Instr.sliceBounds,Instr.sliceBound,asIntOf,run_underlying c,e7 hinf,lY,a,h1,h]
  cases b
end
end Go.Wk
namespace Go.Wk
open Go Go.RowKit
theorem zG:∀(us:List Value) (k o:Nat) (cs:List Value),o+k+us.length<=cs.length ->
    (us.zipIdx k).foldl (fun(cs:Array Value) (x:Value × Nat)=>cs.setIfInBounds (o+x.2) x.1) cs.toArray=(fB cs (o+k) us).toArray
  | [],k,o,cs,_=>by simp[fB]
  | u :: us,k,o,cs,h=>by
    simp only[List.length_cons]at h;rw[List.zipIdx_cons,List.foldl_cons];simp only[List.setIfInBounds_toArray];rw[zG us (k+1) o (cs.set (o+k) u) Ym];congr 1;unfold fB;have b:(cs.set (o+k) u).take (o+(k+1))=cs.take (o+k) ++ [u]:=(by rw[show o+(k+1)=(o+k)+1 by omega,List.take_add_one];simp[show o+k<cs.length by omega,List.take_set_of_le]);have a:(cs.set (o+k) u).drop (o+(k+1)+us.length)=cs.drop (o+k+(us.length+1)):=(by rw[List.drop_set_of_lt Xx];congr 1;omega);rw[b,a];simp
theorem UF {v:Value} {us:List Value} (a:v.cells=us.toArray) (o:Nat) (cs:List Value) (h:o+us.length<=cs.length) :
    v.cells.zipIdx.foldl (fun(cs:Array Value) (x:Value × Nat)=>cs.setIfInBounds (o+x.2) x.1) cs.toArray=(fB cs o us).toArray:=by
  have:=zG us 0 o cs Xx;rw[a];simpa [<- Array.foldl_toList]using this
def nV:List Value->List (List Value)->Prop
  | [],[]=>True
  | v :: vs,u :: us=>v.cells=u.toArray/\nV vs us
  | _,_=>False
def nT (cs:List Value):List (Nat × Nat × Nat)->List (List Value)->List Value
  | (_,o,_) :: ps,u :: us=>nT (fB cs o u) ps us
  | _,_=>cs
def WL:List (Nat × Nat × Nat)->List (List Value)->Prop
  | [],[]=>True
  | (_,_,s) :: ps,u :: us=>u.length=s/\WL ps us
  | _,_=>False
theorem wi {cs us:List Value} {o:Nat} (h:o+us.length<=cs.length):(fB cs o us).length=cs.length:=by simp[fB];omega
theorem wI {place:Nat->Option (Nat × Nat)}:∀(ps:List (Nat × Nat × Nat)) (vs:List Value) (us:List (List Value)) (cs:List Value),nV vs us->WL ps us->(∀p∈ps,place p.1=some (p.2.1,p.2.2)/\p.2.1+p.2.2<=cs.length) ->
    Instr.fill place cs.toArray ((ps.map (·.1)).zip vs)=some (nT cs ps us).toArray
  | [],[],[],cs,_,_,_=>by simp[Instr.fill,nT]
  | [],[],_ :: _,_,h,_,_=>by simp[nV]at h
  | [],_ :: _,[],_,h,_,_=>by simp[nV]at h
  | [],_ :: _,_ :: _,_,_,h,_=>by simp[WL]at h
  | _ :: _,_,[],_,_,h,_=>by simp[WL]at h
  | _ :: _,[],_ :: _,_,h,_,_=>by simp[nV]at h
  | (i,o,s) :: ps,v :: vs,u :: us,cs,⟨h1,h2⟩,⟨h3,h4⟩,hp=>by obtain⟨b,d⟩:=hp (i,o,s) Oy;simp only at b d;have e:v.cells.size=s:=(by rw[h1];simpa using h3);have a:o+u.length<=cs.length:=(by omega);have C:=wI (place:=place) ps vs us (fB cs o u) h2 h4 (fun p c=>by rw[wi a];exact hp p (by simp[c]));simp only[List.map_cons,List.zip_cons_cons,Instr.fill,b];rw[if_neg (by simp[e];omega),UF h1 o cs a];simpa [nT]using C
def aeN (pl:List (Nat × Nat)) (m:Nat):List (Nat × Nat × Nat)->Bool
  | []=>true
  | (i,o,s) :: r=>(match pl[i]? with
    | some (o',s')=>Nat.beq o' o && Nat.beq s' s && Nat.ble (o+s) m
    | none=>false) && aeN pl m r
theorem JX {pl:List (Nat × Nat)} {m:Nat}:∀{ps:List (Nat × Nat × Nat)},aeN pl m ps=true->∀p∈ps,pl[p.1]? = some (p.2.1,p.2.2)/\p.2.1+p.2.2<=m
  | [],_,p,hp=>by cases hp
  | (i,o,s) :: r,h,p,hp=>by
    simp only[aeN,Bool.and_eq_true]at h
    rcases List.mem_cons.1 hp with rfl|hp'
    · cases hq:pl[i]? with
      | none=>rw[hq]at h;simp at h
      | some q =>
        obtain⟨f,g⟩:=q;rw[hq]at h;simp only[Bool.and_eq_true]at h;obtain⟨⟨⟨c,d⟩,e⟩,_⟩:=h;have a:=Nat.eq_of_beq_eq_true c;have b:=Nat.eq_of_beq_eq_true d;subst a;subst b;exact⟨rfl,lB e⟩
    · exact JX h.2 p hp'
section
variable {P:Program} {ops:Array Oper} {Q:Exit->Act->World->Prop} {rest:List Oper}
variable {n:Nat} {A:Fr n} {D:List Deferred} {l:List (Nat × Value)} {w:World}
variable {d:Tmp} {op:Op} {ty:TypeId} {ps:String} {af:Array Edge} {g:Option (Nat × Bool)}
theorem ZF {t:TypeId} {zs vs:List Value} {us:List (List Value)} {pl:List (Nat × Nat)} {ps:List (Nat × Nat × Nat)} (c:dU P t=some zs) (b:fH P t=some pl) (h:nV vs us) (i:WL ps us) (j:aeN pl zs.length ps=true) :
    P.built t ((ps.map (·.1)).zip vs)=some (nT zs ps us).toArray:=by
  have G:=JX j;unfold dU at c;cases hi:P.info? t with
  | none=>simp[hi]at c
  | some it =>
    cases hzz:it.zero with
    | none=>simp[hi,hzz]at c
    | some z =>
      simp only[hi,hzz,Option.some.injEq]at c;have D:z.cells=zs.toArray:=(by rw[<- c]);unfold fH at b;unfold Program.built;cases hu:P.underlying t with
      | none=>simp[hu]at b
      | some d =>
        cases d <;> try (simp[hu]at b;done)
        case array m e =>
          cases hie:P.info? e with
          | none=>simp[hu,hie]at b
          | some ie =>
            simp only[hu,hie,Option.some.injEq]at b;simp only[hi,hzz,hie,D];refine wI ps vs us zs h i (fun p C=>?_);obtain⟨a,f⟩:=G p C;rw[<- b,List.getElem?_map]at a;have H:(List.range m)[p.1]? = some p.1:=by
              cases hq:(List.range m)[p.1]? with
              | none=>rw[hq]at a;simp at a
              | some q=>have:=List.getElem?_eq_some_iff.1 hq;obtain⟨k,g⟩:=this;simp at g;rw[<- g]
            rw[H]at a;simp only[Option.map_some,Option.some.injEq,Prod.mk.injEq]at a;exact⟨by rw[a.1,a.2],f⟩
        case struct ak =>
          simp only[hu]at b;simp only[hi,hzz,b,D];refine wI ps vs us zs h i (fun p C=>?_);obtain⟨a,f⟩:=G p C;exact⟨by simpa using a,f⟩
theorem bO {t:TypeId} {parts:List (Nat × Operand)} {zs vs cs:List Value} {us:List (List Value)} {pl:List (Nat × Nat)} (ps:List (Nat × Nat × Nat)) {d:Option Tmp} {j:String} (i:dU P t=some zs) (f:fH P t=some pl) (h:parts.map (·.1)=ps.map (·.1)) (e:evs n l (parts.map (·.2))=some vs)
    (hc:nV vs us) (hs:WL ps us) (hps:aeN pl zs.length ps=true) (hcs:nT zs ps us=cs) :
    bZ P ⟨d,.build t parts.toArray,ty,j,af,g⟩ (aQ A D l).eval w (.agg cs.toArray):=by
  have b:=mP (A:=A) (D:=D) e;have a:parts.map (fun p=>(p.1,(aQ A D l).eval p.2))=(ps.map (·.1)).zip vs:=by rw[<- h,<- b,List.map_map,List.zip_map'];rfl
  have C:=ZF i f hc hs hps;rw[<- a]at C;have c:=run_build (P:=P) w t (parts.map (fun p=>(p.1,(aQ A D l).eval p.2))).toArray _ (by simpa using C);subst hcs;simp only[bZ,execOp,List.map_toArray];show Sem.run P (do pure (Next.value (<- Instr.build t (parts.map fun x=>(x.1,(aQ A D l).eval x.2)).toArray))) w=_;simp[c]
def rowAt (sz:Nat):Nat->Nat->List (Nat × Nat × Nat)
  | _,0=>[]
  | i,k+1=>(i,i*sz,sz) :: rowAt sz (i+1) k
def LH (sz:Nat):List (List Value)->Prop
  | []=>True
  | u :: us=>u.length=sz/\LH sz us
theorem SL {sz:Nat}:∀(us:List (List Value)) (i:Nat),LH sz us->WL (rowAt sz i us.length) us
  | [],_,_=>trivial
  | _ :: us,i,h=>⟨h.1,SL us (i+1) h.2⟩
theorem JN {sz:Nat} {p:Nat × Nat × Nat}:∀{i k:Nat},p∈rowAt sz i k->p.2.1=p.1*sz/\p.2.2=sz/\p.1<i+k
  | _,0,h=>by cases h
  | i,k+1,h=>by
    rcases List.mem_cons.1 h with rfl|h
    · exact⟨q,q,by simp⟩
    · have:=JN h;omega
theorem zU {sz:Nat}:∀(us:List (List Value)) (i:Nat) (pre cs:List Value),LH sz us->pre.length=i*sz->cs.length=us.length*sz->nT (pre ++ cs) (rowAt sz i us.length) us=pre ++ us.flatten
  | [],i,pre,cs,_,_,h=>by have:cs=[]:=List.eq_nil_of_length_eq_zero (by simpa using h);subst this;simp[rowAt,nT]
  | u :: us,i,pre,cs,h,hp,hc=>by
    simp only[List.length_cons,rowAt,nT];have b:cs.length=sz+us.length*sz:=(by simpa [Nat.succ_mul,Nat.add_comm]using hc);have a:fB (pre ++ cs) (i*sz) u=(pre ++ u) ++ cs.drop sz:=(by simp only[fB,<- hp,h.1];rw[List.take_left,List.drop_append,List.drop_of_length_le (Nat.le_add_right _ _),Nat.add_sub_cancel_left];simp);rw[a,zU us (i+1) (pre ++ u) (cs.drop sz) h.2 (by simp[hp,h.1,Nat.succ_mul]) Ym];simp
theorem aR {t e:TypeId} {m sz B:Nat} {parts:List (Nat × Operand)} {vs:List Value} (us:List (List Value)) (J:P.underlying t=some (.slice e)) (E:wF P e sz B=true) (M:0<sz) (L:m*sz<=16777216) (I:parts.map (·.1)=(rowAt sz 0 m).map (·.1)) (F:evs n l (parts.map (·.2))=some vs)
    (hc:nV vs us) (hl:LH sz us) (hlen:us.length=m) (h0:m≠0)
    (k:∀b a,w.heap.size<=b->b<a.heap.size->Md [] w a->bC a b us.flatten e->wpList P ops Q rest (aQ A D ((d,.slice (some ⟨b,0,none⟩) m m) :: l)) a) :
    wpList P ops Q (⟨some d,.buildSlice t m parts.toArray,ty,ps,af,none⟩ :: rest) (aQ A D l) w:=by
  refine fU q ?_;obtain⟨i,z,f,R,y,T,K⟩:=qU E;have u:=mP (A:=A) (D:=D) F;have G:parts.map (fun p=>(p.1,(aQ A D l).eval p.2))=((rowAt sz 0 m).map (·.1)).zip vs:=by rw[<- I,<- u,List.map_map,List.zip_map'];rfl
  have g:∀C:List Value,C.length=m*sz->Instr.fill (fun i=>some (i*sz,sz)) C.toArray (((rowAt sz 0 m).map (·.1)).zip vs)=some us.flatten.toArray:=by
    intro C c;have:=wI (place:=fun i=>some (i*sz,sz)) (rowAt sz 0 m) vs us C hc (by rw[<- hlen];exact SL us 0 hl) (fun p v=>by
      have h:=JN v;refine⟨by rw[h.1,h.2.1],?_⟩;rw[h.1,h.2.1,c,<- Nat.succ_mul];exact Nat.mul_le_mul_right _ Xx)
    have H:=zU us 0 [] C hl Oy (by rw[c,hlen]);simp only[List.nil_append]at H;rw[hlen]at H;rw[this,H]
  have r:¬(m*sz=0):=Nat.mul_ne_zero h0 Xx;have j:(execOp (aQ A D l).eval ⟨some d,.buildSlice t m parts.toArray,ty,ps,af,none⟩).run P w = .ok (.value (.slice (some ⟨w.heap.size,0,none⟩) m m)) (w.alloc (.cells us.flatten.toArray e)):=by
    show Sem.run P (do pure (Next.value (<- Instr.buildSlice t m ((parts.toArray).map fun x=>(x.1,(aQ A D l).eval x.2))))) w=_;rw[List.map_toArray,G];have o:((List.range (m*sz)).map fun x=>(z.cells)[x%z.cells.size]!).length=m*sz:=(by simp);have:=g _ o;simp only[Instr.buildSlice,Sem.run_bind,run_underlying J,Result.andThen_ok,e7 f,y];have s:Array.map (fun x=>z.cells[x%z.cells.size]!) (Array.range (m*sz))=((List.range (m*sz)).map fun x=>(z.cells)[x%z.cells.size]!).toArray:=(by apply Array.ext';simp);simp only[show ¬(m*sz > 2 ^ 24)from by omega,if_neg r,if_false];simp[zeroValue,typeInfo,f,R,newRow];rw[s,this];simp
  unfold Oper.wp;rw[j];exact k _ _ (Nat.le_refl _) Oy (Md.alloc w _) (bC.new w us.flatten e)
theorem Own.blk {e:TypeId} {sz m:Nat} {v:Value} {cs:List Value} (h:Own w e sz v m cs) (a:0<m):∃b cap cur,v = .slice (some ⟨b,0,none⟩) m cap/\bC w b cur e/\m<=cap/\cap<=maxLen/\cur.length=cap*sz/\cur.take (m*sz)=cs:=by
  rcases h.2 with⟨rfl,rfl⟩|⟨g,cap,cur,rfl,F,B,C,A,D,E⟩
  · omega
  exact⟨g,cap,cur.toList,q,B,C,A,by simpa using D,E⟩
theorem Own.cG {e:TypeId} {sz m b cap:Nat} {cur:List Value} (d:bC w b cur e) (h1:m<=cap) (c:cap<=maxLen) (a:cur.length=cap*sz):Own w e sz (.slice (some ⟨b,0,none⟩) m cap) m (cur.take (m*sz)):=by refine⟨by rw[List.length_take,a];exact Nat.min_eq_left (Nat.mul_le_mul_right _ h1),.inr ⟨b,cap,cur.toArray,q,Nat.zero_le _,d,h1,c,by simpa using a,by simp⟩⟩
variable {α:Type} {T:Dt α} {R R':Nat->Prop}
def Lz (T:Dt α) (w:World) (Q:Nat->Prop) (v:Value) (xs:List α):Prop :=
  ∃a cap cs,v = .slice a xs.length cap/\xs.length<=cap/\cap<=maxLen/\(a=none->cap=0)/\(∀p,a=some p->∀j u,cs[j]? = some u->w.cell? (p.add j)=some u)/\rQ T w Q cs xs
theorem Ls.lz {v:Value} {xs:List α} (h:Ls T w R v xs):Lz T w R v xs:=by obtain⟨a,A,B,C,D,E,F,I,G,H⟩:=h;exact⟨a,A,B,C,D,E,F,G,H⟩
theorem Ow.lz {e:TypeId} {lo:Nat->Prop} {v:Value} {xs:List α} (h:Ow T e lo w R v xs):Lz T w R v xs:=by obtain⟨⟨B,C,D⟩,I⟩:=h;obtain⟨a,A,rfl,E,F,G,H⟩:=py C;exact⟨a,A,B,q,E,F,G,H,D⟩
theorem ud {x y:Operand} {t e:TypeId} {sz L:Nat} {lo:Nat->Prop} {v u:Value} {xs ys:List α} (r:T.n=sz) (Y:P.underlying t=some (.slice e)) (U:wF P e sz L=true) (Z:ev n l x=some v) (aa:ev n l y=some u)
    (hO:Ow T e lo w R v xs) (hY:Lz T w R u ys) (uR:Up w R) (hlo:∀b,w.heap.size<=b->lo b) (h63:xs.length+ys.length<=9223372036854775807) (hbytes:(xs.length+ys.length)*L<=140737488355328)
    (k:∀j m p,(∀b,R b->b<w.heap.size->p b)->(∀b,p b->R b)->Up m p->Ow T e lo m p j (xs ++ ys)->Md (ah v).toList w m->(∀b∈(ah v).toList,¬p b)->(∀b,ah v=some b->b<w.heap.size) ->
      (∀b,ah j=some b->ah v=some b\/w.heap.size<=b)->wpList P ops Q rest (aQ A D ((d,j) :: l)) m) :
    wpList P ops Q (⟨some d,.call {callee:=.builtin .append,args:=#[x,y],argTypes:=#[t,t]},ty,ps,af,none⟩ :: rest) (aQ A D l) w:=by
  subst r;refine fU q ?_;obtain⟨a,H,s,rfl,ad,f,J,W,B⟩:=hY;have X:=hO;obtain⟨⟨I,K,O⟩,C⟩:=X;obtain⟨j,m,S,V,G,ab,z⟩:=vB (P:=P) (w:=w) (ty':=ty) Y U T.pos K (a:=a) (k:=ys.length) (c:=H) (news:=s) B.len (fun h=>⟨by have:=J h;omega,J h⟩) W B.one (by simpa [maxLen]using h63) hbytes;have N:(execOp (aQ A D l).eval ⟨some d,.call {callee:=.builtin .append,args:=#[x,y],argTypes:=#[t,t]},ty,ps,af,none⟩).run P w = .ok (.value j) m:=by simp[execOp,resolve,invoke,builtin,bM Z,bM aa,S]
  unfold Oper.wp;rw[N];have F:∀b,R b->b<w.heap.size->(R b/\ah j≠some b):=fun b i g=>⟨i,fun o=>by
    rcases z b o with h|h
    · exact(C b h).2 i
    · omega⟩
  have r:∀b∈(ah v).toList,¬(R b/\ah j≠some b):=fun b i E=>by
    cases o:ah v with
    | none=>rw[o]at i;simp at i
    | some c=>rw[o]at i;simp at i;subst i;exact(C _ o).2 E.1
  have M:Own m e T.n j (xs ++ ys).length (I ++ s):=by simpa using V
  refine k j m (fun b=>R b/\ah j≠some b) F (fun b i=>i.1) (fun b i=>⟨uR b (lv G.size i),fun o=>by have:=M.lt b o;omega⟩) ⟨⟨I ++ s,M,?_⟩,fun b i=>⟨?_,fun E=>E.2 i⟩⟩ G r K.lt z
  · exact((O.sub F).md G r).append ((B.sub F).md G r)
  rcases z b i with h|h
  · exact(C b h).1
  exact hlo b h
theorem e5 {x y:Operand} {t e:TypeId} {sz g:Nat} {lo:Nat->Prop} {v u:Value} {xs ys:List α} (i:T.n=sz) (j:P.underlying t=some (.slice e)) (h:wF P e sz g=true) (m:ev n l x=some v) (o:ev n l y=some u)
    (hO:Ow T e lo w R v xs) (hY:Ls T w R' u ys) (hR:∀b,R' b->b<w.heap.size->R b) (uR:Up w R) (hlo:∀b,w.heap.size<=b->lo b) (h63:xs.length+ys.length<=9223372036854775807) (hbytes:(xs.length+ys.length)*g<=140737488355328)
    (k:∀f c a,(∀b,R b->b<w.heap.size->a b)->(∀b,a b->R b)->Up c a->Ow T e lo c a f (xs ++ ys)->Md (ah v).toList w c->(∀b∈(ah v).toList,¬a b)->(∀b,ah v=some b->b<w.heap.size) ->
      (∀b,ah f=some b->ah v=some b\/w.heap.size<=b)->wpList P ops Q rest (aQ A D ((d,f) :: l)) c) :
    wpList P ops Q (⟨some d,.call {callee:=.builtin .append,args:=#[x,y],argTypes:=#[t,t]},ty,ps,af,none⟩ :: rest) (aQ A D l) w :=
  ud i j h m o hO (hY.sub hR).lz uR hlo h63 hbytes k
theorem Ow.into {e:TypeId} {lo:Nat->Prop} {i:Nat} {v:Value} {xs:List α} {c:List Value} {z:α} (s:Ow T e lo w R v xs) (l:T.oN w R c z) (hi:i<xs.length) :
    ∃b cap cur,v = .slice (some ⟨b,0,none⟩) xs.length cap/\bC w b cur e/\i*T.n+c.length<=cur.length/\¬R b/\∀d,Md [b] w d->bC d b (fB cur (i*T.n) c) e->Ow T e lo d R v (xs.set i z):=by
  obtain⟨⟨G,P,C⟩,f⟩:=s;obtain⟨b,cap,cur,rfl,Q,H,p,h,r⟩:=P.blk Xx;have D:=T.len l;have u:i*T.n+T.n<=xs.length*T.n:=by rw[<- Nat.succ_mul];exact Nat.mul_le_mul_right _ hi
  have t:xs.length*T.n<=cur.length:=by rw[h];exact Nat.mul_le_mul_right _ H
  have j:∀g∈[b],¬R g:=fun g a=>by simp at a;subst a;exact(f _ q).2
  refine⟨b,cap,cur,q,Q,by omega,(f _ q).2,fun d k a=>⟨⟨(fB cur (i*T.n) c).take (xs.length*T.n),by simpa using Own.cG (m:=xs.length) a H p (by rw[wi Xx,h]),?_⟩,f⟩⟩;have o:(fB cur (i*T.n) c).take (xs.length*T.n)=G.take (i*T.n) ++ c ++ G.drop (i*T.n+T.n):=by unfold fB;rw[D,<- r,List.take_append,List.take_of_length_le Ym,List.take_take,Nat.min_eq_left Xx,List.drop_take];congr 2;simp;omega
  rw[o];exact(C.md k j).set (T.md l k j) hi
theorem WC (cs:List Value) (j:Nat) (u:Value) (h:j<cs.length):cs.set j u=fB cs j [u]:=by rw[List.set_eq_take_append_cons_drop,if_pos h];simp[fB]
theorem WK {x y:Operand} {t e:TypeId} {lo:Nat->Prop} {i k:Nat} {v u:Value} {xs:List α} {z:α} (hk:k=i*T.n) (o:ev n l x=some (mO v k)) (p:ev n l y=some u) (m:iI P t=true)
    (hO:Ow T e lo w R v xs) (hz:T.oN w R [u] z) (hi:i<xs.length)
    (kk:∀a,Md (ah v).toList w a->(∀b∈(ah v).toList,¬R b)->Ow T e lo a R v (xs.set i z)->wpList P ops Q rest (aQ A D l) a) :
    wpList P ops Q (⟨none,.store t x y,ty,ps,af,none⟩ :: rest) (aQ A D l) w:=by
  subst hk;obtain⟨b,q,G,rfl,h,H,f,g⟩:=hO.into hz hi;simp only[List.length_singleton]at H;refine bn (b:=b) (j:=i*T.n) (by rw[o];simp[mO,Addr.kH]) p m (T.one hz u Oy) h Xx fun a d C=>?_;rw[WC _ _ _ Xx]at C;exact kk a (by simpa [ah]using d) (fun r c=>by simp[ah]at c;subst c;exact f) (g a d C)
theorem uf {x y:Operand} {t e:TypeId} {lo:Nat->Prop} {i k:Nat} {v:Value} {xs:List α} {c:List Value} {z:α} (hk:k=i*T.n) (o:ev n l x=some (mO v k)) (p:ev n l y=some (.agg c.toArray)) (m:fI P t c.length=true)
    (hO:Ow T e lo w R v xs) (hz:T.oN w R c z) (hi:i<xs.length)
    (kk:∀a,Md (ah v).toList w a->(∀b∈(ah v).toList,¬R b)->Ow T e lo a R v (xs.set i z)->wpList P ops Q rest (aQ A D l) a) :
    wpList P ops Q (⟨none,.store t x y,ty,ps,af,none⟩ :: rest) (aQ A D l) w:=by
  subst hk;obtain⟨b,q,r,rfl,g,G,H,f⟩:=hO.into hz hi;refine aK (b:=b) (j:=i*T.n) (by rw[o];simp[mO,Addr.kH]) p m (T.one hz) g G fun a C h=>?_;exact kk a (by simpa [ah]using C) (fun s d=>by simp[ah]at d;subst d;exact H) (f a C h)
theorem Ls.cG {e:TypeId} {b m:Nat} {cs:List Value} {xs:List α} (d:bC w b cs e) (f:rQ T w R cs xs) (h:xs.length=m) (c:m<=maxLen) (g:R b):Ls T w R (.slice (some ⟨b,0,none⟩) m m) xs:=by subst h;exact⟨_,_,cs,q,Nat.le_refl _,c,by simp,fun p a _=>by cases a;exact g,fun p a i j C=>by cases a;rw[Addr.kH,Nat.zero_add,d.cell];exact C,f⟩
theorem Ow.cG {e:TypeId} {lo:Nat->Prop} {b m:Nat} {cs:List Value} {xs:List α} (g:bC w b cs e) (d:rQ T w R cs xs) (j:xs.length=m) (f:m<=maxLen) (i:lo b) (h:¬R b):Ow T e lo w R (.slice (some ⟨b,0,none⟩) m m) xs:=by subst j;have c:=d.len;have:=Own.cG (sz:=T.n) (m:=xs.length) g (Nat.le_refl _) f c;rw[<- c,List.take_length]at this;exact⟨⟨cs,this,d⟩,fun C a=>by simp[ah]at a;subst a;exact⟨i,h⟩⟩
theorem gW {t e:TypeId} {sz g:Nat} (j:P.underlying t=some (.slice e)) (h:wF P e sz g=true)
    (k:∀b a,w.heap.size<=b->b<a.heap.size->Md [] w a->bC a b [] e->wpList P ops Q rest (aQ A D ((d,.slice (some ⟨b,0,none⟩) 0 0) :: l)) a) :
    wpList P ops Q (⟨some d,.buildSlice t 0 #[],ty,ps,af,none⟩ :: rest) (aQ A D l) w:=by
  refine fU q ?_;obtain⟨i,z,f,n,H,G,m⟩:=qU h;have c:(execOp (aQ A D l).eval ⟨some d,.buildSlice t 0 #[],ty,ps,af,none⟩).run P w = .ok (.value (.slice (some ⟨w.heap.size,0,none⟩) 0 0)) (w.alloc (.cells ([]:List Value).toArray e)):=by show Sem.run P (do pure (Next.value (<- Instr.buildSlice t 0 ((#[]:Array (Nat × Operand)).map fun x=>(x.1,(aQ A D l).eval x.2))))) w=_;have C:(Array.map (fun x=>(default:Value)) (Array.range 0)) = #[]:=(by simp[Array.range]);simp[Instr.buildSlice,run_underlying j,e7 f,Instr.fill,newRow,C]
  unfold Oper.wp;rw[c];exact k _ _ (Nat.le_refl _) Oy (Md.alloc w _) (bC.new w [] e)
theorem aav (a:List Value) (m:Nat) (f:0<a.length):(madeCells a.toArray (m*a.length)).toList=(List.replicate m a).flatten:=by
  induction m with
  | zero=>simp[madeCells]
  | succ m ih =>
    rw[List.replicate_succ',List.flatten_append,<- ih];simp only[madeCells,List.flatten_cons,List.flatten_nil,List.append_nil];apply List.ext_getElem
    · simp[Nat.succ_mul]
    · intro b d C
      simp at d C
      by_cases hj:b<m*a.length
      · rw[List.getElem_append_left (by simpa using hj)];simp
      · rw[List.getElem_append_right (by simpa using hj)]
        simp only[Array.toList_map,Array.toList_range,List.getElem_map,List.getElem_range,List.length_map,List.length_range];have e:b%a.length=b-m*a.length:=(by rw[show b=(b-m*a.length)+m*a.length by omega,Nat.add_mul_mod_self_right,Nat.add_sub_cancel];exact Nat.mod_eq_of_lt Xx);have c:b-m*a.length<a.length:=(by omega);simp[e,c]
theorem acB {a:List Value} {z:α} (m:Nat) (h:∀w R,T.oN w R a z):rQ T w R (List.replicate m a).flatten (List.replicate m z):=by
  induction m with
  | zero=>rfl
  | succ m ih=>exact⟨a,_,by simp[List.replicate_succ],h _ _,ih⟩
theorem NX {x:Operand} {t e:TypeId} {sz u m:Nat} {j:IntKind} {lo:Nat->Prop} {z:α} {zs:List Value} (J:T.n=sz) (K:P.underlying t=some (.slice e)) (I:wF P e sz u=true) (h:dU P e=some zs) (L:ev n l x=some (.int j (m:Int)))
    (hrep:∀w R,T.oN w R zs z) (uR:Up w R) (hlo:∀b,w.heap.size<=b->lo b) (hm:m<=9223372036854775807/\m*u<=140737488355328)
    (k:∀o c g,(∀b,R b->b<w.heap.size->g b)->(∀b,g b->R b)->Up c g->Ow T e lo c g o (List.replicate m z)->Md [] w c->(∀b,ah o=some b->w.heap.size<=b)->wpList P ops Q rest (aQ A D ((d,o) :: l)) c) :
    wpList P ops Q (⟨some d,.makeSlice t x x,ty,ps,af,none⟩ :: rest) (aQ A D l) w:=by
  subst J;refine fU q ?_;obtain⟨i,s,p,G,F,a,V⟩:=qU I;have y:s.cells=zs.toArray:=by unfold dU at h;simp only[p,G,Option.some.injEq]at h;rw[<- h]
  have H:zs.length=T.n:=T.len (hrep w R);obtain⟨c,E,r,f⟩:=run_make_full (P:=P) w 0 t e i s T.n K p G F j j m (by rw[a];have:=hm.2;rw[Nat.mul_comm]at this;omega) (by simp only[maxLen];exact hm.1) (Nat.zero_le _);have v:(execOp (aQ A D l).eval ⟨some d,.makeSlice t x x,ty,ps,af,none⟩).run P w = .ok (.value (.slice (some ⟨w.heap.size,0,none⟩) m m)) c:=by simp[execOp,bM L,E]
  unfold Oper.wp;rw[v];have C:Own c e T.n (.slice (some ⟨w.heap.size,0,none⟩) m m) (List.replicate m z).length (List.replicate m zs).flatten:=by rw[y,<- H,aav zs m (by rw[H];exact T.pos)]at r;rw[<- H];simpa [Own]using r
  have N:w.heap.size<c.heap.size:=Own.lt C _ q;have M:w.heap.size<=c.heap.size:=f.size;refine k _ _ (fun b=>R b/\b≠w.heap.size) (fun b a H=>⟨a,by omega⟩) (fun b a=>a.1) (fun b a=>⟨uR b Xx,by omega⟩) ⟨⟨_,C,acB m hrep⟩,fun b a=>?_⟩ ⟨f.os,f.tape,f.output,f.size,fun k hk _=>f.block k hk Oy⟩ (fun b a=>?_)
  · simp[ah]at a;subst a;exact⟨hlo _ (Nat.le_refl _),fun B=>B.2 q⟩
  have O:w.heap.size=b:=by simpa [ah]using a
  omega
theorem ajT {x y:Operand} {t e:TypeId} {sz M m c:Nat} {lo:Nat->Prop} {p:Addr} {u:Value} {xs ys:List α} (ae:T.n=sz) (ag:P.underlying t=some (.slice e)) (ab:wF P e sz M=true) (ai:ev n l x=some (.slice (some p) m c)) (aj:ev n l y=some u)
    (hX:Ls T w R (.slice (some p) m c) xs) (hY:Ls T w R u ys) (uR:Up w R) (hlo:∀b,w.heap.size<=b->lo b) (hm:xs.length=m) (hg:c<m+ys.length) (h63:xs.length+ys.length<=9223372036854775807) (hbytes:(xs.length+ys.length)*M<=140737488355328)
    (k:∀J F E,(∀b,R b->b<w.heap.size->E b)->(∀b,E b->R b)->Up F E->Ow T e lo F E J (xs ++ ys)->Md [] w F->(∀b,ah J=some b->w.heap.size<=b)->wpList P ops Q rest (aQ A D ((d,J) :: l)) F) :
    wpList P ops Q (⟨some d,.call {callee:=.builtin .append,args:=#[x,y],argTypes:=#[t,t]},ty,ps,af,none⟩ :: rest) (aQ A D l) w:=by
  subst ae;subst hm;refine fU rfl ?_;obtain⟨i,z,g,ak,V,a,X⟩:=qU ab;obtain⟨o,al,j,K,an,ao,ap,aq,Z,B⟩:=hX;simp only[Value.slice.injEq]at K;obtain⟨rfl,_,rfl⟩:=K;obtain⟨L,O,G,rfl,r,v,W,am,Y,s⟩:=hY;have aa:∃q,L=some q:=by
    cases L with
    | none=>have:=W rfl;omega
    | some q=>exact⟨q,rfl⟩
  obtain⟨q,rfl⟩:=aa;have h:=run_append_grow (P:=P) w t ty e i z ag g ak p xs.length c j (by rw[V];exact B.len) (Z p rfl) q ys.length O G (by rw[V];exact s.len) (Y q rfl) hg Xx (by rw[a];exact growslice_fits hg hbytes);have U:=grownCap_ge w (xs.length+ys.length) c e;have S:=grownCap_le_maxLen w (xs.length+ys.length) c e (by simp only[maxLen];exact h63);have N:(execOp (aQ A D l).eval ⟨some d,.call {callee:=.builtin .append,args:=#[x,y],argTypes:=#[t,t]},ty,ps,af,none⟩).run P w = .ok (.value (.slice (some ⟨w.heap.size,0,none⟩) (xs.length+ys.length) (grownCap w (xs.length+ys.length) c e)))
        (w.drew.alloc (.cells (j.toArray ++ G.toArray ++ Builtin.zeroCells z.cells (grownCap w (xs.length+ys.length) c e-(xs.length+ys.length))) e)):=by
    simp[execOp,resolve,invoke,builtin,bM ai,bM aj,h]
  unfold Oper.wp;rw[N];have C:(j ++ G).length=(xs.length+ys.length)*T.n:=by rw[List.length_append,B.len,s.len,Nat.add_mul]
  have H:Md [] w (w.drew.alloc (.cells (j.toArray ++ G.toArray ++ Builtin.zeroCells z.cells (grownCap w (xs.length+ys.length) c e-(xs.length+ys.length))) e)):=⟨rfl,rfl,rfl,by simp,fun k hk _=>heap_alloc_old w.drew _ hk⟩;have I:∀b,R b->b<w.heap.size->(R b/\b≠w.heap.size):=fun b a ar=>⟨a,by omega⟩;refine k _ _ (fun b=>R b/\b≠w.heap.size) I (fun b a=>a.1) (fun b a=>?_) ⟨⟨j ++ G,⟨by simpa using C,.inr ⟨w.heap.size,_,_,by simp,Nat.zero_le _,heap_alloc_new w.drew _,by simpa using U,S,?_,?_⟩⟩,?_⟩,fun b a=>?_⟩ H (fun b a=>?_)
  · have ad:w.heap.size+1<=b:=by simpa using a
    exact⟨uR b Xx,by omega⟩
  · simp only[Array.size_append,List.size_toArray,size_zeroCells,X,B.len,s.len,<- Nat.add_mul]
    congr 1;omega
  · simp only[Array.toList_append,List.append_assoc]
    rw[<- List.append_assoc];have:(xs ++ ys).length*T.n=(j ++ G).length:=(by rw[C];simp);rw[this];exact List.take_left
  · exact((B.sub I).append (s.sub I)).md H Oy
  · simp[ah]at a;subst a;exact⟨hlo _ (Nat.le_refl _),fun f=>f.2 rfl⟩
  have ad:w.heap.size=b:=by simpa [ah]using a
  omega
theorem Ls.yU {d:Type} {f:d->Value} {h1:∀x,(f x).oneCell'=true} {ok:d->Prop} {b o m:Nat} {cs:List Value} {ty':TypeId} {xs:List d} (g:bC w b cs ty') (h:R b) (j:xs.length=m) (e:m<=maxLen) (i:(cs.drop o).take m=xs.map f) (k:∀x∈xs,ok x):Ls (ug f h1 ok) w R (.slice (some ⟨b,o,none⟩) m m) xs:=by
  subst j;refine⟨_,_,xs.map f,q,Nat.le_refl _,e,by simp,fun p c _=>by cases c;exact h,fun p c l n a=>?_,AL k⟩;cases c;rw[Addr.kH,g.cell];rw[<- i,List.getElem?_take]at a;split at a
  · rw[List.getElem?_drop]at a;exact a
  cases a
end
end Go.Wk
namespace Go.Wk
open Go Go.RowKit
section
variable {P:Program} {Q:Exit->Act->World->Prop} {n:Nat} {A:Fr n} {D:List Deferred} {l:List (Nat × Value)} {w:World}
def ahL {X0:Type} (n:Nat) (D:List Deferred) (inv:X0->List (Nat × Value)) (W:X0->World->Prop) (mu:X0->Nat) (m:Nat) (a:Act) (w:World):Prop :=
  ∃y0:X0,∃B:Fr n,a=aQ B D (inv y0)/\W y0 w/\mu y0<m
theorem nE {a:Type} {c:Code} (inv:a->List (Nat × Value)) (W:a->World->Prop) (e:a->Nat) (x0:a) (j:Fits n l (inv x0)) (k:W x0 w)
    (round:∀(x0:a) (d:Fr n) (b:World),W x0 b->c.wp P (Exit.then (ahL n D inv W e (e x0)) Q) (aQ d D (inv x0)) b) :
    (Code.loop c).wp P Q (aQ A D l) w:=by
  refine js (X:=a) (fun p=>inv p) (fun p w=>W p w) (fun p=>e p) x0 j k (fun p d b h=>wp_mono (round p d b h) ?_);intro i m o h;cases i with
  | normal=>obtain⟨H,C,f,g,G⟩:=h;exact⟨H,C,f,g,G⟩
  | _=>exact h
theorem mU {a:Type} {inv:a->List (Nat × Value)} {W:a->World->Prop} {b:a->Nat} {m:Nat} (x0:a) (d:b x0<m) (c:Fits n l (inv x0)) (e:W x0 w) :
    ahL n D inv W b m (aQ A D l) w:=⟨x0,_,(cV (A:=A) (D:=D) c).symm,e,d⟩
def ahM {X0 X1:Type} (n:Nat) (D:List Deferred) (inv:X0->X1->List (Nat × Value)) (W:X0->X1->World->Prop) (mu:X0->X1->Nat) (m:Nat) (a:Act) (w:World):Prop :=
  ∃y0:X0,∃y1:X1,∃B:Fr n,a=aQ B D (inv y0 y1)/\W y0 y1 w/\mu y0 y1<m
theorem vq {a b:Type} {c:Code} (inv:a->b->List (Nat × Value)) (W:a->b->World->Prop) (f:a->b->Nat) (x0:a) (x1:b) (m:Fits n l (inv x0 x1)) (o:W x0 x1 w)
    (round:∀(x0:a) (x1:b) (e:Fr n) (d:World),W x0 x1 d->c.wp P (Exit.then (ahM n D inv W f (f x0 x1)) Q) (aQ e D (inv x0 x1)) d) :
    (Code.loop c).wp P Q (aQ A D l) w:=by
  refine js (X:=a × b) (fun p=>inv p.1 p.2) (fun p w=>W p.1 p.2 w) (fun p=>f p.1 p.2) (x0,x1) m o (fun p e d h=>wp_mono (round (p.1) (p.2) e d h) ?_);intro k q r h;cases k with
  | normal=>obtain⟨H,j,C,g,i,G⟩:=h;exact⟨(H,j),C,g,i,G⟩
  | _=>exact h
theorem tC {a b:Type} {inv:a->b->List (Nat × Value)} {W:a->b->World->Prop} {c:a->b->Nat} {m:Nat} (x0:a) (x1:b) (e:c x0 x1<m) (d:Fits n l (inv x0 x1)) (f:W x0 x1 w) :
    ahM n D inv W c m (aQ A D l) w:=⟨x0,x1,_,(cV (A:=A) (D:=D) d).symm,f,e⟩
def ahN {X0 X1 X2:Type} (n:Nat) (D:List Deferred) (inv:X0->X1->X2->List (Nat × Value)) (W:X0->X1->X2->World->Prop) (mu:X0->X1->X2->Nat) (m:Nat) (a:Act) (w:World):Prop :=
  ∃y0:X0,∃y1:X1,∃y2:X2,∃B:Fr n,a=aQ B D (inv y0 y1 y2)/\W y0 y1 y2 w/\mu y0 y1 y2<m
theorem l9 {a b d:Type} {c:Code} (inv:a->b->d->List (Nat × Value)) (W:a->b->d->World->Prop) (g:a->b->d->Nat) (x0:a) (x1:b) (x2:d) (q:Fits n l (inv x0 x1 x2)) (r:W x0 x1 x2 w)
    (round:∀(x0:a) (x1:b) (x2:d) (f:Fr n) (e:World),W x0 x1 x2 e->c.wp P (Exit.then (ahN n D inv W g (g x0 x1 x2)) Q) (aQ f D (inv x0 x1 x2)) e) :
    (Code.loop c).wp P Q (aQ A D l) w:=by
  refine js (X:=a × b × d) (fun p=>inv p.1 p.2.1 p.2.2) (fun p w=>W p.1 p.2.1 p.2.2 w) (fun p=>g p.1 p.2.1 p.2.2) (x0,x1,x2) q r (fun p f e h=>wp_mono (round (p.1) (p.2.1) (p.2.2) f e h) ?_);intro o s t h;cases o with
  | normal=>obtain⟨H,k,m,C,i,j,G⟩:=h;exact⟨(H,k,m),C,i,j,G⟩
  | _=>exact h
theorem j8 {a b c:Type} {inv:a->b->c->List (Nat × Value)} {W:a->b->c->World->Prop} {d:a->b->c->Nat} {m:Nat} (x0:a) (x1:b) (x2:c) (f:d x0 x1 x2<m) (e:Fits n l (inv x0 x1 x2)) (g:W x0 x1 x2 w) :
    ahN n D inv W d m (aQ A D l) w:=⟨x0,x1,x2,_,(cV (A:=A) (D:=D) e).symm,g,f⟩
def ahO {X0 X1 X2 X3:Type} (n:Nat) (D:List Deferred) (inv:X0->X1->X2->X3->List (Nat × Value)) (W:X0->X1->X2->X3->World->Prop) (mu:X0->X1->X2->X3->Nat) (m:Nat) (a:Act) (w:World):Prop :=
  ∃y0:X0,∃y1:X1,∃y2:X2,∃y3:X3,∃B:Fr n,a=aQ B D (inv y0 y1 y2 y3)/\W y0 y1 y2 y3 w/\mu y0 y1 y2 y3<m
theorem YD {a b d e:Type} {c:Code} (inv:a->b->d->e->List (Nat × Value)) (W:a->b->d->e->World->Prop) (i:a->b->d->e->Nat) (x0:a) (x1:b) (x2:d) (x3:e) (s:Fits n l (inv x0 x1 x2 x3)) (t:W x0 x1 x2 x3 w)
    (round:∀(x0:a) (x1:b) (x2:d) (x3:e) (g:Fr n) (f:World),W x0 x1 x2 x3 f->c.wp P (Exit.then (ahO n D inv W i (i x0 x1 x2 x3)) Q) (aQ g D (inv x0 x1 x2 x3)) f) :
    (Code.loop c).wp P Q (aQ A D l) w:=by
  refine js (X:=a × b × d × e) (fun p=>inv p.1 p.2.1 p.2.2.1 p.2.2.2) (fun p w=>W p.1 p.2.1 p.2.2.1 p.2.2.2 w) (fun p=>i p.1 p.2.1 p.2.2.1 p.2.2.2) (x0,x1,x2,x3) s t (fun p g f h=>wp_mono (round (p.1) (p.2.1) (p.2.2.1) (p.2.2.2) g f h) ?_);intro r u v h;cases r with
  | normal=>obtain⟨H,m,o,q,C,j,k,G⟩:=h;exact⟨(H,m,o,q),C,j,k,G⟩
  | _=>exact h
theorem xf {a b c d:Type} {inv:a->b->c->d->List (Nat × Value)} {W:a->b->c->d->World->Prop} {e:a->b->c->d->Nat} {m:Nat} (x0:a) (x1:b) (x2:c) (x3:d) (g:e x0 x1 x2 x3<m) (f:Fits n l (inv x0 x1 x2 x3)) (h:W x0 x1 x2 x3 w) :
    ahO n D inv W e m (aQ A D l) w:=⟨x0,x1,x2,x3,_,(cV (A:=A) (D:=D) f).symm,h,g⟩
def ahP {X0 X1 X2 X3 X4:Type} (n:Nat) (D:List Deferred) (inv:X0->X1->X2->X3->X4->List (Nat × Value)) (W:X0->X1->X2->X3->X4->World->Prop) (mu:X0->X1->X2->X3->X4->Nat) (m:Nat) (a:Act) (w:World):Prop :=
  ∃y0:X0,∃y1:X1,∃y2:X2,∃y3:X3,∃y4:X4,∃B:Fr n,a=aQ B D (inv y0 y1 y2 y3 y4)/\W y0 y1 y2 y3 y4 w/\mu y0 y1 y2 y3 y4<m
theorem adG {a b d e f:Type} {c:Code} (inv:a->b->d->e->f->List (Nat × Value)) (W:a->b->d->e->f->World->Prop) (j:a->b->d->e->f->Nat) (x0:a) (x1:b) (x2:d) (x3:e) (x4:f) (u:Fits n l (inv x0 x1 x2 x3 x4)) (v:W x0 x1 x2 x3 x4 w)
    (round:∀(x0:a) (x1:b) (x2:d) (x3:e) (x4:f) (i:Fr n) (g:World),W x0 x1 x2 x3 x4 g->c.wp P (Exit.then (ahP n D inv W j (j x0 x1 x2 x3 x4)) Q) (aQ i D (inv x0 x1 x2 x3 x4)) g) :
    (Code.loop c).wp P Q (aQ A D l) w:=by
  refine js (X:=a × b × d × e × f) (fun p=>inv p.1 p.2.1 p.2.2.1 p.2.2.2.1 p.2.2.2.2) (fun p w=>W p.1 p.2.1 p.2.2.1 p.2.2.2.1 p.2.2.2.2 w) (fun p=>j p.1 p.2.1 p.2.2.1 p.2.2.2.1 p.2.2.2.2) (x0,x1,x2,x3,x4) u v (fun p i g h=>wp_mono (round (p.1) (p.2.1) (p.2.2.1) (p.2.2.2.1) (p.2.2.2.2) i g h) ?_);intro t x y h;cases t with
  | normal=>obtain⟨H,o,q,r,s,C,k,m,G⟩:=h;exact⟨(H,o,q,r,s),C,k,m,G⟩
  | _=>exact h
theorem YL {a b c d e:Type} {inv:a->b->c->d->e->List (Nat × Value)} {W:a->b->c->d->e->World->Prop} {f:a->b->c->d->e->Nat} {m:Nat} (x0:a) (x1:b) (x2:c) (x3:d) (x4:e) (h:f x0 x1 x2 x3 x4<m) (g:Fits n l (inv x0 x1 x2 x3 x4)) (i:W x0 x1 x2 x3 x4 w) :
    ahP n D inv W f m (aQ A D l) w:=⟨x0,x1,x2,x3,x4,_,(cV (A:=A) (D:=D) g).symm,i,h⟩
def ahQ {X0 X1 X2 X3 X4 X5:Type} (n:Nat) (D:List Deferred) (inv:X0->X1->X2->X3->X4->X5->List (Nat × Value)) (W:X0->X1->X2->X3->X4->X5->World->Prop) (mu:X0->X1->X2->X3->X4->X5->Nat) (m:Nat) (a:Act) (w:World):Prop :=
  ∃y0:X0,∃y1:X1,∃y2:X2,∃y3:X3,∃y4:X4,∃y5:X5,∃B:Fr n,a=aQ B D (inv y0 y1 y2 y3 y4 y5)/\W y0 y1 y2 y3 y4 y5 w/\mu y0 y1 y2 y3 y4 y5<m
theorem al3 {a b d e f g:Type} {c:Code} (inv:a->b->d->e->f->g->List (Nat × Value)) (W:a->b->d->e->f->g->World->Prop) (k:a->b->d->e->f->g->Nat) (x0:a) (x1:b) (x2:d) (x3:e) (x4:f) (x5:g) (x:Fits n l (inv x0 x1 x2 x3 x4 x5)) (y:W x0 x1 x2 x3 x4 x5 w)
    (round:∀(x0:a) (x1:b) (x2:d) (x3:e) (x4:f) (x5:g) (j:Fr n) (i:World),W x0 x1 x2 x3 x4 x5 i->c.wp P (Exit.then (ahQ n D inv W k (k x0 x1 x2 x3 x4 x5)) Q) (aQ j D (inv x0 x1 x2 x3 x4 x5)) i) :
    (Code.loop c).wp P Q (aQ A D l) w:=by
  refine js (X:=a × b × d × e × f × g) (fun p=>inv p.1 p.2.1 p.2.2.1 p.2.2.2.1 p.2.2.2.2.1 p.2.2.2.2.2) (fun p w=>W p.1 p.2.1 p.2.2.1 p.2.2.2.1 p.2.2.2.2.1 p.2.2.2.2.2 w) (fun p=>k p.1 p.2.1 p.2.2.1 p.2.2.2.1 p.2.2.2.2.1 p.2.2.2.2.2) (x0,x1,x2,x3,x4,x5) x y (fun p j i h=>wp_mono (round (p.1) (p.2.1) (p.2.2.1) (p.2.2.2.1) (p.2.2.2.2.1) (p.2.2.2.2.2) j i h) ?_);intro v z B h;cases v with
  | normal=>obtain⟨H,q,r,s,t,u,C,m,o,G⟩:=h;exact⟨(H,q,r,s,t,u),C,m,o,G⟩
  | _=>exact h
theorem al8 {a b c d e f:Type} {inv:a->b->c->d->e->f->List (Nat × Value)} {W:a->b->c->d->e->f->World->Prop} {g:a->b->c->d->e->f->Nat} {m:Nat} (x0:a) (x1:b) (x2:c) (x3:d) (x4:e) (x5:f) (i:g x0 x1 x2 x3 x4 x5<m) (h:Fits n l (inv x0 x1 x2 x3 x4 x5)) (j:W x0 x1 x2 x3 x4 x5 w) :
    ahQ n D inv W g m (aQ A D l) w:=⟨x0,x1,x2,x3,x4,x5,_,(cV (A:=A) (D:=D) h).symm,j,i⟩
def ahR {X0 X1 X2 X3 X4 X5 X6:Type} (n:Nat) (D:List Deferred) (inv:X0->X1->X2->X3->X4->X5->X6->List (Nat × Value)) (W:X0->X1->X2->X3->X4->X5->X6->World->Prop) (mu:X0->X1->X2->X3->X4->X5->X6->Nat) (m:Nat) (a:Act) (w:World):Prop :=
  ∃y0:X0,∃y1:X1,∃y2:X2,∃y3:X3,∃y4:X4,∃y5:X5,∃y6:X6,∃B:Fr n,a=aQ B D (inv y0 y1 y2 y3 y4 y5 y6)/\W y0 y1 y2 y3 y4 y5 y6 w/\mu y0 y1 y2 y3 y4 y5 y6<m
theorem al4 {a b d e f g i:Type} {c:Code} (inv:a->b->d->e->f->g->i->List (Nat × Value)) (W:a->b->d->e->f->g->i->World->Prop) (m:a->b->d->e->f->g->i->Nat) (x0:a) (x1:b) (x2:d) (x3:e) (x4:f) (x5:g) (x6:i) (z:Fits n l (inv x0 x1 x2 x3 x4 x5 x6)) (B:W x0 x1 x2 x3 x4 x5 x6 w)
    (round:∀(x0:a) (x1:b) (x2:d) (x3:e) (x4:f) (x5:g) (x6:i) (k:Fr n) (j:World),W x0 x1 x2 x3 x4 x5 x6 j->c.wp P (Exit.then (ahR n D inv W m (m x0 x1 x2 x3 x4 x5 x6)) Q) (aQ k D (inv x0 x1 x2 x3 x4 x5 x6)) j) :
    (Code.loop c).wp P Q (aQ A D l) w:=by
  refine js (X:=a × b × d × e × f × g × i) (fun p=>inv p.1 p.2.1 p.2.2.1 p.2.2.2.1 p.2.2.2.2.1 p.2.2.2.2.2.1 p.2.2.2.2.2.2) (fun p w=>W p.1 p.2.1 p.2.2.1 p.2.2.2.1 p.2.2.2.2.1 p.2.2.2.2.2.1 p.2.2.2.2.2.2 w) (fun p=>m p.1 p.2.1 p.2.2.1 p.2.2.2.1 p.2.2.2.2.1 p.2.2.2.2.2.1 p.2.2.2.2.2.2) (x0,x1,x2,x3,x4,x5,x6) z B (fun p k j h=>wp_mono (round (p.1) (p.2.1) (p.2.2.1) (p.2.2.2.1) (p.2.2.2.2.1) (p.2.2.2.2.2.1) (p.2.2.2.2.2.2) k j h) ?_);intro y E R h;cases y with
  | normal=>obtain⟨H,r,s,t,u,v,x,C,o,q,G⟩:=h;exact⟨(H,r,s,t,u,v,x),C,o,q,G⟩
  | _=>exact h
theorem al9 {a b c d e f g:Type} {inv:a->b->c->d->e->f->g->List (Nat × Value)} {W:a->b->c->d->e->f->g->World->Prop} {h:a->b->c->d->e->f->g->Nat} {m:Nat} (x0:a) (x1:b) (x2:c) (x3:d) (x4:e) (x5:f) (x6:g) (j:h x0 x1 x2 x3 x4 x5 x6<m) (i:Fits n l (inv x0 x1 x2 x3 x4 x5 x6)) (k:W x0 x1 x2 x3 x4 x5 x6 w) :
    ahR n D inv W h m (aQ A D l) w:=⟨x0,x1,x2,x3,x4,x5,x6,_,(cV (A:=A) (D:=D) i).symm,k,j⟩
def zB (P:Program) (w:World) (n:Nat) (l:List (Nat × Value)):List ResultVar->List Value->Prop
  | [],[]=>True
  | .tmp t :: r,v :: vs=>ev n l (.tmp t)=some v/\zB P w n l r vs
  | .cell t ty :: r,v :: vs=>(∃p,ev n l (.tmp t)=some (.pointer (some p))/\(loadVar ty p).run P w = .ok v w)/\zB P w n l r vs
  | _,_=>False
theorem qw {fn:Func} {rs:List ResultVar} {vs:List Value} (f:fn.results=rs.toArray) (h:zB P w n l rs vs) :
    (results fn (aQ A D l).tmps).run P w = .ok (if h:vs.length=1 then vs[0]else .tuple vs.toArray) w:=by
  have d:∀(rs:List ResultVar) (vs:List Value),zB P w n l rs vs->(rs.mapM (fun x:ResultVar=>(match x with
      | .tmp t=>pure ((aQ A D l).tmps.getD t undef)
      | .cell a t=>do loadVar t (<- asAddr ((aQ A D l).tmps.getD a undef)):Sem Value))).run P w = .ok vs w:=by
    intro rs
    induction rs with
    | nil=>intro vs h;cases vs with
      | nil=>simp
      | cons v vs=>simp[zB]at h
    | cons r rs ih =>
      intro vs h;cases vs with
      | nil=>cases r <;> simp[zB]at h
      | cons v vs =>
        cases r with
        | tmp t =>
          obtain⟨b,C⟩:=h;have c:=oU (A:=A) (D:=D) b;simp only[List.mapM_cons,Sem.run_bind,Sem.run_pure,Result.andThen_ok,ih vs C,c]
        | cell t ty =>
          obtain⟨⟨p,b,H⟩,C⟩:=h;have c:=oU (A:=A) (D:=D) b;have e:(asAddr (.pointer (some p))).run P w = .ok p w:=(by simp[asAddr]);simp only[List.mapM_cons,Sem.run_bind,Sem.run_pure,Result.andThen_ok,ih vs C,c,e,H]
  have:=d rs vs h;unfold results;rw[f];simp only[List.mapM_toArray,Sem.run_bind,Sem.run_map];rw[show(fun x:ResultVar=>(match x with
      | .tmp t=>pure ((aQ A D l).tmps.getD t undef)
      | .cell a t=>do loadVar t (<- asAddr ((aQ A D l).tmps.getD a undef)):Sem Value))=_ from rfl]at this
  refine Eq.trans (congrArg (fun r:Result (List Value)=>(r.andThen fun a G=>Result.ok a.toArray G).andThen fun a G=>Sem.run P (pure (if h:a.size=1 then a[0]else Value.tuple a)) G) this) ?_;simp
theorem d8 {fn:Func} {R:Ending->World->Prop} {e:Exit} {rs:List ResultVar} {vs:List Value} (c:sG e) (f:fn.results=rs.toArray) (h:zB P w n l rs vs) (a:Nat.beq vs.length 1=false) (b:R (.returned (.tuple vs.toArray)) w):bodyPost P fn R e (aQ A [] l) w :=
  bp c fK (qw (A:=A) (D:=[]) f h) (by rw[dif_neg (by intro d;rw[d]at a;cases a)];exact b)
theorem bR {fn:Func} {R:Ending->World->Prop} {e:Exit} {rs:List ResultVar} {v:Value} (b:sG e) (c:fn.results=rs.toArray) (h:zB P w n l rs [v]) (a:R (.returned v) w):bodyPost P fn R e (aQ A [] l) w :=
  bp b fK (qw (A:=A) (D:=[]) c h) a
theorem cr {t ty':TypeId} {b:Nat} {cs:List Value} (c:fI P t cs.length=true) (a:bC w b cs ty'):(loadVar t ⟨b,0,none⟩).run P w = .ok (.agg cs.toArray) w:=oH c a
theorem QZ {t ty':TypeId} {b:Nat} {u:Value} {cs:List Value} (c:iI P t=true) (a:bC w b cs ty') (d:cs[0]? = some u):(loadVar t ⟨b,0,none⟩).run P w = .ok u w:=by
  have:w.cell? ⟨b,0,none⟩=some u:=by rw[a.cell];exact d
  simp[loadVar,nS c,this]
end
end Go.Wk
namespace Go.Wk
open Go Go.RowKit
def NE (v:Value):List PanicEntry:=[{v,recovered:=false}]
def QE (P:Program) (t:TypeId):Bool:=match P.underlying t with|some (.interface _)=>true|_=>false
def FA (P:Program) (t:TypeId):Bool:=match P.underlying t with|some (.interface _)=>false|some _=>true|none=>false
theorem zL {P:Program} {t:TypeId} (h:FA P t=true):∃X,P.underlying t=some X/\∀Y,X≠.interface Y:=by
  unfold FA at h;split at h
  · cases h
  · rename_i X h1 h2;exact⟨X,h2,fun Y e=>h1 Y e⟩
  cases h
theorem E2 {P:Program} {t:TypeId} (h:QE P t=true):∃X,P.underlying t=some (.interface X):=by
  unfold QE at h;split at h
  · exact⟨_,by assumption⟩
  cases h
section
variable {P:Program} {ops:Array Oper} {Q:Exit->Act->World->Prop} {rest:List Oper}
variable {n:Nat} {A:Fr n} {D:List Deferred} {l:List (Nat × Value)} {w:World}
variable {d:Tmp} {op:Op} {ty:TypeId} {ps:String} {af:Array Edge} {g:Option (Nat × Bool)}
theorem door {vs:List Value} {m:Nat} (f:m=n) (e:Nat.ble vs.length n=true) :
    ∃b:Fr n,aQ b [] (sV 0 vs)={tmps:=vs.toArray ++ Array.replicate (m-vs.toArray.size) undef,defers:=[]}:=by
  have h:vs.length<=n:=lB e;have D:(vs.toArray ++ Array.replicate (m-vs.toArray.size) undef).size=n:=by simp[f];omega
  refine⟨⟨_,D⟩,JW ?_⟩;intro p G;obtain⟨g,c,d⟩:=EV G;obtain⟨a,C⟩:=List.getElem?_eq_some_iff.1 d;simp only[c,Nat.zero_add,Array.getD];rw[dif_pos Ym];show(vs.toArray ++ _)[g]'_=_;rw[Array.getElem_append_left (by simpa using a)];simpa using C
theorem aiU {f:FuncId} {fn:Func} {c:Code} {vs:List Value} {R:Ending->World->Prop} (d:P.funcs[f]? = some fn) (hb:fn.body=some c) (g:fn.ntmps=n) (e:Nat.ble vs.length n=true)
    (h:∀a:Fr n,c.wp P (bodyPostD P fn R) (aQ a [] (sV 0 vs)) w):Calls P f vs.toArray w R:=by
  refine calls_of_wp_defers d hb ?_;obtain⟨a,b⟩:=door g e;rw[<- b];exact h a
theorem aiV {f:FuncId} {fn:Func} {c:Code} {vs:List Value} {u:FrameMode} {R:Ending->FrameMode->World->Prop} (d:P.funcs[f]? = some fn) (hb:fn.body=some c) (g:fn.ntmps=n) (e:Nat.ble vs.length n=true)
    (h:∀(a:Fr n) (c₀:Go.Frame) (cs:List Go.Frame),c₀.mode=u->c.wpS P (bodyPostS P fn c₀ cs R) (aQ a [] (sV 0 vs)) (c₀ :: cs) w):CallsD P f vs.toArray u w R:=by
  refine callsD_of_wpS d hb fun c₀ cs C=>?_;obtain⟨a,b⟩:=door g e;rw[<- b];exact h a c₀ cs C
theorem mK {f:FuncId} {xs:List Operand} {vs:List Value} {b:Option Tmp} (c:evs n l xs=some vs) :
    bZ P ⟨b,.makeFunc (.func f) #[] xs.toArray,ty,ps,af,g⟩ (aQ A D l).eval w (.func (.func f) #[] vs.toArray):=by
  have a:=mP (A:=A) (D:=D) c;simp[bZ,execOp,Instr.makeFunc,a]
theorem aaO (dd:Deferred) (v:Option Tmp) (x:Value):({aQ A D l with defers:=dd :: (aQ A D l).defers}.put v x)=match v with|some t=>aQ A (dd :: D) ((t,x) :: l)|none=>aQ A (dd :: D) l:=by
  have B:∀l:List (Nat × Value),({aQ A D l with defers:=dd :: (aQ A D l).defers}:Act)=aQ A (dd :: D) l:=by
    intro l;rw[fK]
    induction l with
    | nil=>rfl
    | cons p r ih=>simp only[aQ,Act.put]at ih ⊢;simp only[<- ih]
  rw[B];cases v <;> rfl
theorem af3 {f:FuncId} {c:Operand} {b:Array TypeId} {cs:List Value} {a:Option Tmp} (e:ev n l c=some (.func (.func f) #[] cs.toArray))
    (k:wpList P ops Q rest (match a with|some t=>aQ A (⟨.fn (.func f) cs.toArray,#[]⟩ :: D) ((t,undef) :: l)|none=>aQ A (⟨.fn (.func f) cs.toArray,#[]⟩ :: D) l) w) :
    wpList P ops Q (⟨a,.defer {callee:=.value c,args:=#[],argTypes:=b},ty,ps,af,none⟩ :: rest) (aQ A D l) w:=by
  refine fU q ?_;unfold Oper.wp;have d:(execOp (aQ A D l).eval ⟨a,.defer {callee:=.value c,args:=#[],argTypes:=b},ty,ps,af,none⟩).run P w = .ok (.defer ⟨.fn (.func f) cs.toArray,#[]⟩) w:=by simp[execOp,resolve,bM e,Deferred.ofValue]
  rw[d];show wpList P ops Q rest ({aQ A D l with defers:=_ :: (aQ A D l).defers}.put a undef) w;rw[aaO];cases a <;> exact k
theorem ab2 {f:FuncId} {c:Operand} {xs:List Operand} {g:Array TypeId} {vs cs:List Value} {R:Ending->World->Prop} {e:Option Tmp} (m:ev n l c=some (.func (.func f) #[] cs.toArray)) (o:cu P f=true) (j:evs n l xs=some vs) (p:Calls P f (vs ++ cs).toArray w R)
    (k:∀a b,R a b->(∃v,a = .returned v/\wpList P ops Q rest ((aQ A D l).put e v) b)\/∃d,a = .panicked d/\Q (.panic d) (aQ A D l) b) :
    wpList P ops Q (⟨e,.call {callee:=.value c,args:=xs.toArray,argTypes:=g},ty,ps,af,none⟩ :: rest) (aQ A D l) w:=by
  refine fU q ?_;unfold Oper.wp;have i:=mP (A:=A) (D:=D) j;have h:(execOp (aQ A D l).eval ⟨e,.call {callee:=.value c,args:=xs.toArray,argTypes:=g},ty,ps,af,none⟩).run P w = .ok (.enter f (vs ++ cs).toArray) w:=by simp only[execOp,resolve,bM m,Deferred.ofValue,List.map_toArray,i];simp[invoke,po o]
  rw[h];refine p.mono fun a b C=>?_
  rcases k a b C with⟨v,rfl,hk⟩|⟨d,rfl,hk⟩
  · exact hk
  exact hk
theorem jq {f:FuncId} {xs:List Operand} {j:Array TypeId} {vs:List Value} {R:Ending->World->Prop} (h:cu P f=true) (g:evs n l xs=some vs) (i:Calls P f vs.toArray w R)
    (k:∀a b,R a b->(∃v,a = .returned v/\wpList P ops Q rest (aQ A D ((d,v) :: l)) b)\/∃c,a = .panicked c/\Q (.panic c) (aQ A D l) b) :
    wpList P ops Q (⟨some d,.call {callee:=.value (.func f),args:=xs.toArray,argTypes:=j},ty,ps,af,none⟩ :: rest) (aQ A D l) w:=by
  refine fU q ?_;unfold Oper.wp;rw[yu h g];refine i.mono fun a b e=>?_
  rcases k a b e with⟨v,rfl,hk⟩|⟨c,rfl,hk⟩
  · exact hk
  exact hk
theorem nN {x:Operand} {t:TypeId} {v:Value} {c:Option Tmp} (a:FA P t=true) (d:ev n l x=some v) :
    bZ P ⟨c,.makeInterface t x,ty,ps,af,g⟩ (aQ A D l).eval w (.iface t v):=by
  obtain⟨b,a,e⟩:=zL a;cases b <;> simp_all [bZ,execOp,bM d,Instr.makeInterface,run_underlying a]
theorem pS {x:Operand} {t:TypeId} {v:Value} {a:Option Tmp} (c:ev n l x=some (.iface t v)) (k:Q (.panic (NE (.iface t v))) (aQ A D l) w) :
    wpList P ops Q (⟨a,.panic x,ty,ps,af,none⟩ :: rest) (aQ A D l) w:=by
  refine fU q ?_;unfold Oper.wp;have b:(execOp (aQ A D l).eval ⟨a,.panic x,ty,ps,af,none⟩).run P w = .halt (.panic (.iface t v)) w:=by simp[execOp,bM c,Instr.panic,goPanic]
  rw[b];exact k
theorem gB {fn:Func} {R:Ending->World->Prop} {a:List PanicEntry} (h:R (.panicked a) w):bodyPost P fn R (.panic a) (aQ A [] l) w:=⟨fK,h⟩
theorem agp {t s:TypeId} {v:Value} {X} (w:World) (dd:Nat) (a:P.underlying t=some (.interface X)):(Op.equalIn (dd+1) t (.iface s v) .nilIface).run P w = .ok false w:=by simp only[Op.equalIn,Sem.run_bind,run_underlying a,Result.andThen_ok,Sem.run_pure]
theorem ago {t:TypeId} {X} (w:World) (dd:Nat) (a:P.underlying t=some (.interface X)):(Op.equalIn (dd+1) t .nilIface .nilIface).run P w = .ok true w:=by simp only[Op.equalIn,Sem.run_bind,run_underlying a,Result.andThen_ok,Sem.run_pure]
theorem ahl {x:Operand} {t u s:TypeId} {v:Value} (e:ev n l x=some (.iface s v)) (a:QE P t=true) :
    bZ P ⟨some d,.binOp .neq t x (.const .nilIface) u,ty,ps,af,g⟩ (aQ A D l).eval w (.bool true):=by
  obtain⟨f,a⟩:=E2 a;have C:(aQ A D l).eval (.const .nilIface) = .nilIface:=rfl;have c:(eqGuard .neq t x (.const .nilIface) (.iface s v) .nilIface).run P w = .ok () w:=by unfold eqGuard;simp
  have b:(binOp .neq t (.iface s v) .nilIface).run P w = .ok (.bool true) w:=by simp only[binOp,Op.equal,Op.maxDepth,Sem.run_bind,agp w 9999 a,Result.andThen_ok,Sem.run_pure,Bool.not_false]
  simp[bZ,execOp,bM e,C,c,b]
theorem ahm {x:Operand} {t u:TypeId} (e:ev n l x=some .nilIface) (a:QE P t=true) :
    bZ P ⟨some d,.binOp .neq t x (.const .nilIface) u,ty,ps,af,g⟩ (aQ A D l).eval w (.bool false):=by
  obtain⟨f,a⟩:=E2 a;have C:(aQ A D l).eval (.const .nilIface) = .nilIface:=rfl;have c:(eqGuard .neq t x (.const .nilIface) .nilIface .nilIface).run P w = .ok () w:=by unfold eqGuard;simp
  have b:(binOp .neq t .nilIface .nilIface).run P w = .ok (.bool false) w:=by simp only[binOp,Op.equal,Op.maxDepth,Sem.run_bind,ago w 9999 a,Result.andThen_ok,Sem.run_pure,Bool.not_true]
  simp[bZ,execOp,bM e,C,c,b]
end
section
variable {P:Program} {ops:Array Oper} {QS:Exit->Act->List Go.Frame->World->Prop} {cs:List Go.Frame} {rest:List Nat}
variable {n:Nat} {A:Fr n} {D:List Deferred} {l:List (Nat × Value)} {w:World}
theorem af2 {i d:Nat} {o:Oper} (v:Value) (e:ops[i]? = some o) (c:o.guard=none) (hd:o.dst=some d) (a:bZ P o (aQ A D l).eval w v) (k:wpOpsS P ops QS rest (aQ A D ((d,v) :: l)) cs w) :
    wpOpsS P ops QS (i :: rest) (aQ A D l) cs w:=by
  have b:Region.wanted o (yielded ops (aQ A D l).tmps)=true:=by simp[Region.wanted,c]
  unfold bZ at a;simp only[wpOpsS,e,b,if_true,a,Oper.upon,hd];exact k
theorem ajS {i d:Nat} {o:Oper} {n:Array TypeId} (j:ops[i]? = some o) (h:o.guard=none) (hd:o.dst=some d) (m:o.op = .call {callee:=.builtin .recover,args:=#[],argTypes:=n}) {v:Value} {b:List PanicEntry} {c:Go.Frame} {a:List Go.Frame} (g:cs=c :: a)
    (hm:c.mode = .panicking ({v,recovered:=false} :: b)) (k:wpOpsS P ops QS rest (aQ A D ((d,v) :: l)) ({c with mode:=.panicking ({v,recovered:=true} :: b)} :: a) w) :
    wpOpsS P ops QS (i :: rest) (aQ A D l) cs w:=by
  have f:Region.wanted o (yielded ops (aQ A D l).tmps)=true:=by simp[Region.wanted,h]
  have C:(execOp (aQ A D l).eval o).run P w = .ok .recover w:=by simp[execOp,m,resolve,invoke,builtin]
  subst g;have e:recoverD (c :: a)=some (v,{c with mode:=.panicking ({v,recovered:=true} :: b)} :: a):=by simp[recoverD,hm]
  simp only[wpOpsS,j,f,if_true,C,e,hd];exact k
theorem ah2 {i d:Nat} {o:Oper} {m:Array TypeId} (h:ops[i]? = some o) (g:o.guard=none) (hd:o.dst=some d) (j:o.op = .call {callee:=.builtin .recover,args:=#[],argTypes:=m}) {c:Go.Frame} {a:List Go.Frame} (f:cs=c :: a)
    (hm:c.mode = .returning) (k:wpOpsS P ops QS rest (aQ A D ((d,.nilIface) :: l)) cs w) :
    wpOpsS P ops QS (i :: rest) (aQ A D l) cs w:=by
  have e:Region.wanted o (yielded ops (aQ A D l).tmps)=true:=by simp[Region.wanted,g]
  have C:(execOp (aQ A D l).eval o).run P w = .ok .recover w:=by simp[execOp,j,resolve,invoke,builtin]
  subst f;have b:recoverD (c :: a)=none:=by simp[recoverD,hm]
  simp only[wpOpsS,h,e,if_true,C,b,hd];exact k
theorem af0 (k:QS .normal (aQ A D l) cs w):wpOpsS P ops QS [] (aQ A D l) cs w:=k
end
section
variable {P:Program} {n:Nat} {A:Fr n} {l:List (Nat × Value)} {w:World}
theorem alV {fn:Func} {c₀:Go.Frame} {cs:List Go.Frame} {R:Ending->FrameMode->World->Prop} {u':FrameMode} {e:Exit} (b:sG e) (c:fn.results = #[]) (a:R (.returned (.tuple #[])) u' w) :
    bodyPostS P fn c₀ cs R e (aQ A [] l) ({c₀ with mode:=u'} :: cs) w:=by
  have h:=qw (P:=P) (w:=w) (A:=A) (D:=[]) (l:=l) (fn:=fn) (rs:=[]) (vs:=[]) c trivial;cases e with
  | normal=>exact⟨fK,u',q,_,h,a⟩
  | ret=>exact⟨fK,u',q,_,h,a⟩
  | _=>exact b.elim
theorem alW {fn:Func} {c₀:Go.Frame} {cs:List Go.Frame} {R:Ending->FrameMode->World->Prop} {u:FrameMode} {e:Exit} (b:c₀.mode=u) (c:sG e) (d:fn.results = #[]) (a:R (.returned (.tuple #[])) u w) :
    bodyPostS P fn c₀ cs R e (aQ A [] l) (c₀ :: cs) w:=by
  have h:({c₀ with mode:=u}:Go.Frame)=c₀:=by subst b;rfl
  have:=alV (P:=P) (A:=A) (l:=l) (c₀:=c₀) (cs:=cs) (u':=u) c d a
  rwa [h]at this
theorem leave1 {fn:Func} {R:Ending->World->Prop} {t ty:Nat} {d:Deferred} {u:FrameMode} {f:FuncId} {cs:List Value} (k:u≠.run) (hd:d=⟨.fn (.func f) cs.toArray,#[]⟩) (g:cu P f=true) (i:fn.results = #[.cell t ty]) {p:Addr} (j:ev n l (.tmp t)=some (.pointer (some p)))
    (h:CallsD P f cs.toArray u w fun c b a=>c = .returned (.tuple #[])/\settle b = .returning/\∃v,(loadVar ty p).run P a = .ok v a/\R (.returned v) a) :
    Leaves P fn (aQ A [d] l).tmps R [d] u w:=by
  subst hd;refine leaves_cons k (f:=f) (args:=cs.toArray) (by simp[invoke,po g]) (h.mono ?_);rintro c b a ⟨rfl,C,v,D,e⟩;show Leaves P fn _ R [] (settle b) a;rw[C];exact⟨v,qw (A:=A) (rs:=[.cell t ty]) (vs:=[v]) i ⟨⟨p,j,D⟩,tV⟩,e⟩
end
section
variable {P:Program} {n:Nat} {A:Fr n} {D:List Deferred} {l:List (Nat × Value)} {w:World} {d:Option Tmp} {ty:TypeId} {ps:String} {af:Array Edge} {g:Option (Nat × Bool)}
theorem abf {x:Operand} {t a:TypeId} {v:Value} (b:FA P a=true) (e:ev n l x=some (.iface a v)) :
    bZ P ⟨d,.typeAssert x t a true,ty,ps,af,g⟩ (aQ A D l).eval w (.tuple #[v,.bool true]):=by
  obtain⟨c,b,f⟩:=zL b;cases c <;> simp_all [bZ,execOp,bM e,Instr.typeAssert,run_underlying b]
end
end Go.Wk
namespace Go.Wk
open Go Go.RowKit
def digit (c:UInt8):Bool:=decide (48<=c.toNat/\c.toNat<=57)
def iX (c:UInt8):Bool:=decide ((65<=c.toNat/\c.toNat<=90)\/(48<=c.toNat/\c.toNat<=57)\/c.toNat=95)
def ew (s:Ly):Bool:=decide (1<=s.length) && decide (s.length<=64) && !digit (s.getD 0 0) && s.all iX
theorem OL {f:UInt8->Bool} {s:Ly} (h:∀j,j<s.length->f (s.getD j 0)=true):s.all f=true:=by rw[List.all_eq_true];intro x B;obtain⟨j,A,rfl⟩:=List.mem_iff_getElem.1 B;have:=h j A;simpa [List.getD,A]using this
theorem adj {f:UInt8->Bool} {s:Ly} (h:s.all f=true) {j:Nat} (hj:j<s.length):f (s.getD j 0)=true:=by rw[List.all_eq_true]at h;have:=h (s[j]'hj) (List.getElem_mem hj);simpa [List.getD,hj]using this
theorem YK {s:Ly} (h1:1<=s.length) (b:s.length<=64) (c:digit (s.getD 0 0)=false) (d:∀a,a<s.length->iX (s.getD a 0)=true):ew s=true:=by unfold ew;rw[decide_eq_true h1,decide_eq_true b,c,OL d];rfl
theorem fO {s:Ly} (h:ew s=true):1<=s.length/\s.length<=64:=by simp only[ew,Bool.and_eq_true,decide_eq_true_eq]at h;exact⟨h.1.1.1,h.1.1.2⟩
theorem adO {s:Ly} (h:ew s=true) {c:UInt8} (a:c∈s):iX c=true:=by simp only[ew,Bool.and_eq_true]at h;exact List.all_eq_true.1 h.2 c a
theorem ir {s:Ly} (h:ew s=true):¬(48<=(s.getD 0 0).toNat/\(s.getD 0 0).toNat<=57):=by simp only[ew,Bool.and_eq_true,Bool.not_eq_true']at h;have:=h.1.2;unfold digit at this;exact dF this
theorem kJ {s:Ly} (h:ew s=true) (j:Nat) (a:j<s.length):(65<=(s.getD j 0).toNat/\(s.getD j 0).toNat<=90)\/(48<=(s.getD j 0).toNat/\(s.getD j 0).toNat<=57)\/(s.getD j 0).toNat=95:=by simp only[ew,Bool.and_eq_true]at h;exact dT (adj h.2 a)
abbrev zA:=List UInt8 × List UInt8
def whole (p:zA):List UInt8:=p.1 ++ [61] ++ p.2
def right (p:zA):Bool:=ew p.1 && decide (p.2.length<=256)
def ad5 (p:zA):Int:=if ew p.1=false then 1 else if 256<p.2.length then 21 else 0
def gE (s:Ly):Int :=
  if Lib.indexByte s 61<0 then 20 else if ew (s.take (Lib.indexByte s 61).toNat)=false then 20 else if 256<(s.drop ((Lib.indexByte s 61).toNat+1)).length then 21 else 0
def nj (s:Ly):zA:=if gE s=0 then(s.take (Lib.indexByte s 61).toNat,s.drop ((Lib.indexByte s 61).toNat+1))else([],[])
theorem mH (p:zA):(ad5 p=0)↔right p=true:=by unfold ad5 right;cases ew p.1 <;> simp
theorem wR {s:Ly} {c:UInt8} (h:0<=Lib.indexByte s c):(Lib.indexByte s c).toNat<s.length/\s[(Lib.indexByte s c).toNat]? = some c:=by obtain⟨o,A⟩:=Int.eq_ofNat_of_zero_le h;have:=(Lib.indexByte_some A).1;rw[A];exact⟨(List.getElem?_eq_some_iff.1 this).1,this⟩
theorem MK {a b:Ly} {c:UInt8} (h:c∉a):Lib.indexByte (a ++ c :: b) c=a.length:=by
  induction a with
  | nil=>simp[Lib.indexByte]
  | cons x r ih =>
    have B:x≠c:=fun A=>h (by simp[A]);have C:c∉r:=fun A=>h (by simp[A]);have D:(x == c)=false:=(by simp[B]);simp only[List.cons_append,Lib.indexByte,D,ih C];have:((r.length:Int) == -1)=false:=(by rw[beq_eq_false_iff_ne];omega);simp[this]
theorem o7 {p:zA} (h:ad5 p=0):gE (whole p)=0/\nj (whole p)=p:=by
  obtain⟨a,b⟩:=p;have A:=(mH _).1 h;simp only[right,Bool.and_eq_true,decide_eq_true_eq]at A;have G:(61:UInt8)∉a:=fun F=>by have:=adO A.1 F;revert this;decide
  have E:Lib.indexByte (whole (a,b)) 61=a.length:=by unfold whole;simp only[List.append_assoc,List.singleton_append];exact MK G
  have B:(whole (a,b)).take a.length=a:=by simp[whole]
  have C:(whole (a,b)).drop (a.length+1)=b:=by unfold whole;rw[List.drop_append_of_le_length Oy];simp
  have D:gE (whole (a,b))=0:=by unfold gE;rw[E,if_neg Xx,Int.toNat_natCast,B,C,if_neg (by simp[A.1]),if_neg Xx]
  refine⟨D,?_⟩;unfold nj;rw[if_pos D,E,Int.toNat_natCast,B,C]
theorem pA {s:Ly} (h:gE s≠0):nj s=([],[]):=by unfold nj;rw[if_neg h]
theorem adP {s:Ly} (h1:1<=s.length) (h:∀j,j<s.length->iX (s.getD j 0)=true/\(j=0->digit (s.getD j 0)=false)):decide ((s.length:Int)<=64)=ew s:=by have B:=(h 0 Xx).2 q;have A:=OL fun j C=>(h j C).1;unfold ew;rw[decide_eq_true h1,B,A,Bool.true_and,Bool.not_false,Bool.and_true,Bool.and_true];exact decide_eq_decide.2 Xx
theorem al1 {l:Ly} {c:UInt8} {i:Nat} (hi:i<l.length) (b:l.getD i 0=c) (h:∀a,a<i->l.getD a 0≠c):Lib.indexByte l c=i:=by
  induction l generalizing i with
  | nil=>simp at hi
  | cons x r ih =>
    cases i with
    | zero=>simp[List.getD]at b;subst b;simp[Lib.indexByte]
    | succ i =>
      have d:(x == c)=false:=(by have:=h 0 Xx;simpa [List.getD]using this);have:=ih (i:=i) (by simpa using hi) (by simpa [List.getD]using b) (fun a f=>by have:=h (a+1) Xx;simpa [List.getD]using this);simp only[Lib.indexByte,d,this];have e:((i:Int) == -1)=false:=(by rw[beq_eq_false_iff_ne];omega);simp[e]
theorem ag8 {l:Ly} {c:UInt8} (h:∀j,j<l.length->l.getD j 0≠c):Lib.indexByte l c<0:=by refine Int.lt_of_not_ge fun A=>?_;obtain⟨B,C⟩:=wR (s:=l) (c:=c) A;exact h _ B (by simp[List.getD,C])
section
variable {P:Program} {n:Nat} {A:Fr n} {D:List Deferred} {l:List (Nat × Value)} {w:World}
variable {d:Option Tmp} {ty:TypeId} {ps:String} {af:Array Edge} {g:Option (Nat × Bool)}
theorem ahi {f:FuncId} {xs:List Operand} {e:Array TypeId} {vs:List Value} {v:Value} (b:evs n l xs=some vs) (c:(callFunc f vs.toArray).run P w = .ok (.value v) w) :
    bZ P ⟨d,.call {callee:=.value (.func f),args:=xs.toArray,argTypes:=e},ty,ps,af,g⟩ (aQ A D l).eval w v:=by
  have a:=mP (A:=A) (D:=D) b;simp only[bZ,execOp,resolve,Act.eval,Deferred.ofValue,List.map_toArray,a];simp[invoke,c]
theorem ahu {v:Value} {s:Ly} (m:By w v s) (c:UInt8):(Extern.BytealgIndexByte.indexByte #[v,b8 c]).run P w = .ok (.int .i64 (Lib.indexByte s c)) w:=by
  obtain⟨g,a,rfl,j,n,k,H⟩:=m;have D:Lib.bytesOf (s.map fun x=>(x.toNat:Int))=s:=by simp[Lib.bytesOf,Function.comp_def]
  cases s with
  | nil =>
    cases g with
    | none =>
      change Sem.run P (do
        let b <- Extern.Bytes.bytesOf (.slice none 0 a)
        let c <- Extern.Bytes.asByte (b8 c)
        match (List.range b.size).find? fun i=>b[i]! == c with
        | some i=>pure (goInt i)
        | none=>pure (goInt (-1))) w=_
      simp[Extern.Bytes.bytesOf,Extern.Bytes.asByte,b8,Lib.indexByte,goInt]
    | some p =>
      change Sem.run P (do
        let b <- Extern.Bytes.bytesOf (.slice (some p) 0 a)
        let c <- Extern.Bytes.asByte (b8 c)
        match (List.range b.size).find? fun i=>b[i]! == c with
        | some i=>pure (goInt i)
        | none=>pure (goInt (-1))) w=_
      simp[Extern.Bytes.bytesOf,Extern.Bytes.asByte,b8,Lib.indexByte,Extern.Bytes.loadBytes,goInt]
  | cons x r =>
    cases g with
    | none=>have:=k rfl;simp at j;omega
    | some p =>
      have C:=H p rfl 0 (b8 x) rfl;obtain⟨d,G,e⟩:=p;have h:e=none:=by
        cases e with
        | none=>rfl
        | some q =>
          unfold World.cell? at C;simp only[Addr.add]at C;split at C <;> (simp at C;done)
      subst h;have:=Lib.run_indexByteSlice (P:=P) w d G (x :: r).length a ((x :: r).map fun x=>(x.toNat:Int)) Oy (fun i f=>by
        have:=H _ rfl i (b8 ((x :: r).getD i 0)) (by simpa using XT (x :: r) i f);have l:(⟨d,G,none⟩:Addr).add i=⟨d,G+i,none⟩:=(by unfold Addr.add;split <;> simp_all);rw[l]at this;rw[this,b8];rw[List.getD_eq_getElem?_getD,List.getD_eq_getElem?_getD,List.getElem?_map,List.getElem?_eq_getElem f];rfl) c.toNat
      rw[D]at this;simpa [b8]using this
end
end Go.Wk
namespace Go.Wk
open Go Go.RowKit
def i7:List UInt8->Int
  | []=>0
  | b :: r=>(b.toNat:Int)+256*i7 r
theorem rW (l:Ly):0<=i7 l:=by
  induction l with
  | nil=>simp[i7]
  | cons b r ih=>simp only[i7];omega
theorem adD (l:Ly):i7 l<256 ^ l.length:=by
  induction l with
  | nil=>simp[i7]
  | cons b r ih =>
    simp only[i7,List.length_cons,Int.pow_succ];have:=b.toNat_lt;omega
theorem tr {l:Ly} {k:Nat} (h:l.length<=k):i7 l<256 ^ k:=by refine Int.lt_of_lt_of_le (adD l) ?_;have B:256 ^ l.length<=256 ^ k:=Nat.pow_le_pow_right Xx h;have A:=Int.ofNat_le.2 B;rw[Int.natCast_pow,Int.natCast_pow]at A;exact A
def szB (n:Int):Bool:=decide (n=1\/n=2\/n=4\/n=8)
theorem ahz (v:Int) (c:UInt8) (d:0<=v) (h1:v<72057594037927936) :
    bits .or .u64 (ni .u64 v 8) (IntKind.u64.wrap (c.toNat:Int))=(c.toNat:Int)+256*v:=by
  obtain⟨m,rfl⟩:=Int.eq_ofNat_of_zero_le d;have e:=c.toNat_lt;have a:ni .u64 (m:Int) 8=((m*256:Nat):Int):=by unfold ni;have:min (8:Int).toNat IntKind.u64.bits=8:=(by decide);rw[this,wrap_u64 Xx Xx];omega
  have b:IntKind.u64.wrap (c.toNat:Int)=(c.toNat:Int):=wrap_u64 Xx Xx;rw[a,b];unfold bits;simp only[BitVec.ofInt_natCast];have D:IntKind.u64.bits=64:=rfl;have C:(BitVec.ofNat IntKind.u64.bits (m*256) ||| BitVec.ofNat IntKind.u64.bits c.toNat).toNat=c.toNat+256*m:=by rw[BitVec.toNat_or,BitVec.toNat_ofNat,BitVec.toNat_ofNat,D,Nat.mod_eq_of_lt Xx,Nat.mod_eq_of_lt Xx];have:=Nat.two_pow_add_eq_or_of_lt (i:=8) (show c.toNat<2 ^ 8 by omega) m;rw[show m*256=2 ^ 8*m by omega,<- this];omega
  rw[C,wrap_u64 Xx Xx];omega
theorem V8 (l:Ly) (at' i k:Nat) (h:at'+i<l.length):i7 (((l.drop (at'+i)).take (k+1)))=((l.getD (at'+i) 0).toNat:Int)+256*i7 ((l.drop (at'+(i+1))).take k):=by
  have:l.drop (at'+i)=l.getD (at'+i) 0 :: l.drop (at'+(i+1)):=by rw[List.drop_eq_getElem_cons h];simp[List.getD,h,Nat.add_assoc]
  rw[this];rfl
theorem ZV {l:Ly} (a n:Int) (k:Nat) (f:n=1\/n=2\/n=4\/n=8) (d:0<=a) (e:a+n<=l.length) (hk:(k:Int)<n) :
    bits .or .u64 (ni .u64 (i7 ((l.drop (a.toNat+(n.toNat-k))).take k)) 8) (IntKind.u64.wrap ((l.getD (a+(n-1-k)).toNat 0).toNat:Int)) =
      i7 ((l.drop (a.toNat+(n.toNat-(k+1)))).take (k+1)):=by
  have b:=rW ((l.drop (a.toNat+(n.toNat-k))).take k);have c:i7 ((l.drop (a.toNat+(n.toNat-k))).take k)<256 ^ 7:=tr Ym;rw[ahz _ _ b (by simpa using c),V8 l a.toNat (n.toNat-(k+1)) k Xx];rw[show(a+(n-1-k)).toNat=a.toNat+(n.toNat-(k+1))by omega,show n.toNat-(k+1)+1=n.toNat-k by omega]
def sJ (x k:Int):Int:=bits .or .u32 (ni .u32 x k) (ah0 .u32 x (32-k))
def zS (x k:Int):Int:=bits .or .u64 (ni .u64 x k) (ah0 .u64 x (64-k))
theorem vm (k:Int) (m:Nat) (c:0<=k) (h1:k<2 ^ m) (d:m<=63):bits .and .u64 (IntKind.u64.wrap k) ((2 ^ m-1:Nat):Int)=k:=by
  obtain⟨x,rfl⟩:=Int.eq_ofNat_of_zero_le c;have D:x<2 ^ m:=by have:((x:Nat):Int)<((2 ^ m:Nat):Int):=(by rw[Int.natCast_pow];exact h1);exact Int.ofNat_lt.1 this
  have C:2 ^ m<=2 ^ 63:=Nat.pow_le_pow_right Xx d;have a:(x:Int)<18446744073709551616:=by have:x<2 ^ 63:=(by omega);omega
  rw[wrap_u64 Xx a];unfold bits;simp only[BitVec.ofInt_natCast];have b:IntKind.u64.bits=64:=rfl;rw[BitVec.toNat_and,BitVec.toNat_ofNat,BitVec.toNat_ofNat,b,Nat.mod_eq_of_lt (show x<2 ^ 64 by omega),Nat.mod_eq_of_lt (show 2 ^ m-1<2 ^ 64 by omega),Nat.and_two_pow_sub_one_eq_mod,Nat.mod_eq_of_lt D];exact wrap_u64 Xx a
theorem akn {k:Int} (a:0<=k) (h1:k<32):bits .and .u64 (IntKind.u64.wrap k) 31=k:=vm k 5 a (by simpa using h1) Xx
theorem ako {k:Int} (a:0<=k) (h1:k<64):bits .and .u64 (IntKind.u64.wrap k) 63=k:=vm k 6 a (by simpa using h1) Xx
structure T3 where
  x:Int
  y:Int
  z:Int
def T3.cells (t:T3):List Value:=[.int .u32 t.x,.int .u32 t.y,.int .u32 t.z]
def vP (l:Ly) (i:Nat):Int:=i7 [l.getD i 0,l.getD (i+1) 0,l.getD (i+2) 0,l.getD (i+3) 0]
def sN (x:Int):Int:=IntKind.u32.wrap x
def mE (t:T3) (l:Ly):T3:=⟨sN (t.x+sN (vP l 0)),sN (t.y+sN (vP l 4)),sN (t.z+sN (vP l 8))⟩
def vD (a b:Int):Int:=bits .xor .u32 a b
def al7 (t:T3) (a b c:Int):T3 :=
  let x:=vD (sN (t.x-t.z)) (sJ t.z a)
  let z:=sN (t.z+t.y)
  let y:=vD (sN (t.y-x)) (sJ x b)
  let x:=sN (x+z)
  let z:=vD (sN (z-y)) (sJ y c)
  ⟨x,sN (y+x),z⟩
def mix (t:T3):T3:=al7 (al7 t 4 6 8) 16 19 4
def last (t:T3):T3 :=
  let z:=sN (vD t.z t.y-sJ t.y 14)
  let x:=sN (vD t.x z-sJ z 11)
  let y:=sN (vD t.y x-sJ x 25)
  let z:=sN (vD z y-sJ y 16)
  let x:=sN (vD x z-sJ z 4)
  let y:=sN (vD y x-sJ x 14)
  let z:=sN (vD z y-sJ y 24)
  ⟨x,y,z⟩
def pack (t:T3):Int:=bits .or .u64 (ni .u64 (IntKind.u64.wrap t.z) 32) (IntKind.u64.wrap t.y)
def YA:Nat->T3->List UInt8->Int
  | 0,t,l=>if l=[]then pack t else pack (last (mE t l))
  | k+1,t,l=>if 12<l.length then YA k (mix (mE t l)) (l.drop 12)else if l=[]then pack t else pack (last (mE t l))
theorem adF:∀(k j:Nat) (t:T3) (l:Ly),l.length<=k->l.length<=j->YA k t l=YA j t l:=by
  intro k
  induction k with
  | zero =>
    intro j t l B C;have A:l=[]:=List.eq_nil_of_length_eq_zero Xx;subst A;cases j <;> simp[YA]
  | succ k ih =>
    intro j t l B C;cases j with
    | zero =>
      have A:l=[]:=List.eq_nil_of_length_eq_zero Xx;subst A;simp[YA]
    | succ j =>
      simp only[YA];split
      · exact ih j _ _ Ym Ym
      · rfl
def lk (t:T3) (l:Ly):Int:=YA l.length t l
theorem YC (t:T3) (l:Ly) (h:12<l.length):lk t l=lk (mix (mE t l)) (l.drop 12):=by unfold lk;obtain⟨k,hk⟩:∃k,l.length=k+1:=⟨l.length-1,by omega⟩;rw[hk];simp only[YA,if_pos h];exact adF _ _ _ _ Ym Oy
theorem ajo (t:T3):lk t []=pack t:=by simp[lk,YA]
theorem YB (t:T3) (l:Ly) (h:l≠[]) (a:l.length<=12):lk t l=pack (last (mE t l)):=by unfold lk;obtain⟨k,hk⟩:∃k,l.length=k+1:=⟨l.length-1,by have:=List.length_pos_iff.2 h;omega⟩;rw[hk];simp only[YA,if_neg (show ¬12<l.length by omega),if_neg h]
def VA (l:Ly):T3:=⟨sN (3735928559+sN l.length),sN (3735928559+sN l.length),sN (3735928559+sN l.length)⟩
def lookup (l:Ly):Int:=lk (VA l) l
theorem EJ (l:Ly) (i:Nat) (h:i+4<=l.length):i7 ((l.drop i).take 4)=vP l i:=by
  unfold vP;congr 1;apply List.ext_getElem
  · simp;omega
  intro j B A;simp at A;have:j=0\/j=1\/j=2\/j=3:=by omega
  rcases this with rfl|rfl|rfl|rfl <;> simp[List.getD] <;> rw[List.getElem?_eq_getElem Xx] <;> rfl
theorem abv (v:Int) (c:UInt8) (d:0<=v) (h1:v<16777216) :
    bits .or .u32 (ni .u32 v 8) (IntKind.u32.wrap (c.toNat:Int))=(c.toNat:Int)+256*v:=by
  obtain⟨m,rfl⟩:=Int.eq_ofNat_of_zero_le d;have e:=c.toNat_lt;have a:ni .u32 (m:Int) 8=((m*256:Nat):Int):=by unfold ni;have:min (8:Int).toNat IntKind.u32.bits=8:=(by decide);rw[this,wrap_u32 Xx Xx];omega
  have b:IntKind.u32.wrap (c.toNat:Int)=(c.toNat:Int):=wrap_u32 Xx Xx;rw[a,b];unfold bits;simp only[BitVec.ofInt_natCast];have D:IntKind.u32.bits=32:=rfl;have C:(BitVec.ofNat IntKind.u32.bits (m*256) ||| BitVec.ofNat IntKind.u32.bits c.toNat).toNat=c.toNat+256*m:=by rw[BitVec.toNat_or,BitVec.toNat_ofNat,BitVec.toNat_ofNat,D,Nat.mod_eq_of_lt Xx,Nat.mod_eq_of_lt Xx];have:=Nat.two_pow_add_eq_or_of_lt (i:=8) (show c.toNat<2 ^ 8 by omega) m;rw[show m*256=2 ^ 8*m by omega,<- this];omega
  rw[C,wrap_u32 Xx Xx];omega
theorem ahy (v:Int) (a:0<=v) (h1:v<16777216):ni .u32 v 8=256*v:=by
  unfold ni;have:min (8:Int).toNat IntKind.u32.bits=8:=by decide
  rw[this,wrap_u32 Xx Xx];omega
def wS (l:Ly) (i k:Nat):Int:=i7 ([l.getD i 0,l.getD (i+1) 0,l.getD (i+2) 0,l.getD (i+3) 0].drop (4-k))
theorem EI (l:Ly) (i k:Nat) (hk:k<4):wS l i (k+1)=((l.getD (i+(3-k)) 0).toNat:Int)+256*wS l i k:=by
  have:k=0\/k=1\/k=2\/k=3:=by omega
  rcases this with rfl|rfl|rfl|rfl <;> rfl
theorem QW (l:Ly) (i k:Nat) (hk:k<4):0<=wS l i k/\wS l i k<16777216:=by refine⟨rW _,?_⟩;have:=tr (l:=[l.getD i 0,l.getD (i+1) 0,l.getD (i+2) 0,l.getD (i+3) 0].drop (4-k)) (k:=3) Ym;exact this
theorem yL (l:Ly) (i:Nat):0<=vP l i/\vP l i<4294967296 :=
  ⟨rW _,tr (k:=4) Oy⟩
theorem ahD (l:Ly) (i:Nat):sN (vP l i)=vP l i:=wrap_u32 (yL l i).1 (yL l i).2
theorem DJ (l:Ly) (i:Nat) (h:l.length<=i):l.getD i 0=0:=by simp[List.getD,List.getElem?_eq_none h]
theorem yM {l b:Ly} {i j:Nat} (h:∀k,k<4->l.getD (i+k) 0=b.getD (j+k) 0):vP l i=vP b j:=by unfold vP;have a:=h 0 Xx;have c:=h 1 Xx;have C:=h 2 Xx;have D:=h 3 Xx;simp only[Nat.add_zero]at a;rw[a,c,C,D]
def sH (m:Nat) (l:Ly):List UInt8:=l ++ List.replicate (m-l.length) 0
theorem FP (m:Nat) (l:Ly) (i:Nat):(sH m l).getD i 0=l.getD i 0:=by
  unfold sH
  by_cases h:i<l.length
  · simp[List.getD,List.getElem?_append_left h]
  rw[DJ l i Xx];simp only[List.getD];rw[List.getElem?_append_right Xx,List.getElem?_replicate];split <;> rfl
theorem rI (m:Nat) (l:Ly) (h:l.length<=m):(sH m l).length=m:=by simp[sH];omega
theorem agD (m:Nat) (l:Ly) (i:Nat):vP (sH m l) i=vP l i:=yM fun k _=>FP m l (i+k)
theorem Z9 (t:T3) (m:Nat) (l:Ly):mE t (sH m l)=mE t l:=by simp only[mE,agD]
theorem QX (l:Ly) (d i:Nat):vP (l.drop d) i=vP l (d+i):=yM fun k _=>by simp[List.getD,Nat.add_assoc]
theorem yN (l:Ly) (m i:Nat) (h:i+4<=m):vP (l.take m) i=vP l i:=yM fun k hk=>by simp only[List.getD];rw[List.getElem?_take,if_pos Xx]
theorem TW (t:T3) (l:Ly) (m:Nat) (h:12<=m):mE t (l.take m)=mE t l:=by simp only[mE];rw[yN l m 0 Xx,yN l m 4 Xx,yN l m 8 Xx]
theorem GF {m:Nat} {l:Ly} (h:l.length<=m):fB ((List.replicate m 0).map b8) 0 ((l.map b8).take m)=(sH m l).map b8:=by have e:(l.map b8).take m=l.map b8:=List.take_of_length_le (by simpa using h);rw[e];simp[fB,sH]
theorem ahE (l:Ly) (a:Int) (k:Nat) (e:0<=a) (hk:k<4) (d:a+(3-k)<l.length) :
    bits .or .u32 (ni .u32 (wS l a.toNat k) 8) (IntKind.u32.wrap ((l.getD (a+(3-k)).toNat 0).toNat:Int))=wS l a.toNat (k+1):=by
  obtain⟨b,c⟩:=QW l a.toNat k hk;rw[abv _ _ b c,EI l _ _ hk,show(a+(3-k)).toNat=a.toNat+(3-k)by omega]
theorem afG (l:Ly) (a:Int) (k:Nat) (d:0<=a) (hk:k<4) (h:l.length<=a+(3-k)):ni .u32 (wS l a.toNat k) 8=wS l a.toNat (k+1):=by obtain⟨b,c⟩:=QW l a.toNat k hk;rw[ahy _ b c,EI l _ _ hk,DJ l _ Xx];simp
theorem KJ (t:T3) (l:Ly) (k:Nat):(⟨sN (t.x+vP l (k:Int).toNat),sN (t.y+vP l (k+4:Int).toNat),sN (t.z+vP l (k+8:Int).toNat)⟩:T3)=mE t (l.drop k):=by simp only[mE,ahD,QX];rw[show(k:Int).toNat=k+0 by omega,show(k+4:Int).toNat=k+4 by omega,show(k+8:Int).toNat=k+8 by omega]
structure S4 where
  p:Int
  q:Int
  r:Int
  s:Int
def S4.cells (v:S4) (n:Int) (rest:Value):List Value:=[.int .u64 v.p,.int .u64 v.q,.int .u64 v.r,.int .u64 v.s,.int .i64 n,rest]
def S4.arr (v:S4):List Value:=[.int .u64 v.p,.int .u64 v.q,.int .u64 v.r,.int .u64 v.s]
theorem S4.um (v:S4):v.arr.length=4:=rfl
theorem S4.LQ (v:S4):∀u∈v.arr,u.oneCell'=true:=by intro u A;simp[S4.arr]at A;rcases A with rfl|rfl|rfl|rfl<;>rfl
def w64 (x:Int):Int:=IntKind.u64.wrap x
def lD (a b:Int):Int:=bits .xor .u64 a b
def afv (v:S4):S4 :=
  let p:=w64 (v.p+v.q)
  let q:=lD (zS v.q 13) p
  let p:=zS p 32
  let r:=w64 (v.r+v.s)
  let s:=lD (zS v.s 16) r
  let p:=w64 (p+s)
  let s:=lD (zS s 21) p
  let r:=w64 (r+q)
  let q:=lD (zS q 17) r
  ⟨p,q,zS r 32,s⟩
def dZ:Nat->S4->S4
  | 0,v=>v
  | k+1,v=>afv (dZ k v)
def S4.xp (v:S4) (m:Int):S4:=⟨lD v.p m,v.q,v.r,v.s⟩
def S4.xr (v:S4) (m:Int):S4:=⟨v.p,v.q,lD v.r m,v.s⟩
def S4.xs (v:S4) (m:Int):S4:=⟨v.p,v.q,v.r,lD v.s m⟩
def S4.all (v:S4):Int:=lD (lD (lD v.p v.q) v.r) v.s
def pq (v:S4) (m:Int):S4:=(dZ 2 (v.xs m)).xp m
theorem ajO (v:S4) (m n:Int) (rest:Value):(v.cells n rest).set 0 (.int .u64 (lD v.p m))=(v.xp m).cells n rest:=rfl
theorem ajP (v:S4) (m n:Int) (rest:Value):(v.cells n rest).set 2 (.int .u64 (lD v.r m))=(v.xr m).cells n rest:=rfl
theorem ajQ (v:S4) (m n:Int) (rest:Value):(v.cells n rest).set 3 (.int .u64 (lD v.s m))=(v.xs m).cells n rest:=rfl
theorem acj (v:S4) (m:Int):v.arr.set 0 (.int .u64 (lD v.p m))=(v.xp m).arr:=rfl
theorem aiE (v:S4) (m:Int):v.arr.set 2 (.int .u64 (lD v.r m))=(v.xr m).arr:=rfl
theorem ack (v:S4) (m:Int):v.arr.set 3 (.int .u64 (lD v.s m))=(v.xs m).arr:=rfl
def qB (key:Ly):S4 :=
  ⟨lD (i7 ((key.drop 0).take 8)) 8317987319222330741,lD (i7 ((key.drop 8).take 8)) 7237128888997146477,
   lD (i7 ((key.drop 0).take 8)) 7816392313619706465,lD (i7 ((key.drop 8).take 8)) 8387220255154660723⟩
def LI:Nat->S4->List UInt8->S4 × List UInt8
  | 0,v,l=>(v,l)
  | k+1,v,l=>if 8<=l.length then LI k (pq v (i7 (l.take 8))) (l.drop 8)else(v,l)
theorem Z8:∀(k j:Nat) (v:S4) (l:Ly),l.length<=k->l.length<=j->LI k v l=LI j v l:=by
  intro k
  induction k with
  | zero =>
    intro j v l B C;have A:l=[]:=List.eq_nil_of_length_eq_zero Xx;subst A;cases j <;> simp[LI]
  | succ k ih =>
    intro j v l B C;cases j with
    | zero =>
      have A:l=[]:=List.eq_nil_of_length_eq_zero Xx;subst A;simp[LI]
    | succ j =>
      simp only[LI];split
      · exact ih j _ _ Ym Ym
      · rfl
def jU (v:S4) (l:Ly):S4 × List UInt8:=LI l.length v l
theorem tZ (v:S4) (l:Ly) (h:8<=l.length):jU v l=jU (pq v (i7 (l.take 8))) (l.drop 8):=by unfold jU;obtain⟨k,hk⟩:∃k,l.length=k+1:=⟨l.length-1,by omega⟩;rw[hk];simp only[LI,if_pos h];exact Z8 _ _ _ _ Ym Oy
theorem qy (v:S4) (l:Ly) (h:l.length<8):jU v l=(v,l):=by
  unfold jU;cases hk:l.length with
  | zero=>rfl
  | succ k=>simp only[LI];rw[if_neg Xx]
theorem WG:∀(k:Nat) (v:S4) (l:Ly),l.length<=k->(jU v l).2.length<8:=by
  intro k
  induction k with
  | zero =>
    intro v l h;rw[qy v l Xx];simp;omega
  | succ k ih =>
    intro v l h
    by_cases h8:8<=l.length
    · rw[tZ v l h8];exact ih _ _ Ym
    · rw[qy v l Xx];simp;omega
def jV (r:Ly) (n:Int):List UInt8:=(sH 8 r).set 7 (UInt8.ofNat n.toNat)
def GD (v:S4) (r:Ly) (n:Int):Int :=
  (dZ 4 ((pq v (i7 (((jV r n).drop 0).take 8))).xr 255)).all
def sip (key l:Ly):Int:=GD (jU (qB key) l).1 (jU (qB key) l).2 l.length
theorem agf (n:Int) (h:0<=n):Value.int .u8 (IntKind.u8.wrap n)=b8 (UInt8.ofNat n.toNat):=by unfold b8;rw[TQ];congr 1;simp;omega
theorem anf (a b:Nat) (h:a<8):(if(b:Int)<8-(a:Int)then(b:Int)else 8-(a:Int))=((min (8-a) b:Nat):Int):=by split<;>omega
theorem HT (r:Ly) (n:Int) (a:0<=n):((sH 8 r).map b8).set 7 (.int .u8 (IntKind.u8.wrap n))=(jV r n).map b8:=by rw[agf n a,jV,List.map_set]
theorem uc (r:Ly) (n:Int) (h:r.length<=8):(jV r n).length=8:=by rw[jV,List.length_set,rI 8 r h]
theorem abV (v:S4) (a l:Ly) (d:a.length<8) (e:a.length+min (8-a.length) l.length=8) :
    jU v (a ++ l)=jU (pq v (i7 (((a ++ l.take (min (8-a.length) l.length)).drop 0).take 8))) ([] ++ l.drop (min (8-a.length) l.length)):=by
  generalize hk:min (8-a.length) l.length=k at *;have b:a ++ l=(a ++ l.take k) ++ l.drop k:=by simp
  have c:(a ++ l.take k).length=8:=by simp;omega
  rw[tZ v (a ++ l) Ym,b,List.take_append_of_le_length Xx,List.drop_append_of_le_length Xx,List.take_of_length_le Xx,List.drop_of_length_le Xx];simp only[List.drop_zero];rw[List.take_of_length_le (show(a ++ l.take k).length<=8 by omega)]
theorem abW (v:S4) (a l:Ly) (k:Nat):jU v (a ++ l)=jU v ((a ++ l.take k) ++ l.drop k):=by simp
def vg (l:Ly) (i:Nat):Int:=vP l i+4294967296*vP l (i+4)
theorem ajm (l:Ly) (i:Nat):0<=vg l i/\vg l i<18446744073709551616:=by obtain⟨A,B⟩:=yL l i;obtain⟨C,D⟩:=yL l (i+4);unfold vg;omega
theorem YW (a b k:Nat) (hk:k<64) (f:a<2 ^ k) (hb:b*2 ^ k<2 ^ 64) :
    bits .or .u64 (a:Int) ((b*2 ^ k:Nat):Int)=((a+b*2 ^ k:Nat):Int):=by
  have D:2 ^ k<=2 ^ 64:=Nat.pow_le_pow_right Xx Xx;unfold bits;simp only[BitVec.ofInt_natCast];have g:IntKind.u64.bits=64:=rfl;rw[BitVec.toNat_or,BitVec.toNat_ofNat,BitVec.toNat_ofNat,g,Nat.mod_eq_of_lt Xx,Nat.mod_eq_of_lt hb];have:=Nat.two_pow_add_eq_or_of_lt (i:=k) f b;rw[Nat.or_comm,show b*2 ^ k=2 ^ k*b from Nat.mul_comm _ _,<- this];have e:a+2 ^ k*b<2 ^ 64:=by
    obtain⟨c,d⟩:∃c,2 ^ 64=2 ^ k*c:=⟨2 ^ (64-k),by rw[<- Nat.pow_add];congr 1;omega⟩;have C:b<c:=by rw[d,Nat.mul_comm]at hb;exact Nat.lt_of_mul_lt_mul_left hb
    calc a+2 ^ k*b<2 ^ k+2 ^ k*b:=by omega
      _=2 ^ k*(b+1):=by rw[Nat.mul_add];omega
      _<=2 ^ k*c:=Nat.mul_le_mul_left _ C
      _=2 ^ 64:=d.symm
  rw[Nat.add_comm (2 ^ k*b) a];exact wrap_u64 Xx (by have:=Int.ofNat_lt.2 e;simpa using this)
theorem SZ (a:Nat) (k:Nat) (hk:k<=64) (h:a*2 ^ k<2 ^ 64):ni .u64 (a:Int) (k:Int)=((a*2 ^ k:Nat):Int):=by
  unfold ni;have:min (k:Int).toNat IntKind.u64.bits=k:=by have:IntKind.u64.bits=64:=rfl;rw[this];omega
  rw[this];have e:(a:Int)*2 ^ k=((a*2 ^ k:Nat):Int):=by rw[Int.natCast_mul,Int.natCast_pow];rfl
  rw[e];exact wrap_u64 Xx (by have:=Int.ofNat_lt.2 h;simpa using this)
theorem ac5 (l:Ly) (a:Int) (g:0<=a) :
    bits .or .u64 (IntKind.u64.wrap (vP l a.toNat)) (ni .u64 (IntKind.u64.wrap (vP l (a+4).toNat)) 32)=vg l a.toNat:=by
  obtain⟨b,e⟩:=yL l a.toNat;obtain⟨c,f⟩:=yL l (a+4).toNat;rw[wrap_u64 b Xx,wrap_u64 c Xx];obtain⟨x,C⟩:=Int.eq_ofNat_of_zero_le b;obtain⟨y,D⟩:=Int.eq_ofNat_of_zero_le c;unfold vg;rw[show a.toNat+4=(a+4).toNat by omega,C,D];rw[C]at e;rw[D]at f;have d:=SZ y 32 Xx Xx;rw[show((32:Nat):Int)=32 from rfl]at d;rw[d,YW x y 32 Xx Xx Xx];omega
theorem wT (l:Ly) (i:Nat):vg l i=i7 [l.getD i 0,l.getD (i+1) 0,l.getD (i+2) 0,l.getD (i+3) 0,l.getD (i+4) 0,l.getD (i+5) 0,l.getD (i+6) 0,l.getD (i+7) 0]:=by simp only[vg,vP,i7,Nat.add_assoc,Nat.reduceAdd];omega
theorem WO (l:Ly) (i:Nat) (h:i+8<=l.length):(l.drop i).take 8=[l.getD i 0,l.getD (i+1) 0,l.getD (i+2) 0,l.getD (i+3) 0,l.getD (i+4) 0,l.getD (i+5) 0,l.getD (i+6) 0,l.getD (i+7) 0]:=by
  apply List.ext_getElem
  · simp;omega
  intro j B A;simp at A;have:j=0\/j=1\/j=2\/j=3\/j=4\/j=5\/j=6\/j=7:=by omega
  rcases this with rfl|rfl|rfl|rfl|rfl|rfl|rfl|rfl <;> simp[List.getD] <;> rw[List.getElem?_eq_getElem Xx] <;> rfl
theorem wU (l:Ly) (i:Nat) (h:i+8<=l.length):i7 ((l.drop i).take 8)=vg l (i:Int).toNat:=by rw[WO l i h,show(i:Int).toNat=i from rfl,wT]
theorem Tx (key:Ly) (h:key.length=16):(qB key).arr =
    [.int .u64 (bits .xor .u64 (vg key (0:Int).toNat) 8317987319222330741),.int .u64 (bits .xor .u64 (vg key (8:Int).toNat) 7237128888997146477),
     .int .u64 (bits .xor .u64 (vg key (0:Int).toNat) 7816392313619706465),.int .u64 (bits .xor .u64 (vg key (8:Int).toNat) 8387220255154660723)]:=by
  have A:=wU key 0 Xx;have B:=wU key 8 Xx;rw[show((0:Nat):Int)=0 from rfl]at A;rw[show((8:Nat):Int)=8 from rfl]at B;simp only[qB,S4.arr,A,B,lD]
theorem Ty (r:Ly) (n:Nat) (h:r.length<8):i7 (((jV r n).drop 0).take 8)=bits .or .u64 (vg r 0) (ni .u64 (IntKind.u64.wrap ((n:Int).tmod 256)) 56):=by
  have R:=uc r n Xx;have G:=wU (jV r n) 0 Xx;rw[G,show((0:Nat):Int).toNat=0 from rfl];have B:∀i,i<7->(jV r n).getD i 0=r.getD i 0:=by intro i Q;rw[<- FP 8 r i];simp only[jV,List.getD];rw[List.getElem?_set_ne Xx]
  have H:(jV r n).getD 7 0=UInt8.ofNat n:=by simp only[jV,List.getD];rw[List.getElem?_set_self (by rw[rI 8 r Xx];omega)];simp
  have C:r.getD 7 0=0:=DJ r 7 Xx;have F:vg (jV r n) 0=vg r 0+72057594037927936*((n%256:Nat):Int):=by rw[wT,wT];simp only[i7,Nat.zero_add];rw[B 0 Xx,B 1 Xx,B 2 Xx,B 3 Xx,B 4 Xx,B 5 Xx,B 6 Xx,H,C];have:((UInt8.ofNat n).toNat:Int)=((n%256:Nat):Int):=(by simp);have D:((0:UInt8).toNat:Int)=0:=rfl;rw[this,D];omega
  have A:0<=vg r 0/\vg r 0<72057594037927936:=by refine⟨(ajm r 0).1,?_⟩;rw[wT];simp only[i7,Nat.zero_add,C];have J:=(r.getD 0 0).toNat_lt;have K:=(r.getD 1 0).toNat_lt;have L:=(r.getD 2 0).toNat_lt;have M:=(r.getD 3 0).toNat_lt;have N:=(r.getD 4 0).toNat_lt;have O:=(r.getD 5 0).toNat_lt;have P:=(r.getD 6 0).toNat_lt;have D:((0:UInt8).toNat:Int)=0:=rfl;simp only[D];omega
  obtain⟨x,E⟩:=Int.eq_ofNat_of_zero_le A.1;have I:(n:Int).tmod 256=((n%256:Nat):Int):=by rw[Int.tmod_eq_emod_of_nonneg Xx];omega
  rw[F,I,E,wrap_u64 Xx Xx];rw[E]at A;have e:=SZ (n%256) 56 Xx Xx;rw[show((56:Nat):Int)=56 from rfl]at e;rw[e,YW x (n%256) 56 Xx Xx Xx];omega
theorem adC (l:Ly) (d i:Nat):vg (l.drop d) i=vg l (d+i):=by simp only[vg,QX,Nat.add_assoc]
theorem afp (l:Ly) (v:S4) (k:Nat) (hk:k<=l.length) (b:l.length<k+8) :
    bits .xor .u64 (bits .xor .u64 (bits .xor .u64 (dZ 4 (((dZ 2 (v.xs (bits .or .u64 (vg l (k:Int).toNat) (ni .u64 (IntKind.u64.wrap ((l.length:Int).tmod 256)) 56)))).xp (bits .or .u64 (vg l (k:Int).toNat) (ni .u64 (IntKind.u64.wrap ((l.length:Int).tmod 256)) 56))).xr 255)).p
        (dZ 4 (((dZ 2 (v.xs (bits .or .u64 (vg l (k:Int).toNat) (ni .u64 (IntKind.u64.wrap ((l.length:Int).tmod 256)) 56)))).xp (bits .or .u64 (vg l (k:Int).toNat) (ni .u64 (IntKind.u64.wrap ((l.length:Int).tmod 256)) 56))).xr 255)).q)
        (dZ 4 (((dZ 2 (v.xs (bits .or .u64 (vg l (k:Int).toNat) (ni .u64 (IntKind.u64.wrap ((l.length:Int).tmod 256)) 56)))).xp (bits .or .u64 (vg l (k:Int).toNat) (ni .u64 (IntKind.u64.wrap ((l.length:Int).tmod 256)) 56))).xr 255)).r)
        (dZ 4 (((dZ 2 (v.xs (bits .or .u64 (vg l (k:Int).toNat) (ni .u64 (IntKind.u64.wrap ((l.length:Int).tmod 256)) 56)))).xp (bits .or .u64 (vg l (k:Int).toNat) (ni .u64 (IntKind.u64.wrap ((l.length:Int).tmod 256)) 56))).xr 255)).s=GD v (l.drop k) l.length:=by
  have a:vg l (k:Int).toNat=vg (l.drop k) 0:=by rw[adC];rfl
  rw[a,<- Ty (l.drop k) l.length Ym];unfold GD pq;generalize i7 (((jV (l.drop k) (l.length:Int)).drop 0).take 8)=m;generalize dZ 4 (((dZ 2 (v.xs m)).xp m).xr 255)=u;rfl
end Go.Wk
namespace Go.Wk
open Go Go.RowKit Go.ChangeShapes Go.WideShapes Go.ChangeAt Go.Deep
section
variable {H:Type} {enc:TypeId × Value->H} {P:Program} {w:World} {t e:TypeId} {v:Value} {d:DataW H} {ps:List MemPlace}
def Rows (w:World) (v:Value) (vs:List Value) (ls:List (List UInt8)):Prop:=Sl w v vs/\vs.length=ls.length/\∀(i:Nat) (u:Value) (l:Ly),vs[i]? = some u->ls[i]? = some l->By w u l
end
end Go.Wk
namespace Go.Wk
open Go Go.RowKit
section
variable {P:Program} {ops:Array Oper} {md:Region.Mode} {C:World->Prop} {Q:Exit->Act->World->Prop} {E:Array Bool->Act->World->Prop}
def wj (P:Program) (md:Region.Mode) (ops:Array Oper) (C:World->Prop) (E:Array Bool->Act->World->Prop):Nat->Array Bool->Act->World->Prop
  | 0,listed,a,w=>E listed a w
  | f+1,listed,a,w=>Region.ready md ops listed≠[]/\∀i∈Region.ready md ops listed,opC P ops C i (wj P md ops C E f (listed.setIfInBounds i true)) a w
theorem sB {t:Nat} (c:∀listed a w,E listed a w->wpAny P md ops Q t listed a w):∀(f:Nat) (listed:Array Bool) (a:Act) (w:World),wj P md ops C E f listed a w->wpAny P md ops Q (f+t) listed a w
  | 0,listed,a,w,h=>by rw[Nat.zero_add];exact c _ _ _ h
  | f+1,listed,a,w,h=>by
    rw[show f+1+t=(f+t)+1 by omega];refine⟨fun e=>absurd e h.1,fun i hi=>?_⟩;have b:=h.2 i hi;unfold opC at b;unfold wpOp;split
    · rename_i ho;rw[ho]at b;exact sB c f _ a w b
    · rename_i o ho
      rw[ho]at b;simp only at b;split
      · rename_i hw;rw[if_pos hw]at b;exact .inl (WV (fun d j g=>sB c f _ d j g.2) b)
      · rename_i hw;rw[if_neg hw]at b;exact sB c f _ _ w b
def Closed (md:Region.Mode) (ops:Array Oper) (listed:Array Bool):Prop:=∀k ok,ops[k]? = some ok->listed.getD k false=true->∀e∈ok.after,Region.binds md e=true->listed.getD e.on false=true
theorem Closed.set {listed:Array Bool} {i:Nat} (h:Closed md ops listed) (hi:i∈Region.ready md ops listed):Closed md ops (listed.setIfInBounds i true):=by
  intro k I hk G e F E;have B:listed.getD e.on false=true->(listed.setIfInBounds i true).getD e.on false=true:=fun D=>by
    by_cases hei:e.on=i
    · rw[hei]at D ⊢
      rcases Nat.lt_or_ge i listed.size with C|C
      · simp[C]
      · simp[Array.getElem?_eq_none C]at D
    · rw[getD_set_ne false (Ne.symm hei)];exact D
  by_cases hki:k=i
  · subst hki
    obtain⟨_,o,H,A⟩:=mem_ready.1 hi;rw[hk]at H;cases H;exact B (A e F E)
  rw[getD_set_ne false (Ne.symm hki)]at G;exact B (h k I hk G e F E)
def vW (md:Region.Mode) (ops:Array Oper) (i:Nat):Nat->Nat->Bool
  | 0,_=>false
  | f+1,j=>match ops[j]? with
    | some o=>o.after.any fun e=>Region.binds md e && (Nat.beq e.on i || vW md ops i f e.on)
    | none=>false
theorem FY {i:Nat} {listed:Array Bool} (e:Closed md ops listed):∀(f j:Nat) (a:Oper),ops[j]? = some a->vW md ops i f j=true->(∀c∈a.after,Region.binds md c=true->listed.getD c.on false=true)->listed.getD i false=true
  | 0,j,a,_,h,_=>by simp[vW]at h
  | f+1,j,a,hj,h,hall=>by
    simp only[vW,hj,Array.any_eq_true,Bool.and_eq_true,Bool.or_eq_true]at h;obtain⟨k,hk,hb,b⟩:=h;have g:a.after[k]∈a.after:=Array.getElem_mem hk;have d:=hall _ g hb
    rcases b with b|b
    · rw[<- Nat.eq_of_beq_eq_true b];exact d
    · cases ho:ops[a.after[k].on]? with
      | none=>cases f<;>simp[vW,ho]at b
      | some ok=>exact FY e f _ ok ho b (e _ ok ho d)
def Behind (md:Region.Mode) (ops:Array Oper) (tl:List Nat) (i:Nat):Prop:=∀j∈tl,vW md ops i ops.size j=true
theorem xU {tl:List Nat} {i:Nat} {q:Oper} {v:Value} (hi:ops[i]? = some q) (B:∀(j:Nat) (o:Oper) s b,ops[j]? = some o->o.op≠.select s b)
    (hT:Behind md ops tl i) (hE:∀listed a w,E listed a w->∀j∈Region.ready md ops listed,j∈tl) :
    ∀(f:Nat) (listed:Array Bool) (a:Act) (w:World),
      (∀j m,ops[j]? = some m->j≠i->listed.getD j true=false->(∀e∈m.after,Region.binds md e=true->e.on≠i)->q.apart ops m=true) ->
      Closed md ops listed->i∈Region.ready md ops listed->C w->Qv P ops C q v a ->
      wj P md ops C E f (listed.setIfInBounds i true) (a.put q.dst v) w->wj P md ops C E (f+1) listed a w:=by
  intro f
  induction f with
  | zero =>
    intro listed a w _ x n t T H;refine⟨fun h=>(by rw[h]at n;cases n),fun j p=>?_⟩
    by_cases hji:j=i
    · subst hji;exact T.opC hi t H
    · have y:=hE _ _ _ H j (ready_mono p hji)
      obtain⟨_,m,D,u⟩:=mem_ready.1 p;have d:=FY x _ j m D (hT j y) u;have r:=(mem_ready.1 n).1;exfalso
      rcases Nat.lt_or_ge i listed.size with J|J
      · simp[J]at r d;rw[r]at d;cases d
      · simp[Array.getElem?_eq_none J]at d
  | succ f ih =>
    intro listed a w z x n t T H;refine⟨fun h=>(by rw[h]at n;cases n),fun j p=>?_⟩
    by_cases hji:j=i
    · subst hji;exact T.opC hi t H
    · have y:=H.2 j (ready_mono p hji)
      obtain⟨G,m,D,u⟩:=mem_ready.1 p;have F:∀e∈m.after,Region.binds md e=true->e.on≠i:=fun e g W I=>by
        have d:=u e g W;have r:=(mem_ready.1 n).1;rw[I]at d
        rcases Nat.lt_or_ge i listed.size with J|J
        · simp[J]at r d;rw[r]at d;cases d
        · simp[Array.getElem?_eq_none J]at d
      have A:=z j m D hji G F;obtain⟨_,_,c⟩:=Oper.apart_spec A;have N:∀k R,ops[k]? = some R->k≠i->(listed.setIfInBounds j true).getD k true=false ->
          (∀e∈R.after,Region.binds md e=true->e.on≠i)->q.apart ops R=true:=fun k R hk K Q L=>by
        refine z k R hk K ?_ L
        by_cases hjk:j=k
        · subst hjk;exact G
        · rw[getD_set_ne true hjk]at Q;exact Q
      refine YV D A (fun s b=>B j m s b D) (fun b O l W V M=>?_) t y;refine ih (listed.setIfInBounds j true) _ l N (x.set p) (ready_mono n (Ne.symm hji)) V ((T.same W).keep (fun s b=>B i q s b hi) c) ?_;rw[Array.setIfInBounds_comm _ _ hji];exact M
theorem qG {d:World->Prop} (c:∀x,d x->C x):∀(f:Nat) (listed:Array Bool) (a:Act) (w:World),wj P md ops d E f listed a w->wj P md ops C E f listed a w
  | 0,_,_,_,h=>h
  | f+1,listed,a,w,h=>⟨h.1,fun i hi=>by
      have b:=h.2 i hi;unfold opC at *;split
      · rename_i ho;rw[ho]at b;exact qG c f _ a w b
      · rename_i o ho
        rw[ho]at b;simp only at b;split
        · rename_i hw;rw[if_pos hw]at b;exact uZ (fun g j e=>⟨c _ e.1,qG c f _ g j e.2⟩) b
        · rename_i hw;rw[if_neg hw]at b;exact qG c f _ _ w b⟩
def Xn (md:Region.Mode) (ops:Array Oper) (tl:List Nat) (i:Nat):Bool:=tl.all fun j=>vW md ops i ops.size j
theorem LV {tl:List Nat} {i:Nat} (h:Xn md ops tl i=true):Behind md ops tl i:=fun b a=>List.all_eq_true.1 h b a
def chainB (md:Region.Mode) (ops:Array Oper):List Nat->Array Bool->Bool
  | [],listed=>(Region.ready md ops listed).isEmpty
  | j :: r,listed=>(ops[j]?).isSome && decide (Region.ready md ops listed=[j]) && chainB md ops r (listed.setIfInBounds j true)
def qD (l:List Oper):List Nat->List Oper
  | []=>[]
  | j :: r=>match l[j]? with
    | some o=>o :: qD l r
    | none=>qD l r
theorem xZ:∀(tl:List Nat) (listed:Array Bool) (a:Act) (w:World),chainB md ops tl listed=true->wpList P ops Q (qD ops.toList tl) a w->wpAny P md ops Q tl.length listed a w
 | [],listed,a,w,hB,h=>⟨by simpa [chainB]using hB,h⟩
 | j :: r,listed,a,w,hB,h=>by
  simp only[chainB,Bool.and_eq_true,decide_eq_true_eq]at hB;obtain⟨⟨l,c⟩,d⟩:=hB;obtain⟨o,e⟩:=Option.isSome_iff_exists.1 l;have m:ops.toList[j]? = some o:=by simpa using e
  simp only[qD,m]at h;refine⟨fun b=>(by rw[c]at b;cases b),fun i C=>?_⟩;rw[c]at C;have f:i=j:=by simpa using C
  subst f;unfold wpOp;unfold wpList at h;simp only[e];split at h
  ·rename_i hw;rw[if_pos hw];exact h.imp (fun g=>Oper.wp_mono (fun D G k=>xZ r _ D G d k) g) id
  ·rename_i hw;rw[if_neg hw];exact xZ r _ _ w d h
def YI (md:Region.Mode) (ops:Array Oper) (tl:List Nat):List (Nat × Bool)->Array Bool->Bool
  | [],listed=>chainB md ops tl listed
  | (i,q) :: r,listed=>(ops[i]?).isSome && (if q then(Region.ready md ops listed).contains i && Region.free md ops listed i && Xn md ops tl i else decide (Region.ready md ops listed=[i])) && YI md ops tl r (listed.setIfInBounds i true)
theorem OY {tl:List Nat} {listed:Array Bool} (h:chainB md ops tl listed=true):∀j∈Region.ready md ops listed,j∈tl:=by
  intro j A;cases tl with
  | nil=>simp only[chainB,List.isEmpty_iff]at h;rw[h]at A;cases A
  | cons k r =>
    simp only[chainB,Bool.and_eq_true,decide_eq_true_eq]at h;rw[h.1.2]at A;simp at A;simp[A]
theorem me {tl:List Nat} (e:Region.noSelect ops=true):∀{C:World->Prop} (j:List (Nat × Bool)) (listed:Array Bool) (a:Act) (w:World),Closed md ops listed->C w->YI md ops tl j listed=true ->
    fD P ops C (fun a w=>wpList P ops Q (qD ops.toList tl) a w) (tN ops.toList j) a w ->
    wj P md ops C (fun listed a w=>chainB md ops tl listed=true/\wpList P ops Q (qD ops.toList tl) a w) j.length listed a w
  | _,[],listed,a,w,_,_,hB,h=>⟨hB,h⟩
  | _,(i,q) :: r,listed,a,w,hcl,hC,hB,h=>by
    simp only[YI,Bool.and_eq_true]at hB;obtain⟨⟨u,b⟩,g⟩:=hB;obtain⟨o,d⟩:=Option.isSome_iff_exists.1 u;have x:ops.toList[i]? = some o:=(by simpa using d);simp only[tN,x]at h;cases q with
    | true =>
      simp only[if_true,Bool.and_eq_true]at b;simp only[fD]at h;have f:i∈Region.ready md ops listed:=(by simpa using b.1.1);have l:=LV b.2;split at h
      · rename_i hw
        obtain⟨v,t,hk⟩:=h;exact xU d (Region.noSelect_spec e) l (fun _ _ _ c=>OY c.1) r.length listed a w (Region.free_spec d b.1.2) hcl f hC (.inl ⟨hw,t⟩) (me e r _ _ _ (hcl.set f) hC g hk)
      · rename_i hw
        exact xU d (Region.noSelect_spec e) l (fun _ _ _ c=>OY c.1) r.length listed a w (Region.free_spec d b.1.2) hcl f hC (.inr ⟨by simpa using hw,rfl⟩) (me e r _ _ _ (hcl.set f) hC g h)
    | false =>
      simp only[Bool.false_eq_true,if_false,decide_eq_true_eq]at b;simp only[fD]at h;refine⟨fun k=>(by rw[b]at k;cases k),fun n G=>?_⟩;rw[b]at G;have D:n=i:=(by simpa using G);subst D;have m:=hcl.set (i:=n) (by rw[b];simp);unfold opC;simp only[d];split at h
      · rename_i hw
        rw[if_pos hw];exact uZ (fun z A c=>⟨c.1,by obtain⟨y,H,p,s⟩:=c.2;exact qG p _ _ _ _ (me e r _ _ _ m H g s)⟩) h
      · rename_i hw
        rw[if_neg hw];exact me e r _ _ _ m hC g h
def adM (md:Region.Mode) (ops:Array Oper) (ord:List (Nat × Bool)) (tl:List Nat):Bool:=Region.noSelect ops && decide (ord.length+tl.length=ops.size) && YI md ops tl ord (Array.replicate ops.size false)
theorem cT {id:Nat} {lo:List Oper} {a:Act} {w:World} (c:List (Nat × Bool)) (tl:List Nat) (C:World->Prop) (l:P.follows .mixedOrders=true) (f:adM .any lo.toArray c tl=true)
    (h:∀d,Md [] w d->C d/\fD P lo.toArray C (fun a w=>wpList P lo.toArray Q (qD lo tl) a w) (tN lo c) a d):(Code.region id lo.toArray true).wp P Q a w:=by
  simp only[adM,Bool.and_eq_true,decide_eq_true_eq]at f;obtain⟨⟨G,H⟩,i⟩:=f;obtain⟨j,hk⟩:=h _ (Md.drew w);refine wp_region_any l ?_;have:=me (md:=.any) (C:=C) (Q:=Q) (tl:=tl) G c _ a _ (fun k m hk D=>by simp[Array.getD_eq_getD_getElem?,Array.getElem?_replicate]at D;split at D<;>simp at D) j i (by simpa using hk);have g:=sB (Q:=Q) (t:=tl.length) (E:=fun b a w=>chainB .any lo.toArray tl b=true/\wpList P lo.toArray Q (qD lo.toArray.toList tl) a w) (fun b a w e=>xZ tl b a w e.1 e.2) _ _ _ _ this
  rwa [H]at g
end
end Go.Wk
