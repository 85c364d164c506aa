/- Part 1 of the walk of a law. No statement is proved here. -/
import Derived.WalkKit
import Derived.WalkSpells
import Derived.WalkLawsBesides
import Derived.Deep.Quiet
import Derived.StillTail
import Derived.KernelRfl
import Derived.Deep.LoopGhost
import Derived.Laws.IdiomStrings
import Derived.Laws.StructEq
import Derived.Laws.Externs
import Derived.Lib.BytesEntry
import Derived.Recover
import Derived.Lib.IndexLaws
import Derived.ProofKit
import Derived.OpenShut
import Derived.ShutString
import Derived.Deep.Slices
import Derived.Lib.Overlaps
import Derived.Lib.AppendZerosOnto
import Derived.Sort.Grow
import Derived.Lib.SliceRun
import Derived.Lib.Bytealg
import Derived.Shelf.SortM.Plain
import Derived.Shelf.SortM.SortNone
import Derived.Lib.SmallJoins
set_option linter.unusedVariables false
set_option linter.unusedSimpArgs false
namespace Go.Wk
open Go Go.RowKit
theorem q {α:Sort _} {a:α}:a=a:=rfl
theorem dT {p:Prop} [Decidable p] (h:decide p=true):p:=of_decide_eq_true h
theorem dF {p:Prop} [Decidable p] (h:decide p=false):¬p:=of_decide_eq_false h
theorem lB {a b:Nat} (h:Nat.ble a b=true):a<=b:=Nat.le_of_ble_eq_true h
theorem lj {a b c:Nat} (h:a<b) (k:b<=c):a<c:=Nat.lt_of_lt_of_le h k
theorem lv {a b c:Nat} (h:a<=b) (k:b<=c):a<=c:=Nat.le_trans h k
theorem tV:True:=True.intro
theorem Oy {p:Prop} (h:p:=by simp):p:=h
theorem Xx {p:Prop} (h:p:=by omega):p:=h
theorem Xy {p:Prop} (h:p:=by decide):p:=h
theorem Xw {p:Prop} (h:p:=by kernel_rfl):p:=h
theorem Fz {p:Prop} (h:p:=by repeat' first|exact trivial|refine⟨rfl,?_⟩):p:=h
theorem Sx {P Q R:Nat→Prop} {n k:Nat} (s:∀b,Q b→b<k→R b) (a:∀b,P b→b<n→Q b) (h:n≤k):∀b,P b→b<n→R b:=fun b x y=>s b (a b x y) (Nat.lt_of_lt_of_le y h)
theorem Sy {A:Prop} {p q r:Nat→Prop} (h:A∧∀x,p x→q x∧r x):∀x,p x→q x:=fun x y=>(h.2 x y).1
theorem Sz {A:Prop} {p r a b c:Nat→Prop} (h:A∧∀x,p x→(a x∨b x)∧r x) (f:∀x,a x→c x) (g:∀x,b x→c x):∀x,p x→c x:=fun x y=>(h.2 x y).1.elim (f x) (g x)
theorem Xh {p:Prop} (h:p:=by assumption):p:=h
theorem Ym {p:Prop} (h:p:=by simp;omega):p:=h
theorem Zq {p:Prop} (h:p:=by(simp<;>omega)):p:=h
theorem Zx {p:Prop} (h:p:=by simp only;omega):p:=h
theorem Zy {p:Prop} (h:p:=by simp[List.length_take,List.length_drop];omega):p:=h
theorem Zz {p:Prop} (h:p:=by intro h;simp at h;omega):p:=h
theorem wL {b:Bool} (h:(!b)=true):b=false:=by cases b<;>simp_all
theorem wK {b:Bool} (h:(!b)=false):b=true:=by cases b<;>simp_all
def look:List (Nat × Value)->Nat->Option Value
  | [],_=>none
  | (k,v) :: r,t=>cond (Nat.beq k t) (some v) (look r t)
structure Fr (n:Nat) where
  tmps:Array Value
  size:tmps.size=n
def aQ {n:Nat} (A:Fr n) (D:List Deferred):List (Nat × Value)->Act
  | []=>⟨A.tmps,D⟩
  | (k,v) :: r=>(aQ A D r).put (some k) v
def ev (n:Nat) (l:List (Nat × Value)):Operand->Option Value
  | .tmp t=>cond (Nat.ble n t) none (look l t)
  | .const v=>some v
  | .global g=>some (.pointer (some ⟨g,0,none⟩))
  | .func f=>some (.func (.func f) #[] #[])
section
variable {n:Nat} {A:Fr n} {D:List Deferred} {l:List (Nat × Value)}
theorem zG:(aQ A D l).tmps.size=n:=by
  induction l with
  | nil=>exact A.size
  | cons p r ih=>simp[aQ,Act.put,ih]
theorem fP:(aQ A D l).defers=D:=by
  induction l with
  | nil=>rfl
  | cons p r ih=>simp[aQ,Act.put,ih]
theorem abo {t:Nat} {v:Value} (c:t<n) (h:look l t=some v):(aQ A D l).tmps.getD t undef=v:=by
  induction l with
  | nil=>simp[look]at h
  | cons p r ih =>
    obtain⟨k,d⟩:=p;simp only[look]at h;have b:(aQ A D r).tmps.size=n:=zG
    by_cases hk:k=t
    · subst hk
      simp at h;subst h;simp[aQ,Act.put,Array.getD,b,c]
    · have:Nat.beq k t=false:=Bool.eq_false_iff.2 fun a=>hk (Nat.eq_of_beq_eq_true a)
      simp only[this,cond_false]at h;have C:=ih h;rw[<- C];show((aQ A D r).tmps.setIfInBounds k d).getD t undef=_;simp[hk]
theorem bL {x:Operand} {v:Value} (h:ev n l x=some v):(aQ A D l).eval x=v:=by
  cases x with
  | tmp t =>
    simp only[ev]at h;cases ht:Nat.ble n t with
    | true=>simp[ht]at h
    | false =>
      simp only[ht,cond_false]at h;have:t<n:=Nat.lt_of_not_le fun B=>by rw[Nat.ble_eq_true_of_le B]at ht;cases ht
      exact abo this h
  | const u=>simp only[ev,Option.some.injEq]at h;exact h
  | global g=>simp only[ev,Option.some.injEq]at h;exact h
  | func f=>simp only[ev,Option.some.injEq]at h;exact h
def evs (n:Nat) (l:List (Nat × Value)):List Operand->Option (List Value)
  | []=>some []
  | x :: r=>match ev n l x,evs n l r with
    | some v,some vs=>some (v :: vs)
    | _,_=>none
theorem mP {xs:List Operand} {vs:List Value} (h:evs n l xs=some vs):xs.map (aQ A D l).eval=vs:=by
  induction xs generalizing vs with
  | nil=>simpa [evs]using h
  | cons x r ih =>
    simp only[evs]at h;split at h
    · rename_i v us h1 h2
      simp at h;subst h;simp[bL h1,ih h2]
    · cases h
def Fits (n:Nat) (l:List (Nat × Value)):List (Nat × Value)->Prop
  | []=>True
  | (t,v) :: r=>ev n l (.tmp t)=some v/\Fits n l r
theorem TD (a:Act) (t:Nat) (v:Value) (h:a.tmps.getD t undef=v):a.put (some t) v=a:=by
  cases a with
  | mk tm ds =>
    simp only[Act.put];congr 1;apply Array.ext
    · simp
    · intro i A B
      rw[Array.getElem_setIfInBounds];split
      · rename_i e;subst e;subst h;simp at A;simp[Array.getD,A]
      · rfl
theorem agu (a:Act) (h:a.defers=D):(⟨a.tmps,D⟩:Act)=a:=by cases a;subst h;rfl
theorem cP {a:List (Nat × Value)} (h:Fits n l a):aQ (⟨(aQ A D l).tmps,zG⟩:Fr n) D a=aQ A D l:=by
  induction a with
  | nil=>exact agu _ fP
  | cons p r ih =>
    obtain⟨t,v⟩:=p;simp only[Fits]at h;simp only[aQ];rw[ih h.2];exact TD _ _ _ (by have:=bL (A:=A) (D:=D) h.1;simpa [Act.eval]using this)
end
structure Md (S:List Nat) (w w':World):Prop where
  os:w'.os=w.os
  tape:w'.tape=w.tape
  output:w'.output=w.output
  size:w.heap.size<=w'.heap.size
  block:∀k,k<w.heap.size->k∉S->w'.heap[k]? = w.heap[k]?
class Tp (w w':World) (A:Prop) (B:outParam Prop):Prop where t:Md [] w w'->A->B
theorem k2 {w c:World} {A B d e:Prop} [Tp w c A d] [Tp w c B e] (m:Md [] w c) (a:A) (b:B):d/\e:=⟨Tp.t m a,Tp.t m b⟩
theorem k3 {w d:World} {A B C e f g:Prop} [Tp w d A e] [Tp w d B f] [Tp w d C g] (m:Md [] w d) (a:A) (b:B) (c:C):e/\f/\g:=⟨Tp.t m a,Tp.t m b,Tp.t m c⟩
theorem k4 {w e:World} {A B C D f g h i:Prop} [Tp w e A f] [Tp w e B g] [Tp w e C h] [Tp w e D i] (m:Md [] w e) (a:A) (b:B) (c:C) (d:D):f/\g/\h/\i:=⟨Tp.t m a,Tp.t m b,Tp.t m c,Tp.t m d⟩
theorem k5 {w f:World} {A B C D E g h i j k:Prop} [Tp w f A g] [Tp w f B h] [Tp w f C i] [Tp w f D j] [Tp w f E k] (m:Md [] w f) (a:A) (b:B) (c:C) (d:D) (e:E):g/\h/\i/\j/\k:=⟨Tp.t m a,Tp.t m b,Tp.t m c,Tp.t m d,Tp.t m e⟩
theorem k6 {w g:World} {A B C D E n h i j k l o:Prop} [Tp w g A h] [Tp w g B i] [Tp w g C j] [Tp w g D k] [Tp w g E l] [Tp w g n o] (m:Md [] w g) (a:A) (b:B) (c:C) (d:D) (e:E) (f:n):h/\i/\j/\k/\l/\o:=⟨Tp.t m a,Tp.t m b,Tp.t m c,Tp.t m d,Tp.t m e,Tp.t m f⟩
theorem k7 {w h:World} {A B C D E o G i j k l n p q:Prop} [Tp w h A i] [Tp w h B j] [Tp w h C k] [Tp w h D l] [Tp w h E n] [Tp w h o p] [Tp w h G q] (m:Md [] w h) (a:A) (b:B) (c:C) (d:D) (e:E) (f:o) (g:G):i/\j/\k/\l/\n/\p/\q:=⟨Tp.t m a,Tp.t m b,Tp.t m c,Tp.t m d,Tp.t m e,Tp.t m f,Tp.t m g⟩
theorem k8 {w i:World} {A B C D E p G H j k l n o q r s:Prop} [Tp w i A j] [Tp w i B k] [Tp w i C l] [Tp w i D n] [Tp w i E o] [Tp w i p q] [Tp w i G r] [Tp w i H s] (m:Md [] w i) (a:A) (b:B) (c:C) (d:D) (e:E) (f:p) (g:G) (h:H):j/\k/\l/\n/\o/\q/\r/\s:=⟨Tp.t m a,Tp.t m b,Tp.t m c,Tp.t m d,Tp.t m e,Tp.t m f,Tp.t m g,Tp.t m h⟩
theorem Md.refl (S:List Nat) (w:World):Md S w w:=⟨q,q,q,Nat.le_refl _,fun _ _ _=>rfl⟩
theorem Md.trans {S:List Nat} {a b c:World} (h:Md S a b) (k:Md S b c):Md S a c :=
  ⟨k.os.trans h.os,k.tape.trans h.tape,k.output.trans h.output,lv h.size k.size,fun i hi d=>(k.block i (lj hi h.size) d).trans (h.block i hi d)⟩
theorem Md.mono {S T:List Nat} {a b:World} (h:Md S a b) (d:∀k,k∈S->k<a.heap.size->k∈T):Md T a b :=
  ⟨h.os,h.tape,h.output,h.size,fun i hi e=>h.block i hi fun c=>e (d i c hi)⟩
theorem Md.step {S T:List Nat} {a b c:World} (h:Md S a b) (k:Md T b c) (e:∀i,i∈T->i∈S\/a.heap.size<=i):Md S a c :=
  ⟨k.os.trans h.os,k.tape.trans h.tape,k.output.trans h.output,lv h.size k.size,fun i hi d =>
    (k.block i (lj hi h.size) fun f=>(e i f).elim d fun g=>by omega).trans (h.block i hi d)⟩
theorem Md.k {S:List Nat} {a b c:World} (h:Md S a b) (k:Md [] b c):Md S a c:=h.step k Oy
instance aoh {S:List Nat} {a b c:World}:Tp b c (Md S a b) (Md S a c):=⟨fun m h=>h.k m⟩
theorem Md.dY {S:List Nat} {a b c:World} {i:Nat} (h:Md S a b) (k:Md [i] b c) (hi:a.heap.size<=i):Md S a c :=
  h.step k (by intro e d;simp at d;subst d;exact .inr hi)
theorem Md.gU {S:List Nat} {a b c:World} {i:Nat} (h:Md S a b) (k:Md [i] b c) (hi:i∈S):Md S a c :=
  h.step k (by intro e d;simp at d;subst d;exact .inl hi)
theorem Md.below {w a:World} (h:Md [] w a):Below w.heap.size w a:=⟨h.os,h.tape,h.output,h.size,fun k hk=>h.block k hk Oy⟩
theorem Md.drew (w:World):Md [] w {w with drawn:=w.drawn+1}:=⟨q,q,q,Nat.le_refl _,fun _ _ _=>rfl⟩
theorem Md.alloc (w:World) (o:Obj):Md [] w (w.alloc o):=⟨q,q,q,by simp,fun _ hk _=>heap_alloc_old w o hk⟩
theorem Md.setCell (w:World) (a:Addr) (u:Value):Md [a.block] w (w.setCell a u) :=
  ⟨q,q,q,by simp[World.setCell],fun k _ b=>Below.heap_setCell w a u k (by simpa using b)⟩
theorem Md.grown {w a:World} {r:Option Nat} (h:w.grownBy a r):Md r.toList w a :=
  ⟨h.os,h.tape,h.output,h.size,fun k hk b=>h.block k hk (by rintro rfl;simp at b)⟩
theorem Md.cell {S:List Nat} {w b:World} {p:Addr} {u:Value} (h:Md S w b) (a:w.cell? p=some u) (c:p.block∉S):b.cell? p=some u :=
  (World.cell?_of_block (h.block p.block (World.block_lt_of_cell? w p a) c)).trans a
def bS (w:World) (b:Nat) (cs:List Value) (ty:TypeId):Prop:=w.heap[b]? = some (.cells cs.toArray ty (0,0))
section
variable {w w':World} {b:Nat} {cs:List Value} {ty:TypeId}
theorem bS.lt (h:bS w b cs ty):b<w.heap.size:=(Array.getElem?_eq_some_iff.1 h).1
theorem bS.md {S:List Nat} (h:bS w b cs ty) (m:Md S w w') (a:b∉S):bS w' b cs ty:=(m.block b h.lt a).trans h
theorem bS.o (h:bS w b cs ty) (m:Md [] w w'):bS w' b cs ty:=h.md m Oy
instance anW:Tp w w' (bS w b cs ty) (bS w' b cs ty):=⟨fun m h=>h.o m⟩
theorem bS.vg {i:Nat} (h:bS w b cs ty) (m:Md [i] w w') (hi:b≠i):bS w' b cs ty:=h.md m (by simpa using hi)
theorem bS.cell (h:bS w b cs ty) (j:Nat):w.cell? ⟨b,j,none⟩=cs[j]?:=by unfold bS at h;simp[World.cell?,h]
theorem bS.frozen (h:bS w b cs ty) (j:Nat):w.frozen? ⟨b,j,none⟩=false:=by unfold bS at h;simp[World.frozen?,h]
theorem bS.set (h:bS w b cs ty) (j:Nat) (u:Value):bS (w.setCell ⟨b,j,none⟩ u) b (cs.set j u) ty:=by have A:=h.lt;unfold bS at h ⊢;simp only[World.setCell,Array.getElem?_modify,h];simp
theorem bS.new (w:World) (cs:List Value) (ty:TypeId):bS (w.alloc (.cells cs.toArray ty)) w.heap.size cs ty:=heap_alloc_new w _
end
def Sl (w:World) (v:Value) (l:List Value):Prop :=
  ∃a cap,v = .slice a l.length cap/\l.length<=cap/\cap<=maxLen/\(a=none->cap=0)/\∀p,a=some p->∀j u,l[j]? = some u->w.cell? (p.add j)=some u
def b8 (x:UInt8):Value:=.int .u8 (x.toNat:Int)
def By (w:World) (v:Value) (l:List UInt8):Prop:=Sl w v (l.map b8)
def mO:Value->Nat->Value
  | .slice (some p) _ _,i=>.pointer (some (p.add i))
  | _,_=>undef
def oK:Value->Nat->Nat->Value
  | .slice a _ cap,lo,hi=>.slice (if cap=lo then a else a.map (·.add lo)) (hi-lo) (cap-lo)
  | _,_,_=>undef
theorem Addr.add_block (p:Addr) (j:Nat):(p.add j).block=p.block:=by unfold Addr.add;split<;>rfl
theorem Addr.add_add (p:Addr) (i j:Nat):(p.add i).add j=p.add (i+j):=by
  unfold Addr.add
  by_cases hi:i=0 <;> by_cases hj:j=0 <;> simp[hi,hj]
  omega
theorem Addr.kL (b o j:Nat):(⟨b,o,none⟩:Addr).add j=⟨b,o+j,none⟩:=by unfold Addr.add;split<;>simp_all
section
variable {w w':World} {v:Value} {l:List Value}
theorem Sl.nil (w:World):Sl w (.slice none 0 0) []:=⟨none,0,q,Nat.le_refl _,by simp[maxLen],fun _=>rfl,by simp⟩
theorem Sl.FH (h:Sl w v l):l.length<=maxLen:=by obtain⟨a,A,_,B,C,_⟩:=h;omega
theorem Sl.o (h:Sl w v l) (m:Md [] w w'):Sl w' v l:=by obtain⟨a,A,B,C,D,E,F⟩:=h;exact⟨a,A,B,C,D,E,fun p G j u H=>m.cell (F p G j u H) Oy⟩
instance aok:Tp w w' (Sl w v l) (Sl w' v l):=⟨fun m h=>h.o m⟩
def ah:Value->Option Nat
  | .slice (some p) _ _=>some p.block
  | _=>none
theorem SS:(∀{c:Prop} {h:Decidable c} (_:c) {α:Type} {t e:α},(if c then t else e)=t)/\(∀{c:Prop} {h:Decidable c} (_:¬c) {α:Type} {t e:α},(if c then t else e)=e)/\(∀{α:Type} {a b:α},(some a).getD b=a)/\(∀{α:Type} {a b:α},(some a=some b)=(a=b))/\((false=true)=False)/\((true=false)=False)/\(∀{h:Decidable True},@decide True h=true)/\(∀{h:Decidable False},@decide False h=false)/\((¬True)=False)/\((¬False)=True) :=
  ⟨fun h=>if_pos h,fun h=>if_neg h,q,by simp,by simp,by simp,by simp,by simp,by simp,by simp⟩
theorem LL:(∀{α:Type} {a:α} {l:List α},(a :: l).length=l.length+1)/\(∀{α:Type},([]:List α).length=0)/\(∀{α:Type} {a b:List α},(a ++ b).length=a.length+b.length)/\(∀{α:Type} {n:Nat} {a:α},(List.replicate n a).length=n)/\(∀(n:Nat),0+n=n) :=
  ⟨q,q,by simp,by simp,by simp⟩
def zr (n:Nat) (v:Value):List Value:=List.replicate n v
def ml (n:Nat):List (Nat × Bool):=(List.range n).map fun i=>(i,true)
abbrev Ly:=List UInt8
abbrev vS (b:Nat) (x y z:Value):List Nat:=b :: (ah x).toList ++ ((ah y).toList ++ ((ah z).toList))
def PS (v:Value) (m:Nat):Prop:=∃a cap,v = .slice a m cap/\m<=cap/\cap<=maxLen/\(a=none->cap=0)
theorem Sl.di (h:Sl w v l):PS v l.length:=by obtain⟨a,A,B,C,D,E,_⟩:=h;exact⟨a,A,B,C,D,E⟩
def Apart {α:Type} (v:Value) (l:List α) (S:List Nat):Prop:=∀b,ah v=some b->l≠[]->b∉S
theorem Sl.lt {b:Nat} (h:Sl w v l) (hb:ah v=some b) (d:l≠[]):b<w.heap.size:=by
  obtain⟨c,e,a,D,f,g,C⟩:=h;cases l with
  | nil=>exact absurd q d
  | cons u r =>
    subst a;cases c with
    | none=>simp[ah]at hb
    | some p =>
      have:=World.block_lt_of_cell? w _ (C p q 0 u q);rw[Addr.add_block]at this;simp[ah]at hb;omega
theorem Apart.ajQ {S:List Nat} (h:Sl w v l) (a:∀i∈S,w.heap.size<=i):Apart v l S:=fun b hb c d=>by have:=h.lt hb c;have:=a b d;omega
theorem HU {lo hi b:Nat} (h:ah (oK v lo hi)=some b):ah v=some b:=by
  cases v with
  | slice a len cap =>
    cases a with
    | none=>simp only[oK]at h;split at h <;> simp[ah]at h
    | some p =>
      simp only[oK]at h;split at h
      · exact h
      · simp only[Option.map_some,ah,Addr.add_block]at h;exact h
  | _=>simp[oK,undef,ah]at h
theorem Apart.sub {c:Type} {l:List c} {S:List Nat} (h:Apart v l S) (lo hi:Nat):Apart (oK v lo hi) ((l.take hi).drop lo) S:=fun b hb a=>h b (HU hb) (by rintro rfl;simp at a)
theorem Sl.md {S:List Nat} (h:Sl w v l) (m:Md S w w') (f:Apart v l S):Sl w' v l:=by obtain⟨e,b,a,c,d,G,H⟩:=h;refine⟨e,b,a,c,d,G,fun p C g i D=>m.cell (H p C g i D) ?_⟩;subst a;subst C;rw[Addr.add_block];exact f _ q (by rintro rfl;simp at D)
theorem Sl.cF {b:Nat} {cs:List Value} {ty:TypeId} (h:bS w b cs ty) (a:cs.length<=maxLen):Sl w (.slice (some ⟨b,0,none⟩) cs.length cs.length) cs :=
  ⟨_,_,q,Nat.le_refl _,a,by simp,fun p c e f d=>by cases c;rw[Addr.kL,Nat.zero_add,h.cell];exact d⟩
theorem Sl.sH {base:Nat} {e:TypeId} (h:w.ownsRow base e 1 v l.length l):Sl w v l:=by
  rcases h.2 with⟨rfl,C⟩|⟨g,A,B,rfl,H,I,E,D,J,K⟩
  · have:l=[]:=List.eq_nil_of_length_eq_zero C
    subst this;exact Sl.nil w
  exact⟨_,A,q,E,D,by simp,fun p F j u G=>by cases F;exact h.cells (g:=g) q j u G⟩
theorem Sl.sub (h:Sl w v l) (lo hi:Nat) (h1:lo<=hi) (j:hi<=l.length):Sl w (oK v lo hi) ((l.take hi).drop lo):=by
  obtain⟨b,c,rfl,G,H,e,f⟩:=h;refine⟨if c=lo then b else b.map (·.add lo),c-lo,?_,?_,by omega,?_,?_⟩
  · simp only[oK];congr 1;simp;omega
  · simp;omega
  · intro h
    split at h
    · omega
    cases b with
    | none=>have:=e rfl;omega
    | some p=>simp at h
  intro p a d g C;have i:d<hi-lo:=by have:=(List.getElem?_eq_some_iff.1 C).1;simp at this;omega
  have D:c≠lo:=by omega
  rw[if_neg D]at a;cases b with
  | none=>simp at a
  | some q =>
    simp at a;subst a;rw[Addr.add_add];refine f q rfl (lo+d) g ?_;rw[List.getElem?_drop,List.getElem?_take]at C;rw[if_pos Xx]at C;exact C
end
theorem By.sub {w:World} {v:Value} {l:Ly} (h:By w v l) (lo hi:Nat) (h1:lo<=hi) (a:hi<=l.length):By w (oK v lo hi) ((l.take hi).drop lo):=by
  have:=Sl.sub h lo hi h1 (by simpa using a);unfold By
  rwa [List.map_drop,List.map_take]
theorem By.di {w:World} {v:Value} {l:Ly} (h:By w v l):PS v l.length:=by have:=Sl.di h;simpa using this
theorem By.o {w a:World} {v:Value} {l:Ly} (h:By w v l) (m:Md [] w a):By a v l:=Sl.o h m
instance aof {w w':World} {v:Value} {l:Ly}:Tp w w' (By w v l) (By w' v l):=⟨fun m h=>h.o m⟩
theorem By.md {S:List Nat} {w a:World} {v:Value} {l:Ly} (h:By w v l) (m:Md S w a) (d:Apart v l S):By a v l:=Sl.md h m (fun b hb c=>d b hb (by rintro rfl;simp at c))
theorem Apart.ahq {w:World} {v:Value} {l:Ly} {S:List Nat} (h:By w v l) (a:∀i∈S,w.heap.size<=i):Apart v l S:=fun b hb c=>Apart.ajQ h a b hb (by simpa using c)
theorem By.cF {w:World} {b:Nat} {l:Ly} {ty:TypeId} {m:Nat} (h:bS w b (l.map b8) ty) (a:l.length=m) (c:m<=maxLen):By w (.slice (some ⟨b,0,none⟩) m m) l:=by have:=Sl.cF h (by simpa [a]using c);simpa [By,a]using this
theorem By.FH {w:World} {v:Value} {l:Ly} (h:By w v l):l.length<=maxLen:=by have:=Sl.FH h;simpa using this
theorem YP (l:Ly) (i:Nat) (h:i<l.length):(l.map b8)[i]? = some (b8 (l.getD i 0)):=by simp[List.getD,h]
theorem By.head {w:World} {v:Value} {l:Ly} (h:By w v l) (k:Nat) (hk:k<=l.length):By w (oK v 0 k) (l.take k):=by simpa using h.sub 0 k (Nat.zero_le _) hk
theorem By.tail {w:World} {v:Value} {l:Ly} (h:By w v l) (k:Nat) (hk:k<=l.length):By w (oK v k l.length) (l.drop k):=by simpa using h.sub k l.length hk (Nat.le_refl _)
theorem Apart.tail {α:Type} {v:Value} {l:List α} {S:List Nat} (h:Apart v l S) (k:Nat):Apart (oK v k l.length) (l.drop k) S:=by simpa using h.sub k l.length
def iJ (P:Program) (t:TypeId):Bool :=
  match P.underlying t with
  | some (.struct _)|some (.array _ _)|none=>false
  | some _=>Nat.beq (P.cellsOf t) 1
def fI (P:Program) (t:TypeId) (n:Nat):Bool :=
  match P.underlying t with
  | some (.struct _)|some (.array _ _)=>match P.info? t with
    | some i=>Nat.beq i.size n
    | none=>false
  | _=>false
def aN (P:Program) (s:TypeId) (f:Nat):Option Nat :=
  match P.underlying s with
  | some (.struct fs)=>match fs[f]? with
    | some fd=>match P.info? fd.type with
      | some i=>if i.size=0 then none else some fd.offset
      | none=>none
    | none=>none
  | _=>none
def dW (P:Program) (t:TypeId):Option (List Value) :=
  match P.info? t with
  | some i=>match i.zero with
    | some z=>some z.cells.toList
    | none=>none
  | none=>none
def gy (P:Program) (e:TypeId) (n:Nat):Bool :=
  match P.info? e with
  | some i=>Nat.beq i.size n
  | none=>false
theorem EX {P:Program} {t:TypeId} (h:iJ P t=true):∃d i,P.underlying t=some d/\P.info? t=some i/\i.size=1/\(d matches .struct _|.array _ _)=false:=by
  unfold iJ at h;split at h
  · cases h
  · cases h
  · cases h
  rename_i d h1 h2 hd;refine⟨d,?_⟩;cases hi:P.info? t with
  | none=>simp[Program.cellsOf,hi]at h
  | some i =>
    refine⟨i,hd,q,by simpa [Program.cellsOf,hi]using h,?_⟩;cases d <;> simp_all
theorem qC {P:Program} {t:TypeId} {n:Nat} (h:fI P t n=true):∃d i,P.underlying t=some d/\P.info? t=some i/\i.size=n/\(d matches .struct _|.array _ _)=true:=by
  unfold fI at h;split at h
  · rename_i d hd
    split at h
    · rename_i i hi;exact⟨_,i,hd,hi,by simpa using h,q⟩
    cases h
  · rename_i d hd
    split at h
    · rename_i i hi;exact⟨_,i,hd,hi,by simpa using h,q⟩
    cases h
  cases h
theorem nP {P:Program} {t:TypeId} (h:iJ P t=true) (w:World):(isAgg t).run P w = .ok false w:=by obtain⟨d,i,A,B,C,D⟩:=EX h;simp only[isAgg,Sem.run_bind,run_underlying A,Result.andThen_ok];cases d <;> simp_all
theorem vP {P:Program} {t:TypeId} {n:Nat} (h:fI P t n=true) (w:World):(isAgg t).run P w = .ok true w:=by obtain⟨d,i,A,B,C,D⟩:=qC h;simp only[isAgg,Sem.run_bind,run_underlying A,Result.andThen_ok];cases d <;> simp_all
theorem eF {P:Program} {t:TypeId} {i:TypeInfo} (h:P.info? t=some i) (w:World):(sizeOf t).run P w = .ok i.size w:=by simp[sizeOf,typeInfo,h]
def cg (P:Program) (o:Oper) (e:Operand->Value) (w:World) (v:Value):Prop:=(execOp e o).run P w = .ok (.value v) w
section
variable {P:Program} {n:Nat} {A:Fr n} {D:List Deferred} {l:List (Nat × Value)} {w:World}
variable {d:Option Tmp} {ty:TypeId} {ps:String} {af:Array Edge} {g:Option (Nat × Bool)}
theorem aM {x:Operand} {v:Value} (h:ev n l x=some v):cg P ⟨d,.move x,ty,ps,af,g⟩ (aQ A D l).eval w v:=by simp[cg,execOp,bL h]
theorem eX {x:Operand} {v:Value} (h:ev n l x=some v):cg P ⟨d,.assign x,ty,ps,af,g⟩ (aQ A D l).eval w v:=by simp[cg,execOp,bL h]
theorem bf {c x y:Operand} {b:Bool} {v:Value} (a:ev n l c=some (.bool b)) (hb:b=true) (h:ev n l x=some v) :
    cg P ⟨d,.pick c x y,ty,ps,af,g⟩ (aQ A D l).eval w v:=by
  subst hb;simp[cg,execOp,bL h,bL a,asBool]
theorem aZ {c x y:Operand} {b:Bool} {v:Value} (a:ev n l c=some (.bool b)) (hb:b=false) (h:ev n l y=some v) :
    cg P ⟨d,.pick c x y,ty,ps,af,g⟩ (aQ A D l).eval w v:=by
  subst hb;simp[cg,execOp,bL h,bL a,asBool]
theorem jN {x:Operand} {i:Nat} {vs:Array Value} {v:Value} (h:ev n l x=some (.tuple vs)) (a:vs[i]? = some v) :
    cg P ⟨d,.extract x i,ty,ps,af,g⟩ (aQ A D l).eval w v:=by
  simp[cg,execOp,bL h,Instr.extract,a]
theorem gT {x:Operand} {t:TypeId} {b:Bool} (h:ev n l x=some (.bool b)) :
    cg P ⟨d,.unOp .not t x,ty,ps,af,g⟩ (aQ A D l).eval w (.bool !b):=by
  simp[cg,execOp,bL h,Op.unary]
theorem cC {x:Operand} {p:Addr} (h:ev n l x=some (.pointer (some p))) :
    cg P ⟨d,.nilCheck x,ty,ps,af,g⟩ (aQ A D l).eval w (.pointer (some p)):=by
  simp[cg,execOp,bL h]
theorem ou {c:BinOp} {x y:Operand} {t u:TypeId} {k j:IntKind} {a b:Int} {r:Value} (f:ev n l x=some (.int k a)) (h:ev n l y=some (.int j b))
    (hr:(binOp c t (.int k a) (.int j b)).run P w = .ok r w):cg P ⟨d,.binOp c t x y u,ty,ps,af,g⟩ (aQ A D l).eval w r:=by
  have e:(eqGuard c t x y (.int k a) (.int j b)).run P w = .ok () w:=by unfold eqGuard;cases c <;> simp
  simp[cg,execOp,bL f,bL h,e,hr]
theorem iK {x y:Operand} {t u:TypeId} {k:IntKind} {a b:Int} (c:ev n l x=some (.int k a)) (e:ev n l y=some (.int k b)) :
    cg P ⟨d,.binOp .add t x y u,ty,ps,af,g⟩ (aQ A D l).eval w (.int k (k.wrap (a+b))):=ou c e (by simp[binOp,Op.intArith])
theorem iT {x y:Operand} {t u:TypeId} {k:IntKind} {a b:Int} (c:ev n l x=some (.int k a)) (e:ev n l y=some (.int k b)) :
    cg P ⟨d,.binOp .sub t x y u,ty,ps,af,g⟩ (aQ A D l).eval w (.int k (k.wrap (a-b))):=ou c e (by simp[binOp,Op.intArith])
theorem amv {x y:Operand} {t u:TypeId} {k:IntKind} {a b:Int} (c:ev n l x=some (.int k a)) (e:ev n l y=some (.int k b)) :
    cg P ⟨d,.binOp .mul t x y u,ty,ps,af,g⟩ (aQ A D l).eval w (.int k (k.wrap (a*b))):=ou c e (by simp[binOp,Op.intArith])
theorem amx {x y:Operand} {t u:TypeId} {k:IntKind} {a b:Int} (e:ev n l x=some (.int k a)) (f:ev n l y=some (.int k b)) (c:b≠0) :
    cg P ⟨d,.binOp .quo t x y u,ty,ps,af,g⟩ (aQ A D l).eval w (.int k (k.wrap (a.tdiv b))):=ou e f (by simp[binOp,Op.intDiv,c])
theorem af3 {x y:Operand} {t u:TypeId} {k:IntKind} {a b:Int} (e:ev n l x=some (.int k a)) (f:ev n l y=some (.int k b)) (c:b≠0) :
    cg P ⟨d,.binOp .rem t x y u,ty,ps,af,g⟩ (aQ A D l).eval w (.int k (a.tmod b)):=ou e f (by simp[binOp,Op.intDiv,c])
theorem afw {x y:Operand} {t u:TypeId} {k:IntKind} {a b:Int} (c:ev n l x=some (.int k a)) (e:ev n l y=some (.int k b)) :
    cg P ⟨d,.binOp .and t x y u,ty,ps,af,g⟩ (aQ A D l).eval w (.int k (bits .and k a b)):=ou c e (by simp[binOp];rfl)
theorem zK {x y:Operand} {t u:TypeId} {k:IntKind} {a b:Int} (c:ev n l x=some (.int k a)) (e:ev n l y=some (.int k b)) :
    cg P ⟨d,.binOp .or t x y u,ty,ps,af,g⟩ (aQ A D l).eval w (.int k (bits .or k a b)):=ou c e (by simp[binOp];rfl)
theorem eM {x y:Operand} {t u:TypeId} {k:IntKind} {a b:Int} (c:ev n l x=some (.int k a)) (e:ev n l y=some (.int k b)) :
    cg P ⟨d,.binOp .xor t x y u,ty,ps,af,g⟩ (aQ A D l).eval w (.int k (bits .xor k a b)):=ou c e (by simp[binOp];rfl)
theorem afx {x y:Operand} {t u:TypeId} {k:IntKind} {a b:Int} (c:ev n l x=some (.int k a)) (e:ev n l y=some (.int k b)) :
    cg P ⟨d,.binOp .andNot t x y u,ty,ps,af,g⟩ (aQ A D l).eval w (.int k (bits .andNot k a b)):=ou c e (by simp[binOp];rfl)
def nj (k:IntKind) (a b:Int):Int:=k.wrap (a*2 ^ min b.toNat k.bits)
def ahQ (k:IntKind) (a b:Int):Int:=a/2 ^ min b.toNat k.bits
theorem qJ {x y:Operand} {t u:TypeId} {k j:IntKind} {a b:Int} (e:ev n l x=some (.int k a)) (f:ev n l y=some (.int j b)) (c:0<=b) :
    cg P ⟨d,.binOp .shl t x y u,ty,ps,af,g⟩ (aQ A D l).eval w (.int k (nj k a b)):=ou e f (by simp only[binOp];rw[shift_shl_any k j a b c];rfl)
theorem TJ {x y:Operand} {t u:TypeId} {k j:IntKind} {a b:Int} (e:ev n l x=some (.int k a)) (f:ev n l y=some (.int j b)) (c:0<=b) :
    cg P ⟨d,.binOp .shr t x y u,ty,ps,af,g⟩ (aQ A D l).eval w (.int k (ahQ k a b)):=ou e f (by simp only[binOp];rw[shift_shr_any k j a b c];rfl)
theorem lV {x y:Operand} {t u:TypeId} {k:IntKind} {a b:Int} (c:ev n l x=some (.int k a)) (e:ev n l y=some (.int k b)) :
    cg P ⟨d,.binOp .eql t x y u,ty,ps,af,g⟩ (aQ A D l).eval w (.bool (decide (a=b))):=ou c e (by simp[binOp,Op.intCmp];rw[Bool.eq_iff_iff];simp)
theorem WQ {x y:Operand} {t u:TypeId} {k:IntKind} {a b:Int} (c:ev n l x=some (.int k a)) (e:ev n l y=some (.int k b)) :
    cg P ⟨d,.binOp .neq t x y u,ty,ps,af,g⟩ (aQ A D l).eval w (.bool (decide (a≠b))):=ou c e (by simp[binOp,Op.intCmp];rw[Bool.eq_iff_iff];simp)
theorem rZ {x y:Operand} {t u:TypeId} {k:IntKind} {a b:Int} (c:ev n l x=some (.int k a)) (e:ev n l y=some (.int k b)) :
    cg P ⟨d,.binOp .lss t x y u,ty,ps,af,g⟩ (aQ A D l).eval w (.bool (decide (a<b))):=ou c e (by simp[binOp,Op.intCmp])
theorem yh {x y:Operand} {t u:TypeId} {k:IntKind} {a b:Int} (c:ev n l x=some (.int k a)) (e:ev n l y=some (.int k b)) :
    cg P ⟨d,.binOp .leq t x y u,ty,ps,af,g⟩ (aQ A D l).eval w (.bool (decide (a<=b))):=ou c e (by simp[binOp,Op.intCmp])
theorem vC {x y:Operand} {t u:TypeId} {k:IntKind} {a b:Int} (c:ev n l x=some (.int k a)) (e:ev n l y=some (.int k b)) :
    cg P ⟨d,.binOp .gtr t x y u,ty,ps,af,g⟩ (aQ A D l).eval w (.bool (decide (b<a))):=ou c e (by simp[binOp,Op.intCmp])
theorem qo {x y:Operand} {t u:TypeId} {k:IntKind} {a b:Int} (c:ev n l x=some (.int k a)) (e:ev n l y=some (.int k b)) :
    cg P ⟨d,.binOp .geq t x y u,ty,ps,af,g⟩ (aQ A D l).eval w (.bool (decide (b<=a))):=ou c e (by simp[binOp,Op.intCmp])
theorem wrap_i64 {x:Int} (a:-9223372036854775808<=x) (h1:x<=9223372036854775807):IntKind.i64.wrap x=x:=by simp[IntKind.wrap,IntKind.bits,IntKind.signed];omega
theorem wrap_u64 {x:Int} (a:0<=x) (h1:x<18446744073709551616):IntKind.u64.wrap x=x:=by simp[IntKind.wrap,IntKind.bits,IntKind.signed];omega
theorem wrap_u32 {x:Int} (a:0<=x) (h1:x<4294967296):IntKind.u32.wrap x=x:=by simp[IntKind.wrap,IntKind.bits,IntKind.signed];omega
theorem PG (x:Int):IntKind.u64.wrap x=x%18446744073709551616:=by simp[IntKind.wrap,IntKind.bits,IntKind.signed]
theorem UQ (x:Int):IntKind.u8.wrap x=x%256:=by simp[IntKind.wrap,IntKind.bits,IntKind.signed]
theorem eJ {x y:Operand} {t u:TypeId} {a b:Int} (c:ev n l x=some (.int .i64 a)) (e:ev n l y=some (.int .i64 b)) (h:-9223372036854775808<=a+b/\a+b<=9223372036854775807) :
    cg P ⟨d,.binOp .add t x y u,ty,ps,af,g⟩ (aQ A D l).eval w (.int .i64 (a+b)):=by have:=iK (P:=P) (A:=A) (D:=D) (w:=w) (d:=d) (t:=t) (u:=u) (ty:=ty) (ps:=ps) (af:=af) (g:=g) c e;rwa [wrap_i64 h.1 h.2]at this
theorem jO {x y:Operand} {t u:TypeId} {a b:Int} (c:ev n l x=some (.int .i64 a)) (e:ev n l y=some (.int .i64 b)) (h:-9223372036854775808<=a-b/\a-b<=9223372036854775807) :
    cg P ⟨d,.binOp .sub t x y u,ty,ps,af,g⟩ (aQ A D l).eval w (.int .i64 (a-b)):=by have:=iT (P:=P) (A:=A) (D:=D) (w:=w) (d:=d) (t:=t) (u:=u) (ty:=ty) (ps:=ps) (af:=af) (g:=g) c e;rwa [wrap_i64 h.1 h.2]at this
theorem iN {x:Operand} {s t:TypeId} {k j:IntKind} {a:Int} (c:(P.underlying s).isSome=true) (e:P.underlying t=some (.int k)) (f:ev n l x=some (.int j a)) :
    cg P ⟨d,.convert s t x,ty,ps,af,g⟩ (aQ A D l).eval w (.int k (k.wrap a)):=by
  obtain⟨C,b⟩:=Option.isSome_iff_exists.1 c;simp[cg,execOp,bL f,convert,run_underlying b,run_underlying e,Conv.intToInt]
theorem aiV {x y:Operand} {f:Array TypeId} {k j:IntKind} {a b:Int} (c:ev n l x=some (.int k a)) (e:ev n l y=some (.int j b)) :
    cg P ⟨d,.call {callee:=.builtin .min,args:=#[x,y],argTypes:=f},ty,ps,af,g⟩ (aQ A D l).eval w (.int k (if b<a then b else a)):=by
  simp[cg,execOp,bL c,bL e,resolve,invoke,builtin,Builtin.min_,Builtin.min2]
theorem jx {x:Operand} {v:Value} {m:Nat} {t e:TypeId} (c:ev n l x=some v) (b:P.underlying t=some (.slice e)) (a:PS v m) :
    cg P ⟨d,.call {callee:=.builtin .len,args:=#[x],argTypes:=#[t]},ty,ps,af,g⟩ (aQ A D l).eval w (.int .i64 m):=by
  obtain⟨h,f,rfl,_⟩:=a;simp[cg,execOp,bL c,resolve,invoke,builtin,Builtin.len_,run_underlying b,goInt]
theorem uq {x y:Operand} {v:Value} {m:Nat} {t e:TypeId} {k:IntKind} {i:Int} (sz:Nat) (j:ev n l x=some v) (o:ev n l y=some (.int k i)) (h:P.underlying t=some (.slice e)) (a:gy P e sz=true)
    (hS:PS v m) (hi:0<=i/\i<m):cg P ⟨d,.indexAddr t x y,ty,ps,af,g⟩ (aQ A D l).eval w (mO v (i.toNat*sz)):=by
  obtain⟨f,C,rfl,q,G,c⟩:=hS;unfold gy at a;split at a
  · rename_i inf hinf
    have b:inf.size=sz:=(by simpa using a);cases f with
    | none=>have:=c rfl;omega
    | some p=>simp[cg,execOp,bL j,bL o,Instr.indexAt,asIntOf,run_underlying h,eF hinf,hi.1,hi.2,b,mO]
  cases a
theorem CC {x y:Operand} {v:Value} {m:Nat} {t e:TypeId} {k:IntKind} {i:Int} (c:ev n l x=some v) (f:ev n l y=some (.int k i)) (b:P.underlying t=some (.slice e)) (a:gy P e 1=true)
    (hS:PS v m) (hi:0<=i/\i<m):cg P ⟨d,.indexAddr t x y,ty,ps,af,g⟩ (aQ A D l).eval w (mO v i.toNat):=by
  have:=uq (P:=P) (A:=A) (D:=D) (w:=w) (d:=d) (ty:=ty) (ps:=ps) (af:=af) (g:=g) 1 c f b a hS hi;simpa using this
theorem mr {x:Operand} {lo hi:Option Operand} {v:Value} {m:Nat} {t e:TypeId} (L H:Nat) (c:P.underlying t=some (.slice e)) (b:gy P e 1=true) (f:ev n l x=some v)
    (hS:PS v m) (h1:L<=H) (h2:H<=m)
    (hlo:match lo with|none=>L=0|some y=>∃k,ev n l y=some (.int k L)) (hhi:match hi with|none=>H=m|some y=>∃k,ev n l y=some (.int k H)) :
    cg P ⟨d,.slice t x lo hi none,ty,ps,af,g⟩ (aQ A D l).eval w (oK v L H):=by
  obtain⟨p,C,rfl,G,j,o⟩:=hS;unfold gy at b;split at b
  · rename_i inf hinf
    have a:inf.size=1:=(by simpa using b);have h:H<=C:=(by omega);cases lo with
    | none =>
      simp only at hlo;subst hlo;cases hi with
      | none =>
        simp only at hhi;subst hhi;simp[cg,execOp,bL f,Instr.sliceAt,Instr.slice,Instr.sliceBounds,run_underlying c,eF hinf,oK,a]
      | some y =>
        simp only at hhi;obtain⟨k,hk⟩:=hhi;simp[cg,execOp,bL f,bL hk,Instr.sliceAt,Instr.slice,Instr.sliceBounds,Instr.sliceBound,asIntOf,run_underlying c,eF hinf,oK,a,h]
    | some z =>
      simp only at hlo;obtain⟨q,i⟩:=hlo;cases hi with
      | none =>
        simp only at hhi;subst hhi;simp[cg,execOp,bL f,bL i,Instr.sliceAt,Instr.slice,Instr.sliceBounds,Instr.sliceBound,asIntOf,run_underlying c,eF hinf,oK,a,h1]
      | some y =>
        simp only at hhi;obtain⟨k,hk⟩:=hhi;simp[cg,execOp,bL f,bL i,bL hk,Instr.sliceAt,Instr.slice,Instr.sliceBounds,Instr.sliceBound,asIntOf,run_underlying c,eF hinf,oK,a,h1,h]
  cases b
theorem gh {x:Operand} {p:Addr} {t e:TypeId} {m:Nat} (b:P.underlying t=some (.array m e)) (a:gy P e 1=true) (c:ev n l x=some (.pointer (some p))) (f:m≠0) :
    cg P ⟨d,.slice t x none none none,ty,ps,af,g⟩ (aQ A D l).eval w (.slice (some p) m m):=by
  unfold gy at a;split at a
  · rename_i inf hinf
    simp[cg,execOp,bL c,Instr.sliceAt,Instr.sureAddr,Instr.sliceBounds,run_underlying b,eF hinf,Addr.add]
  cases a
theorem WO {x:Operand} {t:TypeId} {p:Addr} {u:Value} (c:ev n l x=some (.pointer (some p))) (a:iJ P t=true) (b:w.cell? p=some u) :
    cg P ⟨d,.load t x,ty,ps,af,g⟩ (aQ A D l).eval w u:=by
  simp[cg,execOp,bL c,Instr.loadAt,Instr.sureAddr,loadVar,nP a,b]
theorem aF {x:Operand} {t ty':TypeId} {b j:Nat} {cs:List Value} {u:Value} (f:ev n l x=some (.pointer (some ⟨b,j,none⟩))) (c:iJ P t=true) (a:bS w b cs ty') (e:cs[j]? = some u) :
    cg P ⟨d,.load t x,ty,ps,af,g⟩ (aQ A D l).eval w u:=WO f c (by rw[a.cell];exact e)
theorem afz {x:Operand} {t:TypeId} {i:Nat} {v u:Value} {b:List Value} (j:ev n l x=some (mO v i)) (h:iJ P t=true) (f:Sl w v b) (a:b[i]? = some u) :
    cg P ⟨d,.load t x,ty,ps,af,g⟩ (aQ A D l).eval w u:=by
  obtain⟨e,k,rfl,m,G,C,c⟩:=f;have H:=(List.getElem?_eq_some_iff.1 a).1;cases e with
  | none=>have:=C rfl;omega
  | some p=>exact WO (p:=p.add i) j h (c p q i u a)
theorem CF {x:Operand} {t:TypeId} {i:Nat} {v:Value} {a:Ly} (f:ev n l x=some (mO v i)) (c:iJ P t=true) (b:By w v a) (e:i<a.length) :
    cg P ⟨d,.load t x,ty,ps,af,g⟩ (aQ A D l).eval w (b8 (a.getD i 0)):=afz f c b (YP a i e)
theorem zJ {x:Operand} {t:TypeId} {p:Addr} {m:Nat} {cs:List Value} (j:ev n l x=some (.pointer (some p))) (a:fI P t m=true) (i:cs.length=m) (h:∀b c,cs[b]? = some c->w.cell? (p.add b)=some c) :
    cg P ⟨d,.load t x,ty,ps,af,g⟩ (aQ A D l).eval w (.agg cs.toArray):=by
  obtain⟨G,k,H,e,C,o⟩:=qC a;have f:=run_loadCells_list (P:=P) (w:=w) p cs h;simp[cg,execOp,bL j,Instr.loadAt,Instr.sureAddr,loadVar,vP a,eF e,C,<- i,f]
theorem nJ {x:Operand} {t ty':TypeId} {b:Nat} {cs:List Value} (f:ev n l x=some (.pointer (some ⟨b,0,none⟩))) (c:fI P t cs.length=true) (a:bS w b cs ty') :
    cg P ⟨d,.load t x,ty,ps,af,g⟩ (aQ A D l).eval w (.agg cs.toArray) :=
  zJ f c q fun h i e=>by rw[Addr.kL,Nat.zero_add,a.cell];exact e
theorem aJ {x:Operand} {s:TypeId} {f b o c:Nat} (e:ev n l x=some (.pointer (some ⟨b,o,none⟩))) (a:aN P s f=some c) :
    cg P ⟨d,.fieldAddr s x f,ty,ps,af,g⟩ (aQ A D l).eval w (.pointer (some ⟨b,o+c,none⟩)):=by
  unfold aN at a;split at a
  · rename_i fs hfs
    split at a
    · rename_i fd hfd
      split at a
      · rename_i inf hinf
        split at a
        · cases a
        rename_i hz;simp only[Option.some.injEq]at a;subst a;simp[cg,execOp,bL e,Instr.fieldAt,Instr.sureAddr,run_underlying hfs,hfd,fieldPlace,eF hinf,hz,Addr.kL]
      cases a
    cases a
  cases a
theorem By.sH {e:TypeId} {v:Value} {a:Ly} (h:w.ownsRow 0 e 1 v a.length (a.map b8)):By w v a:=Sl.sH (e:=e) (base:=0) (by simpa using h)
theorem fw {x y:Operand} {t e:TypeId} {m b o:Nat} {k:IntKind} {i:Int} (h:ev n l x=some (.pointer (some ⟨b,o,none⟩))) (j:ev n l y=some (.int k i)) (f:P.underlying t=some (.array m e)) (a:gy P e 1=true)
    (hi:0<=i/\i<m):cg P ⟨d,.indexAddr t x y,ty,ps,af,g⟩ (aQ A D l).eval w (.pointer (some ⟨b,o+i.toNat,none⟩)):=by
  unfold gy at a;split at a
  · rename_i inf hinf
    have c:inf.size=1:=(by simpa using a);simp[cg,execOp,bL h,bL j,Instr.indexAt,Instr.sureAddr,asIntOf,run_underlying f,eF hinf,hi.1,hi.2,c,Addr.kL]
  cases a
theorem cg.jB {o:Oper} {e:Operand->Value} {k:IntKind} {a b:Int} (h:cg P o e w (.int k a)) (c:a=b):cg P o e w (.int k b):=c ▸ h
theorem cg.JG {o:Oper} {e:Operand->Value} {a b:Bool} (h:cg P o e w (.bool a)) (c:a=b):cg P o e w (.bool b):=c ▸ h
end
section
variable {P:Program} {n:Nat} {A:Fr n} {D:List Deferred} {l:List (Nat × Value)} {w:World} {ops:Array Oper} {rest:List Oper} {Q:Exit->Act->World->Prop}
variable {d:Tmp} {op:Op} {ty:TypeId} {ps:String} {af:Array Edge}
theorem fZ {o:Oper} {a:Act} (b:o.guard=none) (h:o.wp P a w (wpList P ops Q rest) Q):wpList P ops Q (o :: rest) a w:=by unfold wpList;rw[if_pos (by simp[Region.wanted,b])];exact .inl h
theorem MI {o:Oper} {a:Act} {v:Value} {K:Act->World->Prop} (b:cg P o a.eval w v) (h:K (a.put o.dst v) w):o.wp P a w K Q:=by unfold Oper.wp;unfold cg at b;rw[b];exact h
theorem st (v:Value) (a:cg P ⟨some d,op,ty,ps,af,none⟩ (aQ A D l).eval w v) (k:wpList P ops Q rest (aQ A D ((d,v) :: l)) w) :
    wpList P ops Q (⟨some d,op,ty,ps,af,none⟩ :: rest) (aQ A D l) w:=fZ q (MI a k)
theorem nL {j t:Nat} {o:Oper} {b:Bool} (f:ops[j]? = some o) (g:o.dst=some t) (h:ev n l (.tmp t)=some (.bool b)):yielded ops (aQ A D l).tmps j=some b:=by
  have a:=bL (A:=A) (D:=D) h;have e:(aQ A D l).tmps.size=n:=zG;have d:t<n:=by
    simp only[ev]at h;cases hb:Nat.ble n t with
    | true=>simp[hb]at h
    | false=>exact Nat.lt_of_not_le fun C=>by rw[Nat.ble_eq_true_of_le C]at hb;cases hb
  simp only[Act.eval,Array.getD,e,d,dite_true]at a;have c:(aQ A D l).tmps[t]? = some (.bool b):=by rw[Array.getElem?_eq_getElem Xx];exact congrArg some a
  simp[yielded,f,g,c]
theorem afT {j t:Nat} {o:Oper} {b a:Bool} (v:Value) (c:ops[j]? = some o) (e:o.dst=some t) (f:ev n l (.tmp t)=some (.bool b)) (hb:b=a)
    (hr:cg P ⟨some d,op,ty,ps,af,some (j,a)⟩ (aQ A D l).eval w v) (k:wpList P ops Q rest (aQ A D ((d,v) :: l)) w) :
    wpList P ops Q (⟨some d,op,ty,ps,af,some (j,a)⟩ :: rest) (aQ A D l) w:=by
  unfold wpList;rw[if_pos (by simp[Region.wanted,nL c e f,hb])];exact .inl (MI hr k)
theorem ahT {j t:Nat} {o:Oper} {b a:Bool} (c:ops[j]? = some o) (e:o.dst=some t) (f:ev n l (.tmp t)=some (.bool b)) (hb:b = !a)
    (k:wpList P ops Q rest (aQ A D ((d,undef) :: l)) w) :
    wpList P ops Q (⟨some d,op,ty,ps,af,some (j,a)⟩ :: rest) (aQ A D l) w:=by
  unfold wpList;rw[if_neg (by subst hb;simp[Region.wanted,nL c e f])];exact k
theorem bW {t:Nat} {b:Bool} (_:ev n l (.tmp t)=some (.bool b)) (h1:b=true->wpList P ops Q rest (aQ A D l) w) (a:b=false->wpList P ops Q rest (aQ A D l) w):wpList P ops Q rest (aQ A D l) w:=by cases b<;>simp_all
theorem aA {a:Act} (h:Q .normal a w):wpList P ops Q [] a w:=h
theorem aG {id:Nat} {lo:List Oper} {a:Act} (h:wpList P lo.toArray Q lo a w):(Code.region id lo.toArray false).wp P Q a w:=wp_region_lit h
theorem aD {x y:Code} {a:Act} (h:x.wp P (Exit.then (fun a w=>y.wp P Q a w) Q) a w):(Code.seq x y).wp P Q a w:=wp_seq h
theorem aj {K:Act->World->Prop} {a:Act} (h:K a w):Exit.then K Q .normal a w:=h
theorem aL {a:Act} (h:Q .normal a w):Code.skip.wp P Q a w:=wp_skip h
theorem iI {a:Act} (h:Q .ret a w):Code.ret.wp P Q a w:=wp_ret h
theorem bT {id:Nat} {a:Act} (h:Q (.exit id) a w):(Code.exit id).wp P Q a w:=wp_exit h
theorem aS {id:Nat} {c:Code} {a:Act} (h:c.wp P (Exit.inBlock id Q) a w):(Code.block id c).wp P Q a w:=wp_block h
theorem aX {K:Act->World->Prop} {id:Nat} {a:Act} (h:Q (.exit id) a w):Exit.then K Q (.exit id) a w:=h
theorem cJ {id:Nat} {a:Act} (h:Q .normal a w):Exit.inBlock id Q (.exit id) a w:=by simpa [Exit.inBlock]using h
theorem XT {id b:Nat} {a:Act} (c:Nat.beq b id=false) (h:Q (.exit b) a w):Exit.inBlock id Q (.exit b) a w:=by
  have:b≠id:=fun h=>by subst h;simp at c
  simpa [Exit.inBlock,this]using h
theorem bE {id:Nat} {a:Act} (h:Q .normal a w):Exit.inBlock id Q .normal a w:=h
theorem aI {K:Act->World->Prop} {a:Act} (h:Q .ret a w):Exit.then K Q .ret a w:=h
theorem aV {id:Nat} {a:Act} (h:Q .ret a w):Exit.inBlock id Q .ret a w:=h
theorem bJ {c:Operand} {x y:Code} {b:Bool} (d:ev n l c=some (.bool b)) (h1:b=true->x.wp P Q (aQ A D l) w) (a:b=false->y.wp P Q (aQ A D l) w) :
    (Code.cond c x y).wp P Q (aQ A D l) w:=wp_cond_split (bL d) h1 a
theorem gK {c:Operand} {x y:Code} {b:Bool} (d:ev n l c=some (.bool b)) (hb:b=true) (h:x.wp P Q (aQ A D l) w):(Code.cond c x y).wp P Q (aQ A D l) w :=
  bJ d (fun _=>h) (fun a=>by rw[hb]at a;cases a)
theorem ij {c:Operand} {x y:Code} {b:Bool} (d:ev n l c=some (.bool b)) (hb:b=false) (h:y.wp P Q (aQ A D l) w):(Code.cond c x y).wp P Q (aQ A D l) w :=
  bJ d (fun a=>by rw[hb]at a;cases a) (fun _=>h)
def PN {X:Type} (n:Nat) (D:List Deferred) (inv:X->List (Nat × Value)) (W:X->World->Prop) (mu:X->Nat) (x:X) (a:Act) (w:World):Prop :=
  ∃(x':X) (B:Fr n),a=aQ B D (inv x')/\W x' w/\mu x'<mu x
theorem jh {X:Type} {c:Code} (inv:X->List (Nat × Value)) (W:X->World->Prop) (b:X->Nat) (x0:X) (j:Fits n l (inv x0)) (k:W x0 w)
    (round:∀(x:X) (B:Fr n) (a:World),W x a->c.wp P (Exit.then (PN n D inv W b x) Q) (aQ B D (inv x)) a) :
    (Code.loop c).wp P Q (aQ A D l) w:=by
  refine wp_loop_ghost (fun m d a=>∃(x:X) (B:Fr n),d=aQ B D (inv x)/\W x a/\b x=m) (b x0) ⟨x0,_,(cP (A:=A) (D:=D) j).symm,k,q⟩ ?_;rintro m d a ⟨x,B,rfl,g,rfl⟩;refine wp_mono (round x B a g) ?_;intro i o p h;cases i with
  | normal=>obtain⟨C,e,f,G,H⟩:=h;exact⟨b C,H,C,e,f,G,q⟩
  | _=>exact h
theorem next {X:Type} {inv:X->List (Nat × Value)} {W:X->World->Prop} {b:X->Nat} {x:X} (a:X) (d:b a<b x) (c:Fits n l (inv a)) (e:W a w) :
    PN n D inv W b x (aQ A D l) w:=⟨a,_,(cP (A:=A) (D:=D) c).symm,e,d⟩
def cA (P:Program) (f:FuncId):Bool :=
  match P.funcs[f]? with
  | some fn => !(fn.name == "runtime.NumGoroutine") && fn.body.isSome
  | none=>false
theorem p9 {f:FuncId} (hf:cA P f=true) (args:Array Value):(callFunc f args).run P w = .ok (.enter f args) w:=by
  unfold cA at hf;split at hf
  · rename_i fn hfn
    simp only[Bool.and_eq_true,Bool.not_eq_true']at hf;have A : ¬ fn.name = "runtime.NumGoroutine" := by have := hf.1; simpa using this
    have B:¬fn.body=none:=(by intro C;rw[C]at hf;simp at hf);simp[callFunc,hfn,A,B]
  · cases hf
theorem yO {f:FuncId} {xs:List Operand} {e:Array TypeId} {vs:List Value} {b:Option Tmp} {g:Option (Nat × Bool)} (d:cA P f=true) (c:evs n l xs=some vs) :
    (execOp (aQ A D l).eval ⟨b,.call {callee:=.value (.func f),args:=xs.toArray,argTypes:=e},ty,ps,af,g⟩).run P w = .ok (.enter f vs.toArray) w:=by
  have a:=mP (A:=A) (D:=D) c;simp only[execOp,resolve,Act.eval,Deferred.ofValue,List.map_toArray,a];simp[invoke,p9 d]
theorem ax {f:FuncId} {xs:List Operand} {i:Array TypeId} {vs:List Value} {R:Ending->World->Prop} (h:cA P f=true) (e:evs n l xs=some vs) (g:Calls P f vs.toArray w R)
    (k:∀a b,R a b->∃v,a = .returned v/\wpList P ops Q rest (aQ A D ((d,v) :: l)) b) :
    wpList P ops Q (⟨some d,.call {callee:=.value (.func f),args:=xs.toArray,argTypes:=i},ty,ps,af,none⟩ :: rest) (aQ A D l) w:=by
  refine fZ q ?_;unfold Oper.wp;rw[yO h e];refine g.mono fun a b c=>?_;obtain⟨v,rfl,hk⟩:=k a b c;exact hk
def Rx (K:Value->Prop):Ending->Prop
  | .returned v=>K v
  | _=>False
theorem Ry {K:Value->Prop} {a:Ending} (h:Rx K a):∃v,a=.returned v/\K v:=by unfold Rx at h;split at h;exact⟨_,rfl,h⟩;exact h.elim
theorem Rz {f:FuncId} {xs:List Operand} {i:Array TypeId} {vs:List Value} {R:Ending->World->Prop} (h:cA P f=true) (e:evs n l xs=some vs) (g:Calls P f vs.toArray w R) (k:∀a b,R a b->Rx (fun v=>wpList P ops Q rest (aQ A D ((d,v)::l)) b) a):
    wpList P ops Q (⟨some d,.call {callee:=.value (.func f),args:=xs.toArray,argTypes:=i},ty,ps,af,none⟩ :: rest) (aQ A D l) w:=ax h e g fun a b c=>Ry (k a b c)
theorem fK {f:FuncId} {xs:List Operand} {p:Array TypeId} {vs:List Value} {R:Ending->World->Prop} {j t:Nat} {o:Oper} {b e:Bool} (h:ops[j]? = some o) (i:o.dst=some t) (m:ev n l (.tmp t)=some (.bool b)) (hb:b=e)
    (hf:cA P f=true) (ha:evs n l xs=some vs) (hc:Calls P f vs.toArray w R)
    (k:∀a c,R a c->∃v,a = .returned v/\wpList P ops Q rest (aQ A D ((d,v) :: l)) c) :
    wpList P ops Q (⟨some d,.call {callee:=.value (.func f),args:=xs.toArray,argTypes:=p},ty,ps,af,some (j,e)⟩ :: rest) (aQ A D l) w:=by
  unfold wpList;rw[if_pos (by simp[Region.wanted,nL h i m,hb])];refine .inl ?_;unfold Oper.wp;rw[yO hf ha];refine hc.mono fun a c g=>?_;obtain⟨v,rfl,hk⟩:=k a c g;exact hk
def tC:Nat->List Value->List (Nat × Value)
  | _,[]=>[]
  | i,v :: r=>(i,v) :: tC (i+1) r
theorem KV {B:Fr n} {a:List (Nat × Value)} (h:∀p∈a,B.tmps.getD p.1 undef=p.2):aQ B D a=⟨B.tmps,D⟩:=by
  induction a with
  | nil=>rfl
  | cons p r ih =>
    simp only[aQ];rw[ih fun q b=>h q (by simp[b])];exact TD _ _ _ (h p Oy)
theorem FR {vs:List Value} {i:Nat} {p:Nat × Value} (h:p∈tC i vs):∃j,p.1=i+j/\vs[j]? = some p.2:=by
  induction vs generalizing i with
  | nil=>simp[tC]at h
  | cons v r ih =>
    simp only[tC,List.mem_cons]at h
    rcases h with rfl|h
    · exact⟨0,q,q⟩
    · obtain⟨j,B,A⟩:=ih h
      exact⟨j+1,by omega,by simpa using A⟩
theorem enter {f:FuncId} {fn:Func} {c:Code} {vs:List Value} {R:Ending->World->Prop} (g:P.funcs[f]? = some fn) (hb:fn.body=some c) (j:fn.ntmps=n) (i:Nat.ble vs.length n=true)
    (h:∀b:Fr n,c.wp P (bodyPost P fn R) (aQ b [] (tC 0 vs)) w):Calls P f vs.toArray w R:=by
  refine calls_of_wp g hb ?_;have l:vs.length<=n:=lB i;have D:(vs.toArray ++ Array.replicate (fn.ntmps-vs.toArray.size) undef).size=n:=by simp[j];omega
  have:=h ⟨_,D⟩
  rwa [KV]at this
  intro p H;obtain⟨k,d,e⟩:=FR H;have G:=(List.getElem?_eq_some_iff.1 e);obtain⟨a,C⟩:=G;simp only[d,Nat.zero_add,Array.getD];rw[dif_pos Ym];show(vs.toArray ++ _)[k]'_=_;rw[Array.getElem_append_left (by simpa using a)];simpa using C
def sW:Exit->Prop
  | .ret|.normal=>True
  | _=>False
theorem bp {fn:Func} {R:Ending->World->Prop} {e:Exit} {v:Value} {a:Act} (b:sW e) (hd:a.defers=[]) (c:(results fn a.tmps).run P w = .ok v w) (h:R (.returned v) w):bodyPost P fn R e a w:=by cases e <;> simp only[sW]at b <;> exact⟨hd,v,c,h⟩
theorem po {t:Nat} {v:Value} (h:ev n l (.tmp t)=some v):(aQ A D l).tmps.getD t undef=v:=bL (A:=A) (D:=D) h
theorem EG {t:Nat} {v:Value} (h:ev n l (.tmp t)=some v):(aQ A D l).tmps[t]?.getD undef=v:=by simpa using po (A:=A) (D:=D) h
theorem abA {fn:Func} {R:Ending->World->Prop} {e:Exit} (a:sW e) (b:fn.results = #[]) (h:R (.returned (.tuple #[])) w):bodyPost P fn R e (aQ A [] l) w :=
  bp a fP (results_none b _ _ _) h
theorem gX {fn:Func} {R:Ending->World->Prop} {e:Exit} {t:Nat} {v:Value} (a:sW e) (b:fn.results = #[.tmp t]) (c:ev n l (.tmp t)=some v) (h:R (.returned v) w):bodyPost P fn R e (aQ A [] l) w :=
  bp a fP (results_tmp b _ _ _) (by rw[po c];exact h)
theorem anJ {fn:Func} {R:Ending->World->Prop} {e:Exit} {t u:Nat} {v a:Value} (b:sW e) (c:fn.results = #[.tmp t,.tmp u]) (d:ev n l (.tmp t)=some v) (f:ev n l (.tmp u)=some a)
    (h:R (.returned (.tuple #[v,a])) w):bodyPost P fn R e (aQ A [] l) w :=
  bp b fP (results_tmp2 c _ _ _) (by rw[po d,po f];exact h)
theorem am0 {fn:Func} {R:Ending->World->Prop} {e:Exit} {t u x:Nat} {v a b:Value} (c:sW e) (d:fn.results = #[.tmp t,.tmp u,.tmp x]) (f:ev n l (.tmp t)=some v) (g:ev n l (.tmp u)=some a) (i:ev n l (.tmp x)=some b)
    (h:R (.returned (.tuple #[v,a,b])) w):bodyPost P fn R e (aQ A [] l) w :=
  bp c fP (results_tmp3 d _ _ _) (by rw[po f,po g,po i];exact h)
theorem oI {t ty':TypeId} {b:Nat} {cs:List Value} (a:fI P t cs.length=true) (e:bS w b cs ty'):(loadVar t ⟨b,0,none⟩).run P w = .ok (.agg cs.toArray) w:=by
  obtain⟨g,f,G,c,d,H⟩:=qC a;have D:=run_loadCells_list (P:=P) (w:=w) ⟨b,0,none⟩ cs fun h i C=>by rw[Addr.kL,Nat.zero_add,e.cell];exact C
  simp[loadVar,vP a,eF c,d,D]
theorem am3 {fn:Func} {R:Ending->World->Prop} {e:Exit} {t:Nat} {a ty':TypeId} {b:Nat} {cs:List Value} (c:sW e) (d:fn.results = #[.cell t a]) (f:ev n l (.tmp t)=some (.pointer (some ⟨b,0,none⟩)))
    (hT:fI P a cs.length=true) (hB:bS w b cs ty') (h:R (.returned (.agg cs.toArray)) w):bodyPost P fn R e (aQ A [] l) w :=
  bp c fP (by simp[results,d,EG f,asAddr,oI hT hB]) h
theorem AL {fn:Func} {R:Ending->World->Prop} {e:Exit} {t u:Nat} {a ty':TypeId} {b:Nat} {cs:List Value} {v:Value} (c:sW e) (d:fn.results = #[.cell t a,.tmp u]) (f:ev n l (.tmp t)=some (.pointer (some ⟨b,0,none⟩)))
    (hT:fI P a cs.length=true) (hB:bS w b cs ty') (hv':ev n l (.tmp u)=some v) (h:R (.returned (.tuple #[.agg cs.toArray,v])) w):bodyPost P fn R e (aQ A [] l) w :=
  bp c fP (by simp[results,d,EG f,EG hv',asAddr,oI hT hB]) h
theorem bn {x y:Operand} {t ty':TypeId} {b j:Nat} {cs:List Value} {u:Value} (h:ev n l x=some (.pointer (some ⟨b,j,none⟩))) (i:ev n l y=some u) (f:iJ P t=true) (g:u.oneCell'=true)
    (hB:bS w b cs ty') (hj:j<cs.length) (k:∀a,Md [b] w a->bS a b (cs.set j u) ty'->wpList P ops Q rest (aQ A D l) a) :
    wpList P ops Q (⟨none,.store t x y,ty,ps,af,none⟩ :: rest) (aQ A D l) w:=by
  refine fZ q ?_;obtain⟨m,H,o,d,e,p⟩:=EX f;have G:u.cells = #[u]:=by cases u <;> simp_all [Value.cells,Value.oneCell']
  have c:w.cell? ⟨b,j,none⟩=some cs[j]:=by rw[hB.cell];simp[hj]
  have C:(execOp (aQ A D l).eval ⟨none,.store t x y,ty,ps,af,none⟩).run P w = .ok .skip (w.setCell ⟨b,j,none⟩ u):=by simp[execOp,bL h,bL i,Instr.storeAt,Instr.sureAddr,storeVar,eF d,e,G,storeCells,Addr.add,run_store P w _ u _ g,c,hB.frozen]
  unfold Oper.wp;rw[C];exact k _ (Md.setCell w ⟨b,j,none⟩ u) (hB.set j u)
def fC (cs:List Value) (j:Nat) (us:List Value):List Value:=cs.take j ++ us ++ cs.drop (j+us.length)
theorem bS.setRow {b:Nat} {cs us:List Value} {ty':TypeId} (a:bS w b cs ty'):bS (w.setRow b us.toArray) b us ty':=setRow_heap w b _ _ ty' _ a
theorem Md.setRow (w:World) (b:Nat) (us:Array Value):Md [b] w (w.setRow b us):=⟨q,q,q,by simp,fun k _ a=>setRow_other w b k us (by simpa using a)⟩
theorem aK {x y:Operand} {t ty':TypeId} {b j:Nat} {cs us:List Value} (g:ev n l x=some (.pointer (some ⟨b,j,none⟩))) (h:ev n l y=some (.agg us.toArray)) (f:fI P t us.length=true)
    (hu:∀i∈us,i.oneCell'=true) (hB:bS w b cs ty') (hj:j+us.length<=cs.length) (k:∀a,Md [b] w a->bS a b (fC cs j us) ty'->wpList P ops Q rest (aQ A D l) a) :
    wpList P ops Q (⟨none,.store t x y,ty,ps,af,none⟩ :: rest) (aQ A D l) w:=by
  refine fZ q ?_;obtain⟨H,G,m,d,e,o⟩:=qC f;have C:=run_storeCells_at P b j ty' us 0 cs.toArray w hB (by simpa using hj) hu;have c:(execOp (aQ A D l).eval ⟨none,.store t x y,ty,ps,af,none⟩).run P w = .ok .skip (w.setRow b (fC cs j us).toArray):=by simp[execOp,bL g,bL h,Instr.storeAt,Instr.sureAddr,storeVar,eF d,e,Value.cells,C,fC]
  unfold Oper.wp;rw[c];exact k _ (Md.setRow w b _) hB.setRow
theorem eY {x y:Operand} {t ty':TypeId} {b:Nat} {cs us:List Value} (e:ev n l x=some (.pointer (some ⟨b,0,none⟩))) (f:ev n l y=some (.agg us.toArray)) (c:fI P t us.length=true)
    (hu:∀g∈us,g.oneCell'=true) (hB:bS w b cs ty') (hj:us.length=cs.length) (k:∀a,Md [b] w a->bS a b us ty'->wpList P ops Q rest (aQ A D l) a) :
    wpList P ops Q (⟨none,.store t x y,ty,ps,af,none⟩ :: rest) (aQ A D l) w :=
  aK e f c hu hB (by omega) fun a d hb => k a d (by have : fC cs 0 us = us := by simp [fC, hj]
                                                    rwa [this]at hb)
theorem bF {t:TypeId} {cs:List Value} (a:dW P t=some cs)
    (k:∀b c,w.heap.size<=b->b<c.heap.size->Md [] w c->bS c b cs t->wpList P ops Q rest (aQ A D ((d,.pointer (some ⟨b,0,none⟩)) :: l)) c) :
    wpList P ops Q (⟨some d,.alloc t,ty,ps,af,none⟩ :: rest) (aQ A D l) w:=by
  refine fZ q ?_;unfold dW at a;split at a
  · rename_i i hi
    split at a
    · rename_i z hzz
      simp only[Option.some.injEq]at a;have e:(execOp (aQ A D l).eval ⟨some d,.alloc t,ty,ps,af,none⟩).run P w = .ok (.value (.pointer (some ⟨w.heap.size,0,none⟩))) (w.alloc (.cells cs.toArray t)):=(by subst a;simp[execOp,Instr.alloc,zeroValue,typeInfo,hi,hzz,newVar,newRow]);unfold Oper.wp;rw[e];exact k _ _ (Nat.le_refl _) Oy (Md.alloc w _) (bS.new w cs t)
    cases a
  cases a
theorem dR {t:TypeId} {x:Operand} {v:Value} {cs:List Value} (f:ev n l x=some v) (e:v.cells=cs.toArray)
    (k:∀b a,w.heap.size<=b->b<a.heap.size->Md [] w a->bS a b cs t->wpList P ops Q rest (aQ A D ((d,.pointer (some ⟨b,0,none⟩)) :: l)) a) :
    wpList P ops Q (⟨some d,.box t x,ty,ps,af,none⟩ :: rest) (aQ A D l) w:=by
  refine fZ q ?_;have c:(execOp (aQ A D l).eval ⟨some d,.box t x,ty,ps,af,none⟩).run P w = .ok (.value (.pointer (some ⟨w.heap.size,0,none⟩))) (w.alloc (.cells cs.toArray t)):=by simp[execOp,Instr.box,newVar,newRow,bL f,e]
  unfold Oper.wp;rw[c];exact k _ _ (Nat.le_refl _) Oy (Md.alloc w _) (bS.new w cs t)
theorem dM {v:Value} (h:v.oneCell'=true):v.cells = #[v]:=by cases v<;>simp_all [Value.cells,Value.oneCell']
theorem Sl.bA {v:Value} {a:List Value} (h:Sl w v a):v.oneCell'=true:=by obtain⟨b,c,rfl,_⟩:=h;rfl
def sN (cs:List Value):List (Nat × Value)->List Value
  | []=>cs
  | (i,v) :: r=>sN (cs.set i v) r
def pH:List Value->Prop
  | []=>True
  | v :: r=>v.oneCell'=true/\pH r
def yC:List (Nat × Nat)->List Value->List (Nat × Value)
  | (_,o) :: r,v :: vs=>(o,v) :: yC r vs
  | _,_=>[]
theorem wX {place:Nat->Option (Nat × Nat)}:∀(ps:List (Nat × Nat)) (vs:List Value) (cs:List Value),ps.length=vs.length->(∀p∈ps,place p.1=some (p.2,1)/\p.2<cs.length)->pH vs ->
    Instr.fill place cs.toArray ((ps.map (·.1)).zip vs)=some (sN cs (yC ps vs)).toArray
  | [],[],cs,_,_,_=>by simp[Instr.fill,yC,sN]
  | (i,o) :: ps,v :: vs,cs,hl,hp,h1=>by have d:=dM h1.1;obtain⟨a,b⟩:=hp (i,o) Oy;have e:=wX (place:=place) ps vs (cs.set o v) (by simpa using hl) (fun p c=>by have:=hp p (by simp[c]);simpa using this) h1.2;simp only at a b;have hb:¬(cs.length<o+1):=(by omega);simp only[List.map_cons,List.zip_cons_cons,Instr.fill,a,d];simp[yC,sN,e,hb]
  | [],_ :: _,_,hl,_,_=>by simp at hl
  | _ :: _,[],_,hl,_,_=>by simp at hl
def fH (P:Program) (t:TypeId):Option (List (Nat × Nat)) :=
  match P.underlying t with
  | some (.array m e)=>match P.info? e with
    | some ie=>some ((List.range m).map fun i=>(i*ie.size,ie.size))
    | none=>none
  | some (.struct ak)=>ak.toList.mapM (fun f=>(P.info? f.type).map fun i=>(f.offset,i.size))
  | _=>none
def afn (pl:List (Nat × Nat)) (m:Nat):List (Nat × Nat)->Bool
  | []=>true
  | (i,o) :: r=>(match pl[i]? with
    | some (o',s)=>Nat.beq o' o && Nat.beq s 1 && Nat.ble (o+1) m
    | none=>false) && afn pl m r
theorem LA {pl:List (Nat × Nat)} {m:Nat}:∀{ps:List (Nat × Nat)},afn pl m ps=true->∀p∈ps,pl[p.1]? = some (p.2,1)/\p.2<m
  | [],_,p,hp=>by cases hp
  | (i,o) :: r,h,p,hp=>by
    simp only[afn,Bool.and_eq_true]at h
    rcases List.mem_cons.1 hp with rfl|hp'
    · cases hq:pl[i]? with
      | none=>rw[hq]at h;simp at h
      | some q =>
        obtain⟨f,s⟩:=q;rw[hq]at h;simp only[Bool.and_eq_true]at h;obtain⟨⟨⟨c,d⟩,e⟩,_⟩:=h;have a:=Nat.eq_of_beq_eq_true c;have b:=Nat.eq_of_beq_eq_true d;subst a;subst b;exact⟨rfl,lB e⟩
    · exact LA h.2 p hp'
theorem aai {t:TypeId} {zs vs:List Value} {pl ps:List (Nat × Nat)} (c:dW P t=some zs) (b:fH P t=some pl) (i:ps.length=vs.length) (j:afn pl zs.length ps=true) (h1:pH vs) :
    P.built t ((ps.map (·.1)).zip vs)=some (sN zs (yC ps vs)).toArray:=by
  have h:=LA j;unfold dW at c;cases hi:P.info? t with
  | none=>simp[hi]at c
  | some it =>
    cases hzz:it.zero with
    | none=>simp[hi,hzz]at c
    | some z =>
      simp only[hi,hzz,Option.some.injEq]at c;have C:z.cells=zs.toArray:=(by rw[<- c]);unfold fH at b;unfold Program.built;cases hu:P.underlying t with
      | none=>simp[hu]at b
      | some d =>
        cases d <;> try (simp[hu]at b;done)
        case array m e =>
          cases hie:P.info? e with
          | none=>simp[hu,hie]at b
          | some ie =>
            simp only[hu,hie,Option.some.injEq]at b;simp only[hi,hzz,hie,C];refine wX ps vs zs i (fun p f=>?_) h1;obtain⟨a,D⟩:=h p f;rw[<- b,List.getElem?_map]at a;have G:(List.range m)[p.1]? = some p.1:=by
              cases hq:(List.range m)[p.1]? with
              | none=>rw[hq]at a;simp at a
              | some q=>have:=List.getElem?_eq_some_iff.1 hq;obtain⟨H,g⟩:=this;simp at g;rw[<- g]
            rw[G]at a;simp only[Option.map_some,Option.some.injEq,Prod.mk.injEq]at a;exact⟨by rw[a.1,a.2],D⟩
        case struct ak =>
          simp only[hu]at b;simp only[hi,hzz,b,C];refine wX ps vs zs i (fun p f=>?_) h1;obtain⟨a,D⟩:=h p f;exact⟨by simpa using a,D⟩
theorem jG {t:TypeId} {parts:List (Nat × Operand)} {zs vs cs:List Value} {pl ps:List (Nat × Nat)} {d:Option Tmp} {j:String} {g:Option (Nat × Bool)} (i:dW P t=some zs) (f:fH P t=some pl) (h:parts.map (·.1)=ps.map (·.1)) (e:evs n l (parts.map (·.2))=some vs)
    (h1:pH vs) (hl:ps.length=vs.length) (hps:afn pl zs.length ps=true) (hcs:sN zs (yC ps vs)=cs) :
    cg P ⟨d,.build t parts.toArray,ty,j,af,g⟩ (aQ A D l).eval w (.agg cs.toArray):=by
  have b:=mP (A:=A) (D:=D) e;have a:parts.map (fun p=>(p.1,(aQ A D l).eval p.2))=(ps.map (·.1)).zip vs:=by rw[<- h,<- b,List.map_map,List.zip_map'];rfl
  have C:=aai i f hl hps h1;rw[<- a]at C;have c:=run_build (P:=P) w t (parts.map (fun p=>(p.1,(aQ A D l).eval p.2))).toArray _ (by simpa using C);subst hcs;simp only[cg,execOp,List.map_toArray];show Sem.run P (do pure (Next.value (<- Instr.build t (parts.map fun x=>(x.1,(aQ A D l).eval x.2)).toArray))) w=_;simp[c]
variable {C:World->Prop} {QQ:Act->Prop}
theorem BL {id:Nat} {lo:List Oper} {a:Act} (C:World->Prop) (f:P.follows .mixedOrders=true) (d:Region.lexB .any lo.toArray=true) (e:C {w with drawn:=w.drawn+1})
    (h:wpQuiet P lo.toArray C (fun c=>∀b,C b->Q .normal c b) lo a):(Code.region id lo.toArray true).wp P Q a w :=
  wp_region_quiet f d e (by simpa using h)
theorem ah7 {o:Oper} {a:Act} (b:o.guard=none) (h:o.quiet P a C (wpQuiet P ops C QQ rest)):wpQuiet P ops C QQ (o :: rest) a:=by unfold wpQuiet;rw[if_pos (by simp[Region.wanted,b])];exact h
theorem OP {o:Oper} {a:Act} {K:Act->Prop} (v:Value) (c:∀b,C b->cg P o a.eval b v) (h:K (a.put o.dst v)):o.quiet P a C K :=
  ⟨v,fun b d=>by have:=c b d;unfold cg at this;unfold Oper.quietAt;rw[this];exact⟨q,q⟩,h⟩
theorem qz (v:Value) (b:∀a,C a->cg P ⟨some d,op,ty,ps,af,none⟩ (aQ A D l).eval a v) (k:wpQuiet P ops C QQ rest (aQ A D ((d,v) :: l))) :
    wpQuiet P ops C QQ (⟨some d,op,ty,ps,af,none⟩ :: rest) (aQ A D l):=ah7 q (OP v b k)
theorem ZL {a:Act} (h:QQ a):wpQuiet P ops C QQ [] a:=h
variable {QS:Act->Prop}
theorem ahL {o:Oper} {a:Act} (b:o.guard=none) (h:o.still P a w (wpStill P ops w QS rest)):wpStill P ops w QS (o :: rest) a:=by unfold wpStill;rw[if_pos (by simp[Region.wanted,b])];exact h
theorem s (v:Value) (a:cg P ⟨some d,op,ty,ps,af,none⟩ (aQ A D l).eval w v) (k:wpStill P ops w QS rest (aQ A D ((d,v) :: l))) :
    wpStill P ops w QS (⟨some d,op,ty,ps,af,none⟩ :: rest) (aQ A D l):=ahL q (by unfold cg at a;unfold Oper.still;rw[a];exact⟨q,k⟩)
def wT (P:Program) (e:TypeId) (sz by':Nat):Bool :=
  match P.info? e with
  | some i=>match i.zero with
    | some z=>Nat.beq i.size sz && Nat.beq i.bytes by' && Nat.beq z.cells.size sz
    | none=>false
  | none=>false
theorem r8 {e:TypeId} {sz a:Nat} (h:wT P e sz a=true):∃i z,P.info? e=some i/\i.zero=some z/\i.size=sz/\i.bytes=a/\z.cells.size=sz:=by
  unfold wT at h;split at h
  · rename_i i hi
    split at h
    · rename_i z hz
      simp only[Bool.and_eq_true]at h;exact⟨i,z,hi,hz,Nat.eq_of_beq_eq_true h.1.1,Nat.eq_of_beq_eq_true h.1.2,Nat.eq_of_beq_eq_true h.2⟩
    cases h
  cases h
def Own (w:World) (e:TypeId) (sz:Nat) (v:Value) (n:Nat) (xs:List Value):Prop:=w.ownsRow 0 e sz v n xs
theorem Own.nil (w:World) (e:TypeId) (sz:Nat):Own w e sz (.slice none 0 0) 0 []:=World.ownsRow_nil w 0 e sz
theorem Own.md {S:List Nat} {a:World} {e:TypeId} {sz m:Nat} {v:Value} {xs:List Value} (h:Own w e sz v m xs) (c:Md S w a) (d:∀b,ah v=some b->b∉S):Own a e sz v m xs:=by
  refine⟨h.1,?_⟩
  rcases h.2 with F|⟨g,C,D,rfl,E,A,B⟩
  · exact .inl F
  refine .inr ⟨g,C,D,q,E,?_,B⟩;rw[c.block g (Array.getElem?_eq_some_iff.1 A).1 (d g q)];exact A
theorem Own.o {a:World} {e:TypeId} {sz m:Nat} {v:Value} {xs:List Value} (h:Own w e sz v m xs) (b:Md [] w a):Own a e sz v m xs:=h.md b Oy
instance anX {w':World} {e:TypeId} {sz m:Nat} {v:Value} {xs:List Value}:Tp w w' (Own w e sz v m xs) (Own w' e sz v m xs):=⟨fun m h=>h.o m⟩
theorem Own.lt {e:TypeId} {sz m:Nat} {v:Value} {xs:List Value} (h:Own w e sz v m xs):∀b,ah v=some b->b<w.heap.size:=fun b hb=>(World.ownsRow.lt h b (by cases v<;>simp_all [ah,Value.ownBlock];rename_i a _ _;cases a<;>simp_all)).2
theorem Own.ne {e ty':TypeId} {sz m b:Nat} {v:Value} {xs cs:List Value} (h:Own w e sz v m xs) (a:bS w b cs ty') (f:Nat.beq e ty'=false):∀d,ah v=some d->d≠b:=by
  rintro d c rfl
  rcases h.2 with⟨rfl,_⟩|⟨g,B,C,rfl,_,D,_⟩
  · simp[ah]at c
  simp[ah]at c;subst c;unfold bS at a;rw[D]at a;simp at a;rw[a.2]at f;simp at f
theorem vO {t ty' e:TypeId} {sz y:Nat} (o:P.underlying t=some (.slice e)) (K:wT P e sz y=true) (M:0<sz) {v:Value} {m:Nat} {xs:List Value} (h:Own w e sz v m xs)
    {a:Option Addr} {k c:Nat} {news:List Value} (hl:news.length=k*sz) (ha:a=none->k=0/\c=0) (hnews:∀p,a=some p->∀r j,news[r]? = some j->w.cell? (p.add r)=some j) (h1:∀j∈news,j.oneCell'=true)
    (h63:m+k<=maxLen) (hbytes:(m+k)*y<=140737488355328) :
    ∃n s,(Builtin.append_ #[t,t] ty' #[v,.slice a k c]).run P w = .ok n s/\Own s e sz n (m+k) (xs ++ news)/\Md (ah v).toList w s/\(n = .slice none 0 0↔v = .slice none 0 0/\k=0) /\
      (∀b,ah n=some b->ah v=some b\/w.heap.size<=b):=by
  obtain⟨i,z,H,x,Q,l,F⟩:=r8 K;have E:v.ownBlock=ah v:=by rcases h.2 with⟨rfl,_⟩|⟨g,C,D,rfl,_⟩ <;> rfl
  cases a with
  | none =>
    obtain⟨rfl,rfl⟩:=ha q;have:news=[]:=List.eq_nil_of_length_eq_zero (by simpa using hl);subst this;exact⟨v,w,run_append_owned_none w 0 t ty' e i sz o H v m xs h,by simpa using h,Md.refl _ _,by simp,fun b l=>.inl l⟩
  | some p =>
    obtain⟨n,s,u,R,I,A⟩:=run_append_own (P:=P) w 0 t ty' e i z sz y o H x Q l F M v m xs h p k c news hl (hnews p q) h1 h63 hbytes (Nat.zero_le _);refine⟨n,s,u,R,by rw[<- E];exact Md.grown I,A,?_⟩;intro b f;subst Q;subst l
    rcases h.2 with⟨rfl,rfl⟩|⟨g,C,D,rfl,T,V,W,U,J,L⟩
    · by_cases hk:k=0
      · have:=A.2 ⟨q,hk⟩
        rw[this]at f;simp[ah]at f
      · have N:xs=[]:=List.eq_nil_of_length_eq_zero (by simpa using h.1)
        simp only[maxLen]at h63;have d:=run_append_nil (P:=P) w t ty' e i z o H x p k c news hl (hnews p q) Xx Xx (by have l:=hbytes;simp only[Nat.zero_add]at l;omega);rw[u]at d;simp only[Result.ok.injEq]at d;rw[d.1]at f;simp[ah]at f;exact .inr Xx
    · by_cases hroom:m+k<=C
      · have G:m*i.size+news.length<=D.size:=by rw[hl,J,<- Nat.add_mul];exact Nat.mul_le_mul_right _ hroom
        have d:=run_append_room (P:=P) w t ty' e i o H g m C D V p k c news hl (hnews p q) h1 hroom G;rw[u]at d;simp only[Result.ok.injEq]at d;rw[d.1]at f;simp[ah]at f;exact .inl (by simp[ah,f])
      · have B:∀r j,xs[r]? = some j->w.cell? ((⟨g,0,none⟩:Addr).add r)=some j:=World.ownsRow.cells h (g:=g) q
        simp only[maxLen]at h63;have d:=run_append_grow (P:=P) w t ty' e i z o H x ⟨g,0,none⟩ m C xs h.1 B p k c news hl (hnews p q) Xx Xx (growslice_fits Xx hbytes);rw[u]at d;simp only[Result.ok.injEq]at d;rw[d.1]at f;simp[ah]at f;exact .inr Xx
theorem abP {x y:Operand} {t e:TypeId} {j:Nat} {v u:Value} {xs ys:List Value} (B:P.underlying t=some (.slice e)) (z:wT P e 1 j=true) (E:ev n l x=some v) (F:ev n l y=some u)
    (hO:Own w e 1 v xs.length xs) (hS:Sl w u ys) (h1:∀u∈ys,u.oneCell'=true) (h63:xs.length+ys.length<=maxLen) (hbytes:(xs.length+ys.length)*j<=140737488355328)
    (k:∀f g,Own g e 1 f (xs ++ ys).length (xs ++ ys)->Md (ah v).toList w g->(f = .slice none 0 0↔v = .slice none 0 0/\ys.length=0)->(∀b,ah f=some b->ah v=some b\/w.heap.size<=b) ->
      wpList P ops Q rest (aQ A D ((d,f) :: l)) g) :
    wpList P ops Q (⟨some d,.call {callee:=.builtin .append,args:=#[x,y],argTypes:=#[t,t]},ty,ps,af,none⟩ :: rest) (aQ A D l) w:=by
  refine fZ q ?_;obtain⟨a,C,rfl,I,J,i,G⟩:=hS;obtain⟨f,g,s,H,p,r,o⟩:=vO (P:=P) (w:=w) (ty':=ty) B z Xx hO (a:=a) (k:=ys.length) (c:=C) (news:=ys) Oy (fun h=>⟨by have:=i h;omega,i h⟩) G h1 h63 hbytes;have m:(execOp (aQ A D l).eval ⟨some d,.call {callee:=.builtin .append,args:=#[x,y],argTypes:=#[t,t]},ty,ps,af,none⟩).run P w = .ok (.value f) g:=by simp[execOp,resolve,invoke,builtin,bL E,bL F,s]
  unfold Oper.wp;rw[m];exact k f g (by simpa using H) p r o
theorem CJ {x y:Operand} {t f e ty':TypeId} {g o a j:Nat} {u:Value} {cs ys:List Value} (m:P.underlying t=some (.slice e)) (c:gy P e 1=true) (r:ev n l x=some (.slice (some ⟨g,o,none⟩) a j)) (s:ev n l y=some u)
    (hB:bS w g cs ty') (hS:Sl w u ys) (h1:∀u∈ys,u.oneCell'=true) (hfit:o+min ys.length a<=cs.length)
    (k:∀h,Md [g] w h->bS h g (fC cs o (ys.take a)) ty'->wpList P ops Q rest (aQ A D ((d,.int .i64 (min ys.length a:Nat)) :: l)) h) :
    wpList P ops Q (⟨some d,.call {callee:=.builtin .copy,args:=#[x,y],argTypes:=#[t,f]},ty,ps,af,none⟩ :: rest) (aQ A D l) w:=by
  refine fZ q ?_;obtain⟨J,v,rfl,L,M,B,E⟩:=hS;unfold gy at c;split at c
  case h_2=>cases c
  rename_i inf hinf;have H:inf.size=1:=by simpa using c
  have i:(ys.take a).length=min ys.length a:=by simp[Nat.min_comm]
  have C:(execOp (aQ A D l).eval ⟨some d,.call {callee:=.builtin .copy,args:=#[x,y],argTypes:=#[t,f]},ty,ps,af,none⟩).run P w =
      .ok (.value (.int .i64 (min ys.length a:Nat))) (w.setRow g (fC cs o (ys.take a)).toArray):=by
    cases J with
    | none =>
      have R:=B q;have z:ys=[]:=List.eq_nil_of_length_eq_zero Xx;subst z;have G:fC cs o []=cs:=(by simp[fC]);simp only[List.take_nil,G];have:w.setRow g cs.toArray=w:=setRow_self w g _ ty' _ hB;rw[this];simp[execOp,resolve,invoke,builtin,bL r,bL s,Builtin.copy_,run_underlying m,Builtin.lenOf,Builtin.firstCells,eF hinf,storeCells,goInt]
    | some p =>
      have F:=run_copy_row (P:=P) w t f ty e g o a j p ys.length v cs.toArray ty' (ys.take a) m (by simp[hinf,H]) hB i
        (fun K u b=>E p q K u (by rw[List.getElem?_take]at b;split at b;exact b;cases b)) (by rw[i];simpa using hfit) (fun u I=>h1 u (List.mem_of_mem_take I))
      simp[execOp,resolve,invoke,builtin,bL r,bL s,F,fC,goInt,Nat.min_comm]
  unfold Oper.wp;rw[C];exact k _ (Md.setRow w g _) hB.setRow
theorem dA {x:Operand} {k:IntKind} {a b:Int} (h:ev n l x=some (.int k a)) (e:a=b):ev n l x=some (.int k b):=by rw[h,e]
theorem AU {x:Operand} {a b:Bool} (h:ev n l x=some (.bool a)) (e:a=b):ev n l x=some (.bool b):=by rw[h,e]
theorem BF {k:IntKind} {a b:Int} (e:a=b):Ending.returned (.int k a) = .returned (.int k b):=by rw[e]
theorem oH {a b:Bool} (e:a=b):Ending.returned (.bool a) = .returned (.bool b):=by rw[e]
theorem anK {a b:Value} (e:a=b):Ending.returned a = .returned b:=by rw[e]
theorem By.dD {v:Value} {a:Ly} (h:By w v a):a.length<=9223372036854775807:=by have:=h.FH;simp only[maxLen]at this;omega
theorem Own.vg {a:World} {e ty':TypeId} {sz m b:Nat} {v:Value} {xs cs:List Value} (h:Own w e sz v m xs) (d:bS w b cs ty') (i:Nat.beq e ty'=false) (g:Md [b] w a):Own a e sz v m xs :=
  h.md g fun c f=>by simpa using h.ne d i c f
theorem bS.mdO {c:World} {e ty':TypeId} {sz m b:Nat} {v:Value} {xs cs:List Value} (a:bS w b cs ty') (h:Own w e sz v m xs) (f:Nat.beq e ty'=false) (d:Md (ah v).toList w c):bS c b cs ty' :=
  a.md d fun hb=>by
    cases hv:ah v with
    | none=>rw[hv]at hb;simp at hb
    | some b'=>rw[hv]at hb;simp at hb;exact h.ne a f b' hv hb.symm
theorem Md.cT {a c:World} {S:List Nat} {v:Value} (d:Md S a w) (e:Md (ah v).toList w c) (f:∀b,ah v=some b->b∈S\/a.heap.size<=b):Md S a c :=
  d.step e fun i hi=>by
    cases h:ah v with
    | none=>rw[h]at hi;simp at hi
    | some b=>rw[h]at hi;simp at hi;subst hi;exact f i h
theorem zD (c:Ly):∀a∈c.map b8,a.oneCell'=true:=by intro a b;obtain⟨x,_,rfl⟩:=List.mem_map.1 b;rfl
theorem ajc {e:Type} {b c:Nat} {o:Nat} {len cap:Nat} {d:List e} (h:b≠c):Apart (.slice (some ⟨b,o,none⟩) len cap) d [c]:=by intro f a _;simp[ah]at a;subst a;simpa using h
theorem Qs {v:Value} {a:Ly} {b:Nat} (h:By w v a) (hb:w.heap.size<=b):Apart v a [b]:=Apart.ahq h (by intro i hi;simp at hi;subst hi;exact hb)
theorem XE {x y:Operand} {t e:TypeId} {v u:Value} {xs ys:Ly} (m:P.underlying t=some (.slice e)) (j:wT P e 1 1=true) (o:ev n l x=some v) (p:ev n l y=some u)
    (hO:Own w e 1 v xs.length (xs.map b8)) (hS:By w u ys) (hbytes:xs.length+ys.length<=140737488355328)
    (k:∀a c,Own c e 1 a (xs ++ ys).length ((xs ++ ys).map b8)->Md (ah v).toList w c->(a = .slice none 0 0↔v = .slice none 0 0/\ys.length=0)->(∀b,ah a=some b->ah v=some b\/w.heap.size<=b) ->
      wpList P ops Q rest (aQ A D ((d,a) :: l)) c) :
    wpList P ops Q (⟨some d,.call {callee:=.builtin .append,args:=#[x,y],argTypes:=#[t,t]},ty,ps,af,none⟩ :: rest) (aQ A D l) w :=
  abP (xs:=xs.map b8) (ys:=ys.map b8) m j o p (by simpa using hO) hS (zD _) (by simp[maxLen];omega) Ym fun a c f g h i=>k a c (by simpa using f) g (by simpa using h) i
theorem Own.amI {e:TypeId} {m:Nat} {v:Value} {xs:List Value} (h:Own w e 1 v m xs):Own w e 1 (oK v 0 0) 0 []:=by
  rcases h.2 with⟨rfl,rfl⟩|⟨g,A,B,rfl,C,E,G,D,F,H⟩
  · exact Own.nil w e 1
  refine⟨by simp,.inr ⟨g,A,B,?_,C,E,Nat.zero_le _,D,F,by simp⟩⟩;simp[oK,Addr.add]
theorem UM {v:Value} {b:Nat} (h:ah (oK v 0 0)=some b):ah v=some b:=HU h
theorem ado {place:Nat->Option (Nat × Nat)} {ps:List (Nat × Nat)} {vs cs:List Value} (a:ps.length=vs.length) (b:∀p∈ps,place p.1=some (p.2,1)/\p.2<cs.length) (h1:pH vs) :
    Instr.fill place cs.toArray ((ps.map (·.1)).zip vs)=some (sN cs (yC ps vs)).toArray:=wX ps vs cs a b h1
def IJ:Nat->Nat->List (Nat × Nat)
  | _,0=>[]
  | i,k+1=>(i,i) :: IJ (i+1) k
theorem adI (i k:Nat):(IJ i k).length=k:=by induction k generalizing i with|zero=>rfl|succ k ih=>simp[IJ,ih]
theorem SB {p:Nat × Nat}:∀{i k:Nat},p∈IJ i k->p.1=p.2/\p.2<i+k
  | _,0,h=>by cases h
  | i,k+1,h=>by
    rcases List.mem_cons.1 h with rfl|h
    · exact⟨q,by simp⟩
    · have:=SB h;omega
theorem ZT:∀(vs:List Value) (pre cs:List Value),cs.length=vs.length->sN (pre ++ cs) (yC (IJ pre.length vs.length) vs)=pre ++ vs
  | [],pre,cs,h=>by have:cs=[]:=List.eq_nil_of_length_eq_zero (by simpa using h);subst this;rfl
  | v :: vs,pre,c :: cs,h=>by simp only[List.length_cons,IJ,yC,sN];have e:(pre ++ c :: cs).set pre.length v=(pre ++ [v]) ++ cs:=(by simp);rw[e];have:=ZT vs (pre ++ [v]) cs (by simpa using h);simp only[List.length_append,List.length_cons,List.length_nil,Nat.zero_add]at this;rw[this];simp
  | _ :: _,_,[],h=>by simp at h
theorem rj {t e:TypeId} {m y:Nat} {parts:List (Nat × Operand)} {vs:List Value} (I:P.underlying t=some (.slice e)) (B:wT P e 1 y=true) (L:m<=16777216) (F:parts.map (·.1)=(IJ 0 m).map (·.1)) (E:evs n l (parts.map (·.2))=some vs)
    (hlen:vs.length=m) (h1:pH vs) (h0:m≠0)
    (k:∀b c,w.heap.size<=b->b<c.heap.size->Md [] w c->bS c b vs e->wpList P ops Q rest (aQ A D ((d,.slice (some ⟨b,0,none⟩) m m) :: l)) c) :
    wpList P ops Q (⟨some d,.buildSlice t m parts.toArray,ty,ps,af,none⟩ :: rest) (aQ A D l) w:=by
  refine fZ rfl ?_;obtain⟨i,z,h,V,v,W,f⟩:=r8 B;have R:=mP (A:=A) (D:=D) E;have G:parts.map (fun p=>(p.1,(aQ A D l).eval p.2))=((IJ 0 m).map (·.1)).zip vs:=by rw[<- F,<- R,List.map_map,List.zip_map'];rfl
  have C:∀cs:List Value,cs.length=m->Instr.fill (fun i=>some (i*1,1)) cs.toArray (((IJ 0 m).map (·.1)).zip vs)=some vs.toArray:=by intro cs J;have:=ado (place:=fun i=>some (i*1,1)) (ps:=IJ 0 m) (vs:=vs) (cs:=cs) (by rw[adI,hlen]) (fun p T=>by have:=SB T;simp only[Nat.mul_one];exact⟨by rw[this.1],by omega⟩) h1;have g:=ZT vs [] cs Xx;simp only[List.nil_append,List.length_nil]at g;rw[hlen]at g;rw[this,g]
  have j:(execOp (aQ A D l).eval ⟨some d,.buildSlice t m parts.toArray,ty,ps,af,none⟩).run P w = .ok (.value (.slice (some ⟨w.heap.size,0,none⟩) m m)) (w.alloc (.cells vs.toArray e)):=by
    have r:∃a,z.cells = #[a]:=by
      cases hzc:z.cells with
      | mk q=>rw[hzc]at f;simp at f;match q,f with|[a],_=>exact⟨a,rfl⟩
    obtain⟨a,s⟩:=r;have H:(if m=0 then(#[]:Array Value)else #[a]).size<=1:=(by split <;> simp);have K:¬(16777216<m):=(by omega);show Sem.run P (do pure (Next.value (<- Instr.buildSlice t m ((parts.toArray).map fun x=>(x.1,(aQ A D l).eval x.2))))) w=_;rw[List.map_toArray,G];have o:((List.range m).map fun x=>(#[a]:Array Value)[x%1]!).length=m:=(by simp);have:=C _ o;simp only[Nat.mul_one]at this;simp only[Instr.buildSlice,Sem.run_bind,run_underlying I,Result.andThen_ok,eF h,v,Nat.mul_one];simp[show ¬(16777216<m)by omega,h0,zeroValue,typeInfo,h,V,s,newRow];have u:Array.map (fun x=>([a]:List Value)[x%1]?.getD default) (Array.range m)=((List.range m).map fun x=>(#[a]:Array Value)[x%1]!).toArray:=(by apply Array.ext';simp);rw[u,this];simp
  unfold Oper.wp;rw[j];exact k _ _ (Nat.le_refl _) Oy (Md.alloc w _) (bS.new w vs e)
theorem ah9 {x:Operand} {t u e:TypeId} {p:Addr} {g:Option (Nat × Bool)} (f:ev n l x=some (.pointer (some p))) (a:P.underlying t=some (.pointer e)) :
    cg P ⟨some d,.binOp .eql t x (.const (.pointer none)) u,ty,ps,af,g⟩ (aQ A D l).eval w (.bool false):=by
  have c:P.underlying t=some (.pointer (P.pointee t)):=by rw[a];simp[Program.pointee,a]
  have h:=run_eql_pointer_nil (P:=P) w t (some p) c;have b:(aQ A D l).eval (.const (.pointer none)) = .pointer none:=rfl;have C:(eqGuard .eql t x (.const (.pointer none)) (.pointer (some p)) (.pointer none)).run P w = .ok () w:=by unfold eqGuard;simp
  simp[cg,execOp,bL f,b,C,h]
end
section
variable {P:Program} {ops:Array Oper} {md:Region.Mode} {C:World->Prop} {Q:Exit->Act->World->Prop}
def QF:Exit->Act->World->Prop:=fun _ _ _=>False
def opC (P:Program) (ops:Array Oper) (C:World->Prop) (i:Nat) (K:Act->World->Prop) (a:Act) (w:World):Prop :=
  match ops[i]? with
  | none=>K a w
  | some o=>if Region.wanted o (yielded ops a.tmps)then o.wp P a w (fun a' w'=>C w'/\K a' w') QF else K (a.put o.dst undef) w
def lO (P:Program) (md:Region.Mode) (ops:Array Oper) (C:World->Prop) (Q:Act->World->Prop):Nat->Array Bool->Act->World->Prop
  | 0,listed,a,w=>Region.ready md ops listed=[]/\Q a w
  | f+1,listed,a,w=>(Region.ready md ops listed=[]->Q a w)/\∀i∈Region.ready md ops listed,opC P ops C i (lO P md ops C Q f (listed.setIfInBounds i true)) a w
theorem XR {o:Oper} {a:Act} {w:World} {K g:Act->World->Prop} (h:∀a w,K a w->g a w) (b:o.wp P a w K QF):o.wp P a w g Q:=by
  unfold Oper.wp at *;generalize (execOp a.eval o).run P w=r at *;cases r with
  | ok x w' =>
    cases x <;> simp only[Oper.upon]at b ⊢
    case value v=>exact h _ _ b
    case skip=>exact h _ _ b
    case defer d=>exact h _ _ b
    case enter f args =>
      refine b.mono fun j i e=>?_;cases j with
      | returned v=>exact h _ _ e
      | panicked c=>exact e.elim
      | outgrown=>obtain⟨_,_,e⟩:=e;exact e.elim
    case row r args=>exact b.mono fun v i e=>h _ _ e
  | halt x w' =>
    cases x <;> simp only[Oper.upon]at b ⊢
    exact b.elim
theorem vu {o:Oper} {a:Act} {w:World} {K b:Act->World->Prop} (h:∀a w,K a w->b a w) (c:o.wp P a w K QF):o.wp P a w b QF:=XR (Q:=QF) h c
theorem qh {QN:Act->World->Prop} (c:∀a w,QN a w->Q .normal a w):∀(f:Nat) (listed:Array Bool) (a:Act) (w:World),lO P md ops C QN f listed a w->wpAny P md ops Q f listed a w
  | 0,_,_,_,h=>⟨h.1,c _ _ h.2⟩
  | f+1,listed,a,w,h=>⟨fun e=>c _ _ (h.1 e),fun i hi=>by
      have b:=h.2 i hi;unfold opC at b;unfold wpOp;split
      · rename_i ho;rw[ho]at b;exact qh c f _ a w b
      · rename_i o ho
        rw[ho]at b;simp only at b;split
        · rename_i hw;rw[if_pos hw]at b;exact .inl (XR (fun d j g=>qh c f _ d j g.2) b)
        · rename_i hw;rw[if_neg hw]at b;exact qh c f _ _ w b⟩
def Qv (P:Program) (ops:Array Oper) (C:World->Prop) (o:Oper) (v:Value) (a:Act):Prop :=
  (Region.wanted o (yielded ops a.tmps)=true/\∀w,C w->(execOp a.eval o).run P w = .ok (.value v) w)\/(Region.wanted o (yielded ops a.tmps)=false/\v=undef)
theorem Qv.opC {i:Nat} {o:Oper} {v:Value} {a:Act} {w:World} {K:Act->World->Prop} (hi:ops[i]? = some o) (b:C w) (c:Qv P ops C o v a) (h:K (a.put o.dst v) w):Wk.opC P ops C i K a w:=by
  unfold Wk.opC;simp only[hi]
  rcases c with⟨A,B⟩|⟨A,rfl⟩
  · rw[if_pos A];unfold Oper.wp;rw[B w b];exact⟨b,h⟩
  rw[if_neg (by rw[A];simp)];exact h
theorem Qv.keep {c:Oper} {v:Value} {a:Act} {d:Option Tmp} {u:Value} (g:∀f b,c.op≠.select f b) (h:∀e,d=some e->e∉c.looksAt ops) (i:Qv P ops C c v a):Qv P ops C c v (a.put d u):=by unfold Qv at *;rw[execOp_put c g a d u h,wanted_put c a d u h];exact i
theorem ZB {j:Nat} {i k:Oper} {v:Value} {a:Act} {w:World} {K o:Act->World->Prop} (t:ops[j]? = some k) (s:i.apart ops k=true) (u:∀p b,k.op≠.select p b)
    (hK:∀(b:Act) e w',b.tmps=a.tmps->C w'->K ((b.put k.dst e).put i.dst v) w'->o (b.put k.dst e) w') (hw:C w)
    (h:opC P ops C j K (a.put i.dst v) w):opC P ops C j o a w:=by
  obtain⟨n,D,y⟩:=Oper.apart_spec s;unfold opC at *;simp only[t]at *;rw[wanted_put k a i.dst v n]at h;split
  · rename_i hwt
    rw[if_pos hwt]at h;unfold Oper.wp at *;rw[execOp_put k u a i.dst v n]at h;generalize hr:(execOp a.eval k).run P w=r at *;cases r with
    | ok x w' =>
      cases x <;> simp only[Oper.upon]at h ⊢
      case value e=>exact⟨h.1,hK a e w' q h.1 (by rw[<- Act.put_comm a v e D];exact h.2)⟩
      case skip=>exact⟨h.1,hK a undef w' q h.1 (by rw[<- Act.put_comm a v undef D];exact h.2)⟩
      case defer d =>
        have m:({a.put i.dst v with defers:=d :: (a.put i.dst v).defers}:Act)=({a with defers:=d :: a.defers}:Act).put i.dst v:=(by cases i.dst <;> rfl);refine⟨h.1,hK {a with defers:=d :: a.defers} undef w' q h.1 ?_⟩;rw[<- Act.put_comm _ v undef D,<- m];exact h.2
      case enter f args =>
        refine h.mono fun m l g=>?_;cases m with
        | returned e=>exact⟨g.1,hK a e l q g.1 (by rw[<- Act.put_comm a v e D];exact g.2)⟩
        | panicked c=>exact g
        | outgrown=>exact g
      case row r args=>exact h.mono fun e l g=>⟨g.1,hK a e l q g.1 (by rw[<- Act.put_comm a v e D];exact g.2)⟩
    | halt x w' =>
      cases x <;> simp only[Oper.upon]at h ⊢
      exact h
  rename_i hwt;rw[if_neg hwt]at h;exact hK a undef w q hw (by rw[<- Act.put_comm a v undef D];exact h)
theorem Qv.same {d:Oper} {v:Value} {a b:Act} (c:b.tmps=a.tmps) (f:Qv P ops C d v a):Qv P ops C d v b:=by
  have e:b.eval=a.eval:=by funext x;cases x <;> simp[Act.eval,c]
  unfold Qv at *;rw[e,c];exact f
theorem sP {QN:Act->World->Prop} {i:Nat} {l:Oper} {v:Value} (hi:ops[i]? = some l) (A:∀(j:Nat) (o:Oper) p b,ops[j]? = some o->o.op≠.select p b) :
    ∀(f:Nat) (listed:Array Bool) (a:Act) (w:World),
      (∀j g,ops[j]? = some g->j≠i->listed.getD j true=false->(∀d∈g.after,Region.binds md d=true->d.on≠i)->l.apart ops g=true) ->
      i∈Region.ready md ops listed->C w->Qv P ops C l v a ->
      lO P md ops C QN f (listed.setIfInBounds i true) (a.put l.dst v) w->lO P md ops C QN (f+1) listed a w:=by
  intro f
  induction f with
  | zero =>
    intro listed a w _ e q s H;refine⟨fun h=>(by rw[h]at e;cases e),fun j r=>?_⟩
    by_cases hji:j=i
    · subst hji;exact s.opC hi q H
    · have:=ready_mono r hji
      rw[H.1]at this;cases this
  | succ f ih =>
    intro listed a w u e q s H;refine⟨fun h=>(by rw[h]at e;cases e),fun j r=>?_⟩
    by_cases hji:j=i
    · subst hji;exact s.opC hi q H
    · have F:=H.2 j (ready_mono r hji)
      obtain⟨x,g,D,G⟩:=mem_ready.1 r;have B:∀d∈g.after,Region.binds md d=true->d.on≠i:=fun d c t T=>by
        have m:=G d c t;have W:=(mem_ready.1 e).1;rw[T]at m
        rcases Nat.lt_or_ge i listed.size with Q|Q
        · simp[Q]at W m;rw[W]at m;cases m
        · simp[Array.getElem?_eq_none Q]at m
      have y:=u j g D hji x B;obtain⟨_,_,I⟩:=Oper.apart_spec y;have L:∀k n,ops[k]? = some n->k≠i->(listed.setIfInBounds j true).getD k true=false ->
          (∀d∈n.after,Region.binds md d=true->d.on≠i)->l.apart ops n=true:=fun k n hk E z V=>by
        refine u k n hk E ?_ V
        by_cases hjk:j=k
        · subst hjk;exact x
        · rw[getD_set_ne true hjk]at z;exact z
      refine ZB D y (fun p b=>A j g p b D) (fun b M K t R J=>?_) q F;refine ih (listed.setIfInBounds j true) _ K L (ready_mono e (Ne.symm hji)) R ((s.same t).keep (fun p b=>A i l p b hi) I) ?_;rw[Array.setIfInBounds_comm _ _ hji];exact J
def ul (l:List Oper):List (Nat × Bool)->List (Bool × Oper)
  | []=>[]
  | (i,q) :: r=>match l[i]? with
    | some o=>(q,o) :: ul l r
    | none=>ul l r
def fD (P:Program) (ops:Array Oper) (C:World->Prop) (QN:Act->World->Prop):List (Bool × Oper)->Act->World->Prop
  | [],a,w=>QN a w
  | (true,o) :: r,a,w=>if Region.wanted o (yielded ops a.tmps)then ∃v,(∀w',C w'->(execOp a.eval o).run P w' = .ok (.value v) w')/\fD P ops C QN r (a.put o.dst v) w else fD P ops C QN r (a.put o.dst undef) w
  | (false,o) :: r,a,w=>if Region.wanted o (yielded ops a.tmps)then o.wp P a w (fun a' w'=>C w'/\∃C':World->Prop,C' w'/\(∀x,C' x->C x)/\fD P ops C' QN r a' w') QF else fD P ops C QN r (a.put o.dst undef) w
theorem qR {d:World->Prop} {QN:Act->World->Prop} (c:∀x,d x->C x):∀(f:Nat) (listed:Array Bool) (a:Act) (w:World),lO P md ops d QN f listed a w->lO P md ops C QN f listed a w
  | 0,_,_,_,h=>h
  | f+1,listed,a,w,h=>⟨h.1,fun i hi=>by
      have b:=h.2 i hi;unfold opC at *;split
      · rename_i ho;rw[ho]at b;exact qR c f _ a w b
      · rename_i o ho
        rw[ho]at b;simp only at b;split
        · rename_i hw;rw[if_pos hw]at b;exact vu (fun g j e=>⟨c _ e.1,qR c f _ g j e.2⟩) b
        · rename_i hw;rw[if_neg hw]at b;exact qR c f _ _ w b⟩
def aeh (md:Region.Mode) (ops:Array Oper):List (Nat × Bool)->Array Bool->Bool
  | [],listed=>(Region.ready md ops listed).isEmpty
  | (i,q) :: r,listed=>(ops[i]?).isSome && (if q then(Region.ready md ops listed).contains i && Region.free md ops listed i else decide (Region.ready md ops listed=[i])) && aeh md ops r (listed.setIfInBounds i true)
theorem me {QN:Act->World->Prop} (d:Region.noSelect ops=true):∀{C:World->Prop} (f:List (Nat × Bool)) (listed:Array Bool) (a:Act) (w:World),C w->aeh md ops f listed=true ->
    fD P ops C QN (ul ops.toList f) a w->lO P md ops C QN f.length listed a w
  | _,[],listed,a,w,_,hB,h=>⟨by simpa [aeh]using hB,h⟩
  | _,(i,q) :: r,listed,a,w,hC,hB,h=>by
    simp only[aeh,Bool.and_eq_true]at hB;obtain⟨⟨p,b⟩,e⟩:=hB;obtain⟨o,c⟩:=Option.isSome_iff_exists.1 p;have s:ops.toList[i]? = some o:=(by simpa using c);simp only[ul,s]at h;cases q with
    | true =>
      simp only[if_true,Bool.and_eq_true]at b;simp only[fD]at h;have j:i∈Region.ready md ops listed:=(by simpa using b.1);split at h
      · rename_i hw
        obtain⟨v,n,hk⟩:=h;exact sP c (Region.noSelect_spec d) r.length listed a w (Region.free_spec c b.2) j hC (.inl ⟨hw,n⟩) (me d r _ _ _ hC e hk)
      · rename_i hw
        exact sP c (Region.noSelect_spec d) r.length listed a w (Region.free_spec c b.2) j hC (.inr ⟨by simpa using hw,rfl⟩) (me d r _ _ _ hC e h)
    | false =>
      simp only[Bool.false_eq_true,if_false,decide_eq_true_eq]at b;simp only[fD]at h;refine⟨fun g=>(by rw[b]at g;cases g),fun t D=>?_⟩;rw[b]at D;have l:t=i:=(by simpa using D);subst l;unfold opC;simp only[c];split at h
      · rename_i hw
        rw[if_pos hw];exact vu (fun x y k=>⟨k.1,by obtain⟨u,G,H,m⟩:=k.2;exact qR H _ _ _ _ (me d r _ _ _ G e m)⟩) h
      · rename_i hw
        rw[if_neg hw];exact me d r _ _ _ hC e h
def aiL (md:Region.Mode) (ops:Array Oper) (ord:List (Nat × Bool)):Bool:=Region.noSelect ops && decide (ord.length=ops.size) && aeh md ops ord (Array.replicate ops.size false)
theorem DK {id:Nat} {lo:List Oper} {a:Act} {w:World} (b:List (Nat × Bool)) (C:World->Prop) (j:P.follows .mixedOrders=true) (d:aiL .any lo.toArray b=true)
    (h:∀c,Md [] w c->C c/\fD P lo.toArray C (fun a w=>Q .normal a w) (ul lo b) a c):(Code.region id lo.toArray true).wp P Q a w:=by
  simp only[aiL,Bool.and_eq_true,decide_eq_true_eq]at d;obtain⟨⟨e,f⟩,D⟩:=d;obtain⟨g,hk⟩:=h _ (Md.drew w);refine wp_region_any j (qh (C:=C) (QN:=fun a w=>Q .normal a w) (fun _ _ i=>i) _ _ _ _ ?_);have:=me (md:=.any) (C:=C) (QN:=fun a w=>Q .normal a w) e b _ a _ g D hk
  rwa [f]at this
variable {n:Nat} {A:Fr n} {D:List Deferred} {l:List (Nat × Value)} {w:World} {QN:Act->World->Prop} {rest:List (Bool × Oper)}
variable {d:Tmp} {op:Op} {ty:TypeId} {ps:String} {af:Array Edge}
theorem m (v:Value) (b:∀a,C a->cg P ⟨some d,op,ty,ps,af,none⟩ (aQ A D l).eval a v) (k:fD P ops C QN rest (aQ A D ((d,v) :: l)) w) :
    fD P ops C QN ((true,⟨some d,op,ty,ps,af,none⟩) :: rest) (aQ A D l) w:=by
  unfold fD;rw[if_pos (by simp[Region.wanted])];exact⟨v,b,k⟩
theorem qX {j t:Nat} {o:Oper} {b a:Bool} (v:Value) (e:ops[j]? = some o) (f:o.dst=some t) (g:ev n l (.tmp t)=some (.bool b)) (hb:b=a)
    (hr:∀c,C c->cg P ⟨some d,op,ty,ps,af,some (j,a)⟩ (aQ A D l).eval c v) (k:fD P ops C QN rest (aQ A D ((d,v) :: l)) w) :
    fD P ops C QN ((true,⟨some d,op,ty,ps,af,some (j,a)⟩) :: rest) (aQ A D l) w:=by
  unfold fD;rw[if_pos (by simp[Region.wanted,nL e f g,hb])];exact⟨v,hr,k⟩
theorem eI {q:Bool} {j t:Nat} {o:Oper} {b a:Bool} (c:ops[j]? = some o) (e:o.dst=some t) (f:ev n l (.tmp t)=some (.bool b)) (hb:b = !a)
    (k:fD P ops C QN rest (aQ A D ((d,undef) :: l)) w) :
    fD P ops C QN ((q,⟨some d,op,ty,ps,af,some (j,a)⟩) :: rest) (aQ A D l) w:=by
  cases q <;> unfold fD <;> rw[if_neg (by subst hb;simp[Region.wanted,nL c e f])] <;> exact k
theorem OE {t:Nat} {b:Bool} {a:List (Bool × Oper)} (_:ev n l (.tmp t)=some (.bool b)) (h1:b=true->fD P ops C QN a (aQ A D l) w) (c:b=false->fD P ops C QN a (aQ A D l) w):fD P ops C QN a (aQ A D l) w:=by cases b<;>simp_all
theorem dH {a:Act} (h:QN a w):fD P ops C QN [] a w:=h
theorem m_c {o:Oper} {a:Act} (h:wpList P ops (fun i l e=>i = .normal/\C e/\∃g:World->Prop,g e/\(∀x,g x->C x)/\fD P ops g QN rest l e) [o] a w) (j:Region.wanted o (yielded ops a.tmps)=true):fD P ops C QN ((false,o) :: rest) a w:=by
  unfold fD;rw[if_pos j];unfold wpList at h;rw[if_pos j]at h
  rcases h with h|h
  · unfold Oper.wp at *
    generalize (execOp a.eval o).run P w=r at *;cases r with
    | ok x e =>
      cases x <;> simp only[Oper.upon]at h ⊢
      case value v=>exact(show _/\_ from h).2
      case skip=>exact(show _/\_ from h).2
      case defer d=>exact(show _/\_ from h).2
      case enter f args =>
        refine h.mono fun i k b=>?_;cases i with
        | returned v=>exact(show _/\_ from b).2
        | panicked c=>exact absurd b.1 Oy
        | outgrown=>obtain⟨_,_,b⟩:=b;exact absurd b.1 Oy
      case row r args=>exact h.mono fun v k b=>(show _/\_ from b).2
    | halt x e =>
      cases x <;> simp only[Oper.upon]at h ⊢
      exact absurd h.1 Oy
  obtain⟨_,_,_,b⟩:=h;exact absurd b.1 Oy
theorem alV {i j:Exit->Act->World->Prop} (b:∀g a w,i g a w->j g a w) {a:Act} {o:Oper} (h:wpList P ops i [o] a w):wpList P ops j [o] a w:=by
  unfold wpList at *;split
  · rename_i hw
    rw[if_pos hw]at h
    rcases h with h|h
    · refine .inl ?_
      unfold Oper.wp at *;generalize (execOp a.eval o).run P w=r at *;cases r with
      | ok x w' =>
        cases x <;> simp only[Oper.upon]at h ⊢
        case value v=>exact b _ _ _ h
        case skip=>exact b _ _ _ h
        case defer d=>exact b _ _ _ h
        case enter f args =>
          refine h.mono fun g k e=>?_;cases g with
          | returned v=>exact b _ _ _ e
          | panicked c=>exact b _ _ _ e
          | outgrown=>obtain⟨C,D,e⟩:=e;exact⟨C,D,b _ _ _ e⟩
        case row r args=>exact h.mono fun v k e=>b _ _ _ e
      | halt x w' =>
        cases x <;> simp only[Oper.upon]at h ⊢
        exact b _ _ _ h
    obtain⟨C,D,l,e⟩:=h;exact .inr ⟨C,D,l,b _ _ _ e⟩
  rename_i hw;rw[if_neg hw]at h;exact b _ _ _ h
theorem mM {o:Oper} {a:Act} (h:wpList P ops (fun e d c=>e = .normal/\C c/\fD P ops C QN rest d c) [o] a w) (f:Region.wanted o (yielded ops a.tmps)=true):fD P ops C QN ((false,o) :: rest) a w :=
  m_c (alV (fun _ _ _ b=>⟨b.1,b.2.1,C,b.2.1,fun _ h=>h,b.2.2⟩) h) f
theorem ama {j t:Nat} {o a:Oper} {b d:Bool} (i:ops[j]? = some a) (k:a.dst=some t) (m:ev n l (.tmp t)=some (.bool b)) (hb:b=d) (g:o.guard=some (j,d))
    (h:wpList P ops (fun f e c=>f = .normal/\C c/\fD P ops C QN rest e c) [o] (aQ A D l) w):fD P ops C QN ((false,o) :: rest) (aQ A D l) w :=
  mM h (by simp[Region.wanted,g,nL i k m,hb])
end
def str (s:Ly):Value:=.string ⟨s.toArray⟩
section
variable {P:Program} {n:Nat} {A:Fr n} {D:List Deferred} {l:List (Nat × Value)} {w:World}
variable {d:Option Tmp} {ty:TypeId} {ps:String} {af:Array Edge} {g:Option (Nat × Bool)}
theorem sM {x:Operand} {s:Ly} {t:TypeId} (c:ev n l x=some (str s)) (b:P.underlying t=some .string) :
    cg P ⟨d,.call {callee:=.builtin .len,args:=#[x],argTypes:=#[t]},ty,ps,af,g⟩ (aQ A D l).eval w (.int .i64 s.length):=by
  have a:(⟨s.toArray⟩:ByteArray).size=s.length:=by simp[ByteArray.size]
  simp[cg,execOp,bL c,resolve,invoke,builtin,Builtin.len_,run_underlying b,goInt,str,a]
theorem ake {x y:Operand} {s:Ly} {t:TypeId} {k:IntKind} {i:Int} (c:ev n l x=some (str s)) (e:ev n l y=some (.int k i)) (b:P.underlying t=some .string) (hi:0<=i/\i<s.length) :
    cg P ⟨d,.index t x y,ty,ps,af,g⟩ (aQ A D l).eval w (b8 (s.getD i.toNat 0)):=by
  have h:=run_index_string (P:=P) w t ⟨s.toArray⟩ k i b;have a:(⟨s.toArray⟩:ByteArray).size=s.length:=by simp[ByteArray.size]
  rw[dif_pos (by rw[a];exact hi)]at h;have C:((⟨s.toArray⟩:ByteArray)[i.toNat]'(by rw[a];omega))=s.getD i.toNat 0:=by show s.toArray[i.toNat]'_=_;have:i.toNat<s.length:=(by omega);simp[List.getD,this]
  rw[C]at h;simp[cg,execOp,bL c,bL e,str,b8,h]
theorem yg {x y:Operand} {s:Ly} {t:TypeId} {k:IntKind} {i:Nat} (b:ev n l x=some (str s)) (c:ev n l y=some (.int k (i:Int))) (a:P.underlying t=some .string) (hi:i<s.length) :
    cg P ⟨d,.index t x y,ty,ps,af,g⟩ (aQ A D l).eval w (b8 (s.getD i 0)):=by
  have:=ake (P:=P) (A:=A) (D:=D) (w:=w) (d:=d) (ty:=ty) (ps:=ps) (af:=af) (g:=g) b c a Xx;simpa using this
theorem yj {c:BinOp} {x y:Operand} {t u:TypeId} {a b:Ly} {r:Value} (f:ev n l x=some (str a)) (h:ev n l y=some (str b)) (e:∀v,(eqGuard c t x y (str a) v).run P w = .ok () w)
    (hr:(binOp c t (str a) (str b)).run P w = .ok r w):cg P ⟨d,.binOp c t x y u,ty,ps,af,g⟩ (aQ A D l).eval w r:=by
  simp[cg,execOp,bL f,bL h,e,hr]
theorem si (b:BinOp) (t:TypeId) (x y:Operand) (a:Ly) (v:Value):(eqGuard b t x y (str a) v).run P w = .ok () w:=by unfold eqGuard str;cases b<;>simp
theorem CK (a b:Ly):((⟨a.toArray⟩:ByteArray).toList == (⟨b.toArray⟩:ByteArray).toList)=decide (a=b):=by rw[ByteArray.toList_eq,ByteArray.toList_eq];rw[Bool.eq_iff_iff];simp
theorem OT {x y:Operand} {t u:TypeId} {a b:Ly} (e:ev n l x=some (str a)) (f:ev n l y=some (str b)) (c:a.length+b.length<=9223372036854775807) :
    cg P ⟨d,.binOp .add t x y u,ty,ps,af,g⟩ (aQ A D l).eval w (str (a ++ b)):=by
  refine yj e f (si _ _ _ _ _) ?_;have h:=run_string_add_sum (P:=P) (w:=w) ⟨a.toArray⟩ ⟨b.toArray⟩ (by simpa [ByteArray.size]using c);simp only[binOp,str];rw[h];congr 2
theorem pU {x y:Operand} {t u:TypeId} {a b:Ly} (c:ev n l x=some (str a)) (e:ev n l y=some (str b)) :
    cg P ⟨d,.binOp .eql t x y u,ty,ps,af,g⟩ (aQ A D l).eval w (.bool (decide (a=b))) :=
  yj c e (si _ _ _ _ _) (by simp only[binOp,str,Op.stringOp,CK,Sem.run_pure])
theorem akh {x y:Operand} {t u:TypeId} {a b:Ly} (c:ev n l x=some (str a)) (e:ev n l y=some (str b)) :
    cg P ⟨d,.binOp .neq t x y u,ty,ps,af,g⟩ (aQ A D l).eval w (.bool (!decide (a=b))) :=
  yj c e (si _ _ _ _ _) (by simp only[binOp,str,Op.stringOp,CK,Sem.run_pure])
theorem af0 {x y:Operand} {t u:TypeId} {a b:Ly} (c:ev n l x=some (str a)) (e:ev n l y=some (str b)) :
    cg P ⟨d,.binOp .lss t x y u,ty,ps,af,g⟩ (aQ A D l).eval w (.bool (Op.bytesLess a b)) :=
  yj c e (si _ _ _ _ _) (by simp only[binOp,str,Op.stringOp,Sem.run_pure,ByteArray.toList_eq])
theorem akd {x y:Operand} {t u:TypeId} {a b:Ly} (c:ev n l x=some (str a)) (e:ev n l y=some (str b)) :
    cg P ⟨d,.binOp .gtr t x y u,ty,ps,af,g⟩ (aQ A D l).eval w (.bool (!(Op.bytesLess a b || decide (a=b)))) :=
  yj c e (si _ _ _ _ _) (by simp only[binOp,str,Op.stringOp,Sem.run_pure];rw[CK];simp only[ByteArray.toList_eq])
theorem ot {x:Operand} {v:Value} {s:Ly} {src a e:TypeId} (i:P.underlying src=some (.slice e)) (h:P.underlying e=some (.int .u8)) (hd:P.underlying a=some .string) (j:ev n l x=some v) (o:By w v s) :
    cg P ⟨d,.convert src a x,ty,ps,af,g⟩ (aQ A D l).eval w (str s):=by
  obtain⟨f,b,rfl,t,u,k,G⟩:=o;have c:(convert src a (.slice f (s.map b8).length b)).run P w = .ok (str s) w:=by
    cases f with
    | none =>
      have y:=k q;have m:(s.map b8).length=0:=(by omega);have C:s=[]:=(by simpa using m);subst C;have:=run_convert_bytes_string (P:=P) w src a e none 0 b i h hd;simp only[List.map_nil,List.length_nil];rw[this];rfl
    | some p =>
      have:=run_convert_bytes_back (P:=P) w src a e p b s i h hd (fun r H=>G p q r _ (by simp[b8,H]));simpa [str]using this
  simp only[List.length_map]at c j;simp[cg,execOp,bL j,c]
theorem QZ (w:World) (a:Addr) (k:Nat) (p:Addr):(w.freeze a k).cell? p=w.cell? p:=by
  unfold World.freeze;split
  · rfl
  unfold World.cell?;simp only[Array.getElem?_modify]
  by_cases h:a.block=p.block
  · rw[if_pos h]
    cases w.heap[p.block]? with
    | none=>rfl
    | some o=>cases o <;> rfl
  rw[if_neg h]
theorem Md.freeze (w:World) (a:Addr) (k:Nat):Md [a.block] w (w.freeze a k):=by
  unfold World.freeze;split
  · exact⟨q,q,q,Nat.le_refl _,fun _ _ _=>rfl⟩
  refine⟨q,q,q,by simp,fun j _ A=>?_⟩;simp only[Array.getElem?_modify];rw[if_neg (by rintro rfl;simp at A)]
theorem ZU {f:Array Oper} {Q:Exit->Act->World->Prop} {rest:List Oper} {d:Tmp} {x:Operand} {s:Ly} {t e:TypeId} {b m c:Nat} {ty':TypeId} (z:P.underlying t=some (.slice e)) (y:P.underlying e=some (.int .u8))
    (hx:ev n l x=some (.slice (some ⟨b,0,none⟩) m c)) (hB:bS w b (s.map b8) ty') (hY:By w (.slice (some ⟨b,0,none⟩) m c) s)
    (k:∀a,Md [b] w a->By a (.slice (some ⟨b,0,none⟩) m c) s->wpList P f Q rest (aQ A D ((d,.slice (some ⟨b,0,none⟩) m c) :: l)) a) :
    wpList P f Q (⟨some d,.convert t t x,ty,ps,af,none⟩ :: rest) (aQ A D l) w:=by
  refine fZ q ?_;have h:w.shape? b=some (ty',(s.map b8).toArray.size):=by unfold bS at hB;simp[World.shape?,hB]
  have g:(execOp (aQ A D l).eval ⟨some d,.convert t t x,ty,ps,af,none⟩).run P w = .ok (.value (.slice (some ⟨b,0,none⟩) m c)) (w.freeze ⟨b,(s.map b8).toArray.size,none⟩ 1):=by simp[execOp,bL hx,convert,run_underlying z,run_underlying y,markStringish,h]
  unfold Oper.wp;rw[g];refine k _ (Md.freeze w ⟨b,_,none⟩ _) ?_;obtain⟨v,C,i,G,H,j,o⟩:=hY;exact⟨v,C,i,G,H,j,fun p u B E r=>by rw[QZ];exact o p u B E r⟩
theorem lF {j:Array Oper} {Q:Exit->Act->World->Prop} {rest:List Oper} {d:Tmp} {x:Operand} {s:Ly} {src a e:TypeId} (u:P.underlying src=some .string) (hd:P.underlying a=some (.slice e)) (t:P.underlying e=some (.int .u8))
    (hx:ev n l x=some (str s)) (hl:s.length<=maxLen)
    (k:∀v f,Md [] w f->By f v s->(∀b,ah v=some b->w.heap.size<=b/\b<f.heap.size)->wpList P j Q rest (aQ A D ((d,v) :: l)) f) :
    wpList P j Q (⟨some d,.convert src a x,ty,ps,af,none⟩ :: rest) (aQ A D l) w:=by
  refine fZ q ?_;have i:=run_bytes_of_string (P:=P) w src a e ⟨s.toArray⟩ u hd t;have m:(⟨s.toArray⟩:ByteArray).size=s.length:=by simp[ByteArray.size]
  have C:(execOp (aQ A D l).eval ⟨some d,.convert src a x,ty,ps,af,none⟩).run P w = .ok (.value (.slice (some ⟨w.heap.size,0,none⟩) s.length (grownCap w s.length 0 e)))
      (w.drew.alloc (.cells (bytesRow ⟨s.toArray⟩ (grownCap w s.length 0 e)) e ((bytesRow ⟨s.toArray⟩ (grownCap w s.length 0 e)).size,(bytesRow ⟨s.toArray⟩ (grownCap w s.length 0 e)).size+1))):=by
    rw[m]at i;simp[execOp,bL hx,str,i]
  unfold Oper.wp;rw[C];refine k _ _ ⟨q,q,q,by simp,fun _ hk _=>heap_alloc_old _ _ hk⟩ ?_ ?_
  · refine⟨_,_,by simp;exact⟨q,q⟩,?_,?_,by simp,?_⟩
    · simpa using grownCap_ge w s.length 0 e
    · exact grownCap_le_maxLen w _ _ _ hl
    intro p H c y g;simp at H;subst H;have h:c<s.length:=(by have:=(List.getElem?_eq_some_iff.1 g).1;simpa using this);have r:=World.cell?_alloc_mark w.drew (bytesRow ⟨s.toArray⟩ (grownCap w s.length 0 e)) e ((bytesRow ⟨s.toArray⟩ (grownCap w s.length 0 e)).size,(bytesRow ⟨s.toArray⟩ (grownCap w s.length 0 e)).size+1) c;have o:(⟨w.heap.size,0,none⟩:Addr).add c=⟨w.heap.size,c,none⟩:=(by unfold Addr.add;split <;> simp_all);rw[o];refine r.trans ?_;simp[h,b8]at g;simp[bytesRow,Array.getElem?_append,h,g]
  intro b G;simp[ah]at G;subst G;simp
def pairT (P:Program) (t f:TypeId):Bool :=
  match P.underlying t with
  | some (.struct fs) => (fs.toList.map fun x => (x.type, x.offset)) == [(f, 0), (f, 1)] && fs.toList.all (fun x => x.name != "_") && iJ P f && !P.stoodInHeld t && !P.eqGuardType P.depth t
  | _=>false
def mX (p:List UInt8 × List UInt8):Value:=.agg #[str p.1,str p.2]
theorem TS {t f:TypeId} (e:pairT P t f=true) (y:P.underlying f=some .string) (p q:List UInt8 × List UInt8) (w:World) (k:Nat):(Op.equalIn (k+2) t (mX p) (mX q)).run P w = .ok (decide (p=q)) w:=by
  unfold pairT at e;split at e
  · rename_i fs I
    simp only[Bool.and_eq_true,Bool.not_eq_true']at e;obtain⟨⟨⟨⟨H,c⟩,o⟩,r⟩,T⟩:=e;have i:P.fieldsOf t=fs:=(by simp[Program.fieldsOf,I]);have z:P.underlying t=some (.struct (P.fieldsOf t)):=(by rw[i];exact I);have h:=run_equalIn_struct (P:=P) w (k+1) t #[str p.1,str p.2] #[str q.1,str q.2] z r;unfold mX;rw[h,i];obtain⟨n⟩:=fs;simp only at H c ⊢;have a:=eq_of_beq H
    match n,a,c with
    | [],a,_=>simp at a
    | [_],a,_=>simp at a
    | _ :: _ :: _ :: _,a,_=>simp at a
    | [g,b],a,c =>
      simp only[List.map_cons,List.map_nil,List.cons.injEq,Prod.mk.injEq,and_true]at a;obtain⟨⟨s,D⟩,u,m⟩:=a;simp only[List.all_cons,List.all_nil,Bool.and_true,Bool.and_eq_true,bne_iff_ne]at c;have j:=nP o;have G:∀(g b:Ly) (w:World),(Op.equalIn (k+1) f (str g) (str b)).run P w = .ok (decide (g=b)) w:=fun g b w=>by unfold str;rw[run_equalIn_string w k f _ _ y,CK]
      have l:∀(d v:Value) (w:World),(part f #[d,v] 0).run P w = .ok d w:=fun d v w=>by simp[part,j]
      have C:∀(d v:Value) (w:World),(part f #[d,v] 1).run P w = .ok v w:=fun d v w=>by simp[part,j]
      simp only[Op.eqFields,ne_eq,c.1,c.2,not_false_eq_true,if_true,s,D,u,m,Sem.run_bind,l,C,Result.andThen_ok,G];have A:=l;have B:=C;obtain⟨C,Q⟩:=p;obtain⟨R,x⟩:=q
      by_cases h6:C=R <;> by_cases h7:Q=x <;> simp[h6,h7,Sem.run_ite,A,B,G]
  cases e
theorem WA {t f:TypeId} (a:pairT P t f=true) (b:BinOp) (x y:Operand) (p q:List UInt8 × List UInt8):(eqGuard b t x y (mX p) (mX q)).run P w = .ok () w:=by
  unfold pairT at a;split at a
  · simp only[Bool.and_eq_true,Bool.not_eq_true']at a
    exact run_eqGuard_agg w b t x y _ _ a.2
  cases a
theorem akc {x y:Operand} {t f u:TypeId} {p q:List UInt8 × List UInt8} (a:pairT P t f=true) (c:P.underlying f=some .string) (e:ev n l x=some (mX p)) (h:ev n l y=some (mX q)) :
    cg P ⟨d,.binOp .eql t x y u,ty,ps,af,g⟩ (aQ A D l).eval w (.bool (decide (p=q))):=by
  have b:=WA (w:=w) a .eql x y p q;have C:(binOp .eql t (mX p) (mX q)).run P w = .ok (.bool (decide (p=q))) w:=by rw[mX,mX,run_eql_struct,<- mX,<- mX,TS a c p q w 9998];rfl
  simp[cg,execOp,bL e,bL h,b,C]
theorem kJ {b:Array Oper} {Q:Exit->Act->World->Prop} {rest:List Oper} {h:Op} {d:Tmp} {j t:Nat} {o:Oper} {i:Bool} (e:b[j]? = some o) (f:o.dst=some t) (g:ev n l (.tmp t)=some undef)
    (k:wpList P b Q rest (aQ A D ((d,undef) :: l)) w) :
    wpList P b Q (⟨some d,h,ty,ps,af,some (j,i)⟩ :: rest) (aQ A D l) w:=by
  have a:=bL (A:=A) (D:=D) g;have c:yielded b (aQ A D l).tmps j=none:=by
    simp only[Act.eval]at a;unfold yielded;simp[e,f];rw[Array.getD_eq_getD_getElem?]at a;cases hq:(aQ A D l).tmps[t]? with
    | none=>rfl
    | some v=>rw[hq]at a;simp at a;rw[a];rfl
  unfold wpList;rw[if_neg (by simp[Region.wanted,c])];exact k
end
def akD (cs:List Value):Prop:=∀u∈cs,u.oneCell'=true
structure Dt (α:Type) where
  n:Nat
  pos:0<n
  oP:World->(Nat->Prop)->List Value->α->Prop
  len:∀{w Q cs x},oP w Q cs x->cs.length=n
  one:∀{w Q cs x},oP w Q cs x->akD cs
  md:∀{S w w' Q cs x},oP w Q cs x->Md S w w'->(∀b∈S,¬Q b)->oP w' Q cs x
  sub:∀{w Q Q' cs x},oP w Q cs x->(∀b,Q b->b<w.heap.size->Q' b)->oP w Q' cs x
def uF {α:Type} (f:α->Value) (h1:∀x,(f x).oneCell'=true) (ok:α->Prop):Dt α where
  n:=1
  pos:=Nat.zero_lt_one
  oP _ _ cs x:=cs=[f x]/\ok x
  len:=by rintro _ _ _ _ ⟨rfl,_⟩;rfl
  one:=by rintro _ _ _ _ ⟨rfl,_⟩ u hu;simp at hu;subst hu;exact h1 _
  md:=fun h _ _=>h
  sub:=fun h _=>h
def cV:Dt Nat:=uF (fun x=>.int .u64 (x:Int)) (fun _=>rfl) (fun x=>x<18446744073709551616)
def tU32:Dt Nat:=uF (fun x=>.int .u32 (x:Int)) (fun _=>rfl) (fun x=>x<4294967296)
def eK:Dt Nat:=uF (fun x=>.int .i64 (x:Int)) (fun _=>rfl) (fun x=>x<9223372036854775808)
def lZ:Dt Int:=uF (fun x=>.int .i64 x) (fun _=>rfl) (fun x=>-9223372036854775808<=x/\x<9223372036854775808)
def e6:Dt UInt8:=uF b8 (fun _=>rfl) (fun _=>True)
def am7:Dt Bool:=uF (fun x=>.bool x) (fun _=>rfl) (fun _=>True)
def ir:Dt (List UInt8):=uF str (fun _=>rfl) (fun _=>True)
def jb (l:Ly):List Value:=[b8 (l.getD 0 0),b8 (l.getD 1 0),b8 (l.getD 2 0),b8 (l.getD 3 0),b8 (l.getD 4 0),b8 (l.getD 5 0),b8 (l.getD 6 0),b8 (l.getD 7 0),b8 (l.getD 8 0),b8 (l.getD 9 0),b8 (l.getD 10 0),b8 (l.getD 11 0),b8 (l.getD 12 0),b8 (l.getD 13 0),b8 (l.getD 14 0),b8 (l.getD 15 0)]
theorem pq {l:Ly} (h:l.length=16):jb l=l.map b8:=by
  apply List.ext_getElem
  · simp[jb,h]
  intro i C E;simp[jb]at C;simp only[List.getElem_map];have A:i<l.length:=by omega
  rcases Nat.lt_or_ge i 8 with D|D
  · rcases Nat.lt_or_ge i 4 with B|B
    · rcases(show i=0\/i=1\/i=2\/i=3 by omega)with rfl|rfl|rfl|rfl <;> simp[jb,List.getD,A]
    rcases(show i=4\/i=5\/i=6\/i=7 by omega)with rfl|rfl|rfl|rfl <;> simp[jb,List.getD,A]
  rcases Nat.lt_or_ge i 12 with B|B
  · rcases(show i=8\/i=9\/i=10\/i=11 by omega)with rfl|rfl|rfl|rfl <;> simp[jb,List.getD,A]
  rcases(show i=12\/i=13\/i=14\/i=15 by omega)with rfl|rfl|rfl|rfl <;> simp[jb,List.getD,A]
def tId:Dt (List UInt8) where
  n:=16
  pos:=by decide
  oP _ _ cs x:=cs=jb x/\x.length=16
  len:=by rintro _ _ _ _ ⟨rfl,_⟩;rfl
  one:=by rintro _ _ _ _ ⟨rfl,h⟩;rw[pq h];exact zD _
  md:=fun h _ _=>h
  sub:=fun h _=>h
def fW {α β:Type} (A:Dt α) (B:Dt β):Dt (α × β) where
  n:=A.n+B.n
  pos:=lj A.pos (Nat.le_add_right _ _)
  oP w Q cs p:=∃c1 c2,cs=c1 ++ c2/\A.oP w Q c1 p.1/\B.oP w Q c2 p.2
  len:=by rintro _ _ _ _ ⟨c1,c2,rfl,h1,h2⟩;simp[A.len h1,B.len h2]
  one:=by
    rintro _ _ _ _ ⟨c1,c2,rfl,h1,h2⟩ u hu
    rcases List.mem_append.1 hu with h|h
    · exact A.one h1 u h
    · exact B.one h2 u h
  md:=fun⟨c1,c2,h,h1,h2⟩ m hs=>⟨c1,c2,h,A.md h1 m hs,B.md h2 m hs⟩
  sub:=fun⟨c1,c2,h,h1,h2⟩ s=>⟨c1,c2,h,A.sub h1 s,B.sub h2 s⟩
def uG {α β:Type} (f:β->α) (A:Dt α):Dt β where
  n:=A.n
  pos:=A.pos
  oP w Q cs x:=A.oP w Q cs (f x)
  len:=A.len
  one:=A.one
  md:=A.md
  sub:=A.sub
section
variable {α:Type} {T:Dt α} {w w':World} {Q Q':Nat->Prop}
def su (T:Dt α) (w:World) (Q:Nat->Prop):List Value->List α->Prop
  | cs,[]=>cs=[]
  | cs,x :: xs=>∃c r,cs=c ++ r/\T.oP w Q c x/\su T w Q r xs
theorem su.len {cs:List Value} {xs:List α} (h:su T w Q cs xs):cs.length=xs.length*T.n:=by
  induction xs generalizing cs with
  | nil=>simp only[su]at h;subst h;simp
  | cons x xs ih =>
    obtain⟨c,r,rfl,A,B⟩:=h;simp[T.len A,ih B,Nat.succ_mul,Nat.add_comm]
theorem su.one {cs:List Value} {xs:List α} (h:su T w Q cs xs):akD cs:=by
  induction xs generalizing cs with
  | nil=>simp only[su]at h;subst h;intro u A;simp at A
  | cons x xs ih =>
    obtain⟨c,r,rfl,B,C⟩:=h;intro u A
    rcases List.mem_append.1 A with h|h
    · exact T.one B u h
    · exact ih C u h
theorem su.md {S:List Nat} {cs:List Value} {xs:List α} (h:su T w Q cs xs) (m:Md S w w') (f:∀b∈S,¬Q b):su T w' Q cs xs:=by
  induction xs generalizing cs with
  | nil=>exact h
  | cons x xs ih=>obtain⟨c,r,e,a,d⟩:=h;exact⟨c,r,e,T.md a m f,ih d⟩
theorem su.sub {cs:List Value} {xs:List α} (h:su T w Q cs xs) (s:∀b,Q b->b<w.heap.size->Q' b):su T w Q' cs xs:=by
  induction xs generalizing cs with
  | nil=>exact h
  | cons x xs ih=>obtain⟨c,r,e,A,B⟩:=h;exact⟨c,r,e,T.sub A s,ih B⟩
theorem su.append {cs ds:List Value} {xs ys:List α} (h:su T w Q cs xs) (k:su T w Q ds ys):su T w Q (cs ++ ds) (xs ++ ys):=by
  induction xs generalizing cs with
  | nil=>simp only[su]at h;subst h;exact k
  | cons x xs ih=>obtain⟨c,r,rfl,A,B⟩:=h;exact⟨c,r ++ ds,by simp,A,ih B⟩
theorem su.get {cs:List Value} {xs:List α} {i:Nat} {x:α} (h:su T w Q cs xs) (hi:xs[i]? = some x):∃c,T.oP w Q c x/\∀j u,c[j]? = some u->cs[i*T.n+j]? = some u:=by
  induction xs generalizing cs i with
  | nil=>simp at hi
  | cons y xs ih =>
    obtain⟨c,r,rfl,B,C⟩:=h;cases i with
    | zero =>
      simp at hi;subst hi;refine⟨c,B,fun j u A=>?_⟩;have:=(List.getElem?_eq_some_iff.1 A).1;rw[Nat.zero_mul,Nat.zero_add,List.getElem?_append_left this];exact A
    | succ i =>
      obtain⟨d,E,D⟩:=ih C (by simpa using hi);refine⟨d,E,fun j u A=>?_⟩;have F:=T.len B;rw[Nat.succ_mul,List.getElem?_append_right Xx];rw[show i*T.n+T.n+j-c.length=i*T.n+j by omega];exact D j u A
theorem su.split {cs:List Value} {xs ys:List α} (h:su T w Q cs (xs ++ ys)):su T w Q (cs.take (xs.length*T.n)) xs/\su T w Q (cs.drop (xs.length*T.n)) ys:=by
  induction xs generalizing cs with
  | nil=>simp[su];exact h
  | cons x xs ih =>
    obtain⟨c,r,rfl,A,B⟩:=h;obtain⟨C,D⟩:=ih B;have E:=T.len A;have e:(x :: xs).length*T.n=c.length+xs.length*T.n:=(by simp[Nat.succ_mul,E,Nat.add_comm]);rw[e];refine⟨⟨c,r.take (xs.length*T.n),?_,A,C⟩,?_⟩
    · rw[List.take_append,List.take_of_length_le (Nat.le_add_right _ _),Nat.add_sub_cancel_left]
    · rw[List.drop_append,List.drop_of_length_le (Nat.le_add_right _ _),Nat.add_sub_cancel_left];exact D
theorem su.set {cs:List Value} {xs:List α} {i:Nat} {c:List Value} {x:α} (h:su T w Q cs xs) (k:T.oP w Q c x) (hi:i<xs.length) :
    su T w Q (cs.take (i*T.n) ++ c ++ cs.drop (i*T.n+T.n)) (xs.set i x):=by
  have j:xs=xs.take i ++ xs.drop i:=(List.take_append_drop i xs).symm;have f:(xs.take i).length=i:=by simp;omega
  rw[j]at h;obtain⟨b,C⟩:=h.split;rw[f]at b C;obtain⟨y,a,d⟩:∃y a,xs.drop i=y :: a:=by
    cases D:xs.drop i with
    | nil=>have:=congrArg List.length D;simp at this;omega
    | cons y a=>exact⟨y,a,q⟩
  rw[d]at C;obtain⟨l,r,D,H,e⟩:=C;have g:cs.drop (i*T.n+T.n)=r:=by rw[<- List.drop_drop,D];simp[T.len H]
  have G:xs.set i x=xs.take i ++ (x :: a):=by rw[List.set_eq_take_append_cons_drop,if_pos hi];congr 2;have:xs.drop (i+1)=(xs.drop i).drop 1:=(by simp[Nat.add_comm]);rw[this,d];rfl
  rw[G,g,List.append_assoc];exact b.append ⟨c,r,q,k,e⟩
def Ls (T:Dt α) (w:World) (Q:Nat->Prop) (v:Value) (xs:List α):Prop :=
  ∃a cap cs,v = .slice a xs.length cap/\xs.length<=cap/\cap<=maxLen/\(a=none->cap=0)/\(∀p,a=some p->xs≠[]->Q p.block)/\(∀p,a=some p->∀j u,cs[j]? = some u->w.cell? (p.add j)=some u)/\su T w Q cs xs
theorem Ls.nil (T:Dt α) (w:World) (Q:Nat->Prop):Ls T w Q (.slice none 0 0) []:=⟨none,0,[],q,Nat.le_refl _,by simp[maxLen],fun _=>rfl,by simp,by simp,q⟩
theorem Ls.md {S:List Nat} {v:Value} {xs:List α} (h:Ls T w Q v xs) (m:Md S w w') (d:∀b∈S,¬Q b):Ls T w' Q v xs:=by obtain⟨l,e,f,G,H,g,i,C,j,a⟩:=h;refine⟨l,e,f,G,H,g,i,C,fun p c n o D=>m.cell (j p c n o D) ?_,a.md m d⟩;rw[Addr.add_block];intro k;refine d _ k (C p c ?_);rintro rfl;simp only[su]at a;subst a;simp at D
theorem Ls.o {v:Value} {xs:List α} (h:Ls T w Q v xs) (m:Md [] w w'):Ls T w' Q v xs:=h.md m Oy
instance aog {v:Value} {xs:List α}:Tp w w' (Ls T w Q v xs) (Ls T w' Q v xs):=⟨fun m h=>h.o m⟩
theorem Ls.sub {v:Value} {xs:List α} (h:Ls T w Q v xs) (s:∀b,Q b->b<w.heap.size->Q' b):Ls T w Q' v xs:=by
  obtain⟨a,A,F,G,H,I,J,K,B,C⟩:=h;refine⟨a,A,F,G,H,I,J,fun p D E=>s _ (K p D E) ?_,B,C.sub s⟩;cases xs with
  | nil=>exact absurd q E
  | cons x xs =>
    obtain⟨c,r,rfl,L,M⟩:=C;cases c with
    | nil=>have:=T.len L;have:=T.pos;simp at *;omega
    | cons u c=>have:=World.block_lt_of_cell? w _ (B p D 0 u q);rwa [Addr.add_block]at this
theorem Ls.di {v:Value} {xs:List α} (h:Ls T w Q v xs):PS v xs.length:=by obtain⟨a,A,F,B,C,D,E,_⟩:=h;exact⟨a,A,B,C,D,E⟩
theorem Ls.FH {v:Value} {xs:List α} (h:Ls T w Q v xs):xs.length<=maxLen:=by obtain⟨a,A,B,C,D,E,_⟩:=h;omega
theorem Ls.dD {v:Value} {xs:List α} (h:Ls T w Q v xs):xs.length<=9223372036854775807:=by have:=h.FH;simp only[maxLen]at this;omega
theorem Ls.bA {v:Value} {xs:List α} (h:Ls T w Q v xs):v.oneCell'=true:=by obtain⟨a,A,B,rfl,_⟩:=h;rfl
theorem Ls.by {v:Value} {xs:Ly} (h:Ls e6 w Q v xs):By w v xs:=by
  obtain⟨a,A,B,C,D,G,H,I,E,F⟩:=h;have e:B=xs.map b8:=by
    clear C D I E
    induction xs generalizing B with
    | nil=>exact F
    | cons x xs ih=>obtain⟨c,r,rfl,⟨rfl,_⟩,J⟩:=F;rw[ih _ J];rfl
  subst e;exact⟨a,A,by simpa using C,by simpa using D,G,H,E⟩
theorem BN {β:Type} {f:β->Value} {h1:∀x,(f x).oneCell'=true} {ok:β->Prop} {xs:List β} (h:∀x∈xs,ok x):su (uF f h1 ok) w Q (xs.map f) xs:=by
  induction xs with
  | nil=>rfl
  | cons x xs ih=>exact⟨[f x],xs.map f,q,⟨q,h x Oy⟩,ih fun y A=>h y (by simp[A])⟩
theorem DX {β:Type} {f:β->Value} {h1:∀x,(f x).oneCell'=true} {ok:β->Prop} {cs:List Value} {xs:List β} (h:su (uF f h1 ok) w Q cs xs):cs=xs.map f/\∀x∈xs,ok x:=by
  induction xs generalizing cs with
  | nil=>exact⟨h,by simp⟩
  | cons x xs ih =>
    obtain⟨c,r,rfl,⟨rfl,C⟩,A⟩:=h;obtain⟨rfl,B⟩:=ih A;exact⟨q,by simpa using ⟨C,B⟩⟩
theorem Ls.aiM {a:Type} {f:a->Value} {h1:∀x,(f x).oneCell'=true} {ok:a->Prop} {v:Value} {xs:List a} (h:Sl w v (xs.map f)) (k:∀x∈xs,ok x) (j:∀b,ah v=some b->xs≠[]->Q b):Ls (uF f h1 ok) w Q v xs:=by obtain⟨i,c,rfl,d,C,D,e⟩:=h;exact⟨i,c,xs.map f,by simp,by simpa using d,C,D,fun p g G=>j _ (by subst g;rfl) G,e,BN k⟩
theorem Ls.of_by {v:Value} {xs:Ly} (h:By w v xs) (a:∀b,ah v=some b->xs≠[]->Q b):Ls e6 w Q v xs:=Ls.aiM h (fun _ _=>trivial) a
def rq (T:Dt α):Dt (List α) where
  n:=1
  pos:=Nat.zero_lt_one
  oP w Q cs xs:=∃v,cs=[v]/\Ls T w Q v xs
  len:=by rintro _ _ _ _ ⟨v,rfl,_⟩;rfl
  one:=by rintro _ _ _ _ ⟨v,rfl,h⟩ u hu;simp at hu;subst hu;exact h.bA
  md:=fun⟨v,e,h⟩ m hs=>⟨v,e,h.md m hs⟩
  sub:=fun⟨v,e,h⟩ s=>⟨v,e,h.sub s⟩
def Pt (T:Dt α) (ty:TypeId) (w:World) (Q:Nat->Prop) (v:Value) (x:α):Prop:=∃b c,v = .pointer (some ⟨b,0,none⟩)/\Q b/\bS w b c ty/\T.oP w Q c x
theorem Pt.md {ty:TypeId} {S:List Nat} {v:Value} {x:α} (h:Pt T ty w Q v x) (m:Md S w w') (d:∀b∈S,¬Q b):Pt T ty w' Q v x:=by obtain⟨b,c,e,a,C,D⟩:=h;exact⟨b,c,e,a,C.md m fun f=>d b f a,T.md D m d⟩
theorem Pt.o {ty:TypeId} {v:Value} {x:α} (h:Pt T ty w Q v x) (m:Md [] w w'):Pt T ty w' Q v x:=h.md m Oy
instance aoj {ty:TypeId} {v:Value} {x:α}:Tp w w' (Pt T ty w Q v x) (Pt T ty w' Q v x):=⟨fun m h=>h.o m⟩
theorem Pt.sub {ty:TypeId} {v:Value} {x:α} (h:Pt T ty w Q v x) (s:∀b,Q b->b<w.heap.size->Q' b):Pt T ty w Q' v x:=by obtain⟨b,c,B,C,A,D⟩:=h;exact⟨b,c,B,s b C A.lt,A,T.sub D s⟩
def tPt (T:Dt α) (ty:TypeId):Dt α where
  n:=1
  pos:=Nat.zero_lt_one
  oP w Q cs x:=∃v,cs=[v]/\Pt T ty w Q v x
  len:=by rintro _ _ _ _ ⟨v,rfl,_⟩;rfl
  one:=by rintro _ _ _ _ ⟨v,rfl,b,c,rfl,_⟩ u hu;simp at hu;subst hu;rfl
  md:=fun⟨v,e,h⟩ m hs=>⟨v,e,h.md m hs⟩
  sub:=fun⟨v,e,h⟩ s=>⟨v,e,h.sub s⟩
def mE (sz:Nat):Value->Nat->Nat->Value
  | .slice a _ cap,lo,hi=>.slice (if cap=lo then a else a.map (·.add (lo*sz))) (hi-lo) (cap-lo)
  | _,_,_=>undef
theorem Ls.part {v:Value} {xs:List α} (h:Ls T w Q v xs) (lo hi:Nat) (h1:lo<=hi) (t:hi<=xs.length):Ls T w Q (mE T.n v lo hi) ((xs.take hi).drop lo):=by
  obtain⟨b,c,R,rfl,r,s,k,l,m,f⟩:=h;have e:((xs.take hi).drop lo).length=hi-lo:=by simp;omega
  have j:xs=(xs.take hi).take lo ++ (((xs.take hi).drop lo) ++ xs.drop hi):=by rw[<- List.append_assoc,List.take_append_drop,List.take_append_drop]
  rw[j]at f;have g:=f.split.2;have G:((xs.take hi).take lo).length=lo:=by simp;omega
  rw[G]at g;have D:=g.split.1;rw[e]at D;refine⟨if c=lo then b else b.map (·.add (lo*T.n)),c-lo,_,?_,?_,by omega,?_,?_,?_,D⟩
  · simp only[mE,e]
  · rw[e];omega
  · intro h
    split at h
    · omega
    cases b with
    | none=>have:=k rfl;omega
    | some p=>simp at h
  · intro p a i
    have C:c≠lo:=(by intro P;apply i;apply List.eq_nil_of_length_eq_zero;omega);rw[if_neg C]at a;cases b with
    | none=>simp at a
    | some q =>
      simp at a;subst a;rw[Addr.add_block];exact l q rfl (by rintro rfl;simp at i)
  intro p a u o H;have d:=(List.getElem?_eq_some_iff.1 H).1;simp only[List.length_take,List.length_drop]at d;have C:c≠lo:=by intro P;have:hi-lo=0:=(by omega);rw[this]at d;simp at d
  rw[if_neg C]at a;cases b with
  | none=>simp at a
  | some q =>
    simp at a;subst a;rw[Addr.add_add];refine m q rfl _ o ?_;rw[List.getElem?_take,if_pos Xx,List.getElem?_drop]at H;exact H
def At (w:World) (v:Value) (k:Nat) (c:List Value):Prop:=∃p l cp,v = .slice (some p) l cp/\∀j u,c[j]? = some u->w.cell? (p.add (k+j))=some u
theorem Ls.get {v:Value} {xs:List α} {i:Nat} {x:α} (h:Ls T w Q v xs) (hi:xs[i]? = some x):∃c,T.oP w Q c x/\At w v (i*T.n) c:=by
  obtain⟨a,A,H,rfl,I,J,B,K,C,D⟩:=h;obtain⟨c,E,F⟩:=D.get hi;cases a with
  | none =>
    have:=B q;have:=(List.getElem?_eq_some_iff.1 hi).1;omega
  | some p=>exact⟨c,E,p,_,A,q,fun j u G=>C p q _ u (F j u G)⟩
theorem At.o {v:Value} {k:Nat} {c:List Value} (h:At w v k c) (m:Md [] w w'):At w' v k c:=by obtain⟨p,l,B,C,D⟩:=h;exact⟨p,l,B,C,fun j u E=>m.cell (D j u E) Oy⟩
instance aoe {v:Value} {k:Nat} {c:List Value}:Tp w w' (At w v k c) (At w' v k c):=⟨fun m h=>h.o m⟩
def Ow (T:Dt α) (e:TypeId) (lo:Nat->Prop) (w:World) (Q:Nat->Prop) (v:Value) (xs:List α):Prop :=
  (∃cs,Own w e T.n v xs.length cs/\su T w Q cs xs)/\∀b,ah v=some b->lo b/\¬Q b
theorem Ow.nil (T:Dt α) (e:TypeId) (lo:Nat->Prop) (w:World) (Q:Nat->Prop):Ow T e lo w Q (.slice none 0 0) []:=⟨⟨[],Own.nil w e _,q⟩,by simp[ah]⟩
theorem Ow.md {e:TypeId} {lo:Nat->Prop} {S:List Nat} {v:Value} {xs:List α} (h:Ow T e lo w Q v xs) (m:Md S w w') (f:∀b,ah v=some b->b∉S) (d:∀b∈S,¬Q b):Ow T e lo w' Q v xs:=by obtain⟨⟨a,c,C⟩,D⟩:=h;exact⟨⟨a,c.md m f,C.md m d⟩,D⟩
theorem Ow.o {e:TypeId} {lo:Nat->Prop} {v:Value} {xs:List α} (h:Ow T e lo w Q v xs) (m:Md [] w w'):Ow T e lo w' Q v xs:=h.md m Oy Oy
instance aoi {e:TypeId} {lo:Nat->Prop} {v:Value} {xs:List α}:Tp w w' (Ow T e lo w Q v xs) (Ow T e lo w' Q v xs):=⟨fun m h=>h.o m⟩
theorem Ow.lt {e:TypeId} {lo:Nat->Prop} {v:Value} {xs:List α} (h:Ow T e lo w Q v xs):∀b,ah v=some b->b<w.heap.size:=by obtain⟨⟨B,A,C⟩,D⟩:=h;exact A.lt
theorem Ow.sub {e:TypeId} {lo:Nat->Prop} {v:Value} {xs:List α} (h:Ow T e lo w Q v xs) (s:∀b,Q b->b<w.heap.size->Q' b) (t:∀b,Q' b->Q b):Ow T e lo w Q' v xs:=by obtain⟨⟨C,D,E⟩,A⟩:=h;exact⟨⟨C,D,E.sub s⟩,fun b B=>⟨(A b B).1,fun F=>(A b B).2 (t b F)⟩⟩
theorem pC {e:TypeId} {sz m:Nat} {v:Value} {cs:List Value} (h:Own w e sz v m cs):∃a cap,v = .slice a m cap/\m<=cap/\cap<=maxLen/\(a=none->cap=0)/\∀p,a=some p->∀j u,cs[j]? = some u->w.cell? (p.add j)=some u:=by
  rcases h.2 with⟨rfl,rfl⟩|⟨g,cap,A,rfl,F,G,C,B,H,I⟩
  · exact⟨none,0,q,Nat.le_refl _,by simp[maxLen],fun _=>rfl,by simp⟩
  exact⟨some ⟨g,0,none⟩,cap,q,C,B,by simp,fun p D j u E=>by cases D;exact World.ownsRow.cells h (g:=g) q j u E⟩
theorem Ow.ls {e:TypeId} {lo:Nat->Prop} {v:Value} {xs:List α} (h:Ow T e lo w Q v xs) (t:∀b,Q b->Q' b) (u:∀b,lo b->Q' b):Ls T w Q' v xs:=by obtain⟨⟨B,C,D⟩,E⟩:=h;obtain⟨a,A,rfl,F,G,H,I⟩:=pC C;exact⟨a,A,B,q,F,G,H,fun p K _=>u _ (E _ (by subst K;rfl)).1,I,D.sub fun b J _=>t b J⟩
theorem Ow.get {e:TypeId} {lo:Nat->Prop} {v:Value} {xs:List α} {i:Nat} {x:α} (h:Ow T e lo w Q v xs) (hi:xs[i]? = some x):∃c,T.oP w Q c x/\At w v (i*T.n) c:=by
  obtain⟨⟨I,B,C⟩,_⟩:=h;obtain⟨a,A,rfl,J,K,D,E⟩:=pC B;obtain⟨c,F,G⟩:=C.get hi;cases a with
  | none =>
    have:=D q;have:=(List.getElem?_eq_some_iff.1 hi).1;omega
  | some p=>exact⟨c,F,p,_,A,q,fun j u H=>E p q _ u (G j u H)⟩
theorem Ow.read {e:TypeId} {lo:Nat->Prop} {v:Value} {xs:List α} (h:Ow T e lo w Q v xs):Ls T w (fun b=>Q b\/lo b) v xs:=h.ls (fun _=>.inl) (fun _=>.inr)
theorem Ow.di {e:TypeId} {lo:Nat->Prop} {v:Value} {xs:List α} (h:Ow T e lo w Q v xs):PS v xs.length:=h.read.di
theorem Ow.bA {e:TypeId} {lo:Nat->Prop} {v:Value} {xs:List α} (h:Ow T e lo w Q v xs):v.oneCell'=true:=h.read.bA
end
def Up (w:World) (Q:Nat->Prop):Prop:=∀b,w.heap.size<=b->Q b
theorem Up.md {S:List Nat} {w a:World} {Q:Nat->Prop} (u:Up w Q) (m:Md S w a):Up a Q:=fun b hb=>u b (lv m.size hb)
instance aol {w w':World} {Q:Nat->Prop}:Tp w w' (Up w Q) (Up w' Q):=⟨fun m h=>h.md m⟩
theorem j5 {Q:Nat->Prop} {w d:World} {b:Nat} (u:Up w Q) (h1:w.heap.size<=b) (e:b<d.heap.size) (m:Md [] w d) :
    ∃c:Nat->Prop,(∀x,Q x->x<w.heap.size->c x)/\(∀x,c x->Q x)/\¬c b/\Up d c :=
  ⟨fun x=>Q x/\x≠b,fun x a f=>⟨a,by omega⟩,fun x a=>a.1,fun h=>h.2 q,fun x a=>⟨u x (lv m.size a),by omega⟩⟩
def lim:IntKind->Nat
  | .u8=>256|.u16=>65536|.u32=>4294967296|.u64=>18446744073709551616
  | .i8=>128|.i16=>32768|.i32=>2147483648|.i64=>9223372036854775808
theorem wrapN (k:IntKind) (x:Nat) (h:x<lim k):k.wrap (x:Int)=x:=by cases k <;> simp[IntKind.wrap,IntKind.bits,IntKind.signed,lim]at * <;> omega
theorem agh (k:IntKind) (x:Int) (h:k.signed=false):k.wrap x=((x%(lim k:Int)).toNat:Nat):=by cases k <;> simp[IntKind.wrap,IntKind.bits,IntKind.signed,lim]at * <;> omega
theorem cg.to {P:Program} {w:World} {o:Oper} {e:Operand->Value} {a b:Value} (h:cg P o e w a) (c:a=b):cg P o e w b:=c ▸ h
section
variable {P:Program} {n:Nat} {A:Fr n} {D:List Deferred} {l:List (Nat × Value)} {w:World}
variable {d:Option Tmp} {ty:TypeId} {ps:String} {af:Array Edge} {g:Option (Nat × Bool)}
variable {x y:Operand} {t u:TypeId} {k j:IntKind} {a b:Nat}
theorem iG (L:Nat) (c:lim k=L) (e:ev n l x=some (.int k (a:Int))) (f:ev n l y=some (.int k (b:Int))) (h:a+b<L) :
    cg P ⟨d,.binOp .add t x y u,ty,ps,af,g⟩ (aQ A D l).eval w (.int k ((a+b:Nat):Int)) :=
  (iK e f).jB (by rw[<- wrapN k (a+b) (c ▸ h)];rfl)
theorem ri (L:Nat) (f:lim k=L) (c:ev n l x=some (.int k (a:Int))) (e:ev n l y=some (.int k (b:Int))) (h:b<=a/\a<L) :
    cg P ⟨d,.binOp .sub t x y u,ty,ps,af,g⟩ (aQ A D l).eval w (.int k ((a-b:Nat):Int)) :=
  (iT c e).jB (by rw[<- wrapN k (a-b) Xx];congr 1;omega)
theorem qZ (L:Nat) (c:lim k=L) (e:ev n l x=some (.int k (a:Int))) (f:ev n l y=some (.int k (b:Int))) (h:a*b<L) :
    cg P ⟨d,.binOp .mul t x y u,ty,ps,af,g⟩ (aQ A D l).eval w (.int k ((a*b:Nat):Int)) :=
  (amv e f).jB (by rw[<- wrapN k (a*b) (c ▸ h),Int.natCast_mul])
theorem sJ (L:Nat) (c:lim k=L) (e:k.signed=false) (f:ev n l x=some (.int k (a:Int))) (h:ev n l y=some (.int k (b:Int))) :
    cg P ⟨d,.binOp .add t x y u,ty,ps,af,g⟩ (aQ A D l).eval w (.int k (((a+b)%L:Nat):Int)) :=
  (iK f h).jB (by rw[agh k _ e,c,show(a:Int)+b=((a+b:Nat):Int)from rfl,<- Int.natCast_emod,Int.toNat_natCast])
theorem WR (L:Nat) (c:lim k=L) (e:ev n l x=some (.int k (a:Int))) (f:ev n l y=some (.int k (b:Int))) (h:b≠0/\a<L) :
    cg P ⟨d,.binOp .quo t x y u,ty,ps,af,g⟩ (aQ A D l).eval w (.int k ((a/b:Nat):Int)) :=
  (amx e f Xx).jB (by
    rw[show Int.tdiv (a:Int) b=((a/b:Nat):Int)from rfl];exact wrapN k _ (c ▸ Nat.lt_of_le_of_lt (Nat.div_le_self _ _) h.2))
theorem pV (c:ev n l x=some (.int k (a:Int))) (e:ev n l y=some (.int k (b:Int))) (h:b≠0) :
    cg P ⟨d,.binOp .rem t x y u,ty,ps,af,g⟩ (aQ A D l).eval w (.int k ((a%b:Nat):Int)) :=
  (af3 c e Xx).jB q
theorem iR (c:ev n l x=some (.int k (a:Int))) (e:ev n l y=some (.int k (b:Int))):cg P ⟨d,.binOp .eql t x y u,ty,ps,af,g⟩ (aQ A D l).eval w (.bool (decide (a=b))) :=
  (lV c e).JG (decide_eq_decide.2 Xx)
theorem eT (c:ev n l x=some (.int k (a:Int))) (e:ev n l y=some (.int k (b:Int))):cg P ⟨d,.binOp .neq t x y u,ty,ps,af,g⟩ (aQ A D l).eval w (.bool (decide (a≠b))) :=
  (WQ c e).JG (decide_eq_decide.2 Xx)
theorem dN (c:ev n l x=some (.int k (a:Int))) (e:ev n l y=some (.int k (b:Int))):cg P ⟨d,.binOp .lss t x y u,ty,ps,af,g⟩ (aQ A D l).eval w (.bool (decide (a<b))) :=
  (rZ c e).JG (decide_eq_decide.2 Xx)
theorem LG (c:ev n l x=some (.int k (a:Int))) (e:ev n l y=some (.int k (b:Int))):cg P ⟨d,.binOp .leq t x y u,ty,ps,af,g⟩ (aQ A D l).eval w (.bool (decide (a<=b))) :=
  (yh c e).JG (decide_eq_decide.2 Xx)
theorem kI (c:ev n l x=some (.int k (a:Int))) (e:ev n l y=some (.int k (b:Int))):cg P ⟨d,.binOp .gtr t x y u,ty,ps,af,g⟩ (aQ A D l).eval w (.bool (decide (b<a))) :=
  (vC c e).JG (decide_eq_decide.2 Xx)
theorem LF (c:ev n l x=some (.int k (a:Int))) (e:ev n l y=some (.int k (b:Int))):cg P ⟨d,.binOp .geq t x y u,ty,ps,af,g⟩ (aQ A D l).eval w (.bool (decide (b<=a))) :=
  (qo c e).JG (decide_eq_decide.2 Xx)
theorem dK {s:TypeId} (L:Nat) (b:lim k=L) (c:(P.underlying s).isSome=true) (e:P.underlying t=some (.int k)) (f:ev n l x=some (.int j (a:Int))) (h:a<L) :
    cg P ⟨d,.convert s t x,ty,ps,af,g⟩ (aQ A D l).eval w (.int k (a:Int)):=(iN c e f).jB (wrapN k a (b ▸ h))
theorem sK {s:TypeId} (L:Nat) (b:lim k=L) (hk:k.signed=false) (c:(P.underlying s).isSome=true) (e:P.underlying t=some (.int k)) (f:ev n l x=some (.int j (a:Int))) :
    cg P ⟨d,.convert s t x,ty,ps,af,g⟩ (aQ A D l).eval w (.int k ((a%L:Nat):Int)):=(iN c e f).jB (by rw[agh k _ hk,b,<- Int.natCast_emod,Int.toNat_natCast])
theorem akg (c:ev n l x=some (.int k (a:Int))) (e:ev n l y=some (.int j (b:Int))) {f:Array TypeId} :
    cg P ⟨d,.call {callee:=.builtin .min,args:=#[x,y],argTypes:=f},ty,ps,af,g⟩ (aQ A D l).eval w (.int k ((min a b:Nat):Int)) :=
  (aiV c e).jB (by split<;>omega)
theorem akf {a b:Int} (c:ev n l x=some (.int k a)) (e:ev n l y=some (.int j b)) {f:Array TypeId} :
    cg P ⟨d,.call {callee:=.builtin .max,args:=#[x,y],argTypes:=f},ty,ps,af,g⟩ (aQ A D l).eval w (.int k (if a<b then b else a)):=by
  simp[cg,execOp,bL c,bL e,resolve,invoke,builtin,Builtin.max_,Builtin.max2]
theorem af2 (c:ev n l x=some (.int k (a:Int))) (e:ev n l y=some (.int j (b:Int))) {f:Array TypeId} :
    cg P ⟨d,.call {callee:=.builtin .max,args:=#[x,y],argTypes:=f},ty,ps,af,g⟩ (aQ A D l).eval w (.int k ((max a b:Nat):Int)) :=
  (akf c e).jB (by split<;>omega)
theorem akj (L:Nat) (c:lim k=L) (f:k.signed=false) (s:Nat) (e:k.bits=s) (i:ev n l x=some (.int k (a:Int))) (m:ev n l y=some (.int j (b:Int))) (h:b<=s) :
    cg P ⟨d,.binOp .shl t x y u,ty,ps,af,g⟩ (aQ A D l).eval w (.int k ((a*2 ^ b%L:Nat):Int)) :=
  (qJ i m Xx).jB (by
    unfold nj;rw[agh k _ f,c,e,Int.toNat_natCast,Nat.min_eq_left h];rw[show(a:Int)*2 ^ b=((a*2 ^ b:Nat):Int)by simp,<- Int.natCast_emod,Int.toNat_natCast])
theorem akk (s:Nat) (c:k.bits=s) (e:ev n l x=some (.int k (a:Int))) (f:ev n l y=some (.int j (b:Int))) (h:b<=s) :
    cg P ⟨d,.binOp .shr t x y u,ty,ps,af,g⟩ (aQ A D l).eval w (.int k ((a/2 ^ b:Nat):Int)) :=
  (TJ e f Xx).jB (by
    unfold ahQ;rw[c,Int.toNat_natCast,Nat.min_eq_left h];simp)
theorem FI (hk:k.signed=false):lim k=2 ^ k.bits:=by cases k<;>simp[IntKind.signed]at hk<;>rfl
theorem acI (hk:k.signed=false) (d:a<lim k) (hb:b<lim k):bits .xor k (a:Int) (b:Int)=((a ^^^ b:Nat):Int):=by
  have c:=FI hk;have e:a ^^^ b<lim k:=by rw[c];exact Nat.xor_lt_two_pow (c ▸ d) (c ▸ hb)
  unfold bits;simp only[BitVec.ofInt_natCast,BitVec.toNat_xor,BitVec.toNat_ofNat,<- c,Nat.mod_eq_of_lt d,Nat.mod_eq_of_lt hb];exact wrapN k _ e
theorem ag5 (hk:k.signed=false) (d:a<lim k) (hb:b<lim k):bits .or k (a:Int) (b:Int)=((a ||| b:Nat):Int):=by
  have c:=FI hk;have e:a ||| b<lim k:=by rw[c];exact Nat.or_lt_two_pow (c ▸ d) (c ▸ hb)
  unfold bits;simp only[BitVec.ofInt_natCast,BitVec.toNat_or,BitVec.toNat_ofNat,<- c,Nat.mod_eq_of_lt d,Nat.mod_eq_of_lt hb];exact wrapN k _ e
theorem acH (hk:k.signed=false) (c:a<lim k) (hb:b<lim k):bits .and k (a:Int) (b:Int)=((a &&& b:Nat):Int):=by have e:=FI hk;have d:a &&& b<lim k:=Nat.lt_of_le_of_lt Nat.and_le_left c;unfold bits;simp only[BitVec.ofInt_natCast,BitVec.toNat_and,BitVec.toNat_ofNat,<- e,Nat.mod_eq_of_lt c,Nat.mod_eq_of_lt hb];exact wrapN k _ d
theorem af5 (L:Nat) (c:lim k=L) (hk:k.signed=false) (e:ev n l x=some (.int k (a:Int))) (f:ev n l y=some (.int k (b:Int))) (h:a<L/\b<L) :
    cg P ⟨d,.binOp .xor t x y u,ty,ps,af,g⟩ (aQ A D l).eval w (.int k ((a ^^^ b:Nat):Int)):=(eM e f).jB (acI hk (c ▸ h.1) (c ▸ h.2))
theorem amw (L:Nat) (c:lim k=L) (hk:k.signed=false) (e:ev n l x=some (.int k (a:Int))) (f:ev n l y=some (.int k (b:Int))) (h:a<L/\b<L) :
    cg P ⟨d,.binOp .or t x y u,ty,ps,af,g⟩ (aQ A D l).eval w (.int k ((a ||| b:Nat):Int)):=(zK e f).jB (ag5 hk (c ▸ h.1) (c ▸ h.2))
theorem akb (L:Nat) (c:lim k=L) (hk:k.signed=false) (e:ev n l x=some (.int k (a:Int))) (f:ev n l y=some (.int k (b:Int))) (h:a<L/\b<L) :
    cg P ⟨d,.binOp .and t x y u,ty,ps,af,g⟩ (aQ A D l).eval w (.int k ((a &&& b:Nat):Int)):=(afw e f).jB (acH hk (c ▸ h.1) (c ▸ h.2))
theorem aki (L:Nat) (c:lim k=L) (s:Nat) (e:k.bits=s) (f:ev n l x=some (.int k (a:Int))) (i:ev n l y=some (.int j (b:Int))) (h:b<=s/\a*2 ^ b<L) :
    cg P ⟨d,.binOp .shl t x y u,ty,ps,af,g⟩ (aQ A D l).eval w (.int k ((a*2 ^ b:Nat):Int)) :=
  (qJ f i Xx).jB (by
    unfold nj;rw[e,Int.toNat_natCast,Nat.min_eq_left h.1,show(a:Int)*2 ^ b=((a*2 ^ b:Nat):Int)by simp];exact wrapN k _ (c ▸ h.2))
theorem afy {s:TypeId} {z:Int} (L:Nat) (e:lim k=L) (a:(P.underlying s).isSome=true) (b:P.underlying t=some (.int k)) (c:ev n l x=some (.int j z)) (h:0<=z/\z<L) :
    cg P ⟨d,.convert s t x,ty,ps,af,g⟩ (aQ A D l).eval w (.int k ((z.toNat:Nat):Int)) :=
  (iN a b c).jB (by rw[show z=((z.toNat:Nat):Int)by omega];exact wrapN k _ Xx)
variable {α:Type} {T:Dt α} {Q:Nat->Prop} {v:Value} {xs:List α}
theorem bg {e:TypeId} {m i:Nat} (sz:Nat) (f:ev n l x=some v) (h:ev n l y=some (.int k (i:Int))) (c:P.underlying t=some (.slice e)) (a:gy P e sz=true) (b:PS v m) (hi:i<m) :
    cg P ⟨d,.indexAddr t x y,ty,ps,af,g⟩ (aQ A D l).eval w (mO v (i*sz)):=by
  have:=uq (P:=P) (A:=A) (D:=D) (w:=w) (d:=d) (ty:=ty) (ps:=ps) (af:=af) (g:=g) sz f h c a b Xx;simpa using this
theorem cG {e:TypeId} {m b o i:Nat} (sz:Nat) (h:ev n l x=some (.pointer (some ⟨b,o,none⟩))) (j:ev n l y=some (.int k (i:Int))) (f:P.underlying t=some (.array m e)) (a:gy P e sz=true) (hi:i<m) :
    cg P ⟨d,.indexAddr t x y,ty,ps,af,g⟩ (aQ A D l).eval w (.pointer (some ⟨b,o+i*sz,none⟩)):=by
  unfold gy at a;split at a
  · rename_i inf hinf
    have c:inf.size=sz:=(by simpa using a);simp[cg,execOp,bL h,bL j,Instr.indexAt,Instr.sureAddr,asIntOf,run_underlying f,eF hinf,hi,c,Addr.kL]
  cases a
theorem DW {kk:Nat} {c:List Value} (h:At w v kk c):∃p:Addr,(∀m,mO v m = .pointer (some (p.add m)))/\∀j u,c[j]? = some u->w.cell? (p.add (kk+j))=some u:=by obtain⟨p,l,B,rfl,A⟩:=h;exact⟨p,fun _=>rfl,A⟩
theorem gR {s:TypeId} {f m e kk:Nat} {c:List Value} (b:ev n l x=some (mO v m)) (i:At w v kk c) (a:aN P s f=some e) :
    cg P ⟨d,.fieldAddr s x f,ty,ps,af,g⟩ (aQ A D l).eval w (mO v (m+e)):=by
  obtain⟨p,h,_⟩:=DW i;rw[h]at b ⊢;unfold aN at a;split at a
  · rename_i fs hfs
    split at a
    · rename_i fd hfd
      split at a
      · rename_i inf hinf
        split at a
        · cases a
        rename_i hz;simp only[Option.some.injEq]at a;subst a;simp[cg,execOp,bL b,Instr.fieldAt,Instr.sureAddr,run_underlying hfs,hfd,fieldPlace,eF hinf,hz,Addr.add_add]
      cases a
    cases a
  cases a
theorem bO {m kk:Nat} {c:List Value} {r:Value} (j:Nat) (a:ev n l x=some (mO v m)) (i:m=kk+j) (f:iJ P t=true) (e:At w v kk c) (h:c[j]? = some r) :
    cg P ⟨d,.load t x,ty,ps,af,g⟩ (aQ A D l).eval w r:=by
  obtain⟨p,C,b⟩:=DW e;rw[C]at a;exact WO a f (by rw[i];exact b j r h)
theorem gI {m kk:Nat} {c:List Value} (cs:List Value) (o:Nat) (b:ev n l x=some (mO v m)) (k:m=kk+o) (i:fI P t cs.length=true) (h:At w v kk c) (j:(c.drop o).take cs.length=cs) :
    cg P ⟨d,.load t x,ty,ps,af,g⟩ (aQ A D l).eval w (.agg cs.toArray):=by
  obtain⟨p,f,C⟩:=DW h;rw[f]at b;refine zJ b i q fun s r a=>?_;have e:=(List.getElem?_eq_some_iff.1 a).1;rw[Addr.add_add,k,Nat.add_assoc];refine C _ r ?_;rw[<- j,List.getElem?_take,if_pos e,List.getElem?_drop]at a;exact a
theorem bK {ty':TypeId} {b o:Nat} {c:List Value} (cs:List Value) (i:ev n l x=some (.pointer (some ⟨b,o,none⟩))) (f:fI P t cs.length=true) (e:bS w b c ty') (h:(c.drop o).take cs.length=cs) :
    cg P ⟨d,.load t x,ty,ps,af,g⟩ (aQ A D l).eval w (.agg cs.toArray):=by
  refine zJ i f q fun j r a=>?_;have C:=(List.getElem?_eq_some_iff.1 a).1;rw[Addr.kL,e.cell];rw[<- h,List.getElem?_take,if_pos C,List.getElem?_drop]at a;exact a
theorem fG {lo hi:Option Operand} {m e:Nat} (sz L H:Nat) (c:P.underlying t=some (.slice e)) (b:gy P e sz=true) (f:ev n l x=some v)
    (hS:PS v m) (h1:L<=H) (h2:H<=m)
    (hlo:match lo with|none=>L=0|some y=>∃k,ev n l y=some (.int k (L:Int))) (hhi:match hi with|none=>H=m|some y=>∃k,ev n l y=some (.int k (H:Int))) :
    cg P ⟨d,.slice t x lo hi none,ty,ps,af,g⟩ (aQ A D l).eval w (mE sz v L H):=by
  obtain⟨p,C,rfl,G,j,o⟩:=hS;unfold gy at b;split at b
  · rename_i inf hinf
    have a:inf.size=sz:=(by simpa using b);have h:H<=C:=(by omega);cases lo with
    | none =>
      simp only at hlo;subst hlo;cases hi with
      | none =>
        simp only at hhi;subst hhi;simp[cg,execOp,bL f,Instr.sliceAt,Instr.slice,Instr.sliceBounds,run_underlying c,eF hinf,mE,a]
      | some y =>
        simp only at hhi;obtain⟨k,hk⟩:=hhi;simp[cg,execOp,bL f,bL hk,Instr.sliceAt,Instr.slice,Instr.sliceBounds,Instr.sliceBound,asIntOf,run_underlying c,eF hinf,mE,a,h]
    | some z =>
      simp only at hlo;obtain⟨q,i⟩:=hlo;cases hi with
      | none =>
        simp only at hhi;subst hhi;simp[cg,execOp,bL f,bL i,Instr.sliceAt,Instr.slice,Instr.sliceBounds,Instr.sliceBound,asIntOf,run_underlying c,eF hinf,mE,a,h1]
      | some y =>
        simp only at hhi;obtain⟨k,hk⟩:=hhi;simp[cg,execOp,bL f,bL i,bL hk,Instr.sliceAt,Instr.slice,Instr.sliceBounds,Instr.sliceBound,asIntOf,run_underlying c,eF hinf,mE,a,h1,h]
  cases b
end
theorem zY:∀(us:List Value) (k o:Nat) (cs:List Value),o+k+us.length<=cs.length ->
    (us.zipIdx k).foldl (fun(cs:Array Value) (x:Value × Nat)=>cs.setIfInBounds (o+x.2) x.1) cs.toArray=(fC cs (o+k) us).toArray
  | [],k,o,cs,_=>by simp[fC]
  | u :: us,k,o,cs,h=>by
    simp only[List.length_cons]at h;rw[List.zipIdx_cons,List.foldl_cons];simp only[List.setIfInBounds_toArray];rw[zY us (k+1) o (cs.set (o+k) u) Ym];congr 1;unfold fC;have b:(cs.set (o+k) u).take (o+(k+1))=cs.take (o+k) ++ [u]:=(by rw[show o+(k+1)=(o+k)+1 by omega,List.take_add_one];simp[show o+k<cs.length by omega,List.take_set_of_le]);have a:(cs.set (o+k) u).drop (o+(k+1)+us.length)=cs.drop (o+k+(us.length+1)):=(by rw[List.drop_set_of_lt Xx];congr 1;omega);rw[b,a];simp
theorem VH {v:Value} {us:List Value} (a:v.cells=us.toArray) (o:Nat) (cs:List Value) (h:o+us.length<=cs.length) :
    v.cells.zipIdx.foldl (fun(cs:Array Value) (x:Value × Nat)=>cs.setIfInBounds (o+x.2) x.1) cs.toArray=(fC cs o us).toArray:=by
  have:=zY us 0 o cs Xx;rw[a];simpa [<- Array.foldl_toList]using this
def nT:List Value->List (List Value)->Prop
  | [],[]=>True
  | v :: vs,u :: us=>v.cells=u.toArray/\nT vs us
  | _,_=>False
def nR (cs:List Value):List (Nat × Nat × Nat)->List (List Value)->List Value
  | (_,o,_) :: ps,u :: us=>nR (fC cs o u) ps us
  | _,_=>cs
def XG:List (Nat × Nat × Nat)->List (List Value)->Prop
  | [],[]=>True
  | (_,_,s) :: ps,u :: us=>u.length=s/\XG ps us
  | _,_=>False
theorem wI {cs us:List Value} {o:Nat} (h:o+us.length<=cs.length):(fC cs o us).length=cs.length:=by simp[fC];omega
theorem wW {place:Nat->Option (Nat × Nat)}:∀(ps:List (Nat × Nat × Nat)) (vs:List Value) (us:List (List Value)) (cs:List Value),nT vs us->XG ps us->(∀p∈ps,place p.1=some (p.2.1,p.2.2)/\p.2.1+p.2.2<=cs.length) ->
    Instr.fill place cs.toArray ((ps.map (·.1)).zip vs)=some (nR cs ps us).toArray
  | [],[],[],cs,_,_,_=>by simp[Instr.fill,nR]
  | [],[],_ :: _,_,h,_,_=>by simp[nT]at h
  | [],_ :: _,[],_,h,_,_=>by simp[nT]at h
  | [],_ :: _,_ :: _,_,_,h,_=>by simp[XG]at h
  | _ :: _,_,[],_,_,h,_=>by simp[XG]at h
  | _ :: _,[],_ :: _,_,h,_,_=>by simp[nT]at h
  | (i,o,s) :: ps,v :: vs,u :: us,cs,⟨h1,h2⟩,⟨h3,h4⟩,hp=>by obtain⟨b,d⟩:=hp (i,o,s) Oy;simp only at b d;have e:v.cells.size=s:=(by rw[h1];simpa using h3);have a:o+u.length<=cs.length:=(by omega);have C:=wW (place:=place) ps vs us (fC cs o u) h2 h4 (fun p c=>by rw[wI a];exact hp p (by simp[c]));simp only[List.map_cons,List.zip_cons_cons,Instr.fill,b];rw[if_neg (by simp[e];omega),VH h1 o cs a];simpa [nR]using C
def afm (pl:List (Nat × Nat)) (m:Nat):List (Nat × Nat × Nat)->Bool
  | []=>true
  | (i,o,s) :: r=>(match pl[i]? with
    | some (o',s')=>Nat.beq o' o && Nat.beq s' s && Nat.ble (o+s) m
    | none=>false) && afm pl m r
theorem KX {pl:List (Nat × Nat)} {m:Nat}:∀{ps:List (Nat × Nat × Nat)},afm pl m ps=true->∀p∈ps,pl[p.1]? = some (p.2.1,p.2.2)/\p.2.1+p.2.2<=m
  | [],_,p,hp=>by cases hp
  | (i,o,s) :: r,h,p,hp=>by
    simp only[afm,Bool.and_eq_true]at h
    rcases List.mem_cons.1 hp with rfl|hp'
    · cases hq:pl[i]? with
      | none=>rw[hq]at h;simp at h
      | some q =>
        obtain⟨f,g⟩:=q;rw[hq]at h;simp only[Bool.and_eq_true]at h;obtain⟨⟨⟨c,d⟩,e⟩,_⟩:=h;have a:=Nat.eq_of_beq_eq_true c;have b:=Nat.eq_of_beq_eq_true d;subst a;subst b;exact⟨rfl,lB e⟩
    · exact KX h.2 p hp'
section
variable {P:Program} {ops:Array Oper} {Q:Exit->Act->World->Prop} {rest:List Oper}
variable {n:Nat} {A:Fr n} {D:List Deferred} {l:List (Nat × Value)} {w:World}
variable {d:Tmp} {op:Op} {ty:TypeId} {ps:String} {af:Array Edge} {g:Option (Nat × Bool)}
theorem aah {t:TypeId} {zs vs:List Value} {us:List (List Value)} {pl:List (Nat × Nat)} {ps:List (Nat × Nat × Nat)} (c:dW P t=some zs) (b:fH P t=some pl) (h:nT vs us) (i:XG ps us) (j:afm pl zs.length ps=true) :
    P.built t ((ps.map (·.1)).zip vs)=some (nR zs ps us).toArray:=by
  have G:=KX j;unfold dW at c;cases hi:P.info? t with
  | none=>simp[hi]at c
  | some it =>
    cases hzz:it.zero with
    | none=>simp[hi,hzz]at c
    | some z =>
      simp only[hi,hzz,Option.some.injEq]at c;have D:z.cells=zs.toArray:=(by rw[<- c]);unfold fH at b;unfold Program.built;cases hu:P.underlying t with
      | none=>simp[hu]at b
      | some d =>
        cases d <;> try (simp[hu]at b;done)
        case array m e =>
          cases hie:P.info? e with
          | none=>simp[hu,hie]at b
          | some ie =>
            simp only[hu,hie,Option.some.injEq]at b;simp only[hi,hzz,hie,D];refine wW ps vs us zs h i (fun p C=>?_);obtain⟨a,f⟩:=G p C;rw[<- b,List.getElem?_map]at a;have H:(List.range m)[p.1]? = some p.1:=by
              cases hq:(List.range m)[p.1]? with
              | none=>rw[hq]at a;simp at a
              | some q=>have:=List.getElem?_eq_some_iff.1 hq;obtain⟨k,g⟩:=this;simp at g;rw[<- g]
            rw[H]at a;simp only[Option.map_some,Option.some.injEq,Prod.mk.injEq]at a;exact⟨by rw[a.1,a.2],f⟩
        case struct ak =>
          simp only[hu]at b;simp only[hi,hzz,b,D];refine wW ps vs us zs h i (fun p C=>?_);obtain⟨a,f⟩:=G p C;exact⟨by simpa using a,f⟩
theorem bN {t:TypeId} {parts:List (Nat × Operand)} {zs vs cs:List Value} {us:List (List Value)} {pl:List (Nat × Nat)} (ps:List (Nat × Nat × Nat)) {d:Option Tmp} {j:String} (i:dW P t=some zs) (f:fH P t=some pl) (h:parts.map (·.1)=ps.map (·.1)) (e:evs n l (parts.map (·.2))=some vs)
    (hc:nT vs us) (hs:XG ps us) (hps:afm pl zs.length ps=true) (hcs:nR zs ps us=cs) :
    cg P ⟨d,.build t parts.toArray,ty,j,af,g⟩ (aQ A D l).eval w (.agg cs.toArray):=by
  have b:=mP (A:=A) (D:=D) e;have a:parts.map (fun p=>(p.1,(aQ A D l).eval p.2))=(ps.map (·.1)).zip vs:=by rw[<- h,<- b,List.map_map,List.zip_map'];rfl
  have C:=aah i f hc hs hps;rw[<- a]at C;have c:=run_build (P:=P) w t (parts.map (fun p=>(p.1,(aQ A D l).eval p.2))).toArray _ (by simpa using C);subst hcs;simp only[cg,execOp,List.map_toArray];show Sem.run P (do pure (Next.value (<- Instr.build t (parts.map fun x=>(x.1,(aQ A D l).eval x.2)).toArray))) w=_;simp[c]
def rowAt (sz:Nat):Nat->Nat->List (Nat × Nat × Nat)
  | _,0=>[]
  | i,k+1=>(i,i*sz,sz) :: rowAt sz (i+1) k
def MJ (sz:Nat):List (List Value)->Prop
  | []=>True
  | u :: us=>u.length=sz/\MJ sz us
theorem TP {sz:Nat}:∀(us:List (List Value)) (i:Nat),MJ sz us->XG (rowAt sz i us.length) us
  | [],_,_=>trivial
  | _ :: us,i,h=>⟨h.1,TP us (i+1) h.2⟩
theorem KN {sz:Nat} {p:Nat × Nat × Nat}:∀{i k:Nat},p∈rowAt sz i k->p.2.1=p.1*sz/\p.2.2=sz/\p.1<i+k
  | _,0,h=>by cases h
  | i,k+1,h=>by
    rcases List.mem_cons.1 h with rfl|h
    · exact⟨q,q,by simp⟩
    · have:=KN h;omega
theorem AR {sz:Nat}:∀(us:List (List Value)) (i:Nat) (pre cs:List Value),MJ sz us->pre.length=i*sz->cs.length=us.length*sz->nR (pre ++ cs) (rowAt sz i us.length) us=pre ++ us.flatten
  | [],i,pre,cs,_,_,h=>by have:cs=[]:=List.eq_nil_of_length_eq_zero (by simpa using h);subst this;simp[rowAt,nR]
  | u :: us,i,pre,cs,h,hp,hc=>by
    simp only[List.length_cons,rowAt,nR];have b:cs.length=sz+us.length*sz:=(by simpa [Nat.succ_mul,Nat.add_comm]using hc);have a:fC (pre ++ cs) (i*sz) u=(pre ++ u) ++ cs.drop sz:=(by simp only[fC,<- hp,h.1];rw[List.take_left,List.drop_append,List.drop_of_length_le (Nat.le_add_right _ _),Nat.add_sub_cancel_left];simp);rw[a,AR us (i+1) (pre ++ u) (cs.drop sz) h.2 (by simp[hp,h.1,Nat.succ_mul]) Ym];simp
theorem aR {t e:TypeId} {m sz B:Nat} {parts:List (Nat × Operand)} {vs:List Value} (us:List (List Value)) (J:P.underlying t=some (.slice e)) (E:wT P e sz B=true) (M:0<sz) (L:m*sz<=16777216) (I:parts.map (·.1)=(rowAt sz 0 m).map (·.1)) (F:evs n l (parts.map (·.2))=some vs)
    (hc:nT vs us) (hl:MJ sz us) (hlen:us.length=m) (h0:m≠0)
    (k:∀b a,w.heap.size<=b->b<a.heap.size->Md [] w a->bS a b us.flatten e->wpList P ops Q rest (aQ A D ((d,.slice (some ⟨b,0,none⟩) m m) :: l)) a) :
    wpList P ops Q (⟨some d,.buildSlice t m parts.toArray,ty,ps,af,none⟩ :: rest) (aQ A D l) w:=by
  refine fZ q ?_;obtain⟨i,z,f,R,y,T,K⟩:=r8 E;have u:=mP (A:=A) (D:=D) F;have G:parts.map (fun p=>(p.1,(aQ A D l).eval p.2))=((rowAt sz 0 m).map (·.1)).zip vs:=by rw[<- I,<- u,List.map_map,List.zip_map'];rfl
  have g:∀C:List Value,C.length=m*sz->Instr.fill (fun i=>some (i*sz,sz)) C.toArray (((rowAt sz 0 m).map (·.1)).zip vs)=some us.flatten.toArray:=by
    intro C c;have:=wW (place:=fun i=>some (i*sz,sz)) (rowAt sz 0 m) vs us C hc (by rw[<- hlen];exact TP us 0 hl) (fun p v=>by
      have h:=KN v;refine⟨by rw[h.1,h.2.1],?_⟩;rw[h.1,h.2.1,c,<- Nat.succ_mul];exact Nat.mul_le_mul_right _ Xx)
    have H:=AR us 0 [] C hl Oy (by rw[c,hlen]);simp only[List.nil_append]at H;rw[hlen]at H;rw[this,H]
  have r:¬(m*sz=0):=Nat.mul_ne_zero h0 Xx;have j:(execOp (aQ A D l).eval ⟨some d,.buildSlice t m parts.toArray,ty,ps,af,none⟩).run P w = .ok (.value (.slice (some ⟨w.heap.size,0,none⟩) m m)) (w.alloc (.cells us.flatten.toArray e)):=by
    show Sem.run P (do pure (Next.value (<- Instr.buildSlice t m ((parts.toArray).map fun x=>(x.1,(aQ A D l).eval x.2))))) w=_;rw[List.map_toArray,G];have o:((List.range (m*sz)).map fun x=>(z.cells)[x%z.cells.size]!).length=m*sz:=(by simp);have:=g _ o;simp only[Instr.buildSlice,Sem.run_bind,run_underlying J,Result.andThen_ok,eF f,y];have s:Array.map (fun x=>z.cells[x%z.cells.size]!) (Array.range (m*sz))=((List.range (m*sz)).map fun x=>(z.cells)[x%z.cells.size]!).toArray:=(by apply Array.ext';simp);simp only[show ¬(m*sz > 2 ^ 24)from by omega,if_neg r,if_false];simp[zeroValue,typeInfo,f,R,newRow];rw[s,this];simp
  unfold Oper.wp;rw[j];exact k _ _ (Nat.le_refl _) Oy (Md.alloc w _) (bS.new w us.flatten e)
theorem Own.blk {e:TypeId} {sz m:Nat} {v:Value} {cs:List Value} (h:Own w e sz v m cs) (a:0<m):∃b cap cur,v = .slice (some ⟨b,0,none⟩) m cap/\bS w b cur e/\m<=cap/\cap<=maxLen/\cur.length=cap*sz/\cur.take (m*sz)=cs:=by
  rcases h.2 with⟨rfl,rfl⟩|⟨g,cap,cur,rfl,F,B,C,A,D,E⟩
  · omega
  exact⟨g,cap,cur.toList,q,B,C,A,by simpa using D,E⟩
theorem Own.cF {e:TypeId} {sz m b cap:Nat} {cur:List Value} (d:bS w b cur e) (h1:m<=cap) (c:cap<=maxLen) (a:cur.length=cap*sz):Own w e sz (.slice (some ⟨b,0,none⟩) m cap) m (cur.take (m*sz)):=by refine⟨by rw[List.length_take,a];exact Nat.min_eq_left (Nat.mul_le_mul_right _ h1),.inr ⟨b,cap,cur.toArray,q,Nat.zero_le _,d,h1,c,by simpa using a,by simp⟩⟩
variable {α:Type} {T:Dt α} {R R':Nat->Prop}
def Lz (T:Dt α) (w:World) (Q:Nat->Prop) (v:Value) (xs:List α):Prop :=
  ∃a cap cs,v = .slice a xs.length cap/\xs.length<=cap/\cap<=maxLen/\(a=none->cap=0)/\(∀p,a=some p->∀j u,cs[j]? = some u->w.cell? (p.add j)=some u)/\su T w Q cs xs
theorem Ls.lz {v:Value} {xs:List α} (h:Ls T w R v xs):Lz T w R v xs:=by obtain⟨a,A,B,C,D,E,F,I,G,H⟩:=h;exact⟨a,A,B,C,D,E,F,G,H⟩
theorem Ow.lz {e:TypeId} {lo:Nat->Prop} {v:Value} {xs:List α} (h:Ow T e lo w R v xs):Lz T w R v xs:=by obtain⟨⟨B,C,D⟩,I⟩:=h;obtain⟨a,A,rfl,E,F,G,H⟩:=pC C;exact⟨a,A,B,q,E,F,G,H,D⟩
theorem uD {x y:Operand} {t e:TypeId} {sz L:Nat} {lo:Nat->Prop} {v u:Value} {xs ys:List α} (r:T.n=sz) (Y:P.underlying t=some (.slice e)) (U:wT P e sz L=true) (Z:ev n l x=some v) (aa:ev n l y=some u)
    (hO:Ow T e lo w R v xs) (hY:Lz T w R u ys) (uR:Up w R) (hlo:∀b,w.heap.size<=b->lo b) (h63:xs.length+ys.length<=9223372036854775807) (hbytes:(xs.length+ys.length)*L<=140737488355328)
    (k:∀j m p,(∀b,R b->b<w.heap.size->p b)->(∀b,p b->R b)->Up m p->Ow T e lo m p j (xs ++ ys)->Md (ah v).toList w m->(∀b∈(ah v).toList,¬p b)->(∀b,ah v=some b->b<w.heap.size) ->
      (∀b,ah j=some b->ah v=some b\/w.heap.size<=b)->wpList P ops Q rest (aQ A D ((d,j) :: l)) m) :
    wpList P ops Q (⟨some d,.call {callee:=.builtin .append,args:=#[x,y],argTypes:=#[t,t]},ty,ps,af,none⟩ :: rest) (aQ A D l) w:=by
  subst r;refine fZ q ?_;obtain⟨a,H,s,rfl,ad,f,J,W,B⟩:=hY;have X:=hO;obtain⟨⟨I,K,O⟩,C⟩:=X;obtain⟨j,m,S,V,G,ab,z⟩:=vO (P:=P) (w:=w) (ty':=ty) Y U T.pos K (a:=a) (k:=ys.length) (c:=H) (news:=s) B.len (fun h=>⟨by have:=J h;omega,J h⟩) W B.one (by simpa [maxLen]using h63) hbytes;have N:(execOp (aQ A D l).eval ⟨some d,.call {callee:=.builtin .append,args:=#[x,y],argTypes:=#[t,t]},ty,ps,af,none⟩).run P w = .ok (.value j) m:=by simp[execOp,resolve,invoke,builtin,bL Z,bL aa,S]
  unfold Oper.wp;rw[N];have F:∀b,R b->b<w.heap.size->(R b/\ah j≠some b):=fun b i g=>⟨i,fun o=>by
    rcases z b o with h|h
    · exact(C b h).2 i
    · omega⟩
  have r:∀b∈(ah v).toList,¬(R b/\ah j≠some b):=fun b i E=>by
    cases o:ah v with
    | none=>rw[o]at i;simp at i
    | some c=>rw[o]at i;simp at i;subst i;exact(C _ o).2 E.1
  have M:Own m e T.n j (xs ++ ys).length (I ++ s):=by simpa using V
  refine k j m (fun b=>R b/\ah j≠some b) F (fun b i=>i.1) (fun b i=>⟨uR b (lv G.size i),fun o=>by have:=M.lt b o;omega⟩) ⟨⟨I ++ s,M,?_⟩,fun b i=>⟨?_,fun E=>E.2 i⟩⟩ G r K.lt z
  · exact((O.sub F).md G r).append ((B.sub F).md G r)
  rcases z b i with h|h
  · exact(C b h).1
  exact hlo b h
theorem ez {x y:Operand} {t e:TypeId} {sz g:Nat} {lo:Nat->Prop} {v u:Value} {xs ys:List α} (i:T.n=sz) (j:P.underlying t=some (.slice e)) (h:wT P e sz g=true) (m:ev n l x=some v) (o:ev n l y=some u)
    (hO:Ow T e lo w R v xs) (hY:Ls T w R' u ys) (hR:∀b,R' b->b<w.heap.size->R b) (uR:Up w R) (hlo:∀b,w.heap.size<=b->lo b) (h63:xs.length+ys.length<=9223372036854775807) (hbytes:(xs.length+ys.length)*g<=140737488355328)
    (k:∀f c a,(∀b,R b->b<w.heap.size->a b)->(∀b,a b->R b)->Up c a->Ow T e lo c a f (xs ++ ys)->Md (ah v).toList w c->(∀b∈(ah v).toList,¬a b)->(∀b,ah v=some b->b<w.heap.size) ->
      (∀b,ah f=some b->ah v=some b\/w.heap.size<=b)->wpList P ops Q rest (aQ A D ((d,f) :: l)) c) :
    wpList P ops Q (⟨some d,.call {callee:=.builtin .append,args:=#[x,y],argTypes:=#[t,t]},ty,ps,af,none⟩ :: rest) (aQ A D l) w :=
  uD i j h m o hO (hY.sub hR).lz uR hlo h63 hbytes k
theorem Ow.into {e:TypeId} {lo:Nat->Prop} {i:Nat} {v:Value} {xs:List α} {c:List Value} {z:α} (s:Ow T e lo w R v xs) (l:T.oP w R c z) (hi:i<xs.length) :
    ∃b cap cur,v = .slice (some ⟨b,0,none⟩) xs.length cap/\bS w b cur e/\i*T.n+c.length<=cur.length/\¬R b/\∀d,Md [b] w d->bS d b (fC cur (i*T.n) c) e->Ow T e lo d R v (xs.set i z):=by
  obtain⟨⟨G,P,C⟩,f⟩:=s;obtain⟨b,cap,cur,rfl,Q,H,p,h,r⟩:=P.blk Xx;have D:=T.len l;have u:i*T.n+T.n<=xs.length*T.n:=by rw[<- Nat.succ_mul];exact Nat.mul_le_mul_right _ hi
  have t:xs.length*T.n<=cur.length:=by rw[h];exact Nat.mul_le_mul_right _ H
  have j:∀g∈[b],¬R g:=fun g a=>by simp at a;subst a;exact(f _ q).2
  refine⟨b,cap,cur,q,Q,by omega,(f _ q).2,fun d k a=>⟨⟨(fC cur (i*T.n) c).take (xs.length*T.n),by simpa using Own.cF (m:=xs.length) a H p (by rw[wI Xx,h]),?_⟩,f⟩⟩;have o:(fC cur (i*T.n) c).take (xs.length*T.n)=G.take (i*T.n) ++ c ++ G.drop (i*T.n+T.n):=by unfold fC;rw[D,<- r,List.take_append,List.take_of_length_le Ym,List.take_take,Nat.min_eq_left Xx,List.drop_take];congr 2;simp;omega
  rw[o];exact(C.md k j).set (T.md l k j) hi
theorem Xp (cs:List Value) (j:Nat) (u:Value) (h:j<cs.length):cs.set j u=fC cs j [u]:=by rw[List.set_eq_take_append_cons_drop,if_pos h];simp[fC]
theorem XF {x y:Operand} {t e:TypeId} {lo:Nat->Prop} {i k:Nat} {v u:Value} {xs:List α} {z:α} (hk:k=i*T.n) (o:ev n l x=some (mO v k)) (p:ev n l y=some u) (m:iJ P t=true)
    (hO:Ow T e lo w R v xs) (hz:T.oP w R [u] z) (hi:i<xs.length)
    (kk:∀a,Md (ah v).toList w a->(∀b∈(ah v).toList,¬R b)->Ow T e lo a R v (xs.set i z)->wpList P ops Q rest (aQ A D l) a) :
    wpList P ops Q (⟨none,.store t x y,ty,ps,af,none⟩ :: rest) (aQ A D l) w:=by
  subst hk;obtain⟨b,q,G,rfl,h,H,f,g⟩:=hO.into hz hi;simp only[List.length_singleton]at H;refine bn (b:=b) (j:=i*T.n) (by rw[o];simp[mO,Addr.kL]) p m (T.one hz u Oy) h Xx fun a d C=>?_;rw[Xp _ _ _ Xx]at C;exact kk a (by simpa [ah]using d) (fun r c=>by simp[ah]at c;subst c;exact f) (g a d C)
theorem uE {x y:Operand} {t e:TypeId} {lo:Nat->Prop} {i k:Nat} {v:Value} {xs:List α} {c:List Value} {z:α} (hk:k=i*T.n) (o:ev n l x=some (mO v k)) (p:ev n l y=some (.agg c.toArray)) (m:fI P t c.length=true)
    (hO:Ow T e lo w R v xs) (hz:T.oP w R c z) (hi:i<xs.length)
    (kk:∀a,Md (ah v).toList w a->(∀b∈(ah v).toList,¬R b)->Ow T e lo a R v (xs.set i z)->wpList P ops Q rest (aQ A D l) a) :
    wpList P ops Q (⟨none,.store t x y,ty,ps,af,none⟩ :: rest) (aQ A D l) w:=by
  subst hk;obtain⟨b,q,r,rfl,g,G,H,f⟩:=hO.into hz hi;refine aK (b:=b) (j:=i*T.n) (by rw[o];simp[mO,Addr.kL]) p m (T.one hz) g G fun a C h=>?_;exact kk a (by simpa [ah]using C) (fun s d=>by simp[ah]at d;subst d;exact H) (f a C h)
theorem Ls.cF {e:TypeId} {b m:Nat} {cs:List Value} {xs:List α} (d:bS w b cs e) (f:su T w R cs xs) (h:xs.length=m) (c:m<=maxLen) (g:R b):Ls T w R (.slice (some ⟨b,0,none⟩) m m) xs:=by subst h;exact⟨_,_,cs,q,Nat.le_refl _,c,by simp,fun p a _=>by cases a;exact g,fun p a i j C=>by cases a;rw[Addr.kL,Nat.zero_add,d.cell];exact C,f⟩
theorem Ow.cF {e:TypeId} {lo:Nat->Prop} {b m:Nat} {cs:List Value} {xs:List α} (g:bS w b cs e) (d:su T w R cs xs) (j:xs.length=m) (f:m<=maxLen) (i:lo b) (h:¬R b):Ow T e lo w R (.slice (some ⟨b,0,none⟩) m m) xs:=by subst j;have c:=d.len;have:=Own.cF (sz:=T.n) (m:=xs.length) g (Nat.le_refl _) f c;rw[<- c,List.take_length]at this;exact⟨⟨cs,this,d⟩,fun C a=>by simp[ah]at a;subst a;exact⟨i,h⟩⟩
theorem gJ {t e:TypeId} {sz g:Nat} (j:P.underlying t=some (.slice e)) (h:wT P e sz g=true)
    (k:∀b a,w.heap.size<=b->b<a.heap.size->Md [] w a->bS a b [] e->wpList P ops Q rest (aQ A D ((d,.slice (some ⟨b,0,none⟩) 0 0) :: l)) a) :
    wpList P ops Q (⟨some d,.buildSlice t 0 #[],ty,ps,af,none⟩ :: rest) (aQ A D l) w:=by
  refine fZ q ?_;obtain⟨i,z,f,n,H,G,m⟩:=r8 h;have c:(execOp (aQ A D l).eval ⟨some d,.buildSlice t 0 #[],ty,ps,af,none⟩).run P w = .ok (.value (.slice (some ⟨w.heap.size,0,none⟩) 0 0)) (w.alloc (.cells ([]:List Value).toArray e)):=by show Sem.run P (do pure (Next.value (<- Instr.buildSlice t 0 ((#[]:Array (Nat × Operand)).map fun x=>(x.1,(aQ A D l).eval x.2))))) w=_;have C:(Array.map (fun x=>(default:Value)) (Array.range 0)) = #[]:=(by simp[Array.range]);simp[Instr.buildSlice,run_underlying j,eF f,Instr.fill,newRow,C]
  unfold Oper.wp;rw[c];exact k _ _ (Nat.le_refl _) Oy (Md.alloc w _) (bS.new w [] e)
theorem aaJ (a:List Value) (m:Nat) (f:0<a.length):(madeCells a.toArray (m*a.length)).toList=(List.replicate m a).flatten:=by
  induction m with
  | zero=>simp[madeCells]
  | succ m ih =>
    rw[List.replicate_succ',List.flatten_append,<- ih];simp only[madeCells,List.flatten_cons,List.flatten_nil,List.append_nil];apply List.ext_getElem
    · simp[Nat.succ_mul]
    · intro b d C
      simp at d C
      by_cases hj:b<m*a.length
      · rw[List.getElem_append_left (by simpa using hj)];simp
      · rw[List.getElem_append_right (by simpa using hj)]
        simp only[Array.toList_map,Array.toList_range,List.getElem_map,List.getElem_range,List.length_map,List.length_range];have e:b%a.length=b-m*a.length:=(by rw[show b=(b-m*a.length)+m*a.length by omega,Nat.add_mul_mod_self_right,Nat.add_sub_cancel];exact Nat.mod_eq_of_lt Xx);have c:b-m*a.length<a.length:=(by omega);simp[e,c]
theorem adb {a:List Value} {z:α} (m:Nat) (h:∀w R,T.oP w R a z):su T w R (List.replicate m a).flatten (List.replicate m z):=by
  induction m with
  | zero=>rfl
  | succ m ih=>exact⟨a,_,by simp[List.replicate_succ],h _ _,ih⟩
theorem Pe {x:Operand} {t e:TypeId} {sz u m:Nat} {j:IntKind} {lo:Nat->Prop} {z:α} {zs:List Value} (J:T.n=sz) (K:P.underlying t=some (.slice e)) (I:wT P e sz u=true) (h:dW P e=some zs) (L:ev n l x=some (.int j (m:Int)))
    (hrep:∀w R,T.oP w R zs z) (uR:Up w R) (hlo:∀b,w.heap.size<=b->lo b) (hm:m<=9223372036854775807/\m*u<=140737488355328)
    (k:∀o c g,(∀b,R b->b<w.heap.size->g b)->(∀b,g b->R b)->Up c g->Ow T e lo c g o (List.replicate m z)->Md [] w c->(∀b,ah o=some b->w.heap.size<=b)->wpList P ops Q rest (aQ A D ((d,o) :: l)) c) :
    wpList P ops Q (⟨some d,.makeSlice t x x,ty,ps,af,none⟩ :: rest) (aQ A D l) w:=by
  subst J;refine fZ q ?_;obtain⟨i,s,p,G,F,a,V⟩:=r8 I;have y:s.cells=zs.toArray:=by unfold dW at h;simp only[p,G,Option.some.injEq]at h;rw[<- h]
  have H:zs.length=T.n:=T.len (hrep w R);obtain⟨c,E,r,f⟩:=run_make_full (P:=P) w 0 t e i s T.n K p G F j j m (by rw[a];have:=hm.2;rw[Nat.mul_comm]at this;omega) (by simp only[maxLen];exact hm.1) (Nat.zero_le _);have v:(execOp (aQ A D l).eval ⟨some d,.makeSlice t x x,ty,ps,af,none⟩).run P w = .ok (.value (.slice (some ⟨w.heap.size,0,none⟩) m m)) c:=by simp[execOp,bL L,E]
  unfold Oper.wp;rw[v];have C:Own c e T.n (.slice (some ⟨w.heap.size,0,none⟩) m m) (List.replicate m z).length (List.replicate m zs).flatten:=by rw[y,<- H,aaJ zs m (by rw[H];exact T.pos)]at r;rw[<- H];simpa [Own]using r
  have N:w.heap.size<c.heap.size:=Own.lt C _ q;have M:w.heap.size<=c.heap.size:=f.size;refine k _ _ (fun b=>R b/\b≠w.heap.size) (fun b a H=>⟨a,by omega⟩) (fun b a=>a.1) (fun b a=>⟨uR b Xx,by omega⟩) ⟨⟨_,C,adb m hrep⟩,fun b a=>?_⟩ ⟨f.os,f.tape,f.output,f.size,fun k hk _=>f.block k hk Oy⟩ (fun b a=>?_)
  · simp[ah]at a;subst a;exact⟨hlo _ (Nat.le_refl _),fun B=>B.2 q⟩
  have O:w.heap.size=b:=by simpa [ah]using a
  omega
theorem aku {x y:Operand} {t e:TypeId} {sz M m c:Nat} {lo:Nat->Prop} {p:Addr} {u:Value} {xs ys:List α} (ae:T.n=sz) (ag:P.underlying t=some (.slice e)) (ab:wT P e sz M=true) (ai:ev n l x=some (.slice (some p) m c)) (aj:ev n l y=some u)
    (hX:Ls T w R (.slice (some p) m c) xs) (hY:Ls T w R u ys) (uR:Up w R) (hlo:∀b,w.heap.size<=b->lo b) (hm:xs.length=m) (hg:c<m+ys.length) (h63:xs.length+ys.length<=9223372036854775807) (hbytes:(xs.length+ys.length)*M<=140737488355328)
    (k:∀J F E,(∀b,R b->b<w.heap.size->E b)->(∀b,E b->R b)->Up F E->Ow T e lo F E J (xs ++ ys)->Md [] w F->(∀b,ah J=some b->w.heap.size<=b)->wpList P ops Q rest (aQ A D ((d,J) :: l)) F) :
    wpList P ops Q (⟨some d,.call {callee:=.builtin .append,args:=#[x,y],argTypes:=#[t,t]},ty,ps,af,none⟩ :: rest) (aQ A D l) w:=by
  subst ae;subst hm;refine fZ rfl ?_;obtain⟨i,z,g,ak,V,a,X⟩:=r8 ab;obtain⟨o,al,j,K,an,ao,ap,aq,Z,B⟩:=hX;simp only[Value.slice.injEq]at K;obtain⟨rfl,_,rfl⟩:=K;obtain⟨L,O,G,rfl,r,v,W,am,Y,s⟩:=hY;have aa:∃q,L=some q:=by
    cases L with
    | none=>have:=W rfl;omega
    | some q=>exact⟨q,rfl⟩
  obtain⟨q,rfl⟩:=aa;have h:=run_append_grow (P:=P) w t ty e i z ag g ak p xs.length c j (by rw[V];exact B.len) (Z p rfl) q ys.length O G (by rw[V];exact s.len) (Y q rfl) hg Xx (by rw[a];exact growslice_fits hg hbytes);have U:=grownCap_ge w (xs.length+ys.length) c e;have S:=grownCap_le_maxLen w (xs.length+ys.length) c e (by simp only[maxLen];exact h63);have N:(execOp (aQ A D l).eval ⟨some d,.call {callee:=.builtin .append,args:=#[x,y],argTypes:=#[t,t]},ty,ps,af,none⟩).run P w = .ok (.value (.slice (some ⟨w.heap.size,0,none⟩) (xs.length+ys.length) (grownCap w (xs.length+ys.length) c e)))
        (w.drew.alloc (.cells (j.toArray ++ G.toArray ++ Builtin.zeroCells z.cells (grownCap w (xs.length+ys.length) c e-(xs.length+ys.length))) e)):=by
    simp[execOp,resolve,invoke,builtin,bL ai,bL aj,h]
  unfold Oper.wp;rw[N];have C:(j ++ G).length=(xs.length+ys.length)*T.n:=by rw[List.length_append,B.len,s.len,Nat.add_mul]
  have H:Md [] w (w.drew.alloc (.cells (j.toArray ++ G.toArray ++ Builtin.zeroCells z.cells (grownCap w (xs.length+ys.length) c e-(xs.length+ys.length))) e)):=⟨rfl,rfl,rfl,by simp,fun k hk _=>heap_alloc_old w.drew _ hk⟩;have I:∀b,R b->b<w.heap.size->(R b/\b≠w.heap.size):=fun b a ar=>⟨a,by omega⟩;refine k _ _ (fun b=>R b/\b≠w.heap.size) I (fun b a=>a.1) (fun b a=>?_) ⟨⟨j ++ G,⟨by simpa using C,.inr ⟨w.heap.size,_,_,by simp,Nat.zero_le _,heap_alloc_new w.drew _,by simpa using U,S,?_,?_⟩⟩,?_⟩,fun b a=>?_⟩ H (fun b a=>?_)
  · have ad:w.heap.size+1<=b:=by simpa using a
    exact⟨uR b Xx,by omega⟩
  · simp only[Array.size_append,List.size_toArray,size_zeroCells,X,B.len,s.len,<- Nat.add_mul]
    congr 1;omega
  · simp only[Array.toList_append,List.append_assoc]
    rw[<- List.append_assoc];have:(xs ++ ys).length*T.n=(j ++ G).length:=(by rw[C];simp);rw[this];exact List.take_left
  · exact((B.sub I).append (s.sub I)).md H Oy
  · simp[ah]at a;subst a;exact⟨hlo _ (Nat.le_refl _),fun f=>f.2 rfl⟩
  have ad:w.heap.size=b:=by simpa [ah]using a
  omega
theorem Ls.zw {d:Type} {f:d->Value} {h1:∀x,(f x).oneCell'=true} {ok:d->Prop} {b o m:Nat} {cs:List Value} {ty':TypeId} {xs:List d} (g:bS w b cs ty') (h:R b) (j:xs.length=m) (e:m<=maxLen) (i:(cs.drop o).take m=xs.map f) (k:∀x∈xs,ok x):Ls (uF f h1 ok) w R (.slice (some ⟨b,o,none⟩) m m) xs:=by
  subst j;refine⟨_,_,xs.map f,q,Nat.le_refl _,e,by simp,fun p c _=>by cases c;exact h,fun p c l n a=>?_,BN k⟩;cases c;rw[Addr.kL,g.cell];rw[<- i,List.getElem?_take]at a;split at a
  · rw[List.getElem?_drop]at a;exact a
  cases a
end
section
variable {P:Program} {Q:Exit->Act->World->Prop} {n:Nat} {A:Fr n} {D:List Deferred} {l:List (Nat × Value)} {w:World}
def ain {X0:Type} (n:Nat) (D:List Deferred) (inv:X0->List (Nat × Value)) (W:X0->World->Prop) (mu:X0->Nat) (m:Nat) (a:Act) (w:World):Prop :=
  ∃y0:X0,∃B:Fr n,a=aQ B D (inv y0)/\W y0 w/\mu y0<m
theorem nD {a:Type} {c:Code} (inv:a->List (Nat × Value)) (W:a->World->Prop) (d:a->Nat) (x0:a) (i:Fits n l (inv x0)) (j:W x0 w)
    (round:∀(x0:a) (B:Fr n) (b:World),W x0 b->c.wp P (Exit.then (ain n D inv W d (d x0)) Q) (aQ B D (inv x0)) b) :
    (Code.loop c).wp P Q (aQ A D l) w:=by
  refine jh (X:=a) (fun p=>inv p) (fun p w=>W p w) (fun p=>d p) x0 i j (fun p B b h=>wp_mono (round p B b h) ?_);intro g k m h;cases g with
  | normal=>obtain⟨H,C,e,f,G⟩:=h;exact⟨H,C,e,f,G⟩
  | _=>exact h
theorem mU {a:Type} {inv:a->List (Nat × Value)} {W:a->World->Prop} {b:a->Nat} {m:Nat} (x0:a) (d:b x0<m) (c:Fits n l (inv x0)) (e:W x0 w) :
    ain n D inv W b m (aQ A D l) w:=⟨x0,_,(cP (A:=A) (D:=D) c).symm,e,d⟩
def aio {X0 X1:Type} (n:Nat) (D:List Deferred) (inv:X0->X1->List (Nat × Value)) (W:X0->X1->World->Prop) (mu:X0->X1->Nat) (m:Nat) (a:Act) (w:World):Prop :=
  ∃y0:X0,∃y1:X1,∃B:Fr n,a=aQ B D (inv y0 y1)/\W y0 y1 w/\mu y0 y1<m
theorem vI {a b:Type} {c:Code} (inv:a->b->List (Nat × Value)) (W:a->b->World->Prop) (e:a->b->Nat) (x0:a) (x1:b) (k:Fits n l (inv x0 x1)) (m:W x0 x1 w)
    (round:∀(x0:a) (x1:b) (B:Fr n) (d:World),W x0 x1 d->c.wp P (Exit.then (aio n D inv W e (e x0 x1)) Q) (aQ B D (inv x0 x1)) d) :
    (Code.loop c).wp P Q (aQ A D l) w:=by
  refine jh (X:=a × b) (fun p=>inv p.1 p.2) (fun p w=>W p.1 p.2 w) (fun p=>e p.1 p.2) (x0,x1) k m (fun p B d h=>wp_mono (round (p.1) (p.2) B d h) ?_);intro j o q h;cases j with
  | normal=>obtain⟨H,i,C,f,g,G⟩:=h;exact⟨(H,i),C,f,g,G⟩
  | _=>exact h
theorem tY {a b:Type} {inv:a->b->List (Nat × Value)} {W:a->b->World->Prop} {c:a->b->Nat} {m:Nat} (x0:a) (x1:b) (e:c x0 x1<m) (d:Fits n l (inv x0 x1)) (f:W x0 x1 w) :
    aio n D inv W c m (aQ A D l) w:=⟨x0,x1,_,(cP (A:=A) (D:=D) d).symm,f,e⟩
def aip {X0 X1 X2:Type} (n:Nat) (D:List Deferred) (inv:X0->X1->X2->List (Nat × Value)) (W:X0->X1->X2->World->Prop) (mu:X0->X1->X2->Nat) (m:Nat) (a:Act) (w:World):Prop :=
  ∃y0:X0,∃y1:X1,∃y2:X2,∃B:Fr n,a=aQ B D (inv y0 y1 y2)/\W y0 y1 y2 w/\mu y0 y1 y2<m
theorem lI {a b d:Type} {c:Code} (inv:a->b->d->List (Nat × Value)) (W:a->b->d->World->Prop) (f:a->b->d->Nat) (x0:a) (x1:b) (x2:d) (o:Fits n l (inv x0 x1 x2)) (q:W x0 x1 x2 w)
    (round:∀(x0:a) (x1:b) (x2:d) (B:Fr n) (e:World),W x0 x1 x2 e->c.wp P (Exit.then (aip n D inv W f (f x0 x1 x2)) Q) (aQ B D (inv x0 x1 x2)) e) :
    (Code.loop c).wp P Q (aQ A D l) w:=by
  refine jh (X:=a × b × d) (fun p=>inv p.1 p.2.1 p.2.2) (fun p w=>W p.1 p.2.1 p.2.2 w) (fun p=>f p.1 p.2.1 p.2.2) (x0,x1,x2) o q (fun p B e h=>wp_mono (round (p.1) (p.2.1) (p.2.2) B e h) ?_);intro m r s h;cases m with
  | normal=>obtain⟨H,j,k,C,g,i,G⟩:=h;exact⟨(H,j,k),C,g,i,G⟩
  | _=>exact h
theorem jD {a b c:Type} {inv:a->b->c->List (Nat × Value)} {W:a->b->c->World->Prop} {d:a->b->c->Nat} {m:Nat} (x0:a) (x1:b) (x2:c) (f:d x0 x1 x2<m) (e:Fits n l (inv x0 x1 x2)) (g:W x0 x1 x2 w) :
    aip n D inv W d m (aQ A D l) w:=⟨x0,x1,x2,_,(cP (A:=A) (D:=D) e).symm,g,f⟩
def aiq {X0 X1 X2 X3:Type} (n:Nat) (D:List Deferred) (inv:X0->X1->X2->X3->List (Nat × Value)) (W:X0->X1->X2->X3->World->Prop) (mu:X0->X1->X2->X3->Nat) (m:Nat) (a:Act) (w:World):Prop :=
  ∃y0:X0,∃y1:X1,∃y2:X2,∃y3:X3,∃B:Fr n,a=aQ B D (inv y0 y1 y2 y3)/\W y0 y1 y2 y3 w/\mu y0 y1 y2 y3<m
theorem Zj {a b d e:Type} {c:Code} (inv:a->b->d->e->List (Nat × Value)) (W:a->b->d->e->World->Prop) (g:a->b->d->e->Nat) (x0:a) (x1:b) (x2:d) (x3:e) (r:Fits n l (inv x0 x1 x2 x3)) (s:W x0 x1 x2 x3 w)
    (round:∀(x0:a) (x1:b) (x2:d) (x3:e) (B:Fr n) (f:World),W x0 x1 x2 x3 f->c.wp P (Exit.then (aiq n D inv W g (g x0 x1 x2 x3)) Q) (aQ B D (inv x0 x1 x2 x3)) f) :
    (Code.loop c).wp P Q (aQ A D l) w:=by
  refine jh (X:=a × b × d × e) (fun p=>inv p.1 p.2.1 p.2.2.1 p.2.2.2) (fun p w=>W p.1 p.2.1 p.2.2.1 p.2.2.2 w) (fun p=>g p.1 p.2.1 p.2.2.1 p.2.2.2) (x0,x1,x2,x3) r s (fun p B f h=>wp_mono (round (p.1) (p.2.1) (p.2.2.1) (p.2.2.2) B f h) ?_);intro q t u h;cases q with
  | normal=>obtain⟨H,k,m,o,C,i,j,G⟩:=h;exact⟨(H,k,m,o),C,i,j,G⟩
  | _=>exact h
theorem xH {a b c d:Type} {inv:a->b->c->d->List (Nat × Value)} {W:a->b->c->d->World->Prop} {e:a->b->c->d->Nat} {m:Nat} (x0:a) (x1:b) (x2:c) (x3:d) (g:e x0 x1 x2 x3<m) (f:Fits n l (inv x0 x1 x2 x3)) (h:W x0 x1 x2 x3 w) :
    aiq n D inv W e m (aQ A D l) w:=⟨x0,x1,x2,x3,_,(cP (A:=A) (D:=D) f).symm,h,g⟩
def air {X0 X1 X2 X3 X4:Type} (n:Nat) (D:List Deferred) (inv:X0->X1->X2->X3->X4->List (Nat × Value)) (W:X0->X1->X2->X3->X4->World->Prop) (mu:X0->X1->X2->X3->X4->Nat) (m:Nat) (a:Act) (w:World):Prop :=
  ∃y0:X0,∃y1:X1,∃y2:X2,∃y3:X3,∃y4:X4,∃B:Fr n,a=aQ B D (inv y0 y1 y2 y3 y4)/\W y0 y1 y2 y3 y4 w/\mu y0 y1 y2 y3 y4<m
theorem aec {a b d e f:Type} {c:Code} (inv:a->b->d->e->f->List (Nat × Value)) (W:a->b->d->e->f->World->Prop) (i:a->b->d->e->f->Nat) (x0:a) (x1:b) (x2:d) (x3:e) (x4:f) (t:Fits n l (inv x0 x1 x2 x3 x4)) (u:W x0 x1 x2 x3 x4 w)
    (round:∀(x0:a) (x1:b) (x2:d) (x3:e) (x4:f) (B:Fr n) (g:World),W x0 x1 x2 x3 x4 g->c.wp P (Exit.then (air n D inv W i (i x0 x1 x2 x3 x4)) Q) (aQ B D (inv x0 x1 x2 x3 x4)) g) :
    (Code.loop c).wp P Q (aQ A D l) w:=by
  refine jh (X:=a × b × d × e × f) (fun p=>inv p.1 p.2.1 p.2.2.1 p.2.2.2.1 p.2.2.2.2) (fun p w=>W p.1 p.2.1 p.2.2.1 p.2.2.2.1 p.2.2.2.2 w) (fun p=>i p.1 p.2.1 p.2.2.1 p.2.2.2.1 p.2.2.2.2) (x0,x1,x2,x3,x4) t u (fun p B g h=>wp_mono (round (p.1) (p.2.1) (p.2.2.1) (p.2.2.2.1) (p.2.2.2.2) B g h) ?_);intro s v x h;cases s with
  | normal=>obtain⟨H,m,o,q,r,C,j,k,G⟩:=h;exact⟨(H,m,o,q,r),C,j,k,G⟩
  | _=>exact h
theorem Zs {a b c d e:Type} {inv:a->b->c->d->e->List (Nat × Value)} {W:a->b->c->d->e->World->Prop} {f:a->b->c->d->e->Nat} {m:Nat} (x0:a) (x1:b) (x2:c) (x3:d) (x4:e) (h:f x0 x1 x2 x3 x4<m) (g:Fits n l (inv x0 x1 x2 x3 x4)) (i:W x0 x1 x2 x3 x4 w) :
    air n D inv W f m (aQ A D l) w:=⟨x0,x1,x2,x3,x4,_,(cP (A:=A) (D:=D) g).symm,i,h⟩
def ais {X0 X1 X2 X3 X4 X5:Type} (n:Nat) (D:List Deferred) (inv:X0->X1->X2->X3->X4->X5->List (Nat × Value)) (W:X0->X1->X2->X3->X4->X5->World->Prop) (mu:X0->X1->X2->X3->X4->X5->Nat) (m:Nat) (a:Act) (w:World):Prop :=
  ∃y0:X0,∃y1:X1,∃y2:X2,∃y3:X3,∃y4:X4,∃y5:X5,∃B:Fr n,a=aQ B D (inv y0 y1 y2 y3 y4 y5)/\W y0 y1 y2 y3 y4 y5 w/\mu y0 y1 y2 y3 y4 y5<m
theorem alW {a b d e f g:Type} {c:Code} (inv:a->b->d->e->f->g->List (Nat × Value)) (W:a->b->d->e->f->g->World->Prop) (j:a->b->d->e->f->g->Nat) (x0:a) (x1:b) (x2:d) (x3:e) (x4:f) (x5:g) (v:Fits n l (inv x0 x1 x2 x3 x4 x5)) (x:W x0 x1 x2 x3 x4 x5 w)
    (round:∀(x0:a) (x1:b) (x2:d) (x3:e) (x4:f) (x5:g) (B:Fr n) (i:World),W x0 x1 x2 x3 x4 x5 i->c.wp P (Exit.then (ais n D inv W j (j x0 x1 x2 x3 x4 x5)) Q) (aQ B D (inv x0 x1 x2 x3 x4 x5)) i) :
    (Code.loop c).wp P Q (aQ A D l) w:=by
  refine jh (X:=a × b × d × e × f × g) (fun p=>inv p.1 p.2.1 p.2.2.1 p.2.2.2.1 p.2.2.2.2.1 p.2.2.2.2.2) (fun p w=>W p.1 p.2.1 p.2.2.1 p.2.2.2.1 p.2.2.2.2.1 p.2.2.2.2.2 w) (fun p=>j p.1 p.2.1 p.2.2.1 p.2.2.2.1 p.2.2.2.2.1 p.2.2.2.2.2) (x0,x1,x2,x3,x4,x5) v x (fun p B i h=>wp_mono (round (p.1) (p.2.1) (p.2.2.1) (p.2.2.2.1) (p.2.2.2.2.1) (p.2.2.2.2.2) B i h) ?_);intro u y z h;cases u with
  | normal=>obtain⟨H,o,q,r,s,t,C,k,m,G⟩:=h;exact⟨(H,o,q,r,s,t),C,k,m,G⟩
  | _=>exact h
theorem amc {a b c d e f:Type} {inv:a->b->c->d->e->f->List (Nat × Value)} {W:a->b->c->d->e->f->World->Prop} {g:a->b->c->d->e->f->Nat} {m:Nat} (x0:a) (x1:b) (x2:c) (x3:d) (x4:e) (x5:f) (i:g x0 x1 x2 x3 x4 x5<m) (h:Fits n l (inv x0 x1 x2 x3 x4 x5)) (j:W x0 x1 x2 x3 x4 x5 w) :
    ais n D inv W g m (aQ A D l) w:=⟨x0,x1,x2,x3,x4,x5,_,(cP (A:=A) (D:=D) h).symm,j,i⟩
def ait {X0 X1 X2 X3 X4 X5 X6:Type} (n:Nat) (D:List Deferred) (inv:X0->X1->X2->X3->X4->X5->X6->List (Nat × Value)) (W:X0->X1->X2->X3->X4->X5->X6->World->Prop) (mu:X0->X1->X2->X3->X4->X5->X6->Nat) (m:Nat) (a:Act) (w:World):Prop :=
  ∃y0:X0,∃y1:X1,∃y2:X2,∃y3:X3,∃y4:X4,∃y5:X5,∃y6:X6,∃B:Fr n,a=aQ B D (inv y0 y1 y2 y3 y4 y5 y6)/\W y0 y1 y2 y3 y4 y5 y6 w/\mu y0 y1 y2 y3 y4 y5 y6<m
theorem alX {a b d e f g i:Type} {c:Code} (inv:a->b->d->e->f->g->i->List (Nat × Value)) (W:a->b->d->e->f->g->i->World->Prop) (k:a->b->d->e->f->g->i->Nat) (x0:a) (x1:b) (x2:d) (x3:e) (x4:f) (x5:g) (x6:i) (y:Fits n l (inv x0 x1 x2 x3 x4 x5 x6)) (z:W x0 x1 x2 x3 x4 x5 x6 w)
    (round:∀(x0:a) (x1:b) (x2:d) (x3:e) (x4:f) (x5:g) (x6:i) (B:Fr n) (j:World),W x0 x1 x2 x3 x4 x5 x6 j->c.wp P (Exit.then (ait n D inv W k (k x0 x1 x2 x3 x4 x5 x6)) Q) (aQ B D (inv x0 x1 x2 x3 x4 x5 x6)) j) :
    (Code.loop c).wp P Q (aQ A D l) w:=by
  refine jh (X:=a × b × d × e × f × g × i) (fun p=>inv p.1 p.2.1 p.2.2.1 p.2.2.2.1 p.2.2.2.2.1 p.2.2.2.2.2.1 p.2.2.2.2.2.2) (fun p w=>W p.1 p.2.1 p.2.2.1 p.2.2.2.1 p.2.2.2.2.1 p.2.2.2.2.2.1 p.2.2.2.2.2.2 w) (fun p=>k p.1 p.2.1 p.2.2.1 p.2.2.2.1 p.2.2.2.2.1 p.2.2.2.2.2.1 p.2.2.2.2.2.2) (x0,x1,x2,x3,x4,x5,x6) y z (fun p B j h=>wp_mono (round (p.1) (p.2.1) (p.2.2.1) (p.2.2.2.1) (p.2.2.2.2.1) (p.2.2.2.2.2.1) (p.2.2.2.2.2.2) B j h) ?_);intro x E R h;cases x with
  | normal=>obtain⟨H,q,r,s,t,u,v,C,m,o,G⟩:=h;exact⟨(H,q,r,s,t,u,v),C,m,o,G⟩
  | _=>exact h
theorem amd {a b c d e f g:Type} {inv:a->b->c->d->e->f->g->List (Nat × Value)} {W:a->b->c->d->e->f->g->World->Prop} {h:a->b->c->d->e->f->g->Nat} {m:Nat} (x0:a) (x1:b) (x2:c) (x3:d) (x4:e) (x5:f) (x6:g) (j:h x0 x1 x2 x3 x4 x5 x6<m) (i:Fits n l (inv x0 x1 x2 x3 x4 x5 x6)) (k:W x0 x1 x2 x3 x4 x5 x6 w) :
    ait n D inv W h m (aQ A D l) w:=⟨x0,x1,x2,x3,x4,x5,x6,_,(cP (A:=A) (D:=D) i).symm,k,j⟩
def aiu {X0 X1 X2 X3 X4 X5 X6 X7:Type} (n:Nat) (D:List Deferred) (inv:X0->X1->X2->X3->X4->X5->X6->X7->List (Nat × Value)) (W:X0->X1->X2->X3->X4->X5->X6->X7->World->Prop) (mu:X0->X1->X2->X3->X4->X5->X6->X7->Nat) (m:Nat) (a:Act) (w:World):Prop :=
  ∃y0:X0,∃y1:X1,∃y2:X2,∃y3:X3,∃y4:X4,∃y5:X5,∃y6:X6,∃y7:X7,∃B:Fr n,a=aQ B D (inv y0 y1 y2 y3 y4 y5 y6 y7)/\W y0 y1 y2 y3 y4 y5 y6 y7 w/\mu y0 y1 y2 y3 y4 y5 y6 y7<m
theorem alY {a b d e f g i j:Type} {c:Code} (inv:a->b->d->e->f->g->i->j->List (Nat × Value)) (W:a->b->d->e->f->g->i->j->World->Prop) (m:a->b->d->e->f->g->i->j->Nat) (x0:a) (x1:b) (x2:d) (x3:e) (x4:f) (x5:g) (x6:i) (x7:j) (E:Fits n l (inv x0 x1 x2 x3 x4 x5 x6 x7)) (F:W x0 x1 x2 x3 x4 x5 x6 x7 w)
    (round:∀(x0:a) (x1:b) (x2:d) (x3:e) (x4:f) (x5:g) (x6:i) (x7:j) (B:Fr n) (k:World),W x0 x1 x2 x3 x4 x5 x6 x7 k->c.wp P (Exit.then (aiu n D inv W m (m x0 x1 x2 x3 x4 x5 x6 x7)) Q) (aQ B D (inv x0 x1 x2 x3 x4 x5 x6 x7)) k) :
    (Code.loop c).wp P Q (aQ A D l) w:=by
  refine jh (X:=a × b × d × e × f × g × i × j) (fun p=>inv p.1 p.2.1 p.2.2.1 p.2.2.2.1 p.2.2.2.2.1 p.2.2.2.2.2.1 p.2.2.2.2.2.2.1 p.2.2.2.2.2.2.2) (fun p w=>W p.1 p.2.1 p.2.2.1 p.2.2.2.1 p.2.2.2.2.1 p.2.2.2.2.2.1 p.2.2.2.2.2.2.1 p.2.2.2.2.2.2.2 w) (fun p=>m p.1 p.2.1 p.2.2.1 p.2.2.2.1 p.2.2.2.2.1 p.2.2.2.2.2.1 p.2.2.2.2.2.2.1 p.2.2.2.2.2.2.2) (x0,x1,x2,x3,x4,x5,x6,x7) E F (fun p B k h=>wp_mono (round (p.1) (p.2.1) (p.2.2.1) (p.2.2.2.1) (p.2.2.2.2.1) (p.2.2.2.2.2.1) (p.2.2.2.2.2.2.1) (p.2.2.2.2.2.2.2) B k h) ?_);intro z R I h;cases z with
  | normal=>obtain⟨H,r,s,t,u,v,x,y,C,o,q,G⟩:=h;exact⟨(H,r,s,t,u,v,x,y),C,o,q,G⟩
  | _=>exact h
theorem ame {a b c d e f g h:Type} {inv:a->b->c->d->e->f->g->h->List (Nat × Value)} {W:a->b->c->d->e->f->g->h->World->Prop} {i:a->b->c->d->e->f->g->h->Nat} {m:Nat} (x0:a) (x1:b) (x2:c) (x3:d) (x4:e) (x5:f) (x6:g) (x7:h) (k:i x0 x1 x2 x3 x4 x5 x6 x7<m) (j:Fits n l (inv x0 x1 x2 x3 x4 x5 x6 x7)) (o:W x0 x1 x2 x3 x4 x5 x6 x7 w) :
    aiu n D inv W i m (aQ A D l) w:=⟨x0,x1,x2,x3,x4,x5,x6,x7,_,(cP (A:=A) (D:=D) j).symm,o,k⟩
def zU (P:Program) (w:World) (n:Nat) (l:List (Nat × Value)):List ResultVar->List Value->Prop
  | [],[]=>True
  | .tmp t :: r,v :: vs=>ev n l (.tmp t)=some v/\zU P w n l r vs
  | .cell t ty :: r,v :: vs=>(∃p,ev n l (.tmp t)=some (.pointer (some p))/\(loadVar ty p).run P w = .ok v w)/\zU P w n l r vs
  | _,_=>False
theorem qK {fn:Func} {rs:List ResultVar} {vs:List Value} (f:fn.results=rs.toArray) (h:zU P w n l rs vs) :
    (results fn (aQ A D l).tmps).run P w = .ok (if h:vs.length=1 then vs[0]else .tuple vs.toArray) w:=by
  have d:∀(rs:List ResultVar) (vs:List Value),zU P w n l rs vs->(rs.mapM (fun x:ResultVar=>(match x with
      | .tmp t=>pure ((aQ A D l).tmps.getD t undef)
      | .cell a t=>do loadVar t (<- asAddr ((aQ A D l).tmps.getD a undef)):Sem Value))).run P w = .ok vs w:=by
    intro rs
    induction rs with
    | nil=>intro vs h;cases vs with
      | nil=>simp
      | cons v vs=>simp[zU]at h
    | cons r rs ih =>
      intro vs h;cases vs with
      | nil=>cases r <;> simp[zU]at h
      | cons v vs =>
        cases r with
        | tmp t =>
          obtain⟨b,C⟩:=h;have c:=po (A:=A) (D:=D) b;simp only[List.mapM_cons,Sem.run_bind,Sem.run_pure,Result.andThen_ok,ih vs C,c]
        | cell t ty =>
          obtain⟨⟨p,b,H⟩,C⟩:=h;have c:=po (A:=A) (D:=D) b;have e:(asAddr (.pointer (some p))).run P w = .ok p w:=(by simp[asAddr]);simp only[List.mapM_cons,Sem.run_bind,Sem.run_pure,Result.andThen_ok,ih vs C,c,e,H]
  have:=d rs vs h;unfold results;rw[f];simp only[List.mapM_toArray,Sem.run_bind,Sem.run_map];rw[show(fun x:ResultVar=>(match x with
      | .tmp t=>pure ((aQ A D l).tmps.getD t undef)
      | .cell a t=>do loadVar t (<- asAddr ((aQ A D l).tmps.getD a undef)):Sem Value))=_ from rfl]at this
  refine Eq.trans (congrArg (fun r:Result (List Value)=>(r.andThen fun a G=>Result.ok a.toArray G).andThen fun a G=>Sem.run P (pure (if h:a.size=1 then a[0]else Value.tuple a)) G) this) ?_;simp
theorem dB {fn:Func} {R:Ending->World->Prop} {e:Exit} {rs:List ResultVar} {vs:List Value} (c:sW e) (f:fn.results=rs.toArray) (h:zU P w n l rs vs) (a:Nat.beq vs.length 1=false) (b:R (.returned (.tuple vs.toArray)) w):bodyPost P fn R e (aQ A [] l) w :=
  bp c fP (qK (A:=A) (D:=[]) f h) (by rw[dif_neg (by intro d;rw[d]at a;cases a)];exact b)
theorem bP {fn:Func} {R:Ending->World->Prop} {e:Exit} {rs:List ResultVar} {v:Value} (b:sW e) (c:fn.results=rs.toArray) (h:zU P w n l rs [v]) (a:R (.returned v) w):bodyPost P fn R e (aQ A [] l) w :=
  bp b fP (qK (A:=A) (D:=[]) c h) a
theorem cw {t ty':TypeId} {b:Nat} {cs:List Value} (c:fI P t cs.length=true) (a:bS w b cs ty'):(loadVar t ⟨b,0,none⟩).run P w = .ok (.agg cs.toArray) w:=oI c a
theorem S5 {t ty':TypeId} {b:Nat} {u:Value} {cs:List Value} (c:iJ P t=true) (a:bS w b cs ty') (d:cs[0]? = some u):(loadVar t ⟨b,0,none⟩).run P w = .ok u w:=by
  have:w.cell? ⟨b,0,none⟩=some u:=by rw[a.cell];exact d
  simp[loadVar,nP c,this]
end
def OC (v:Value):List PanicEntry:=[{v,recovered:=false}]
def RJ (P:Program) (t:TypeId):Bool:=match P.underlying t with|some (.interface _)=>true|_=>false
def FW (P:Program) (t:TypeId):Bool:=match P.underlying t with|some (.interface _)=>false|some _=>true|none=>false
theorem AH {P:Program} {t:TypeId} (h:FW P t=true):∃X,P.underlying t=some X/\∀Y,X≠.interface Y:=by
  unfold FW at h;split at h
  · cases h
  · rename_i X h1 h2;exact⟨X,h2,fun Y e=>h1 Y e⟩
  cases h
theorem EW {P:Program} {t:TypeId} (h:RJ P t=true):∃X,P.underlying t=some (.interface X):=by
  unfold RJ at h;split at h
  · exact⟨_,by assumption⟩
  cases h
section
variable {P:Program} {ops:Array Oper} {Q:Exit->Act->World->Prop} {rest:List Oper}
variable {n:Nat} {A:Fr n} {D:List Deferred} {l:List (Nat × Value)} {w:World}
variable {d:Tmp} {op:Op} {ty:TypeId} {ps:String} {af:Array Edge} {g:Option (Nat × Bool)}
theorem door {vs:List Value} {m:Nat} (f:m=n) (e:Nat.ble vs.length n=true) :
    ∃b:Fr n,aQ b [] (tC 0 vs)={tmps:=vs.toArray ++ Array.replicate (m-vs.toArray.size) undef,defers:=[]}:=by
  have h:vs.length<=n:=lB e;have D:(vs.toArray ++ Array.replicate (m-vs.toArray.size) undef).size=n:=by simp[f];omega
  refine⟨⟨_,D⟩,KV ?_⟩;intro p G;obtain⟨g,c,d⟩:=FR G;obtain⟨a,C⟩:=List.getElem?_eq_some_iff.1 d;simp only[c,Nat.zero_add,Array.getD];rw[dif_pos Ym];show(vs.toArray ++ _)[g]'_=_;rw[Array.getElem_append_left (by simpa using a)];simpa using C
theorem ajv {f:FuncId} {fn:Func} {c:Code} {vs:List Value} {R:Ending->World->Prop} (d:P.funcs[f]? = some fn) (hb:fn.body=some c) (g:fn.ntmps=n) (e:Nat.ble vs.length n=true)
    (h:∀a:Fr n,c.wp P (bodyPostD P fn R) (aQ a [] (tC 0 vs)) w):Calls P f vs.toArray w R:=by
  refine calls_of_wp_defers d hb ?_;obtain⟨a,b⟩:=door g e;rw[<- b];exact h a
theorem ajw {f:FuncId} {fn:Func} {c:Code} {vs:List Value} {u:FrameMode} {R:Ending->FrameMode->World->Prop} (b:P.funcs[f]? = some fn) (hb:fn.body=some c) (e:fn.ntmps=n) (d:Nat.ble vs.length n=true)
    (h:∀(B:Fr n) (c₀:Go.Frame) (cs:List Go.Frame),c₀.mode=u->c.wpS P (bodyPostS P fn c₀ cs R) (aQ B [] (tC 0 vs)) (c₀ :: cs) w):CallsD P f vs.toArray u w R:=by
  refine callsD_of_wpS b hb fun c₀ cs C=>?_;obtain⟨B,a⟩:=door e d;rw[<- a];exact h B c₀ cs C
theorem mL {f:FuncId} {xs:List Operand} {vs:List Value} {b:Option Tmp} (c:evs n l xs=some vs) :
    cg P ⟨b,.makeFunc (.func f) #[] xs.toArray,ty,ps,af,g⟩ (aQ A D l).eval w (.func (.func f) #[] vs.toArray):=by
  have a:=mP (A:=A) (D:=D) c;simp[cg,execOp,Instr.makeFunc,a]
theorem abn (dd:Deferred) (v:Option Tmp) (x:Value):({aQ A D l with defers:=dd :: (aQ A D l).defers}.put v x)=match v with|some t=>aQ A (dd :: D) ((t,x) :: l)|none=>aQ A (dd :: D) l:=by
  have B:∀l:List (Nat × Value),({aQ A D l with defers:=dd :: (aQ A D l).defers}:Act)=aQ A (dd :: D) l:=by
    intro l;rw[fP]
    induction l with
    | nil=>rfl
    | cons p r ih=>simp only[aQ,Act.put]at ih ⊢;simp only[<- ih]
  rw[B];cases v <;> rfl
theorem afS {f:FuncId} {c:Operand} {b:Array TypeId} {cs:List Value} {a:Option Tmp} (e:ev n l c=some (.func (.func f) #[] cs.toArray))
    (k:wpList P ops Q rest (match a with|some t=>aQ A (⟨.fn (.func f) cs.toArray,#[]⟩ :: D) ((t,undef) :: l)|none=>aQ A (⟨.fn (.func f) cs.toArray,#[]⟩ :: D) l) w) :
    wpList P ops Q (⟨a,.defer {callee:=.value c,args:=#[],argTypes:=b},ty,ps,af,none⟩ :: rest) (aQ A D l) w:=by
  refine fZ q ?_;unfold Oper.wp;have d:(execOp (aQ A D l).eval ⟨a,.defer {callee:=.value c,args:=#[],argTypes:=b},ty,ps,af,none⟩).run P w = .ok (.defer ⟨.fn (.func f) cs.toArray,#[]⟩) w:=by simp[execOp,resolve,bL e,Deferred.ofValue]
  rw[d];show wpList P ops Q rest ({aQ A D l with defers:=_ :: (aQ A D l).defers}.put a undef) w;rw[abn];cases a <;> exact k
theorem abQ {f:FuncId} {c:Operand} {xs:List Operand} {g:Array TypeId} {vs cs:List Value} {R:Ending->World->Prop} {e:Option Tmp} (m:ev n l c=some (.func (.func f) #[] cs.toArray)) (o:cA P f=true) (j:evs n l xs=some vs) (p:Calls P f (vs ++ cs).toArray w R)
    (k:∀a b,R a b->(∃v,a = .returned v/\wpList P ops Q rest ((aQ A D l).put e v) b)\/∃d,a = .panicked d/\Q (.panic d) (aQ A D l) b) :
    wpList P ops Q (⟨e,.call {callee:=.value c,args:=xs.toArray,argTypes:=g},ty,ps,af,none⟩ :: rest) (aQ A D l) w:=by
  refine fZ q ?_;unfold Oper.wp;have i:=mP (A:=A) (D:=D) j;have h:(execOp (aQ A D l).eval ⟨e,.call {callee:=.value c,args:=xs.toArray,argTypes:=g},ty,ps,af,none⟩).run P w = .ok (.enter f (vs ++ cs).toArray) w:=by simp only[execOp,resolve,bL m,Deferred.ofValue,List.map_toArray,i];simp[invoke,p9 o]
  rw[h];refine p.mono fun a b C=>?_
  rcases k a b C with⟨v,rfl,hk⟩|⟨d,rfl,hk⟩
  · exact hk
  exact hk
theorem j4 {f:FuncId} {xs:List Operand} {j:Array TypeId} {vs:List Value} {R:Ending->World->Prop} (h:cA P f=true) (g:evs n l xs=some vs) (i:Calls P f vs.toArray w R)
    (k:∀a b,R a b->(∃v,a = .returned v/\wpList P ops Q rest (aQ A D ((d,v) :: l)) b)\/∃c,a = .panicked c/\Q (.panic c) (aQ A D l) b) :
    wpList P ops Q (⟨some d,.call {callee:=.value (.func f),args:=xs.toArray,argTypes:=j},ty,ps,af,none⟩ :: rest) (aQ A D l) w:=by
  refine fZ q ?_;unfold Oper.wp;rw[yO h g];refine i.mono fun a b e=>?_
  rcases k a b e with⟨v,rfl,hk⟩|⟨c,rfl,hk⟩
  · exact hk
  exact hk
theorem nK {x:Operand} {t:TypeId} {v:Value} {c:Option Tmp} (a:FW P t=true) (d:ev n l x=some v) :
    cg P ⟨c,.makeInterface t x,ty,ps,af,g⟩ (aQ A D l).eval w (.iface t v):=by
  obtain⟨b,a,e⟩:=AH a;cases b <;> simp_all [cg,execOp,bL d,Instr.makeInterface,run_underlying a]
theorem qd {x:Operand} {t:TypeId} {v:Value} {a:Option Tmp} (c:ev n l x=some (.iface t v)) (k:Q (.panic (OC (.iface t v))) (aQ A D l) w) :
    wpList P ops Q (⟨a,.panic x,ty,ps,af,none⟩ :: rest) (aQ A D l) w:=by
  refine fZ q ?_;unfold Oper.wp;have b:(execOp (aQ A D l).eval ⟨a,.panic x,ty,ps,af,none⟩).run P w = .halt (.panic (.iface t v)) w:=by simp[execOp,bL c,Instr.panic,goPanic]
  rw[b];exact k
theorem gC {fn:Func} {R:Ending->World->Prop} {a:List PanicEntry} (h:R (.panicked a) w):bodyPost P fn R (.panic a) (aQ A [] l) w:=⟨fP,h⟩
theorem agG {t s:TypeId} {v:Value} {X} (w:World) (dd:Nat) (a:P.underlying t=some (.interface X)):(Op.equalIn (dd+1) t (.iface s v) .nilIface).run P w = .ok false w:=by simp only[Op.equalIn,Sem.run_bind,run_underlying a,Result.andThen_ok,Sem.run_pure]
theorem agF {t:TypeId} {X} (w:World) (dd:Nat) (a:P.underlying t=some (.interface X)):(Op.equalIn (dd+1) t .nilIface .nilIface).run P w = .ok true w:=by simp only[Op.equalIn,Sem.run_bind,run_underlying a,Result.andThen_ok,Sem.run_pure]
theorem ahB {x:Operand} {t u s:TypeId} {v:Value} (e:ev n l x=some (.iface s v)) (a:RJ P t=true) :
    cg P ⟨some d,.binOp .neq t x (.const .nilIface) u,ty,ps,af,g⟩ (aQ A D l).eval w (.bool true):=by
  obtain⟨f,a⟩:=EW a;have C:(aQ A D l).eval (.const .nilIface) = .nilIface:=rfl;have c:(eqGuard .neq t x (.const .nilIface) (.iface s v) .nilIface).run P w = .ok () w:=by unfold eqGuard;simp
  have b:(binOp .neq t (.iface s v) .nilIface).run P w = .ok (.bool true) w:=by simp only[binOp,Op.equal,Op.maxDepth,Sem.run_bind,agG w 9999 a,Result.andThen_ok,Sem.run_pure,Bool.not_false]
  simp[cg,execOp,bL e,C,c,b]
theorem ahC {x:Operand} {t u:TypeId} (e:ev n l x=some .nilIface) (a:RJ P t=true) :
    cg P ⟨some d,.binOp .neq t x (.const .nilIface) u,ty,ps,af,g⟩ (aQ A D l).eval w (.bool false):=by
  obtain⟨f,a⟩:=EW a;have C:(aQ A D l).eval (.const .nilIface) = .nilIface:=rfl;have c:(eqGuard .neq t x (.const .nilIface) .nilIface .nilIface).run P w = .ok () w:=by unfold eqGuard;simp
  have b:(binOp .neq t .nilIface .nilIface).run P w = .ok (.bool false) w:=by simp only[binOp,Op.equal,Op.maxDepth,Sem.run_bind,agF w 9999 a,Result.andThen_ok,Sem.run_pure,Bool.not_true]
  simp[cg,execOp,bL e,C,c,b]
end
section
variable {P:Program} {ops:Array Oper} {QS:Exit->Act->List Go.Frame->World->Prop} {cs:List Go.Frame} {rest:List Nat}
variable {n:Nat} {A:Fr n} {D:List Deferred} {l:List (Nat × Value)} {w:World}
theorem afR {i d:Nat} {o:Oper} (v:Value) (e:ops[i]? = some o) (c:o.guard=none) (hd:o.dst=some d) (a:cg P o (aQ A D l).eval w v) (k:wpOpsS P ops QS rest (aQ A D ((d,v) :: l)) cs w) :
    wpOpsS P ops QS (i :: rest) (aQ A D l) cs w:=by
  have b:Region.wanted o (yielded ops (aQ A D l).tmps)=true:=by simp[Region.wanted,c]
  unfold cg at a;simp only[wpOpsS,e,b,if_true,a,Oper.upon,hd];exact k
theorem akt {i d:Nat} {o:Oper} {n:Array TypeId} (j:ops[i]? = some o) (h:o.guard=none) (hd:o.dst=some d) (m:o.op = .call {callee:=.builtin .recover,args:=#[],argTypes:=n}) {v:Value} {b:List PanicEntry} {c:Go.Frame} {a:List Go.Frame} (g:cs=c :: a)
    (hm:c.mode = .panicking ({v,recovered:=false} :: b)) (k:wpOpsS P ops QS rest (aQ A D ((d,v) :: l)) ({c with mode:=.panicking ({v,recovered:=true} :: b)} :: a) w) :
    wpOpsS P ops QS (i :: rest) (aQ A D l) cs w:=by
  have f:Region.wanted o (yielded ops (aQ A D l).tmps)=true:=by simp[Region.wanted,h]
  have C:(execOp (aQ A D l).eval o).run P w = .ok .recover w:=by simp[execOp,m,resolve,invoke,builtin]
  subst g;have e:recoverD (c :: a)=some (v,{c with mode:=.panicking ({v,recovered:=true} :: b)} :: a):=by simp[recoverD,hm]
  simp only[wpOpsS,j,f,if_true,C,e,hd];exact k
theorem ahS {i d:Nat} {o:Oper} {m:Array TypeId} (h:ops[i]? = some o) (g:o.guard=none) (hd:o.dst=some d) (j:o.op = .call {callee:=.builtin .recover,args:=#[],argTypes:=m}) {c:Go.Frame} {a:List Go.Frame} (f:cs=c :: a)
    (hm:c.mode = .returning) (k:wpOpsS P ops QS rest (aQ A D ((d,.nilIface) :: l)) cs w) :
    wpOpsS P ops QS (i :: rest) (aQ A D l) cs w:=by
  have e:Region.wanted o (yielded ops (aQ A D l).tmps)=true:=by simp[Region.wanted,g]
  have C:(execOp (aQ A D l).eval o).run P w = .ok .recover w:=by simp[execOp,j,resolve,invoke,builtin]
  subst f;have b:recoverD (c :: a)=none:=by simp[recoverD,hm]
  simp only[wpOpsS,h,e,if_true,C,b,hd];exact k
theorem afQ (k:QS .normal (aQ A D l) cs w):wpOpsS P ops QS [] (aQ A D l) cs w:=k
end
section
variable {P:Program} {n:Nat} {A:Fr n} {l:List (Nat × Value)} {w:World}
theorem am1 {fn:Func} {c₀:Go.Frame} {cs:List Go.Frame} {R:Ending->FrameMode->World->Prop} {u':FrameMode} {e:Exit} (b:sW e) (c:fn.results = #[]) (a:R (.returned (.tuple #[])) u' w) :
    bodyPostS P fn c₀ cs R e (aQ A [] l) ({c₀ with mode:=u'} :: cs) w:=by
  have h:=qK (P:=P) (w:=w) (A:=A) (D:=[]) (l:=l) (fn:=fn) (rs:=[]) (vs:=[]) c trivial;cases e with
  | normal=>exact⟨fP,u',q,_,h,a⟩
  | ret=>exact⟨fP,u',q,_,h,a⟩
  | _=>exact b.elim
theorem am2 {fn:Func} {c₀:Go.Frame} {cs:List Go.Frame} {R:Ending->FrameMode->World->Prop} {u:FrameMode} {e:Exit} (b:c₀.mode=u) (c:sW e) (d:fn.results = #[]) (a:R (.returned (.tuple #[])) u w) :
    bodyPostS P fn c₀ cs R e (aQ A [] l) (c₀ :: cs) w:=by
  have h:({c₀ with mode:=u}:Go.Frame)=c₀:=by subst b;rfl
  have:=am1 (P:=P) (A:=A) (l:=l) (c₀:=c₀) (cs:=cs) (u':=u) c d a
  rwa [h]at this
theorem leave1 {fn:Func} {R:Ending->World->Prop} {t ty:Nat} {d:Deferred} {u:FrameMode} {f:FuncId} {cs:List Value} (k:u≠.run) (hd:d=⟨.fn (.func f) cs.toArray,#[]⟩) (g:cA P f=true) (i:fn.results = #[.cell t ty]) {p:Addr} (j:ev n l (.tmp t)=some (.pointer (some p)))
    (h:CallsD P f cs.toArray u w fun c b a=>c = .returned (.tuple #[])/\settle b = .returning/\∃v,(loadVar ty p).run P a = .ok v a/\R (.returned v) a) :
    Leaves P fn (aQ A [d] l).tmps R [d] u w:=by
  subst hd;refine leaves_cons k (f:=f) (args:=cs.toArray) (by simp[invoke,p9 g]) (h.mono ?_);rintro c b a ⟨rfl,C,v,D,e⟩;show Leaves P fn _ R [] (settle b) a;rw[C];exact⟨v,qK (A:=A) (rs:=[.cell t ty]) (vs:=[v]) i ⟨⟨p,j,D⟩,tV⟩,e⟩
end
section
variable {P:Program} {n:Nat} {A:Fr n} {D:List Deferred} {l:List (Nat × Value)} {w:World} {d:Option Tmp} {ty:TypeId} {ps:String} {af:Array Edge} {g:Option (Nat × Bool)}
theorem ab4 {x:Operand} {t a:TypeId} {v:Value} (b:FW P a=true) (e:ev n l x=some (.iface a v)) :
    cg P ⟨d,.typeAssert x t a true,ty,ps,af,g⟩ (aQ A D l).eval w (.tuple #[v,.bool true]):=by
  obtain⟨c,b,f⟩:=AH b;cases c <;> simp_all [cg,execOp,bL e,Instr.typeAssert,run_underlying b]
end
def digit (c:UInt8):Bool:=decide (48<=c.toNat/\c.toNat<=57)
def iX (c:UInt8):Bool:=decide ((65<=c.toNat/\c.toNat<=90)\/(48<=c.toNat/\c.toNat<=57)\/c.toNat=95)
def eB (s:Ly):Bool:=decide (1<=s.length) && decide (s.length<=64) && !digit (s.getD 0 0) && s.all iX
theorem PY {f:UInt8->Bool} {s:Ly} (h:∀j,j<s.length->f (s.getD j 0)=true):s.all f=true:=by rw[List.all_eq_true];intro x B;obtain⟨j,A,rfl⟩:=List.mem_iff_getElem.1 B;have:=h j A;simpa [List.getD,A]using this
theorem ad8 {f:UInt8->Bool} {s:Ly} (h:s.all f=true) {j:Nat} (hj:j<s.length):f (s.getD j 0)=true:=by rw[List.all_eq_true]at h;have:=h (s[j]'hj) (List.getElem_mem hj);simpa [List.getD,hj]using this
theorem Zr {s:Ly} (h1:1<=s.length) (b:s.length<=64) (c:digit (s.getD 0 0)=false) (d:∀a,a<s.length->iX (s.getD a 0)=true):eB s=true:=by unfold eB;rw[decide_eq_true h1,decide_eq_true b,c,PY d];rfl
theorem fV {s:Ly} (h:eB s=true):1<=s.length/\s.length<=64:=by simp only[eB,Bool.and_eq_true,decide_eq_true_eq]at h;exact⟨h.1.1.1,h.1.1.2⟩
theorem aek {s:Ly} (h:eB s=true) {c:UInt8} (a:c∈s):iX c=true:=by simp only[eB,Bool.and_eq_true]at h;exact List.all_eq_true.1 h.2 c a
theorem iv {s:Ly} (h:eB s=true):¬(48<=(s.getD 0 0).toNat/\(s.getD 0 0).toNat<=57):=by simp only[eB,Bool.and_eq_true,Bool.not_eq_true']at h;have:=h.1.2;unfold digit at this;exact dF this
theorem kR {s:Ly} (h:eB s=true) (j:Nat) (a:j<s.length):(65<=(s.getD j 0).toNat/\(s.getD j 0).toNat<=90)\/(48<=(s.getD j 0).toNat/\(s.getD j 0).toNat<=57)\/(s.getD j 0).toNat=95:=by simp only[eB,Bool.and_eq_true]at h;exact dT (ad8 h.2 a)
abbrev zT:=List UInt8 × List UInt8
def whole (p:zT):List UInt8:=p.1 ++ [61] ++ p.2
def right (p:zT):Bool:=eB p.1 && decide (p.2.length<=256)
def adQ (p:zT):Int:=if eB p.1=false then 1 else if 256<p.2.length then 21 else 0
def gG (s:Ly):Int :=
  if Lib.indexByte s 61<0 then 20 else if eB (s.take (Lib.indexByte s 61).toNat)=false then 20 else if 256<(s.drop ((Lib.indexByte s 61).toNat+1)).length then 21 else 0
def nk (s:Ly):zT:=if gG s=0 then(s.take (Lib.indexByte s 61).toNat,s.drop ((Lib.indexByte s 61).toNat+1))else([],[])
theorem mI (p:zT):(adQ p=0)↔right p=true:=by unfold adQ right;cases eB p.1 <;> simp
theorem xq {s:Ly} {c:UInt8} (h:0<=Lib.indexByte s c):(Lib.indexByte s c).toNat<s.length/\s[(Lib.indexByte s c).toNat]? = some c:=by obtain⟨o,A⟩:=Int.eq_ofNat_of_zero_le h;have:=(Lib.indexByte_some A).1;rw[A];exact⟨(List.getElem?_eq_some_iff.1 this).1,this⟩
theorem NI {a b:Ly} {c:UInt8} (h:c∉a):Lib.indexByte (a ++ c :: b) c=a.length:=by
  induction a with
  | nil=>simp[Lib.indexByte]
  | cons x r ih =>
    have B:x≠c:=fun A=>h (by simp[A]);have C:c∉r:=fun A=>h (by simp[A]);have D:(x == c)=false:=(by simp[B]);simp only[List.cons_append,Lib.indexByte,D,ih C];have:((r.length:Int) == -1)=false:=(by rw[beq_eq_false_iff_ne];omega);simp[this]
theorem oz {p:zT} (h:adQ p=0):gG (whole p)=0/\nk (whole p)=p:=by
  obtain⟨a,b⟩:=p;have A:=(mI _).1 h;simp only[right,Bool.and_eq_true,decide_eq_true_eq]at A;have G:(61:UInt8)∉a:=fun F=>by have:=aek A.1 F;revert this;decide
  have E:Lib.indexByte (whole (a,b)) 61=a.length:=by unfold whole;simp only[List.append_assoc,List.singleton_append];exact NI G
  have B:(whole (a,b)).take a.length=a:=by simp[whole]
  have C:(whole (a,b)).drop (a.length+1)=b:=by unfold whole;rw[List.drop_append_of_le_length Oy];simp
  have D:gG (whole (a,b))=0:=by unfold gG;rw[E,if_neg Xx,Int.toNat_natCast,B,C,if_neg (by simp[A.1]),if_neg Xx]
  refine⟨D,?_⟩;unfold nk;rw[if_pos D,E,Int.toNat_natCast,B,C]
theorem pG {s:Ly} (h:gG s≠0):nk s=([],[]):=by unfold nk;rw[if_neg h]
theorem ael {s:Ly} (h1:1<=s.length) (h:∀j,j<s.length->iX (s.getD j 0)=true/\(j=0->digit (s.getD j 0)=false)):decide ((s.length:Int)<=64)=eB s:=by have B:=(h 0 Xx).2 q;have A:=PY fun j C=>(h j C).1;unfold eB;rw[decide_eq_true h1,B,A,Bool.true_and,Bool.not_false,Bool.and_true,Bool.and_true];exact decide_eq_decide.2 Xx
theorem alU {l:Ly} {c:UInt8} {i:Nat} (hi:i<l.length) (b:l.getD i 0=c) (h:∀a,a<i->l.getD a 0≠c):Lib.indexByte l c=i:=by
  induction l generalizing i with
  | nil=>simp at hi
  | cons x r ih =>
    cases i with
    | zero=>simp[List.getD]at b;subst b;simp[Lib.indexByte]
    | succ i =>
      have d:(x == c)=false:=(by have:=h 0 Xx;simpa [List.getD]using this);have:=ih (i:=i) (by simpa using hi) (by simpa [List.getD]using b) (fun a f=>by have:=h (a+1) Xx;simpa [List.getD]using this);simp only[Lib.indexByte,d,this];have e:((i:Int) == -1)=false:=(by rw[beq_eq_false_iff_ne];omega);simp[e]
theorem aha {l:Ly} {c:UInt8} (h:∀j,j<l.length->l.getD j 0≠c):Lib.indexByte l c<0:=by refine Int.lt_of_not_ge fun A=>?_;obtain⟨B,C⟩:=xq (s:=l) (c:=c) A;exact h _ B (by simp[List.getD,C])
section
variable {P:Program} {n:Nat} {A:Fr n} {D:List Deferred} {l:List (Nat × Value)} {w:World}
variable {d:Option Tmp} {ty:TypeId} {ps:String} {af:Array Edge} {g:Option (Nat × Bool)}
theorem ah8 {f:FuncId} {xs:List Operand} {e:Array TypeId} {vs:List Value} {v:Value} (b:evs n l xs=some vs) (c:(callFunc f vs.toArray).run P w = .ok (.value v) w) :
    cg P ⟨d,.call {callee:=.value (.func f),args:=xs.toArray,argTypes:=e},ty,ps,af,g⟩ (aQ A D l).eval w v:=by
  have a:=mP (A:=A) (D:=D) b;simp only[cg,execOp,resolve,Act.eval,Deferred.ofValue,List.map_toArray,a];simp[invoke,c]
theorem ahK {v:Value} {s:Ly} (m:By w v s) (c:UInt8):(Extern.BytealgIndexByte.indexByte #[v,b8 c]).run P w = .ok (.int .i64 (Lib.indexByte s c)) w:=by
  obtain⟨g,a,rfl,j,n,k,H⟩:=m;have D:Lib.bytesOf (s.map fun x=>(x.toNat:Int))=s:=by simp[Lib.bytesOf,Function.comp_def]
  cases s with
  | nil =>
    cases g with
    | none =>
      change Sem.run P (do
        let b <- Extern.Bytes.bytesOf (.slice none 0 a)
        let c <- Extern.Bytes.asByte (b8 c)
        match (List.range b.size).find? fun i=>b[i]! == c with
        | some i=>pure (goInt i)
        | none=>pure (goInt (-1))) w=_
      simp[Extern.Bytes.bytesOf,Extern.Bytes.asByte,b8,Lib.indexByte,goInt]
    | some p =>
      change Sem.run P (do
        let b <- Extern.Bytes.bytesOf (.slice (some p) 0 a)
        let c <- Extern.Bytes.asByte (b8 c)
        match (List.range b.size).find? fun i=>b[i]! == c with
        | some i=>pure (goInt i)
        | none=>pure (goInt (-1))) w=_
      simp[Extern.Bytes.bytesOf,Extern.Bytes.asByte,b8,Lib.indexByte,Extern.Bytes.loadBytes,goInt]
  | cons x r =>
    cases g with
    | none=>have:=k rfl;simp at j;omega
    | some p =>
      have C:=H p rfl 0 (b8 x) rfl;obtain⟨d,G,e⟩:=p;have h:e=none:=by
        cases e with
        | none=>rfl
        | some q =>
          unfold World.cell? at C;simp only[Addr.add]at C;split at C <;> (simp at C;done)
      subst h;have:=Lib.run_indexByteSlice (P:=P) w d G (x :: r).length a ((x :: r).map fun x=>(x.toNat:Int)) Oy (fun i f=>by
        have:=H _ rfl i (b8 ((x :: r).getD i 0)) (by simpa using YP (x :: r) i f);have l:(⟨d,G,none⟩:Addr).add i=⟨d,G+i,none⟩:=(by unfold Addr.add;split <;> simp_all);rw[l]at this;rw[this,b8];rw[List.getD_eq_getElem?_getD,List.getD_eq_getElem?_getD,List.getElem?_map,List.getElem?_eq_getElem f];rfl) c.toNat
      rw[D]at this;simpa [b8]using this
end
def iA:List UInt8->Int
  | []=>0
  | b :: r=>(b.toNat:Int)+256*iA r
theorem sE (l:Ly):0<=iA l:=by
  induction l with
  | nil=>simp[iA]
  | cons b r ih=>simp only[iA];omega
theorem adZ (l:Ly):iA l<256 ^ l.length:=by
  induction l with
  | nil=>simp[iA]
  | cons b r ih =>
    simp only[iA,List.length_cons,Int.pow_succ];have:=b.toNat_lt;omega
theorem tO {l:Ly} {k:Nat} (h:l.length<=k):iA l<256 ^ k:=by refine Int.lt_of_lt_of_le (adZ l) ?_;have B:256 ^ l.length<=256 ^ k:=Nat.pow_le_pow_right Xx h;have A:=Int.ofNat_le.2 B;rw[Int.natCast_pow,Int.natCast_pow]at A;exact A
def szB (n:Int):Bool:=decide (n=1\/n=2\/n=4\/n=8)
theorem ahP (v:Int) (c:UInt8) (d:0<=v) (h1:v<72057594037927936) :
    bits .or .u64 (nj .u64 v 8) (IntKind.u64.wrap (c.toNat:Int))=(c.toNat:Int)+256*v:=by
  obtain⟨m,rfl⟩:=Int.eq_ofNat_of_zero_le d;have e:=c.toNat_lt;have a:nj .u64 (m:Int) 8=((m*256:Nat):Int):=by unfold nj;have:min (8:Int).toNat IntKind.u64.bits=8:=(by decide);rw[this,wrap_u64 Xx Xx];omega
  have b:IntKind.u64.wrap (c.toNat:Int)=(c.toNat:Int):=wrap_u64 Xx Xx;rw[a,b];unfold bits;simp only[BitVec.ofInt_natCast];have D:IntKind.u64.bits=64:=rfl;have C:(BitVec.ofNat IntKind.u64.bits (m*256) ||| BitVec.ofNat IntKind.u64.bits c.toNat).toNat=c.toNat+256*m:=by rw[BitVec.toNat_or,BitVec.toNat_ofNat,BitVec.toNat_ofNat,D,Nat.mod_eq_of_lt Xx,Nat.mod_eq_of_lt Xx];have:=Nat.two_pow_add_eq_or_of_lt (i:=8) (show c.toNat<2 ^ 8 by omega) m;rw[show m*256=2 ^ 8*m by omega,<- this];omega
  rw[C,wrap_u64 Xx Xx];omega
theorem Wm (l:Ly) (at' i k:Nat) (h:at'+i<l.length):iA (((l.drop (at'+i)).take (k+1)))=((l.getD (at'+i) 0).toNat:Int)+256*iA ((l.drop (at'+(i+1))).take k):=by
  have:l.drop (at'+i)=l.getD (at'+i) 0 :: l.drop (at'+(i+1)):=by rw[List.drop_eq_getElem_cons h];simp[List.getD,h,Nat.add_assoc]
  rw[this];rfl
theorem aax {l:Ly} (a n:Int) (k:Nat) (f:n=1\/n=2\/n=4\/n=8) (d:0<=a) (e:a+n<=l.length) (hk:(k:Int)<n) :
    bits .or .u64 (nj .u64 (iA ((l.drop (a.toNat+(n.toNat-k))).take k)) 8) (IntKind.u64.wrap ((l.getD (a+(n-1-k)).toNat 0).toNat:Int)) =
      iA ((l.drop (a.toNat+(n.toNat-(k+1)))).take (k+1)):=by
  have b:=sE ((l.drop (a.toNat+(n.toNat-k))).take k);have c:iA ((l.drop (a.toNat+(n.toNat-k))).take k)<256 ^ 7:=tO Ym;rw[ahP _ _ b (by simpa using c),Wm l a.toNat (n.toNat-(k+1)) k Xx];rw[show(a+(n-1-k)).toNat=a.toNat+(n.toNat-(k+1))by omega,show n.toNat-(k+1)+1=n.toNat-k by omega]
def tc (x k:Int):Int:=bits .or .u32 (nj .u32 x k) (ahQ .u32 x (32-k))
def AP (x k:Int):Int:=bits .or .u64 (nj .u64 x k) (ahQ .u64 x (64-k))
theorem vF (k:Int) (m:Nat) (c:0<=k) (h1:k<2 ^ m) (d:m<=63):bits .and .u64 (IntKind.u64.wrap k) ((2 ^ m-1:Nat):Int)=k:=by
  obtain⟨x,rfl⟩:=Int.eq_ofNat_of_zero_le c;have D:x<2 ^ m:=by have:((x:Nat):Int)<((2 ^ m:Nat):Int):=(by rw[Int.natCast_pow];exact h1);exact Int.ofNat_lt.1 this
  have C:2 ^ m<=2 ^ 63:=Nat.pow_le_pow_right Xx d;have a:(x:Int)<18446744073709551616:=by have:x<2 ^ 63:=(by omega);omega
  rw[wrap_u64 Xx a];unfold bits;simp only[BitVec.ofInt_natCast];have b:IntKind.u64.bits=64:=rfl;rw[BitVec.toNat_and,BitVec.toNat_ofNat,BitVec.toNat_ofNat,b,Nat.mod_eq_of_lt (show x<2 ^ 64 by omega),Nat.mod_eq_of_lt (show 2 ^ m-1<2 ^ 64 by omega),Nat.and_two_pow_sub_one_eq_mod,Nat.mod_eq_of_lt D];exact wrap_u64 Xx a
theorem akE {k:Int} (a:0<=k) (h1:k<32):bits .and .u64 (IntKind.u64.wrap k) 31=k:=vF k 5 a (by simpa using h1) Xx
theorem akF {k:Int} (a:0<=k) (h1:k<64):bits .and .u64 (IntKind.u64.wrap k) 63=k:=vF k 6 a (by simpa using h1) Xx
structure T3 where
  x:Int
  y:Int
  z:Int
def T3.cells (t:T3):List Value:=[.int .u32 t.x,.int .u32 t.y,.int .u32 t.z]
def wu (l:Ly) (i:Nat):Int:=iA [l.getD i 0,l.getD (i+1) 0,l.getD (i+2) 0,l.getD (i+3) 0]
def tj (x:Int):Int:=IntKind.u32.wrap x
def mG (t:T3) (l:Ly):T3:=⟨tj (t.x+tj (wu l 0)),tj (t.y+tj (wu l 4)),tj (t.z+tj (wu l 8))⟩
def vR (a b:Int):Int:=bits .xor .u32 a b
def amb (t:T3) (a b c:Int):T3 :=
  let x:=vR (tj (t.x-t.z)) (tc t.z a)
  let z:=tj (t.z+t.y)
  let y:=vR (tj (t.y-x)) (tc x b)
  let x:=tj (x+z)
  let z:=vR (tj (z-y)) (tc y c)
  ⟨x,tj (y+x),z⟩
def mix (t:T3):T3:=amb (amb t 4 6 8) 16 19 4
def last (t:T3):T3 :=
  let z:=tj (vR t.z t.y-tc t.y 14)
  let x:=tj (vR t.x z-tc z 11)
  let y:=tj (vR t.y x-tc x 25)
  let z:=tj (vR z y-tc y 16)
  let x:=tj (vR x z-tc z 4)
  let y:=tj (vR y x-tc x 14)
  let z:=tj (vR z y-tc y 24)
  ⟨x,y,z⟩
def pack (t:T3):Int:=bits .or .u64 (nj .u64 (IntKind.u64.wrap t.z) 32) (IntKind.u64.wrap t.y)
def Zg:Nat->T3->List UInt8->Int
  | 0,t,l=>if l=[]then pack t else pack (last (mG t l))
  | k+1,t,l=>if 12<l.length then Zg k (mix (mG t l)) (l.drop 12)else if l=[]then pack t else pack (last (mG t l))
theorem aeb:∀(k j:Nat) (t:T3) (l:Ly),l.length<=k->l.length<=j->Zg k t l=Zg j t l:=by
  intro k
  induction k with
  | zero =>
    intro j t l B C;have A:l=[]:=List.eq_nil_of_length_eq_zero Xx;subst A;cases j <;> simp[Zg]
  | succ k ih =>
    intro j t l B C;cases j with
    | zero =>
      have A:l=[]:=List.eq_nil_of_length_eq_zero Xx;subst A;simp[Zg]
    | succ j =>
      simp only[Zg];split
      · exact ih j _ _ Ym Ym
      · rfl
def lk (t:T3) (l:Ly):Int:=Zg l.length t l
theorem Zi (t:T3) (l:Ly) (h:12<l.length):lk t l=lk (mix (mG t l)) (l.drop 12):=by unfold lk;obtain⟨k,hk⟩:∃k,l.length=k+1:=⟨l.length-1,by omega⟩;rw[hk];simp only[Zg,if_pos h];exact aeb _ _ _ _ Ym Oy
theorem ajE (t:T3):lk t []=pack t:=by simp[lk,Zg]
theorem Zh (t:T3) (l:Ly) (h:l≠[]) (a:l.length<=12):lk t l=pack (last (mG t l)):=by unfold lk;obtain⟨k,hk⟩:∃k,l.length=k+1:=⟨l.length-1,by have:=List.length_pos_iff.2 h;omega⟩;rw[hk];simp only[Zg,if_neg (show ¬12<l.length by omega),if_neg h]
def Wo (l:Ly):T3:=⟨tj (3735928559+tj l.length),tj (3735928559+tj l.length),tj (3735928559+tj l.length)⟩
def lookup (l:Ly):Int:=lk (Wo l) l
theorem FG (l:Ly) (i:Nat) (h:i+4<=l.length):iA ((l.drop i).take 4)=wu l i:=by
  unfold wu;congr 1;apply List.ext_getElem
  · simp;omega
  intro j B A;simp at A;have:j=0\/j=1\/j=2\/j=3:=by omega
  rcases this with rfl|rfl|rfl|rfl <;> simp[List.getD] <;> rw[List.getElem?_eq_getElem Xx] <;> rfl
theorem abJ (v:Int) (c:UInt8) (d:0<=v) (h1:v<16777216) :
    bits .or .u32 (nj .u32 v 8) (IntKind.u32.wrap (c.toNat:Int))=(c.toNat:Int)+256*v:=by
  obtain⟨m,rfl⟩:=Int.eq_ofNat_of_zero_le d;have e:=c.toNat_lt;have a:nj .u32 (m:Int) 8=((m*256:Nat):Int):=by unfold nj;have:min (8:Int).toNat IntKind.u32.bits=8:=(by decide);rw[this,wrap_u32 Xx Xx];omega
  have b:IntKind.u32.wrap (c.toNat:Int)=(c.toNat:Int):=wrap_u32 Xx Xx;rw[a,b];unfold bits;simp only[BitVec.ofInt_natCast];have D:IntKind.u32.bits=32:=rfl;have C:(BitVec.ofNat IntKind.u32.bits (m*256) ||| BitVec.ofNat IntKind.u32.bits c.toNat).toNat=c.toNat+256*m:=by rw[BitVec.toNat_or,BitVec.toNat_ofNat,BitVec.toNat_ofNat,D,Nat.mod_eq_of_lt Xx,Nat.mod_eq_of_lt Xx];have:=Nat.two_pow_add_eq_or_of_lt (i:=8) (show c.toNat<2 ^ 8 by omega) m;rw[show m*256=2 ^ 8*m by omega,<- this];omega
  rw[C,wrap_u32 Xx Xx];omega
theorem ahO (v:Int) (a:0<=v) (h1:v<16777216):nj .u32 v 8=256*v:=by
  unfold nj;have:min (8:Int).toNat IntKind.u32.bits=8:=by decide
  rw[this,wrap_u32 Xx Xx];omega
def xu (l:Ly) (i k:Nat):Int:=iA ([l.getD i 0,l.getD (i+1) 0,l.getD (i+2) 0,l.getD (i+3) 0].drop (4-k))
theorem FE (l:Ly) (i k:Nat) (hk:k<4):xu l i (k+1)=((l.getD (i+(3-k)) 0).toNat:Int)+256*xu l i k:=by
  have:k=0\/k=1\/k=2\/k=3:=by omega
  rcases this with rfl|rfl|rfl|rfl <;> rfl
theorem RZ (l:Ly) (i k:Nat) (hk:k<4):0<=xu l i k/\xu l i k<16777216:=by refine⟨sE _,?_⟩;have:=tO (l:=[l.getD i 0,l.getD (i+1) 0,l.getD (i+2) 0,l.getD (i+3) 0].drop (4-k)) (k:=3) Ym;exact this
theorem zh (l:Ly) (i:Nat):0<=wu l i/\wu l i<4294967296 :=
  ⟨sE _,tO (k:=4) Oy⟩
theorem aid (l:Ly) (i:Nat):tj (wu l i)=wu l i:=wrap_u32 (zh l i).1 (zh l i).2
theorem EH (l:Ly) (i:Nat) (h:l.length<=i):l.getD i 0=0:=by simp[List.getD,List.getElem?_eq_none h]
theorem zi {l b:Ly} {i j:Nat} (h:∀k,k<4->l.getD (i+k) 0=b.getD (j+k) 0):wu l i=wu b j:=by unfold wu;have a:=h 0 Xx;have c:=h 1 Xx;have C:=h 2 Xx;have D:=h 3 Xx;simp only[Nat.add_zero]at a;rw[a,c,C,D]
def sY (m:Nat) (l:Ly):List UInt8:=l ++ List.replicate (m-l.length) 0
theorem GL (m:Nat) (l:Ly) (i:Nat):(sY m l).getD i 0=l.getD i 0:=by
  unfold sY
  by_cases h:i<l.length
  · simp[List.getD,List.getElem?_append_left h]
  rw[EH l i Xx];simp only[List.getD];rw[List.getElem?_append_right Xx,List.getElem?_replicate];split <;> rfl
theorem rY (m:Nat) (l:Ly) (h:l.length<=m):(sY m l).length=m:=by simp[sY];omega
theorem ahf (m:Nat) (l:Ly) (i:Nat):wu (sY m l) i=wu l i:=zi fun k _=>GL m l (i+k)
theorem aad (t:T3) (m:Nat) (l:Ly):mG t (sY m l)=mG t l:=by simp only[mG,ahf]
theorem S1 (l:Ly) (d i:Nat):wu (l.drop d) i=wu l (d+i):=zi fun k _=>by simp[List.getD,Nat.add_assoc]
theorem zk (l:Ly) (m i:Nat) (h:i+4<=m):wu (l.take m) i=wu l i:=zi fun k hk=>by simp only[List.getD];rw[List.getElem?_take,if_pos Xx]
theorem UY (t:T3) (l:Ly) (m:Nat) (h:12<=m):mG t (l.take m)=mG t l:=by simp only[mG];rw[zk l m 0 Xx,zk l m 4 Xx,zk l m 8 Xx]
theorem HF {m:Nat} {l:Ly} (h:l.length<=m):fC ((List.replicate m 0).map b8) 0 ((l.map b8).take m)=(sY m l).map b8:=by have e:(l.map b8).take m=l.map b8:=List.take_of_length_le (by simpa using h);rw[e];simp[fC,sY]
theorem aie (l:Ly) (a:Int) (k:Nat) (e:0<=a) (hk:k<4) (d:a+(3-k)<l.length) :
    bits .or .u32 (nj .u32 (xu l a.toNat k) 8) (IntKind.u32.wrap ((l.getD (a+(3-k)).toNat 0).toNat:Int))=xu l a.toNat (k+1):=by
  obtain⟨b,c⟩:=RZ l a.toNat k hk;rw[abJ _ _ b c,FE l _ _ hk,show(a+(3-k)).toNat=a.toNat+(3-k)by omega]
theorem agf (l:Ly) (a:Int) (k:Nat) (d:0<=a) (hk:k<4) (h:l.length<=a+(3-k)):nj .u32 (xu l a.toNat k) 8=xu l a.toNat (k+1):=by obtain⟨b,c⟩:=RZ l a.toNat k hk;rw[ahO _ b c,FE l _ _ hk,EH l _ Xx];simp
theorem LP (t:T3) (l:Ly) (k:Nat):(⟨tj (t.x+wu l (k:Int).toNat),tj (t.y+wu l (k+4:Int).toNat),tj (t.z+wu l (k+8:Int).toNat)⟩:T3)=mG t (l.drop k):=by simp only[mG,aid,S1];rw[show(k:Int).toNat=k+0 by omega,show(k+4:Int).toNat=k+4 by omega,show(k+8:Int).toNat=k+8 by omega]
structure S4 where
  p:Int
  q:Int
  r:Int
  s:Int
def S4.cells (v:S4) (n:Int) (rest:Value):List Value:=[.int .u64 v.p,.int .u64 v.q,.int .u64 v.r,.int .u64 v.s,.int .i64 n,rest]
def S4.arr (v:S4):List Value:=[.int .u64 v.p,.int .u64 v.q,.int .u64 v.r,.int .u64 v.s]
theorem S4.uJ (v:S4):v.arr.length=4:=rfl
theorem S4.MR (v:S4):∀u∈v.arr,u.oneCell'=true:=by intro u A;simp[S4.arr]at A;rcases A with rfl|rfl|rfl|rfl<;>rfl
def w64 (x:Int):Int:=IntKind.u64.wrap x
def lK (a b:Int):Int:=bits .xor .u64 a b
def afL (v:S4):S4 :=
  let p:=w64 (v.p+v.q)
  let q:=lK (AP v.q 13) p
  let p:=AP p 32
  let r:=w64 (v.r+v.s)
  let s:=lK (AP v.s 16) r
  let p:=w64 (p+s)
  let s:=lK (AP s 21) p
  let r:=w64 (r+q)
  let q:=lK (AP q 17) r
  ⟨p,q,AP r 32,s⟩
def er:Nat->S4->S4
  | 0,v=>v
  | k+1,v=>afL (er k v)
def S4.xp (v:S4) (m:Int):S4:=⟨lK v.p m,v.q,v.r,v.s⟩
def S4.xr (v:S4) (m:Int):S4:=⟨v.p,v.q,lK v.r m,v.s⟩
def S4.xs (v:S4) (m:Int):S4:=⟨v.p,v.q,v.r,lK v.s m⟩
def S4.all (v:S4):Int:=lK (lK (lK v.p v.q) v.r) v.s
def pA (v:S4) (m:Int):S4:=(er 2 (v.xs m)).xp m
theorem akp (v:S4) (m n:Int) (rest:Value):(v.cells n rest).set 0 (.int .u64 (lK v.p m))=(v.xp m).cells n rest:=rfl
theorem akq (v:S4) (m n:Int) (rest:Value):(v.cells n rest).set 2 (.int .u64 (lK v.r m))=(v.xr m).cells n rest:=rfl
theorem akr (v:S4) (m n:Int) (rest:Value):(v.cells n rest).set 3 (.int .u64 (lK v.s m))=(v.xs m).cells n rest:=rfl
theorem acC (v:S4) (m:Int):v.arr.set 0 (.int .u64 (lK v.p m))=(v.xp m).arr:=rfl
theorem ajf (v:S4) (m:Int):v.arr.set 2 (.int .u64 (lK v.r m))=(v.xr m).arr:=rfl
theorem acD (v:S4) (m:Int):v.arr.set 3 (.int .u64 (lK v.s m))=(v.xs m).arr:=rfl
def qN (key:Ly):S4 :=
  ⟨lK (iA ((key.drop 0).take 8)) 8317987319222330741,lK (iA ((key.drop 8).take 8)) 7237128888997146477,
   lK (iA ((key.drop 0).take 8)) 7816392313619706465,lK (iA ((key.drop 8).take 8)) 8387220255154660723⟩
def ML:Nat->S4->List UInt8->S4 × List UInt8
  | 0,v,l=>(v,l)
  | k+1,v,l=>if 8<=l.length then ML k (pA v (iA (l.take 8))) (l.drop 8)else(v,l)
theorem aac:∀(k j:Nat) (v:S4) (l:Ly),l.length<=k->l.length<=j->ML k v l=ML j v l:=by
  intro k
  induction k with
  | zero =>
    intro j v l B C;have A:l=[]:=List.eq_nil_of_length_eq_zero Xx;subst A;cases j <;> simp[ML]
  | succ k ih =>
    intro j v l B C;cases j with
    | zero =>
      have A:l=[]:=List.eq_nil_of_length_eq_zero Xx;subst A;simp[ML]
    | succ j =>
      simp only[ML];split
      · exact ih j _ _ Ym Ym
      · rfl
def kr (v:S4) (l:Ly):S4 × List UInt8:=ML l.length v l
theorem uz (v:S4) (l:Ly) (h:8<=l.length):kr v l=kr (pA v (iA (l.take 8))) (l.drop 8):=by unfold kr;obtain⟨k,hk⟩:∃k,l.length=k+1:=⟨l.length-1,by omega⟩;rw[hk];simp only[ML,if_pos h];exact aac _ _ _ _ Ym Oy
theorem qM (v:S4) (l:Ly) (h:l.length<8):kr v l=(v,l):=by
  unfold kr;cases hk:l.length with
  | zero=>rfl
  | succ k=>simp only[ML];rw[if_neg Xx]
theorem XB:∀(k:Nat) (v:S4) (l:Ly),l.length<=k->(kr v l).2.length<8:=by
  intro k
  induction k with
  | zero =>
    intro v l h;rw[qM v l Xx];simp;omega
  | succ k ih =>
    intro v l h
    by_cases h8:8<=l.length
    · rw[uz v l h8];exact ih _ _ Ym
    · rw[qM v l Xx];simp;omega
def ku (r:Ly) (n:Int):List UInt8:=(sY 8 r).set 7 (UInt8.ofNat n.toNat)
def HD (v:S4) (r:Ly) (n:Int):Int :=
  (er 4 ((pA v (iA (((ku r n).drop 0).take 8))).xr 255)).all
def sip (key l:Ly):Int:=HD (kr (qN key) l).1 (kr (qN key) l).2 l.length
theorem ag4 (n:Int) (h:0<=n):Value.int .u8 (IntKind.u8.wrap n)=b8 (UInt8.ofNat n.toNat):=by unfold b8;rw[UQ];congr 1;simp;omega
theorem anD (a b:Nat) (h:a<8):(if(b:Int)<8-(a:Int)then(b:Int)else 8-(a:Int))=((min (8-a) b:Nat):Int):=by split<;>omega
theorem IY (r:Ly) (n:Int) (a:0<=n):((sY 8 r).map b8).set 7 (.int .u8 (IntKind.u8.wrap n))=(ku r n).map b8:=by rw[ag4 n a,ku,List.map_set]
theorem u7 (r:Ly) (n:Int) (h:r.length<=8):(ku r n).length=8:=by rw[ku,List.length_set,rY 8 r h]
theorem ac1 (v:S4) (a l:Ly) (d:a.length<8) (e:a.length+min (8-a.length) l.length=8) :
    kr v (a ++ l)=kr (pA v (iA (((a ++ l.take (min (8-a.length) l.length)).drop 0).take 8))) ([] ++ l.drop (min (8-a.length) l.length)):=by
  generalize hk:min (8-a.length) l.length=k at *;have b:a ++ l=(a ++ l.take k) ++ l.drop k:=by simp
  have c:(a ++ l.take k).length=8:=by simp;omega
  rw[uz v (a ++ l) Ym,b,List.take_append_of_le_length Xx,List.drop_append_of_le_length Xx,List.take_of_length_le Xx,List.drop_of_length_le Xx];simp only[List.drop_zero];rw[List.take_of_length_le (show(a ++ l.take k).length<=8 by omega)]
theorem ac2 (v:S4) (a l:Ly) (k:Nat):kr v (a ++ l)=kr v ((a ++ l.take k) ++ l.drop k):=by simp
def vA (l:Ly) (i:Nat):Int:=wu l i+4294967296*wu l (i+4)
theorem ajC (l:Ly) (i:Nat):0<=vA l i/\vA l i<18446744073709551616:=by obtain⟨A,B⟩:=zh l i;obtain⟨C,D⟩:=zh l (i+4);unfold vA;omega
theorem ZC (a b k:Nat) (hk:k<64) (f:a<2 ^ k) (hb:b*2 ^ k<2 ^ 64) :
    bits .or .u64 (a:Int) ((b*2 ^ k:Nat):Int)=((a+b*2 ^ k:Nat):Int):=by
  have D:2 ^ k<=2 ^ 64:=Nat.pow_le_pow_right Xx Xx;unfold bits;simp only[BitVec.ofInt_natCast];have g:IntKind.u64.bits=64:=rfl;rw[BitVec.toNat_or,BitVec.toNat_ofNat,BitVec.toNat_ofNat,g,Nat.mod_eq_of_lt Xx,Nat.mod_eq_of_lt hb];have:=Nat.two_pow_add_eq_or_of_lt (i:=k) f b;rw[Nat.or_comm,show b*2 ^ k=2 ^ k*b from Nat.mul_comm _ _,<- this];have e:a+2 ^ k*b<2 ^ 64:=by
    obtain⟨c,d⟩:∃c,2 ^ 64=2 ^ k*c:=⟨2 ^ (64-k),by rw[<- Nat.pow_add];congr 1;omega⟩;have C:b<c:=by rw[d,Nat.mul_comm]at hb;exact Nat.lt_of_mul_lt_mul_left hb
    calc a+2 ^ k*b<2 ^ k+2 ^ k*b:=by omega
      _=2 ^ k*(b+1):=by rw[Nat.mul_add];omega
      _<=2 ^ k*c:=Nat.mul_le_mul_left _ C
      _=2 ^ 64:=d.symm
  rw[Nat.add_comm (2 ^ k*b) a];exact wrap_u64 Xx (by have:=Int.ofNat_lt.2 e;simpa using this)
theorem TX (a:Nat) (k:Nat) (hk:k<=64) (h:a*2 ^ k<2 ^ 64):nj .u64 (a:Int) (k:Int)=((a*2 ^ k:Nat):Int):=by
  unfold nj;have:min (k:Int).toNat IntKind.u64.bits=k:=by have:IntKind.u64.bits=64:=rfl;rw[this];omega
  rw[this];have e:(a:Int)*2 ^ k=((a*2 ^ k:Nat):Int):=by rw[Int.natCast_mul,Int.natCast_pow];rfl
  rw[e];exact wrap_u64 Xx (by have:=Int.ofNat_lt.2 h;simpa using this)
theorem acT (l:Ly) (a:Int) (g:0<=a) :
    bits .or .u64 (IntKind.u64.wrap (wu l a.toNat)) (nj .u64 (IntKind.u64.wrap (wu l (a+4).toNat)) 32)=vA l a.toNat:=by
  obtain⟨b,e⟩:=zh l a.toNat;obtain⟨c,f⟩:=zh l (a+4).toNat;rw[wrap_u64 b Xx,wrap_u64 c Xx];obtain⟨x,C⟩:=Int.eq_ofNat_of_zero_le b;obtain⟨y,D⟩:=Int.eq_ofNat_of_zero_le c;unfold vA;rw[show a.toNat+4=(a+4).toNat by omega,C,D];rw[C]at e;rw[D]at f;have d:=TX y 32 Xx Xx;rw[show((32:Nat):Int)=32 from rfl]at d;rw[d,ZC x y 32 Xx Xx Xx];omega
theorem xw (l:Ly) (i:Nat):vA l i=iA [l.getD i 0,l.getD (i+1) 0,l.getD (i+2) 0,l.getD (i+3) 0,l.getD (i+4) 0,l.getD (i+5) 0,l.getD (i+6) 0,l.getD (i+7) 0]:=by simp only[vA,wu,iA,Nat.add_assoc,Nat.reduceAdd];omega
theorem XK (l:Ly) (i:Nat) (h:i+8<=l.length):(l.drop i).take 8=[l.getD i 0,l.getD (i+1) 0,l.getD (i+2) 0,l.getD (i+3) 0,l.getD (i+4) 0,l.getD (i+5) 0,l.getD (i+6) 0,l.getD (i+7) 0]:=by
  apply List.ext_getElem
  · simp;omega
  intro j B A;simp at A;have:j=0\/j=1\/j=2\/j=3\/j=4\/j=5\/j=6\/j=7:=by omega
  rcases this with rfl|rfl|rfl|rfl|rfl|rfl|rfl|rfl <;> simp[List.getD] <;> rw[List.getElem?_eq_getElem Xx] <;> rfl
theorem xA (l:Ly) (i:Nat) (h:i+8<=l.length):iA ((l.drop i).take 8)=vA l (i:Int).toNat:=by rw[XK l i h,show(i:Int).toNat=i from rfl,xw]
theorem TY (key:Ly) (h:key.length=16):(qN key).arr =
    [.int .u64 (bits .xor .u64 (vA key (0:Int).toNat) 8317987319222330741),.int .u64 (bits .xor .u64 (vA key (8:Int).toNat) 7237128888997146477),
     .int .u64 (bits .xor .u64 (vA key (0:Int).toNat) 7816392313619706465),.int .u64 (bits .xor .u64 (vA key (8:Int).toNat) 8387220255154660723)]:=by
  have A:=xA key 0 Xx;have B:=xA key 8 Xx;rw[show((0:Nat):Int)=0 from rfl]at A;rw[show((8:Nat):Int)=8 from rfl]at B;simp only[qN,S4.arr,A,B,lK]
theorem Ua (r:Ly) (n:Nat) (h:r.length<8):iA (((ku r n).drop 0).take 8)=bits .or .u64 (vA r 0) (nj .u64 (IntKind.u64.wrap ((n:Int).tmod 256)) 56):=by
  have R:=u7 r n Xx;have G:=xA (ku r n) 0 Xx;rw[G,show((0:Nat):Int).toNat=0 from rfl];have B:∀i,i<7->(ku r n).getD i 0=r.getD i 0:=by intro i Q;rw[<- GL 8 r i];simp only[ku,List.getD];rw[List.getElem?_set_ne Xx]
  have H:(ku r n).getD 7 0=UInt8.ofNat n:=by simp only[ku,List.getD];rw[List.getElem?_set_self (by rw[rY 8 r Xx];omega)];simp
  have C:r.getD 7 0=0:=EH r 7 Xx;have F:vA (ku r n) 0=vA r 0+72057594037927936*((n%256:Nat):Int):=by rw[xw,xw];simp only[iA,Nat.zero_add];rw[B 0 Xx,B 1 Xx,B 2 Xx,B 3 Xx,B 4 Xx,B 5 Xx,B 6 Xx,H,C];have:((UInt8.ofNat n).toNat:Int)=((n%256:Nat):Int):=(by simp);have D:((0:UInt8).toNat:Int)=0:=rfl;rw[this,D];omega
  have A:0<=vA r 0/\vA r 0<72057594037927936:=by refine⟨(ajC r 0).1,?_⟩;rw[xw];simp only[iA,Nat.zero_add,C];have J:=(r.getD 0 0).toNat_lt;have K:=(r.getD 1 0).toNat_lt;have L:=(r.getD 2 0).toNat_lt;have M:=(r.getD 3 0).toNat_lt;have N:=(r.getD 4 0).toNat_lt;have O:=(r.getD 5 0).toNat_lt;have P:=(r.getD 6 0).toNat_lt;have D:((0:UInt8).toNat:Int)=0:=rfl;simp only[D];omega
  obtain⟨x,E⟩:=Int.eq_ofNat_of_zero_le A.1;have I:(n:Int).tmod 256=((n%256:Nat):Int):=by rw[Int.tmod_eq_emod_of_nonneg Xx];omega
  rw[F,I,E,wrap_u64 Xx Xx];rw[E]at A;have e:=TX (n%256) 56 Xx Xx;rw[show((56:Nat):Int)=56 from rfl]at e;rw[e,ZC x (n%256) 56 Xx Xx Xx];omega
theorem adY (l:Ly) (d i:Nat):vA (l.drop d) i=vA l (d+i):=by simp only[vA,S1,Nat.add_assoc]
theorem afE (l:Ly) (v:S4) (k:Nat) (hk:k<=l.length) (b:l.length<k+8) :
    bits .xor .u64 (bits .xor .u64 (bits .xor .u64 (er 4 (((er 2 (v.xs (bits .or .u64 (vA l (k:Int).toNat) (nj .u64 (IntKind.u64.wrap ((l.length:Int).tmod 256)) 56)))).xp (bits .or .u64 (vA l (k:Int).toNat) (nj .u64 (IntKind.u64.wrap ((l.length:Int).tmod 256)) 56))).xr 255)).p
        (er 4 (((er 2 (v.xs (bits .or .u64 (vA l (k:Int).toNat) (nj .u64 (IntKind.u64.wrap ((l.length:Int).tmod 256)) 56)))).xp (bits .or .u64 (vA l (k:Int).toNat) (nj .u64 (IntKind.u64.wrap ((l.length:Int).tmod 256)) 56))).xr 255)).q)
        (er 4 (((er 2 (v.xs (bits .or .u64 (vA l (k:Int).toNat) (nj .u64 (IntKind.u64.wrap ((l.length:Int).tmod 256)) 56)))).xp (bits .or .u64 (vA l (k:Int).toNat) (nj .u64 (IntKind.u64.wrap ((l.length:Int).tmod 256)) 56))).xr 255)).r)
        (er 4 (((er 2 (v.xs (bits .or .u64 (vA l (k:Int).toNat) (nj .u64 (IntKind.u64.wrap ((l.length:Int).tmod 256)) 56)))).xp (bits .or .u64 (vA l (k:Int).toNat) (nj .u64 (IntKind.u64.wrap ((l.length:Int).tmod 256)) 56))).xr 255)).s=HD v (l.drop k) l.length:=by
  have a:vA l (k:Int).toNat=vA (l.drop k) 0:=by rw[adY];rfl
  rw[a,<- Ua (l.drop k) l.length Ym];unfold HD pA;generalize iA (((ku (l.drop k) (l.length:Int)).drop 0).take 8)=m;generalize er 4 (((er 2 (v.xs m)).xp m).xr 255)=u;rfl
end Go.Wk
namespace Go.Wk
open Go Go.RowKit Go.ChangeShapes Go.WideShapes Go.ChangeAt Go.Deep
section
variable {H:Type} {enc:TypeId × Value->H} {P:Program} {w:World} {t e:TypeId} {v:Value} {d:DataW H} {ps:List MemPlace}
def Rows (w:World) (v:Value) (vs:List Value) (ls:List (List UInt8)):Prop:=Sl w v vs/\vs.length=ls.length/\∀(i:Nat) (u:Value) (l:Ly),vs[i]? = some u->ls[i]? = some l->By w u l
end
end Go.Wk
