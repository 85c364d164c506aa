/- Part 1 of the walk of a law. No statement is proved here. -/
import Derived.WalkKit
import Derived.WalkSpells
import Derived.WalkLawsBesides
import Derived.Deep.Quiet
import Derived.StillTail
import Derived.KernelRfl
import Derived.Deep.LoopGhost
import Derived.Laws.IdiomStrings
import Derived.Laws.StructEq
import Derived.Laws.Externs
import Derived.Lib.BytesEntry
import Derived.Lib.IndexLaws
import Derived.ProofKit
import Derived.OpenShut
import Derived.ShutString
import Derived.Deep.Slices
import Derived.Sort.Grow
import Derived.Lib.SliceRun
import Derived.Recover
import Derived.Lib.AppendZerosOnto
import Derived.LaidEqlPtr
import Derived.Shelf.SlSortCmp.NoneTotal
import Derived.Lib.SmallJoins
import Derived.SizedLaws
set_option linter.unusedVariables false
set_option linter.unusedSimpArgs false
namespace Go.Wk
open Go Go.RowKit
theorem q {α:Sort _} {a:α}:a=a:=rfl
theorem dq {p:Prop} [Decidable p] (h:decide p=true):p:=of_decide_eq_true h
theorem dF {p:Prop} [Decidable p] (h:decide p=false):¬p:=of_decide_eq_false h
theorem lq {a b:Nat} (h:Nat.ble a b=true):a<=b:=Nat.le_of_ble_eq_true h
theorem ly {a b c:Nat} (h:a<b) (k:b<=c):a<c:=Nat.lt_of_lt_of_le h k
theorem lv {a b c:Nat} (h:a<=b) (k:b<=c):a<=c:=Nat.le_trans h k
theorem tV:True:=True.intro
theorem Oj {p:Prop} (h:p:=by simp):p:=h
theorem Xx {p:Prop} (h:p:=by omega):p:=h
theorem Xz {p:Prop} (h:p:=by decide):p:=h
theorem Xj {p:Prop} (h:p:=by kernel_rfl):p:=h
theorem Fz {p:Prop} (h:p:=by repeat' first|exact trivial|refine⟨rfl,?_⟩):p:=h
theorem Sx {P Q R:Nat→Prop} {n k:Nat} (s:∀b,Q b→b<k→R b) (a:∀b,P b→b<n→Q b) (h:n≤k):∀b,P b→b<n→R b:=fun b x y=>s b (a b x y)<|Nat.lt_of_lt_of_le y h
theorem Sy {A:Prop} {p q r:Nat→Prop} (h:A∧∀x,p x→q x∧r x):∀x,p x→q x:=fun x y=>(h.2 x y).1
theorem Sz {A:Prop} {p r a b c:Nat→Prop} (h:A∧∀x,p x→(a x∨b x)∧r x) (f:∀x,a x→c x) (g:∀x,b x→c x):∀x,p x→c x:=fun x y=>(h.2 x y).1.elim (f x)<|g x
theorem Xk {p:Prop} (h:p:=by assumption):p:=h
theorem Xh {p:Prop} (h:p:=by simp;omega):p:=h
theorem Xm {p:Prop} (h:p:=by(simp<;>omega)):p:=h
theorem Yx {p:Prop} (h:p:=by simp only;omega):p:=h
theorem Yy {p:Prop} (h:p:=by first|assumption|omega|simp_all):p:=h
theorem Yw {p:Prop} (h:p:=by first|omega|(simp<;>omega)|simp_all):p:=h
theorem Yk {p:Prop} (h:p:=by simp[List.length_take,List.length_drop];omega):p:=h
theorem Ym {p:Prop} (h:p:=by first|omega|(simp<;>omega)|(simp at *<;>omega)):p:=h
theorem Zq {p:Prop} (h:p:=by intro h;simp at h;omega):p:=h
theorem ir {b:Bool} (h:(!b)=true):b=false:=by cases b<;>simp_all
theorem iq {b:Bool} (h:(!b)=false):b=true:=by cases b<;>simp_all
def look:List (Nat × Value)->Nat->Option Value
  | [],_=>none
  | (k,v) :: r,t=>cond (Nat.beq k t) (some v)<|look r t
structure Fr (n:Nat) where
  tmps:Array Value
  size:tmps.size=n
def aN {n:Nat} (A:Fr n) (D:List Deferred):List (Nat × Value)->Act
  | []=>⟨A.tmps,D⟩
  | (k,v) :: r=>(aN A D r).put (some k) v
def ev (n:Nat) (l:List (Nat × Value)):Operand->Option Value
  | .tmp t=>cond (Nat.ble n t) none (look l t)
  | .const v=>some v
  | .global g=>some (.pointer<|some ⟨g,0,none⟩)
  | .func f=>some<|.func (.func f) #[] #[]
section
variable {n:Nat} {A:Fr n} {D:List Deferred} {l:List (Nat × Value)}
theorem yT:(aN A D l).tmps.size=n:=by
  induction l with
  | nil=>exact A.size
  | cons p r ih=>simp[aN,Act.put,ih]
theorem kg:(aN A D l).defers=D:=by
  induction l with
  | nil=>rfl
  | cons p r ih=>simp[aN,Act.put,ih]
theorem ZM {t:Nat} {v:Value} (c:t<n) (h:look l t=some v):(aN A D l).tmps.getD t undef=v:=by
  induction l with
  | nil=>simp[look]at h
  | cons p r ih =>
    obtain⟨k,d⟩:=p;simp only[look]at h;have b:(aN A D r).tmps.size=n:=yT
    by_cases hk:k=t
    · subst hk
      simp at h;subst h;simp[aN,Act.put,Array.getD,b,c]
    · have:Nat.beq k t=false:=Bool.eq_false_iff.2 fun a=>hk<|Nat.eq_of_beq_eq_true a
      simp only[this,cond_false]at h;have C:=ih h;rw[<- C];show((aN A D r).tmps.setIfInBounds k d).getD t undef=_;simp[hk]
theorem bM {x:Operand} {v:Value} (h:ev n l x=some v):(aN A D l).eval x=v:=by
  cases x with
  | tmp t =>
    simp only[ev]at h;cases ht:Nat.ble n t with
    | true=>simp[ht]at h
    | false =>
      simp only[ht,cond_false]at h;have:t<n:=Nat.lt_of_not_le fun B=>by rw[Nat.ble_eq_true_of_le B]at ht;cases ht
      exact ZM this h
  | const u=>simp only[ev,Option.some.injEq]at h;exact h
  | global g=>simp only[ev,Option.some.injEq]at h;exact h
  | func f=>simp only[ev,Option.some.injEq]at h;exact h
def evs (n:Nat) (l:List (Nat × Value)):List Operand->Option (List Value)
  | []=>some []
  | x :: r=>match ev n l x,evs n l r with
    | some v,some vs=>some (v :: vs)
    | _,_=>none
theorem sJ {xs:List Operand} {vs:List Value} (h:evs n l xs=some vs):xs.map (aN A D l).eval=vs:=by
  induction xs generalizing vs with
  | nil=>simpa [evs]using h
  | cons x r ih =>
    simp only[evs]at h;split at h
    · rename_i v us h1 h2
      simp at h;subst h;simp[bM h1,ih h2]
    · cases h
def Fits (n:Nat) (l:List (Nat × Value)):List (Nat × Value)->Prop
  | []=>True
  | (t,v) :: r=>ev n l (.tmp t)=some v/\Fits n l r
theorem QC (a:Act) (t:Nat) (v:Value) (h:a.tmps.getD t undef=v):a.put (some t) v=a:=by
  cases a with
  | mk tm ds =>
    simp only[Act.put];congr 1;apply Array.ext
    · simp
    · intro i A B
      rw[Array.getElem_setIfInBounds];split
      · rename_i e;subst e;subst h;simp at A;simp[Array.getD,A]
      · rfl
theorem aeK (a:Act) (h:a.defers=D):(⟨a.tmps,D⟩:Act)=a:=by cases a;subst h;rfl
theorem ec {a:List (Nat × Value)} (h:Fits n l a):aN (⟨(aN A D l).tmps,yT⟩:Fr n) D a=aN A D l:=by
  induction a with
  | nil=>exact aeK _ kg
  | cons p r ih =>
    obtain⟨t,v⟩:=p;simp only[Fits]at h;simp only[aN];rw[ih h.2];exact QC _ _ _ (by have:=bM (A:=A) (D:=D) h.1;simpa [Act.eval]using this)
end
structure Md (S:List Nat) (w w':World):Prop where
  os:w'.os=w.os
  tape:w'.tape=w.tape
  output:w'.output=w.output
  size:w.heap.size<=w'.heap.size
  block:∀k,k<w.heap.size->k∉S->w'.heap[k]? = w.heap[k]?
class Tp (w w':World) (A:Prop) (B:outParam Prop):Prop where t:Md [] w w'->A->B
theorem k2 {w c:World} {A e d f:Prop} [Tp w c A d] [Tp w c e f] (m:Md [] w c) (a:A) (b:e):d/\f:=⟨Tp.t m a,Tp.t m b⟩
theorem k3 {w d:World} {A f C e g h:Prop} [Tp w d A e] [Tp w d f g] [Tp w d C h] (m:Md [] w d) (a:A) (b:f) (c:C):e/\g/\h:=⟨Tp.t m a,Tp.t m b,Tp.t m c⟩
theorem k4 {w e:World} {A g C D f h i j:Prop} [Tp w e A f] [Tp w e g h] [Tp w e C i] [Tp w e D j] (m:Md [] w e) (a:A) (b:g) (c:C) (d:D):f/\h/\i/\j:=⟨Tp.t m a,Tp.t m b,Tp.t m c,Tp.t m d⟩
theorem k5 {w f:World} {A h C D E g i j k l:Prop} [Tp w f A g] [Tp w f h i] [Tp w f C j] [Tp w f D k] [Tp w f E l] (m:Md [] w f) (a:A) (b:h) (c:C) (d:D) (e:E):g/\i/\j/\k/\l:=⟨Tp.t m a,Tp.t m b,Tp.t m c,Tp.t m d,Tp.t m e⟩
theorem k6 {w g:World} {A i C D E o h j k l n p:Prop} [Tp w g A h] [Tp w g i j] [Tp w g C k] [Tp w g D l] [Tp w g E n] [Tp w g o p] (m:Md [] w g) (a:A) (b:i) (c:C) (d:D) (e:E) (f:o):h/\j/\k/\l/\n/\p:=⟨Tp.t m a,Tp.t m b,Tp.t m c,Tp.t m d,Tp.t m e,Tp.t m f⟩
theorem k7 {w h:World} {A j C D E p G i k l n o q r:Prop} [Tp w h A i] [Tp w h j k] [Tp w h C l] [Tp w h D n] [Tp w h E o] [Tp w h p q] [Tp w h G r] (m:Md [] w h) (a:A) (b:j) (c:C) (d:D) (e:E) (f:p) (g:G):i/\k/\l/\n/\o/\q/\r:=⟨Tp.t m a,Tp.t m b,Tp.t m c,Tp.t m d,Tp.t m e,Tp.t m f,Tp.t m g⟩
theorem k8 {w i:World} {A k C D E q G H j l n o p r s u:Prop} [Tp w i A j] [Tp w i k l] [Tp w i C n] [Tp w i D o] [Tp w i E p] [Tp w i q r] [Tp w i G s] [Tp w i H u] (m:Md [] w i) (a:A) (b:k) (c:C) (d:D) (e:E) (f:q) (g:G) (h:H):j/\l/\n/\o/\p/\r/\s/\u:=⟨Tp.t m a,Tp.t m b,Tp.t m c,Tp.t m d,Tp.t m e,Tp.t m f,Tp.t m g,Tp.t m h⟩
theorem Md.refl (S:List Nat) (w:World):Md S w w:=⟨q,q,q,Nat.le_refl _,fun _ _ _=>rfl⟩
theorem Md.trans {S:List Nat} {a b c:World} (h:Md S a b) (k:Md S b c):Md S a c :=
  ⟨k.os.trans h.os,k.tape.trans h.tape,k.output.trans h.output,lv h.size k.size,fun i hi hs=>(k.block i (ly hi h.size) hs).trans<|h.block i hi hs⟩
theorem Md.mono {S T:List Nat} {a b:World} (h:Md S a b) (hs:∀k,k∈S->k<a.heap.size->k∈T):Md T a b :=
  ⟨h.os,h.tape,h.output,h.size,fun i hi d=>h.block i hi fun c=>d<|hs i c hi⟩
theorem Md.step {S T:List Nat} {a b c:World} (h:Md S a b) (k:Md T b c) (d:∀i,i∈T->i∈S\/a.heap.size<=i):Md S a c :=
  ⟨k.os.trans h.os,k.tape.trans h.tape,k.output.trans h.output,lv h.size k.size,fun i hi hs =>
    (k.block i (ly hi h.size) fun e=>(d i e).elim hs fun f=>by omega).trans (h.block i hi hs)⟩
theorem Md.k {S:List Nat} {a b c:World} (h:Md S a b) (k:Md [] b c):Md S a c:=h.step k Oj
instance amo {S:List Nat} {a b c:World}:Tp b c (Md S a b) (Md S a c):=⟨fun m h=>h.k m⟩
theorem Md.gD {S:List Nat} {a b c:World} {i:Nat} (h:Md S a b) (k:Md [i] b c) (hi:a.heap.size<=i):Md S a c :=
  h.step k (by intro e d;simp at d;subst d;exact .inr hi)
theorem Md.eT {S:List Nat} {a b c:World} {i:Nat} (h:Md S a b) (k:Md [i] b c) (hi:i∈S):Md S a c :=
  h.step k (by intro e d;simp at d;subst d;exact .inl hi)
theorem Md.below {w a:World} (h:Md [] w a):Below w.heap.size w a:=⟨h.os,h.tape,h.output,h.size,fun k hk=>h.block k hk Oj⟩
theorem Md.drew (w:World):Md [] w {w with drawn:=w.drawn+1}:=⟨q,q,q,Nat.le_refl _,fun _ _ _=>rfl⟩
theorem Md.alloc (w:World) (o:Obj):Md [] w (w.alloc o):=⟨q,q,q,by simp,fun _ hk _=>heap_alloc_old w o hk⟩
theorem Md.setCell (w:World) (a:Addr) (u:Value):Md [a.block] w (w.setCell a u) :=
  ⟨q,q,q,by simp[World.setCell],fun k _ hs=>Below.heap_setCell w a u k (by simpa using hs)⟩
theorem Md.grown {w a:World} {r:Option Nat} (h:w.grownBy a r):Md r.toList w a :=
  ⟨h.os,h.tape,h.output,h.size,fun k hk hs=>h.block k hk (by rintro rfl;simp at hs)⟩
theorem Md.cell {S:List Nat} {w b:World} {p:Addr} {u:Value} (h:Md S w b) (a:w.cell? p=some u) (hs:p.block∉S):b.cell? p=some u :=
  (World.cell?_of_block<|h.block p.block (World.block_lt_of_cell? w p a) hs).trans a
def bK (w:World) (b:Nat) (cs:List Value) (ty:TypeId):Prop:=w.heap[b]? = some (.cells cs.toArray ty (0,0))
section
variable {w w':World} {b:Nat} {cs:List Value} {ty:TypeId}
theorem bK.lt (h:bK w b cs ty):b<w.heap.size:=(Array.getElem?_eq_some_iff.1 h).1
theorem bK.md {S:List Nat} (h:bK w b cs ty) (m:Md S w w') (hs:b∉S):bK w' b cs ty:=(m.block b h.lt hs).trans h
theorem bK.o (h:bK w b cs ty) (m:Md [] w w'):bK w' b cs ty:=h.md m Oj
instance alS:Tp w w' (bK w b cs ty) (bK w' b cs ty):=⟨fun m h=>h.o m⟩
theorem bK.md1 {i:Nat} (h:bK w b cs ty) (m:Md [i] w w') (hi:b≠i):bK w' b cs ty:=h.md m (by simpa using hi)
theorem bK.cell (h:bK w b cs ty) (j:Nat):w.cell? ⟨b,j,none⟩=cs[j]?:=by unfold bK at h;simp[World.cell?,h]
theorem bK.frozen (h:bK w b cs ty) (j:Nat):w.frozen? ⟨b,j,none⟩=false:=by unfold bK at h;simp[World.frozen?,h]
theorem bK.set (h:bK w b cs ty) (j:Nat) (u:Value):bK (w.setCell ⟨b,j,none⟩ u) b (cs.set j u) ty:=by have A:=h.lt;unfold bK at h ⊢;simp only[World.setCell,Array.getElem?_modify,h];simp
theorem bK.new (w:World) (cs:List Value) (ty:TypeId):bK (w.alloc<|.cells cs.toArray ty) w.heap.size cs ty:=heap_alloc_new w _
end
def Sl (w:World) (v:Value) (l:List Value):Prop :=
  ∃a cap,v = .slice a l.length cap/\l.length<=cap/\cap<=maxLen/\(a=none->cap=0)/\∀p,a=some p->∀j u,l[j]? = some u->w.cell? (p.add j)=some u
def b8 (x:UInt8):Value:=.int .u8 (x.toNat:Int)
def By (w:World) (v:Value) (l:List UInt8):Prop:=Sl w v<|l.map b8
def mF:Value->Nat->Value
  | .slice (some p) _ _,i=>.pointer (some<|p.add i)
  | _,_=>undef
def pz:Value->Nat->Nat->Value
  | .slice a _ cap,lo,hi=>.slice (if cap=lo then a else a.map (·.add lo)) (hi-lo) (cap-lo)
  | _,_,_=>undef
theorem Addr.add_block (p:Addr) (j:Nat):(p.add j).block=p.block:=by unfold Addr.add;split<;>rfl
theorem Addr.add_add (p:Addr) (i j:Nat):(p.add i).add j=p.add (i+j):=by
  unfold Addr.add
  by_cases hi:i=0 <;> by_cases hj:j=0 <;> simp[hi,hj]
  omega
theorem Addr.jj (b o j:Nat):(⟨b,o,none⟩:Addr).add j=⟨b,o+j,none⟩:=by unfold Addr.add;split<;>simp_all
section
variable {w w':World} {v:Value} {l:List Value}
theorem Sl.nil (w:World):Sl w (.slice none 0 0) []:=⟨none,0,q,Nat.le_refl _,by simp[maxLen],fun _=>rfl,by simp⟩
theorem Sl.DV (h:Sl w v l):l.length<=maxLen:=by obtain⟨a,A,_,B,C,_⟩:=h;omega
theorem Sl.o (h:Sl w v l) (m:Md [] w w'):Sl w' v l:=by obtain⟨a,A,B,C,D,E,F⟩:=h;exact⟨a,A,B,C,D,E,fun p G j u H=>m.cell (F p G j u H) Oj⟩
instance amt:Tp w w' (Sl w v l) (Sl w' v l):=⟨fun m h=>h.o m⟩
def ah:Value->Option Nat
  | .slice (some p) _ _=>some p.block
  | _=>none
theorem SS:(∀{c:Prop} {h:Decidable c} (_:c) {α:Type} {t e:α},(if c then t else e)=t)/\(∀{c:Prop} {h:Decidable c} (_:¬c) {α:Type} {t e:α},(if c then t else e)=e)/\(∀{α:Type} {a b:α},(some a).getD b=a)/\(∀{α:Type} {a b:α},(some a=some b)=(a=b))/\((false=true)=False)/\((true=false)=False)/\(∀{h:Decidable True},@decide True h=true)/\(∀{h:Decidable False},@decide False h=false)/\((¬True)=False)/\((¬False)=True) :=
  ⟨fun h=>if_pos h,fun h=>if_neg h,q,by simp,by simp,by simp,by simp,by simp,by simp,by simp⟩
theorem LL:(∀{α:Type} {a:α} {l:List α},(a :: l).length=l.length+1)/\(∀{α:Type},([]:List α).length=0)/\(∀{α:Type} {a b:List α},(a ++ b).length=a.length+b.length)/\(∀{α:Type} {n:Nat} {a:α},(List.replicate n a).length=n)/\(∀(n:Nat),0+n=n) :=
  ⟨q,q,by simp,by simp,by simp⟩
def zr (n:Nat) (v:Value):List Value:=List.replicate n v
def ml (n:Nat):List (Nat × Bool):=(List.range n).map fun i=>(i,true)
abbrev Ly:=List UInt8
abbrev vS (b:Nat) (x y z:Value):List Nat:=b :: (ah x).toList ++ ((ah y).toList ++ ((ah z).toList))
def R3 (v:Value) (m:Nat):Prop:=∃a cap,v = .slice a m cap/\m<=cap/\cap<=maxLen/\(a=none->cap=0)
theorem Sl.eA (h:Sl w v l):R3 v l.length:=by obtain⟨a,A,B,C,D,E,_⟩:=h;exact⟨a,A,B,C,D,E⟩
def Apart {α:Type} (v:Value) (l:List α) (S:List Nat):Prop:=∀b,ah v=some b->l≠[]->b∉S
theorem Sl.lt {b:Nat} (h:Sl w v l) (hb:ah v=some b) (hl:l≠[]):b<w.heap.size:=by
  obtain⟨a,A,B,D,E,F,C⟩:=h;cases l with
  | nil=>exact absurd q hl
  | cons u r =>
    subst B;cases a with
    | none=>simp[ah]at hb
    | some p =>
      have:=World.block_lt_of_cell? w _<|C p q 0 u q;rw[Addr.add_block]at this;simp[ah]at hb;omega
theorem Apart.ahY {S:List Nat} (h:Sl w v l) (a:∀i∈S,w.heap.size<=i):Apart v l S:=fun b hb hl c=>by have:=h.lt hb hl;have:=a b c;omega
theorem FK {lo hi b:Nat} (h:ah (pz v lo hi)=some b):ah v=some b:=by
  cases v with
  | slice a len cap =>
    cases a with
    | none=>simp only[pz]at h;split at h <;> simp[ah]at h
    | some p =>
      simp only[pz]at h;split at h
      · exact h
      · simp only[Option.map_some,ah,Addr.add_block]at h;exact h
  | _=>simp[pz,undef,ah]at h
theorem Apart.sub {α:Type} {l:List α} {S:List Nat} (h:Apart v l S) (lo hi:Nat):Apart (pz v lo hi) ((l.take hi).drop lo) S:=fun b hb hl=>h b (FK hb) (by rintro rfl;simp at hl)
theorem Sl.md {S:List Nat} (h:Sl w v l) (m:Md S w w') (hs:Apart v l S):Sl w' v l:=by obtain⟨a,A,B,E,F,G,H⟩:=h;refine⟨a,A,B,E,F,G,fun p C j u D=>m.cell (H p C j u D) ?_⟩;subst B;subst C;rw[Addr.add_block];exact hs _ q (by rintro rfl;simp at D)
theorem Sl.cL {b:Nat} {cs:List Value} {ty:TypeId} (h:bK w b cs ty) (a:cs.length<=maxLen):Sl w (.slice (some ⟨b,0,none⟩) cs.length cs.length) cs :=
  ⟨_,_,q,Nat.le_refl _,a,by simp,fun p c e f d=>by cases c;rw[Addr.jj,Nat.zero_add,h.cell];exact d⟩
theorem Sl.r6 {base:Nat} {e:TypeId} (h:w.ownsRow base e 1 v l.length l):Sl w v l:=by
  rcases h.2 with⟨rfl,C⟩|⟨g,A,B,rfl,H,I,E,D,J,K⟩
  · have:l=[]:=List.eq_nil_of_length_eq_zero C
    subst this;exact Sl.nil w
  exact⟨_,A,q,E,D,by simp,fun p F j u G=>by cases F;exact h.cells (g:=g) q j u G⟩
theorem Sl.sub (h:Sl w v l) (lo hi:Nat) (h1:lo<=hi) (j:hi<=l.length):Sl w (pz v lo hi) ((l.take hi).drop lo):=by
  obtain⟨b,c,rfl,G,H,e,f⟩:=h;refine⟨if c=lo then b else b.map (·.add lo),c-lo,?_,?_,by omega,?_,?_⟩
  · simp only[pz];congr 1;simp;omega
  · simp;omega
  · intro h
    split at h
    · omega
    cases b with
    | none=>have:=e rfl;omega
    | some p=>simp at h
  intro p a d g C;have i:d<hi-lo:=by have:=(List.getElem?_eq_some_iff.1 C).1;simp at this;omega
  have D:c≠lo:=by omega
  rw[if_neg D]at a;cases b with
  | none=>simp at a
  | some q =>
    simp at a;subst a;rw[Addr.add_add];refine f q rfl (lo+d) g ?_;rw[List.getElem?_drop,List.getElem?_take]at C;rw[if_pos Xx]at C;exact C
end
theorem By.sub {w:World} {v:Value} {l:Ly} (h:By w v l) (lo hi:Nat) (h1:lo<=hi) (a:hi<=l.length):By w (pz v lo hi) ((l.take hi).drop lo):=by
  have:=Sl.sub h lo hi h1 (by simpa using a);unfold By
  rwa [List.map_drop,List.map_take]
theorem By.eA {w:World} {v:Value} {l:Ly} (h:By w v l):R3 v l.length:=by have:=Sl.eA h;simpa using this
theorem By.o {w a:World} {v:Value} {l:Ly} (h:By w v l) (m:Md [] w a):By a v l:=Sl.o h m
instance amm {w w':World} {v:Value} {l:Ly}:Tp w w' (By w v l) (By w' v l):=⟨fun m h=>h.o m⟩
theorem By.md {S:List Nat} {w a:World} {v:Value} {l:Ly} (h:By w v l) (m:Md S w a) (hs:Apart v l S):By a v l:=Sl.md h m<|fun b hb hl=>hs b hb (by rintro rfl;simp at hl)
theorem Apart.af8 {w:World} {v:Value} {l:Ly} {S:List Nat} (h:By w v l) (a:∀i∈S,w.heap.size<=i):Apart v l S:=fun b hb hl=>Apart.ahY h a b hb (by simpa using hl)
theorem By.cL {w:World} {b:Nat} {l:Ly} {ty:TypeId} {m:Nat} (h:bK w b (l.map b8) ty) (hl:l.length=m) (a:m<=maxLen):By w (.slice (some ⟨b,0,none⟩) m m) l:=by have:=Sl.cL h (by simpa [hl]using a);simpa [By,hl]using this
theorem By.DV {w:World} {v:Value} {l:Ly} (h:By w v l):l.length<=maxLen:=by have:=Sl.DV h;simpa using this
theorem afm (l:Ly) (i:Nat) (h:i<l.length):(l.map b8)[i]? = some (b8<|l.getD i 0):=by simp[List.getD,h]
theorem By.head {w:World} {v:Value} {l:Ly} (h:By w v l) (k:Nat) (hk:k<=l.length):By w (pz v 0 k) (l.take k):=by simpa using h.sub 0 k (Nat.zero_le _) hk
theorem By.tail {w:World} {v:Value} {l:Ly} (h:By w v l) (k:Nat) (hk:k<=l.length):By w (pz v k l.length) (l.drop k):=by simpa using h.sub k l.length hk (Nat.le_refl _)
theorem Apart.tail {α:Type} {v:Value} {l:List α} {S:List Nat} (h:Apart v l S) (k:Nat):Apart (pz v k l.length) (l.drop k) S:=by simpa using h.sub k l.length
def iv (P:Program) (t:TypeId):Bool :=
  match P.underlying t with
  | some (.struct _)|some (.array _ _)|none=>false
  | some _=>Nat.beq (P.cellsOf t) 1
def gH (P:Program) (t:TypeId) (n:Nat):Bool :=
  match P.underlying t with
  | some (.struct _)|some (.array _ _)=>match P.info? t with
    | some i=>Nat.beq i.size n
    | none=>false
  | _=>false
def aJ (P:Program) (s:TypeId) (f:Nat):Option Nat :=
  match P.underlying s with
  | some (.struct fs)=>match fs[f]? with
    | some fd=>match P.info? fd.type with
      | some i=>if i.size=0 then none else some fd.offset
      | none=>none
    | none=>none
  | _=>none
def dX (P:Program) (t:TypeId):Option (List Value) :=
  match P.info? t with
  | some i=>match i.zero with
    | some z=>some z.cells.toList
    | none=>none
  | none=>none
def fW (P:Program) (e:TypeId) (n:Nat):Bool :=
  match P.info? e with
  | some i=>Nat.beq i.size n
  | none=>false
theorem DK {P:Program} {t:TypeId} (h:iv P t=true):∃d i,P.underlying t=some d/\P.info? t=some i/\i.size=1/\(d matches .struct _|.array _ _)=false:=by
  unfold iv at h;split at h
  · cases h
  · cases h
  · cases h
  rename_i d h1 h2 hd;refine⟨d,?_⟩;cases hi:P.info? t with
  | none=>simp[Program.cellsOf,hi]at h
  | some i =>
    refine⟨i,hd,q,by simpa [Program.cellsOf,hi]using h,?_⟩;cases d <;> simp_all
theorem pH {P:Program} {t:TypeId} {n:Nat} (h:gH P t n=true):∃d i,P.underlying t=some d/\P.info? t=some i/\i.size=n/\(d matches .struct _|.array _ _)=true:=by
  unfold gH at h;split at h
  · rename_i d hd
    split at h
    · rename_i i hi;exact⟨_,i,hd,hi,by simpa using h,q⟩
    cases h
  · rename_i d hd
    split at h
    · rename_i i hi;exact⟨_,i,hd,hi,by simpa using h,q⟩
    cases h
  cases h
theorem vu {P:Program} {t:TypeId} (h:iv P t=true) (w:World):(isAgg t).run P w = .ok false w:=by obtain⟨d,i,A,B,C,D⟩:=DK h;simp only[isAgg,Sem.run_bind,run_underlying A,Result.andThen_ok];cases d <;> simp_all
theorem vt {P:Program} {t:TypeId} {n:Nat} (h:gH P t n=true) (w:World):(isAgg t).run P w = .ok true w:=by obtain⟨d,i,A,B,C,D⟩:=pH h;simp only[isAgg,Sem.run_bind,run_underlying A,Result.andThen_ok];cases d <;> simp_all
theorem ew {P:Program} {t:TypeId} {i:TypeInfo} (h:P.info? t=some i) (w:World):(sizeOf t).run P w = .ok i.size w:=by simp[sizeOf,typeInfo,h]
def cw (P:Program) (o:Oper) (e:Operand->Value) (w:World) (v:Value):Prop:=(execOp e o).run P w = .ok (.value v) w
section
variable {P:Program} {n:Nat} {A:Fr n} {D:List Deferred} {l:List (Nat × Value)} {w:World}
variable {d:Option Tmp} {ty:TypeId} {ps:String} {af:Array Edge} {g:Option (Nat × Bool)}
theorem aP {x:Operand} {v:Value} (h:ev n l x=some v):cw P ⟨d,.move x,ty,ps,af,g⟩ (aN A D l).eval w v:=by simp[cw,execOp,bM h]
theorem gg {x:Operand} {v:Value} (h:ev n l x=some v):cw P ⟨d,.assign x,ty,ps,af,g⟩ (aN A D l).eval w v:=by simp[cw,execOp,bM h]
theorem bC {c x y:Operand} {b:Bool} {v:Value} (a:ev n l c=some (.bool b)) (hb:b=true) (h:ev n l x=some v) :
    cw P ⟨d,.pick c x y,ty,ps,af,g⟩ (aN A D l).eval w v:=by
  subst hb;simp[cw,execOp,bM h,bM a,asBool]
theorem aU {c x y:Operand} {b:Bool} {v:Value} (a:ev n l c=some (.bool b)) (hb:b=false) (h:ev n l y=some v) :
    cw P ⟨d,.pick c x y,ty,ps,af,g⟩ (aN A D l).eval w v:=by
  subst hb;simp[cw,execOp,bM h,bM a,asBool]
theorem mQ {x:Operand} {i:Nat} {vs:Array Value} {v:Value} (h:ev n l x=some (.tuple vs)) (a:vs[i]? = some v) :
    cw P ⟨d,.extract x i,ty,ps,af,g⟩ (aN A D l).eval w v:=by
  simp[cw,execOp,bM h,Instr.extract,a]
theorem jo {x:Operand} {t:TypeId} {b:Bool} (h:ev n l x=some (.bool b)) :
    cw P ⟨d,.unOp .not t x,ty,ps,af,g⟩ (aN A D l).eval w (.bool !b):=by
  simp[cw,execOp,bM h,Op.unary]
theorem bN {x:Operand} {p:Addr} (h:ev n l x=some (.pointer<|some p)) :
    cw P ⟨d,.nilCheck x,ty,ps,af,g⟩ (aN A D l).eval w (.pointer<|some p):=by
  simp[cw,execOp,bM h]
theorem nJ {c:BinOp} {x y:Operand} {t u:TypeId} {k j:IntKind} {a b:Int} {r:Value} (f:ev n l x=some (.int k a)) (h:ev n l y=some (.int j b))
    (hr:(binOp c t (.int k a)<|.int j b).run P w = .ok r w):cw P ⟨d,.binOp c t x y u,ty,ps,af,g⟩ (aN A D l).eval w r:=by
  have e:(eqGuard c t x y (.int k a)<|.int j b).run P w = .ok () w:=by unfold eqGuard;cases c <;> simp
  simp[cw,execOp,bM f,bM h,e,hr]
theorem ic {x y:Operand} {t u:TypeId} {k:IntKind} {a b:Int} (c:ev n l x=some (.int k a)) (e:ev n l y=some (.int k b)) :
    cw P ⟨d,.binOp .add t x y u,ty,ps,af,g⟩ (aN A D l).eval w (.int k<|k.wrap<|a+b):=nJ c e (by simp[binOp,Op.intArith])
theorem iC {x y:Operand} {t u:TypeId} {k:IntKind} {a b:Int} (c:ev n l x=some (.int k a)) (e:ev n l y=some (.int k b)) :
    cw P ⟨d,.binOp .sub t x y u,ty,ps,af,g⟩ (aN A D l).eval w (.int k<|k.wrap<|a-b):=nJ c e (by simp[binOp,Op.intArith])
theorem akt {x y:Operand} {t u:TypeId} {k:IntKind} {a b:Int} (c:ev n l x=some (.int k a)) (e:ev n l y=some (.int k b)) :
    cw P ⟨d,.binOp .mul t x y u,ty,ps,af,g⟩ (aN A D l).eval w (.int k<|k.wrap<|a*b):=nJ c e (by simp[binOp,Op.intArith])
theorem akv {x y:Operand} {t u:TypeId} {k:IntKind} {a b:Int} (e:ev n l x=some (.int k a)) (f:ev n l y=some (.int k b)) (c:b≠0) :
    cw P ⟨d,.binOp .quo t x y u,ty,ps,af,g⟩ (aN A D l).eval w (.int k<|k.wrap<|a.tdiv b):=nJ e f (by simp[binOp,Op.intDiv,c])
theorem adW {x y:Operand} {t u:TypeId} {k:IntKind} {a b:Int} (e:ev n l x=some (.int k a)) (f:ev n l y=some (.int k b)) (c:b≠0) :
    cw P ⟨d,.binOp .rem t x y u,ty,ps,af,g⟩ (aN A D l).eval w (.int k<|a.tmod b):=nJ e f (by simp[binOp,Op.intDiv,c])
theorem ahc {x y:Operand} {t u:TypeId} {k:IntKind} {a b:Int} (c:ev n l x=some (.int k a)) (e:ev n l y=some (.int k b)) :
    cw P ⟨d,.binOp .and t x y u,ty,ps,af,g⟩ (aN A D l).eval w (.int k<|bits .and k a b):=nJ c e (by simp[binOp];rfl)
theorem za {x y:Operand} {t u:TypeId} {k:IntKind} {a b:Int} (c:ev n l x=some (.int k a)) (e:ev n l y=some (.int k b)) :
    cw P ⟨d,.binOp .or t x y u,ty,ps,af,g⟩ (aN A D l).eval w (.int k<|bits .or k a b):=nJ c e (by simp[binOp];rfl)
theorem eD {x y:Operand} {t u:TypeId} {k:IntKind} {a b:Int} (c:ev n l x=some (.int k a)) (e:ev n l y=some (.int k b)) :
    cw P ⟨d,.binOp .xor t x y u,ty,ps,af,g⟩ (aN A D l).eval w (.int k<|bits .xor k a b):=nJ c e (by simp[binOp];rfl)
theorem adO {x y:Operand} {t u:TypeId} {k:IntKind} {a b:Int} (c:ev n l x=some (.int k a)) (e:ev n l y=some (.int k b)) :
    cw P ⟨d,.binOp .andNot t x y u,ty,ps,af,g⟩ (aN A D l).eval w (.int k<|bits .andNot k a b):=nJ c e (by simp[binOp];rfl)
def mg (k:IntKind) (a b:Int):Int:=k.wrap<|a*2 ^ min b.toNat k.bits
def afT (k:IntKind) (a b:Int):Int:=a/2 ^ min b.toNat k.bits
theorem pN {x y:Operand} {t u:TypeId} {k j:IntKind} {a b:Int} (e:ev n l x=some (.int k a)) (f:ev n l y=some (.int j b)) (c:0<=b) :
    cw P ⟨d,.binOp .shl t x y u,ty,ps,af,g⟩ (aN A D l).eval w (.int k<|mg k a b):=nJ e f (by simp only[binOp];rw[shift_shl_any k j a b c];rfl)
theorem QD {x y:Operand} {t u:TypeId} {k j:IntKind} {a b:Int} (e:ev n l x=some (.int k a)) (f:ev n l y=some (.int j b)) (c:0<=b) :
    cw P ⟨d,.binOp .shr t x y u,ty,ps,af,g⟩ (aN A D l).eval w (.int k<|afT k a b):=nJ e f (by simp only[binOp];rw[shift_shr_any k j a b c];rfl)
theorem mB {x y:Operand} {t u:TypeId} {k:IntKind} {a b:Int} (c:ev n l x=some (.int k a)) (e:ev n l y=some (.int k b)) :
    cw P ⟨d,.binOp .eql t x y u,ty,ps,af,g⟩ (aN A D l).eval w (.bool<|decide (a=b)):=nJ c e (by simp[binOp,Op.intCmp];rw[Bool.eq_iff_iff];simp)
theorem ZW {x y:Operand} {t u:TypeId} {k:IntKind} {a b:Int} (c:ev n l x=some (.int k a)) (e:ev n l y=some (.int k b)) :
    cw P ⟨d,.binOp .neq t x y u,ty,ps,af,g⟩ (aN A D l).eval w (.bool<|decide (a≠b)):=nJ c e (by simp[binOp,Op.intCmp];rw[Bool.eq_iff_iff];simp)
theorem oA {x y:Operand} {t u:TypeId} {k:IntKind} {a b:Int} (c:ev n l x=some (.int k a)) (e:ev n l y=some (.int k b)) :
    cw P ⟨d,.binOp .lss t x y u,ty,ps,af,g⟩ (aN A D l).eval w (.bool<|decide (a<b)):=nJ c e (by simp[binOp,Op.intCmp])
theorem xL {x y:Operand} {t u:TypeId} {k:IntKind} {a b:Int} (c:ev n l x=some (.int k a)) (e:ev n l y=some (.int k b)) :
    cw P ⟨d,.binOp .leq t x y u,ty,ps,af,g⟩ (aN A D l).eval w (.bool<|decide (a<=b)):=nJ c e (by simp[binOp,Op.intCmp])
theorem qb {x y:Operand} {t u:TypeId} {k:IntKind} {a b:Int} (c:ev n l x=some (.int k a)) (e:ev n l y=some (.int k b)) :
    cw P ⟨d,.binOp .gtr t x y u,ty,ps,af,g⟩ (aN A D l).eval w (.bool<|decide (b<a)):=nJ c e (by simp[binOp,Op.intCmp])
theorem rG {x y:Operand} {t u:TypeId} {k:IntKind} {a b:Int} (c:ev n l x=some (.int k a)) (e:ev n l y=some (.int k b)) :
    cw P ⟨d,.binOp .geq t x y u,ty,ps,af,g⟩ (aN A D l).eval w (.bool<|decide (b<=a)):=nJ c e (by simp[binOp,Op.intCmp])
theorem wrap_i64 {x:Int} (a:-9223372036854775808<=x) (h1:x<=9223372036854775807):IntKind.i64.wrap x=x:=by simp[IntKind.wrap,IntKind.bits,IntKind.signed];omega
theorem wrap_u64 {x:Int} (a:0<=x) (h1:x<18446744073709551616):IntKind.u64.wrap x=x:=by simp[IntKind.wrap,IntKind.bits,IntKind.signed];omega
theorem wrap_u32 {x:Int} (a:0<=x) (h1:x<4294967296):IntKind.u32.wrap x=x:=by simp[IntKind.wrap,IntKind.bits,IntKind.signed];omega
theorem ML (x:Int):IntKind.u64.wrap x=x%18446744073709551616:=by simp[IntKind.wrap,IntKind.bits,IntKind.signed]
theorem Rb (x:Int):IntKind.u8.wrap x=x%256:=by simp[IntKind.wrap,IntKind.bits,IntKind.signed]
theorem eB {x y:Operand} {t u:TypeId} {a b:Int} (c:ev n l x=some (.int .i64 a)) (e:ev n l y=some (.int .i64 b)) (h:-9223372036854775808<=a+b/\a+b<=9223372036854775807) :
    cw P ⟨d,.binOp .add t x y u,ty,ps,af,g⟩ (aN A D l).eval w (.int .i64<|a+b):=by have:=ic (P:=P) (A:=A) (D:=D) (w:=w) (d:=d) (t:=t) (u:=u) (ty:=ty) (ps:=ps) (af:=af) (g:=g) c e;rwa [wrap_i64 h.1 h.2]at this
theorem iO {x y:Operand} {t u:TypeId} {a b:Int} (c:ev n l x=some (.int .i64 a)) (e:ev n l y=some (.int .i64 b)) (h:-9223372036854775808<=a-b/\a-b<=9223372036854775807) :
    cw P ⟨d,.binOp .sub t x y u,ty,ps,af,g⟩ (aN A D l).eval w (.int .i64<|a-b):=by have:=iC (P:=P) (A:=A) (D:=D) (w:=w) (d:=d) (t:=t) (u:=u) (ty:=ty) (ps:=ps) (af:=af) (g:=g) c e;rwa [wrap_i64 h.1 h.2]at this
theorem i7 {x:Operand} {s t:TypeId} {k j:IntKind} {a:Int} (hs:(P.underlying s).isSome=true) (c:P.underlying t=some (.int k)) (e:ev n l x=some (.int j a)) :
    cw P ⟨d,.convert s t x,ty,ps,af,g⟩ (aN A D l).eval w (.int k<|k.wrap a):=by
  obtain⟨C,b⟩:=Option.isSome_iff_exists.1 hs;simp[cw,execOp,bM e,convert,run_underlying b,run_underlying c,Conv.intToInt]
theorem ahd {x y:Operand} {f:Array TypeId} {k j:IntKind} {a b:Int} (c:ev n l x=some (.int k a)) (e:ev n l y=some (.int j b)) :
    cw P ⟨d,.call {callee:=.builtin .min,args:=#[x,y],argTypes:=f},ty,ps,af,g⟩ (aN A D l).eval w (.int k<|if b<a then b else a):=by
  simp[cw,execOp,bM c,bM e,resolve,invoke,builtin,Builtin.min_,Builtin.min2]
theorem jR {x:Operand} {v:Value} {m:Nat} {t e:TypeId} (c:ev n l x=some v) (b:P.underlying t=some (.slice e)) (a:R3 v m) :
    cw P ⟨d,.call {callee:=.builtin .len,args:=#[x],argTypes:=#[t]},ty,ps,af,g⟩ (aN A D l).eval w (.int .i64 m):=by
  obtain⟨h,f,rfl,_⟩:=a;simp[cw,execOp,bM c,resolve,invoke,builtin,Builtin.len_,run_underlying b,goInt]
theorem xK {x y:Operand} {v:Value} {m:Nat} {t e:TypeId} {k:IntKind} {i:Int} (sz:Nat) (j:ev n l x=some v) (o:ev n l y=some (.int k i)) (h:P.underlying t=some (.slice e)) (a:fW P e sz=true)
    (hS:R3 v m) (hi:0<=i/\i<m):cw P ⟨d,.indexAddr t x y,ty,ps,af,g⟩ (aN A D l).eval w (mF v<|i.toNat*sz):=by
  obtain⟨f,C,rfl,q,G,c⟩:=hS;unfold fW at a;split at a
  · rename_i inf hinf
    have b:inf.size=sz:=(by simpa using a);cases f with
    | none=>have:=c rfl;omega
    | some p=>simp[cw,execOp,bM j,bM o,Instr.indexAt,asIntOf,run_underlying h,ew hinf,hi.1,hi.2,b,mF]
  cases a
theorem Xi {x y:Operand} {v:Value} {m:Nat} {t e:TypeId} {k:IntKind} {i:Int} (c:ev n l x=some v) (f:ev n l y=some (.int k i)) (b:P.underlying t=some (.slice e)) (a:fW P e 1=true)
    (hS:R3 v m) (hi:0<=i/\i<m):cw P ⟨d,.indexAddr t x y,ty,ps,af,g⟩ (aN A D l).eval w (mF v i.toNat):=by
  have:=xK (P:=P) (A:=A) (D:=D) (w:=w) (d:=d) (ty:=ty) (ps:=ps) (af:=af) (g:=g) 1 c f b a hS hi;simpa using this
theorem xM {x:Operand} {lo hi:Option Operand} {v:Value} {m:Nat} {t e:TypeId} (L H:Nat) (c:P.underlying t=some (.slice e)) (b:fW P e 1=true) (f:ev n l x=some v)
    (hS:R3 v m) (h1:L<=H) (h2:H<=m)
    (hlo:match lo with|none=>L=0|some y=>∃k,ev n l y=some (.int k L)) (hhi:match hi with|none=>H=m|some y=>∃k,ev n l y=some (.int k H)) :
    cw P ⟨d,.slice t x lo hi none,ty,ps,af,g⟩ (aN A D l).eval w (pz v L H):=by
  obtain⟨p,C,rfl,G,j,o⟩:=hS;unfold fW at b;split at b
  · rename_i inf hinf
    have a:inf.size=1:=(by simpa using b);have h:H<=C:=(by omega);cases lo with
    | none =>
      simp only at hlo;subst hlo;cases hi with
      | none =>
        simp only at hhi;subst hhi;simp[cw,execOp,bM f,Instr.sliceAt,Instr.slice,Instr.sliceBounds,run_underlying c,ew hinf,pz,a]
      | some y =>
        simp only at hhi;obtain⟨k,hk⟩:=hhi;simp[cw,execOp,bM f,bM hk,Instr.sliceAt,Instr.slice,Instr.sliceBounds,Instr.sliceBound,asIntOf,run_underlying c,ew hinf,pz,a,h]
    | some z =>
      simp only at hlo;obtain⟨q,i⟩:=hlo;cases hi with
      | none =>
        simp only at hhi;subst hhi;simp[cw,execOp,bM f,bM i,Instr.sliceAt,Instr.slice,Instr.sliceBounds,Instr.sliceBound,asIntOf,run_underlying c,ew hinf,pz,a,h1]
      | some y =>
        simp only at hhi;obtain⟨k,hk⟩:=hhi;simp[cw,execOp,bM f,bM i,bM hk,Instr.sliceAt,Instr.slice,Instr.sliceBounds,Instr.sliceBound,asIntOf,run_underlying c,ew hinf,pz,a,h1,h]
  cases b
theorem fZ {x:Operand} {p:Addr} {t e:TypeId} {m:Nat} (b:P.underlying t=some (.array m e)) (a:fW P e 1=true) (c:ev n l x=some (.pointer<|some p)) (f:m≠0) :
    cw P ⟨d,.slice t x none none none,ty,ps,af,g⟩ (aN A D l).eval w (.slice (some p) m m):=by
  unfold fW at a;split at a
  · rename_i inf hinf
    simp[cw,execOp,bM c,Instr.sliceAt,Instr.sureAddr,Instr.sliceBounds,run_underlying b,ew hinf,Addr.add]
  cases a
theorem TV {x:Operand} {t:TypeId} {p:Addr} {u:Value} (c:ev n l x=some (.pointer<|some p)) (a:iv P t=true) (b:w.cell? p=some u) :
    cw P ⟨d,.load t x,ty,ps,af,g⟩ (aN A D l).eval w u:=by
  simp[cw,execOp,bM c,Instr.loadAt,Instr.sureAddr,loadVar,vu a,b]
theorem aD {x:Operand} {t ty':TypeId} {b j:Nat} {cs:List Value} {u:Value} (f:ev n l x=some (.pointer<|some ⟨b,j,none⟩)) (c:iv P t=true) (a:bK w b cs ty') (e:cs[j]? = some u) :
    cw P ⟨d,.load t x,ty,ps,af,g⟩ (aN A D l).eval w u:=TV f c (by rw[a.cell];exact e)
theorem adR {x:Operand} {t:TypeId} {i:Nat} {v u:Value} {b:List Value} (j:ev n l x=some (mF v i)) (h:iv P t=true) (f:Sl w v b) (a:b[i]? = some u) :
    cw P ⟨d,.load t x,ty,ps,af,g⟩ (aN A D l).eval w u:=by
  obtain⟨e,k,rfl,m,G,C,c⟩:=f;have H:=(List.getElem?_eq_some_iff.1 a).1;cases e with
  | none=>have:=C rfl;omega
  | some p=>exact TV (p:=p.add i) j h<|c p q i u a
theorem Xl {x:Operand} {t:TypeId} {i:Nat} {v:Value} {a:Ly} (f:ev n l x=some (mF v i)) (c:iv P t=true) (b:By w v a) (e:i<a.length) :
    cw P ⟨d,.load t x,ty,ps,af,g⟩ (aN A D l).eval w (b8<|a.getD i 0):=adR f c b<|afm a i e
theorem yZ {x:Operand} {t:TypeId} {p:Addr} {m:Nat} {cs:List Value} (j:ev n l x=some (.pointer<|some p)) (a:gH P t m=true) (i:cs.length=m) (h:∀b c,cs[b]? = some c->w.cell? (p.add b)=some c) :
    cw P ⟨d,.load t x,ty,ps,af,g⟩ (aN A D l).eval w (.agg cs.toArray):=by
  obtain⟨G,k,H,e,C,o⟩:=pH a;have f:=run_loadCells_list (P:=P) (w:=w) p cs h;simp[cw,execOp,bM j,Instr.loadAt,Instr.sureAddr,loadVar,vt a,ew e,C,<- i,f]
theorem lF {x:Operand} {t ty':TypeId} {b:Nat} {cs:List Value} (f:ev n l x=some (.pointer<|some ⟨b,0,none⟩)) (c:gH P t cs.length=true) (a:bK w b cs ty') :
    cw P ⟨d,.load t x,ty,ps,af,g⟩ (aN A D l).eval w (.agg cs.toArray) :=
  yZ f c q fun h i e=>by rw[Addr.jj,Nat.zero_add,a.cell];exact e
theorem aF {x:Operand} {s:TypeId} {f b o off:Nat} (a:ev n l x=some (.pointer<|some ⟨b,o,none⟩)) (hf:aJ P s f=some off) :
    cw P ⟨d,.fieldAddr s x f,ty,ps,af,g⟩ (aN A D l).eval w (.pointer<|some ⟨b,o+off,none⟩):=by
  unfold aJ at hf;split at hf
  · rename_i fs hfs
    split at hf
    · rename_i fd hfd
      split at hf
      · rename_i inf hinf
        split at hf
        · cases hf
        rename_i hz;simp only[Option.some.injEq]at hf;subst hf;simp[cw,execOp,bM a,Instr.fieldAt,Instr.sureAddr,run_underlying hfs,hfd,fieldPlace,ew hinf,hz,Addr.jj]
      cases hf
    cases hf
  cases hf
theorem By.r6 {e:TypeId} {v:Value} {a:Ly} (h:w.ownsRow 0 e 1 v a.length (a.map b8)):By w v a:=Sl.r6 (e:=e) (base:=0) (by simpa using h)
theorem eR {x y:Operand} {t e:TypeId} {m b o:Nat} {k:IntKind} {i:Int} (h:ev n l x=some (.pointer<|some ⟨b,o,none⟩)) (j:ev n l y=some (.int k i)) (f:P.underlying t=some (.array m e)) (a:fW P e 1=true)
    (hi:0<=i/\i<m):cw P ⟨d,.indexAddr t x y,ty,ps,af,g⟩ (aN A D l).eval w (.pointer<|some ⟨b,o+i.toNat,none⟩):=by
  unfold fW at a;split at a
  · rename_i inf hinf
    have c:inf.size=1:=(by simpa using a);simp[cw,execOp,bM h,bM j,Instr.indexAt,Instr.sureAddr,asIntOf,run_underlying f,ew hinf,hi.1,hi.2,c,Addr.jj]
  cases a
theorem cw.jf {o:Oper} {e:Operand->Value} {k:IntKind} {a b:Int} (h:cw P o e w (.int k a)) (c:a=b):cw P o e w (.int k b):=c ▸ h
theorem cw.ND {o:Oper} {e:Operand->Value} {a b:Bool} (h:cw P o e w (.bool a)) (c:a=b):cw P o e w (.bool b):=c ▸ h
end
section
variable {P:Program} {n:Nat} {A:Fr n} {D:List Deferred} {l:List (Nat × Value)} {w:World} {ops:Array Oper} {rest:List Oper} {Q:Exit->Act->World->Prop}
variable {d:Tmp} {op:Op} {ty:TypeId} {ps:String} {af:Array Edge}
theorem gI {o:Oper} {a:Act} (b:o.guard=none) (h:o.wp P a w (wpList P ops Q rest) Q):wpList P ops Q (o :: rest) a w:=by unfold wpList;rw[if_pos (by simp[Region.wanted,b])];exact .inl h
theorem JU {o:Oper} {a:Act} {v:Value} {b:Act->World->Prop} (c:cw P o a.eval w v) (h:b (a.put o.dst v) w):o.wp P a w b Q:=by unfold Oper.wp;unfold cw at c;rw[c];exact h
theorem st (v:Value) (a:cw P ⟨some d,op,ty,ps,af,none⟩ (aN A D l).eval w v) (k:wpList P ops Q rest (aN A D ((d,v) :: l)) w) :
    wpList P ops Q (⟨some d,op,ty,ps,af,none⟩ :: rest) (aN A D l) w:=gI q<|JU a k
theorem lC {j t:Nat} {o:Oper} {b:Bool} (f:ops[j]? = some o) (g:o.dst=some t) (h:ev n l (.tmp t)=some (.bool b)):yielded ops (aN A D l).tmps j=some b:=by
  have a:=bM (A:=A) (D:=D) h;have e:(aN A D l).tmps.size=n:=yT;have d:t<n:=by
    simp only[ev]at h;cases hb:Nat.ble n t with
    | true=>simp[hb]at h
    | false=>exact Nat.lt_of_not_le fun C=>by rw[Nat.ble_eq_true_of_le C]at hb;cases hb
  simp only[Act.eval,Array.getD,e,d,dite_true]at a;have c:(aN A D l).tmps[t]? = some (.bool b):=by rw[Array.getElem?_eq_getElem Xx];exact congrArg some a
  simp[yielded,f,g,c]
theorem aes {j t:Nat} {o:Oper} {b a:Bool} (v:Value) (c:ops[j]? = some o) (e:o.dst=some t) (f:ev n l (.tmp t)=some (.bool b)) (hb:b=a)
    (hr:cw P ⟨some d,op,ty,ps,af,some (j,a)⟩ (aN A D l).eval w v) (k:wpList P ops Q rest (aN A D ((d,v) :: l)) w) :
    wpList P ops Q (⟨some d,op,ty,ps,af,some (j,a)⟩ :: rest) (aN A D l) w:=by
  unfold wpList;rw[if_pos (by simp[Region.wanted,lC c e f,hb])];exact .inl<|JU hr k
theorem afW {j t:Nat} {o:Oper} {b a:Bool} (c:ops[j]? = some o) (e:o.dst=some t) (f:ev n l (.tmp t)=some (.bool b)) (hb:b = !a)
    (k:wpList P ops Q rest (aN A D ((d,undef) :: l)) w) :
    wpList P ops Q (⟨some d,op,ty,ps,af,some (j,a)⟩ :: rest) (aN A D l) w:=by
  unfold wpList;rw[if_neg (by subst hb;simp[Region.wanted,lC c e f])];exact k
theorem ck {t:Nat} {b:Bool} (_:ev n l (.tmp t)=some (.bool b)) (h1:b=true->wpList P ops Q rest (aN A D l) w) (a:b=false->wpList P ops Q rest (aN A D l) w):wpList P ops Q rest (aN A D l) w:=by cases b<;>simp_all
theorem aG {a:Act} (h:Q .normal a w):wpList P ops Q [] a w:=h
theorem aI {id:Nat} {lo:List Oper} {a:Act} (h:wpList P lo.toArray Q lo a w):(Code.region id lo.toArray false).wp P Q a w:=wp_region_lit h
theorem aH {x y:Code} {a:Act} (h:x.wp P (Exit.then (fun a w=>y.wp P Q a w) Q) a w):(Code.seq x y).wp P Q a w:=wp_seq h
theorem aA {K:Act->World->Prop} {a:Act} (h:K a w):Exit.then K Q .normal a w:=h
theorem aM {a:Act} (h:Q .normal a w):Code.skip.wp P Q a w:=wp_skip h
theorem lO {a:Act} (h:Q .ret a w):Code.ret.wp P Q a w:=wp_ret h
theorem cM {id:Nat} {a:Act} (h:Q (.exit id) a w):(Code.exit id).wp P Q a w:=wp_exit h
theorem bf {id:Nat} {c:Code} {a:Act} (h:c.wp P (Exit.inBlock id Q) a w):(Code.block id c).wp P Q a w:=wp_block h
theorem bB {K:Act->World->Prop} {id:Nat} {a:Act} (h:Q (.exit id) a w):Exit.then K Q (.exit id) a w:=h
theorem dJ {id:Nat} {a:Act} (h:Q .normal a w):Exit.inBlock id Q (.exit id) a w:=by simpa [Exit.inBlock]using h
theorem ai6 {id b:Nat} {a:Act} (c:Nat.beq b id=false) (h:Q (.exit b) a w):Exit.inBlock id Q (.exit b) a w:=by
  have:b≠id:=fun h=>by subst h;simp at c
  simpa [Exit.inBlock,this]using h
theorem bG {id:Nat} {a:Act} (h:Q .normal a w):Exit.inBlock id Q .normal a w:=h
theorem aS {K:Act->World->Prop} {a:Act} (h:Q .ret a w):Exit.then K Q .ret a w:=h
theorem bS {id:Nat} {a:Act} (h:Q .ret a w):Exit.inBlock id Q .ret a w:=h
theorem cJ {c:Operand} {x y:Code} {b:Bool} (d:ev n l c=some (.bool b)) (h1:b=true->x.wp P Q (aN A D l) w) (a:b=false->y.wp P Q (aN A D l) w) :
    (Code.cond c x y).wp P Q (aN A D l) w:=wp_cond_split (bM d) h1 a
theorem jJ {c:Operand} {x y:Code} {b:Bool} (d:ev n l c=some (.bool b)) (hb:b=true) (h:x.wp P Q (aN A D l) w):(Code.cond c x y).wp P Q (aN A D l) w :=
  cJ d (fun _=>h) (fun a=>by rw[hb]at a;cases a)
theorem gV {c:Operand} {x y:Code} {b:Bool} (d:ev n l c=some (.bool b)) (hb:b=false) (h:y.wp P Q (aN A D l) w):(Code.cond c x y).wp P Q (aN A D l) w :=
  cJ d (fun a=>by rw[hb]at a;cases a)<|fun _=>h
def MR {X:Type} (n:Nat) (D:List Deferred) (inv:X->List (Nat × Value)) (W:X->World->Prop) (mu:X->Nat) (x:X) (a:Act) (w:World):Prop :=
  ∃(x':X) (B:Fr n),a=aN B D (inv x')/\W x' w/\mu x'<mu x
theorem jv {X:Type} {c:Code} (inv:X->List (Nat × Value)) (W:X->World->Prop) (d:X->Nat) (x0:X) (k:Fits n l (inv x0)) (o:W x0 w)
    (round:∀(x:X) (b:Fr n) (a:World),W x a->c.wp P (Exit.then (MR n D inv W d x) Q) (aN b D<|inv x) a) :
    (Code.loop c).wp P Q (aN A D l) w:=by
  refine wp_loop_ghost (fun m e a=>∃(x:X) (b:Fr n),e=aN b D (inv x)/\W x a/\d x=m) (d x0) ⟨x0,_,(ec (A:=A) (D:=D) k).symm,o,q⟩ ?_;rintro m e a ⟨x,b,rfl,i,rfl⟩;refine wp_mono (round x b a i) ?_;intro j p r h;cases j with
  | normal=>obtain⟨C,f,g,G,H⟩:=h;exact⟨d C,H,C,f,g,G,q⟩
  | _=>exact h
theorem next {X:Type} {inv:X->List (Nat × Value)} {W:X->World->Prop} {b:X->Nat} {x:X} (a:X) (c:b a<b x) (hf:Fits n l (inv a)) (d:W a w) :
    MR n D inv W b x (aN A D l) w:=⟨a,_,(ec (A:=A) (D:=D) hf).symm,d,c⟩
def cO (P:Program) (f:FuncId):Bool :=
  match P.funcs[f]? with
  | some fn => !(fn.name == "runtime.NumGoroutine") && fn.body.isSome
  | none=>false
theorem M0 {f:FuncId} (hf:cO P f=true) (args:Array Value):(callFunc f args).run P w = .ok (.enter f args) w:=by
  unfold cO at hf;split at hf
  · rename_i fn hfn
    simp only[Bool.and_eq_true,Bool.not_eq_true']at hf;have A : ¬ fn.name = "runtime.NumGoroutine" := by have := hf.1; simpa using this
    have B:¬fn.body=none:=(by intro C;rw[C]at hf;simp at hf);simp[callFunc,hfn,A,B]
  · cases hf
theorem GZ {f:FuncId} {xs:List Operand} {c:Array TypeId} {vs:List Value} {d':Option Tmp} {g:Option (Nat × Bool)} (hf:cO P f=true) (b:evs n l xs=some vs) :
    (execOp (aN A D l).eval ⟨d',.call {callee:=.value (.func f),args:=xs.toArray,argTypes:=c},ty,ps,af,g⟩).run P w = .ok (.enter f vs.toArray) w:=by
  have a:=sJ (A:=A) (D:=D) b;simp only[execOp,resolve,Act.eval,Deferred.ofValue,List.map_toArray,a];simp[invoke,M0 hf]
theorem ax {f:FuncId} {xs:List Operand} {h:Array TypeId} {vs:List Value} {R:Ending->World->Prop} (hf:cO P f=true) (e:evs n l xs=some vs) (g:Calls P f vs.toArray w R)
    (k:∀a b,R a b->∃v,a = .returned v/\wpList P ops Q rest (aN A D ((d,v) :: l)) b) :
    wpList P ops Q (⟨some d,.call {callee:=.value (.func f),args:=xs.toArray,argTypes:=h},ty,ps,af,none⟩ :: rest) (aN A D l) w:=by
  refine gI q ?_;unfold Oper.wp;rw[GZ hf e];refine g.mono fun a b c=>?_;obtain⟨v,rfl,hk⟩:=k a b c;exact hk
def Rx (K:Value->Prop):Ending->Prop
  | .returned v=>K v
  | _=>False
theorem Ry {K:Value->Prop} {a:Ending} (h:Rx K a):∃v,a=.returned v/\K v:=by unfold Rx at h;split at h;exact⟨_,rfl,h⟩;exact h.elim
theorem Rz {f:FuncId} {xs:List Operand} {h:Array TypeId} {vs:List Value} {R:Ending->World->Prop} (h9:cO P f=true) (e9:evs n l xs=some vs) (g9:Calls P f vs.toArray w R) (k9:∀a b,R a b->Rx (fun v=>wpList P ops Q rest (aN A D ((d,v)::l)) b) a):
    wpList P ops Q (⟨some d,.call {callee:=.value (.func f),args:=xs.toArray,argTypes:=h},ty,ps,af,none⟩ :: rest) (aN A D l) w:=ax h9 e9 g9 fun a b c=>Ry<|k9 a b c
theorem ig {f:FuncId} {xs:List Operand} {p:Array TypeId} {vs:List Value} {R:Ending->World->Prop} {j t:Nat} {o:Oper} {b e:Bool} (h:ops[j]? = some o) (i:o.dst=some t) (m:ev n l (.tmp t)=some (.bool b)) (hb:b=e)
    (hf:cO P f=true) (ha:evs n l xs=some vs) (hc:Calls P f vs.toArray w R)
    (k:∀a c,R a c->∃v,a = .returned v/\wpList P ops Q rest (aN A D ((d,v) :: l)) c) :
    wpList P ops Q (⟨some d,.call {callee:=.value (.func f),args:=xs.toArray,argTypes:=p},ty,ps,af,some (j,e)⟩ :: rest) (aN A D l) w:=by
  unfold wpList;rw[if_pos (by simp[Region.wanted,lC h i m,hb])];refine .inl ?_;unfold Oper.wp;rw[GZ hf ha];refine hc.mono fun a c g=>?_;obtain⟨v,rfl,hk⟩:=k a c g;exact hk
def xZ:Nat->List Value->List (Nat × Value)
  | _,[]=>[]
  | i,v :: r=>(i,v) :: xZ (i+1) r
theorem ZN {a:Fr n} {b:List (Nat × Value)} (h:∀p∈b,a.tmps.getD p.1 undef=p.2):aN a D b=⟨a.tmps,D⟩:=by
  induction b with
  | nil=>rfl
  | cons p r ih =>
    simp only[aN];rw[ih fun q c=>h q (by simp[c])];exact QC _ _ _<|h p Oj
theorem TA {vs:List Value} {i:Nat} {p:Nat × Value} (h:p∈xZ i vs):∃j,p.1=i+j/\vs[j]? = some p.2:=by
  induction vs generalizing i with
  | nil=>simp[xZ]at h
  | cons v r ih =>
    simp only[xZ,List.mem_cons]at h
    rcases h with rfl|h
    · exact⟨0,q,q⟩
    · obtain⟨j,B,A⟩:=ih h
      exact⟨j+1,by omega,by simpa using A⟩
theorem enter {f:FuncId} {a:Func} {c:Code} {vs:List Value} {R:Ending->World->Prop} (hf:P.funcs[f]? = some a) (hb:a.body=some c) (j:a.ntmps=n) (i:Nat.ble vs.length n=true)
    (h:∀d:Fr n,c.wp P (bodyPost P a R) (aN d []<|xZ 0 vs) w):Calls P f vs.toArray w R:=by
  refine calls_of_wp hf hb ?_;have l:vs.length<=n:=lq i;have D:(vs.toArray ++ Array.replicate (a.ntmps-vs.toArray.size) undef).size=n:=by simp[j];omega
  have:=h ⟨_,D⟩
  rwa [ZN]at this
  intro p H;obtain⟨k,e,g⟩:=TA H;have G:=List.getElem?_eq_some_iff.1 g;obtain⟨b,C⟩:=G;simp only[e,Nat.zero_add,Array.getD];rw[dif_pos Xh];show(vs.toArray ++ _)[k]'_=_;rw[Array.getElem_append_left (by simpa using b)];simpa using C
def vl:Exit->Prop
  | .ret|.normal=>True
  | _=>False
theorem bp {b:Func} {R:Ending->World->Prop} {e:Exit} {v:Value} {a:Act} (c:vl e) (hd:a.defers=[]) (d:(results b a.tmps).run P w = .ok v w) (h:R (.returned v) w):bodyPost P b R e a w:=by cases e <;> simp only[vl]at c <;> exact⟨hd,v,d,h⟩
theorem uw {t:Nat} {v:Value} (h:ev n l (.tmp t)=some v):(aN A D l).tmps.getD t undef=v:=bM (A:=A) (D:=D) h
theorem abS {t:Nat} {v:Value} (h:ev n l (.tmp t)=some v):(aN A D l).tmps[t]?.getD undef=v:=by simpa using uw (A:=A) (D:=D) h
theorem ZY {a:Func} {R:Ending->World->Prop} {e:Exit} (b:vl e) (c:a.results = #[]) (h:R (.returned<|.tuple #[]) w):bodyPost P a R e (aN A [] l) w :=
  bp b kg (results_none c _ _ _) h
theorem gh {a:Func} {R:Ending->World->Prop} {e:Exit} {t:Nat} {v:Value} (b:vl e) (c:a.results = #[.tmp t]) (d:ev n l (.tmp t)=some v) (h:R (.returned v) w):bodyPost P a R e (aN A [] l) w :=
  bp b kg (results_tmp c _ _ _) (by rw[uw d];exact h)
theorem alz {a:Func} {R:Ending->World->Prop} {e:Exit} {t u:Nat} {v b:Value} (c:vl e) (d:a.results = #[.tmp t,.tmp u]) (f:ev n l (.tmp t)=some v) (g:ev n l (.tmp u)=some b)
    (h:R (.returned<|.tuple #[v,b]) w):bodyPost P a R e (aN A [] l) w :=
  bp c kg (results_tmp2 d _ _ _) (by rw[uw f,uw g];exact h)
theorem sd {t ty':TypeId} {b:Nat} {cs:List Value} (a:gH P t cs.length=true) (e:bK w b cs ty'):(loadVar t ⟨b,0,none⟩).run P w = .ok (.agg cs.toArray) w:=by
  obtain⟨g,f,G,c,d,H⟩:=pH a;have D:=run_loadCells_list (P:=P) (w:=w) ⟨b,0,none⟩ cs fun h i C=>by rw[Addr.jj,Nat.zero_add,e.cell];exact C
  simp[loadVar,vt a,ew c,d,D]
theorem al1 {a:Func} {R:Ending->World->Prop} {e:Exit} {t:Nat} {c ty':TypeId} {b:Nat} {cs:List Value} (d:vl e) (f:a.results = #[.cell t c]) (g:ev n l (.tmp t)=some (.pointer<|some ⟨b,0,none⟩))
    (hT:gH P c cs.length=true) (hB:bK w b cs ty') (h:R (.returned<|.agg cs.toArray) w):bodyPost P a R e (aN A [] l) w :=
  bp d kg (by simp[results,f,abS g,asAddr,sd hT hB]) h
theorem aQ {x y:Operand} {t ty':TypeId} {b j:Nat} {cs:List Value} {u:Value} (h:ev n l x=some (.pointer<|some ⟨b,j,none⟩)) (i:ev n l y=some u) (f:iv P t=true) (g:u.oneCell'=true)
    (hB:bK w b cs ty') (hj:j<cs.length) (k:∀a,Md [b] w a->bK a b (cs.set j u) ty'->wpList P ops Q rest (aN A D l) a) :
    wpList P ops Q (⟨none,.store t x y,ty,ps,af,none⟩ :: rest) (aN A D l) w:=by
  refine gI q ?_;obtain⟨m,H,o,d,e,p⟩:=DK f;have G:u.cells = #[u]:=by cases u <;> simp_all [Value.cells,Value.oneCell']
  have c:w.cell? ⟨b,j,none⟩=some cs[j]:=by rw[hB.cell];simp[hj]
  have C:(execOp (aN A D l).eval ⟨none,.store t x y,ty,ps,af,none⟩).run P w = .ok .skip (w.setCell ⟨b,j,none⟩ u):=by simp[execOp,bM h,bM i,Instr.storeAt,Instr.sureAddr,storeVar,ew d,e,G,storeCells,Addr.add,run_store P w _ u _ g,c,hB.frozen]
  unfold Oper.wp;rw[C];exact k _ (Md.setCell w ⟨b,j,none⟩ u)<|hB.set j u
def dZ (cs:List Value) (j:Nat) (us:List Value):List Value:=cs.take j ++ us ++ cs.drop (j+us.length)
theorem bK.setRow {b:Nat} {cs us:List Value} {ty':TypeId} (a:bK w b cs ty'):bK (w.setRow b us.toArray) b us ty':=setRow_heap w b _ _ ty' _ a
theorem Md.setRow (w:World) (b:Nat) (us:Array Value):Md [b] w (w.setRow b us):=⟨q,q,q,by simp,fun k _ hs=>setRow_other w b k us (by simpa using hs)⟩
theorem cA {x y:Operand} {t ty':TypeId} {b j:Nat} {cs us:List Value} (g:ev n l x=some (.pointer<|some ⟨b,j,none⟩)) (h:ev n l y=some (.agg us.toArray)) (f:gH P t us.length=true)
    (hu:∀i∈us,i.oneCell'=true) (hB:bK w b cs ty') (hj:j+us.length<=cs.length) (k:∀a,Md [b] w a->bK a b (dZ cs j us) ty'->wpList P ops Q rest (aN A D l) a) :
    wpList P ops Q (⟨none,.store t x y,ty,ps,af,none⟩ :: rest) (aN A D l) w:=by
  refine gI q ?_;obtain⟨H,G,m,d,e,o⟩:=pH f;have C:=run_storeCells_at P b j ty' us 0 cs.toArray w hB (by simpa using hj) hu;have c:(execOp (aN A D l).eval ⟨none,.store t x y,ty,ps,af,none⟩).run P w = .ok .skip (w.setRow b (dZ cs j us).toArray):=by simp[execOp,bM g,bM h,Instr.storeAt,Instr.sureAddr,storeVar,ew d,e,Value.cells,C,dZ]
  unfold Oper.wp;rw[c];exact k _ (Md.setRow w b _) hB.setRow
theorem kr {x y:Operand} {t ty':TypeId} {b:Nat} {cs us:List Value} (e:ev n l x=some (.pointer<|some ⟨b,0,none⟩)) (f:ev n l y=some (.agg us.toArray)) (c:gH P t us.length=true)
    (hu:∀g∈us,g.oneCell'=true) (hB:bK w b cs ty') (hj:us.length=cs.length) (k:∀a,Md [b] w a->bK a b us ty'->wpList P ops Q rest (aN A D l) a) :
    wpList P ops Q (⟨none,.store t x y,ty,ps,af,none⟩ :: rest) (aN A D l) w :=
  cA e f c hu hB (by omega) fun a d hb => k a d (by have : dZ cs 0 us = us := by simp [dZ, hj]
                                                    rwa [this]at hb)
theorem dP {t:TypeId} {cs:List Value} (a:dX P t=some cs)
    (k:∀b c,w.heap.size<=b->b<c.heap.size->Md [] w c->bK c b cs t->wpList P ops Q rest (aN A D ((d,.pointer (some ⟨b,0,none⟩)) :: l)) c) :
    wpList P ops Q (⟨some d,.alloc t,ty,ps,af,none⟩ :: rest) (aN A D l) w:=by
  refine gI q ?_;unfold dX at a;split at a
  · rename_i i hi
    split at a
    · rename_i z hzz
      simp only[Option.some.injEq]at a;have e:(execOp (aN A D l).eval ⟨some d,.alloc t,ty,ps,af,none⟩).run P w = .ok (.value<|.pointer<|some ⟨w.heap.size,0,none⟩) (w.alloc<|.cells cs.toArray t):=(by subst a;simp[execOp,Instr.alloc,zeroValue,typeInfo,hi,hzz,newVar,newRow]);unfold Oper.wp;rw[e];exact k _ _ (Nat.le_refl _) Oj (Md.alloc w _)<|bK.new w cs t
    cases a
  cases a
theorem e7 {t:TypeId} {x:Operand} {v:Value} {cs:List Value} (f:ev n l x=some v) (e:v.cells=cs.toArray)
    (k:∀b a,w.heap.size<=b->b<a.heap.size->Md [] w a->bK a b cs t->wpList P ops Q rest (aN A D ((d,.pointer (some ⟨b,0,none⟩)) :: l)) a) :
    wpList P ops Q (⟨some d,.box t x,ty,ps,af,none⟩ :: rest) (aN A D l) w:=by
  refine gI q ?_;have c:(execOp (aN A D l).eval ⟨some d,.box t x,ty,ps,af,none⟩).run P w = .ok (.value<|.pointer<|some ⟨w.heap.size,0,none⟩) (w.alloc<|.cells cs.toArray t):=by simp[execOp,Instr.box,newVar,newRow,bM f,e]
  unfold Oper.wp;rw[c];exact k _ _ (Nat.le_refl _) Oj (Md.alloc w _)<|bK.new w cs t
theorem gb {v:Value} (h:v.oneCell'=true):v.cells = #[v]:=by cases v<;>simp_all [Value.cells,Value.oneCell']
theorem Sl.cZ {v:Value} {a:List Value} (h:Sl w v a):v.oneCell'=true:=by obtain⟨b,c,rfl,_⟩:=h;rfl
def rI (cs:List Value):List (Nat × Value)->List Value
  | []=>cs
  | (i,v) :: r=>rI (cs.set i v) r
def pW:List Value->Prop
  | []=>True
  | v :: r=>v.oneCell'=true/\pW r
def xW:List (Nat × Nat)->List Value->List (Nat × Value)
  | (_,o) :: r,v :: vs=>(o,v) :: xW r vs
  | _,_=>[]
theorem wD {place:Nat->Option (Nat × Nat)}:∀(ps:List (Nat × Nat)) (vs:List Value) (cs:List Value),ps.length=vs.length->(∀p∈ps,place p.1=some (p.2,1)/\p.2<cs.length)->pW vs ->
    Instr.fill place cs.toArray ((ps.map (·.1)).zip vs)=some (rI cs<|xW ps vs).toArray
  | [],[],cs,_,_,_=>by simp[Instr.fill,xW,rI]
  | (i,o) :: ps,v :: vs,cs,hl,hp,h1=>by have d:=gb h1.1;obtain⟨a,b⟩:=hp (i,o) Oj;have e:=wD (place:=place) ps vs (cs.set o v) (by simpa using hl) (fun p c=>by have:=hp p (by simp[c]);simpa using this) h1.2;simp only at a b;have hb:¬(cs.length<o+1):=(by omega);simp only[List.map_cons,List.zip_cons_cons,Instr.fill,a,d];simp[xW,rI,e,hb]
  | [],_ :: _,_,hl,_,_=>by simp at hl
  | _ :: _,[],_,hl,_,_=>by simp at hl
def fG (P:Program) (t:TypeId):Option (List<|Nat × Nat) :=
  match P.underlying t with
  | some (.array m e)=>match P.info? e with
    | some ie=>some ((List.range m).map fun i=>(i*ie.size,ie.size))
    | none=>none
  | some (.struct aC)=>aC.toList.mapM (fun f=>(P.info? f.type).map fun i=>(f.offset,i.size))
  | _=>none
def adK (pl:List (Nat × Nat)) (m:Nat):List (Nat × Nat)->Bool
  | []=>true
  | (i,o) :: r=>(match pl[i]? with
    | some (o',s)=>Nat.beq o' o && Nat.beq s 1 && Nat.ble (o+1) m
    | none=>false) && adK pl m r
theorem IX {pl:List (Nat × Nat)} {m:Nat}:∀{ps:List (Nat × Nat)},adK pl m ps=true->∀p∈ps,pl[p.1]? = some (p.2,1)/\p.2<m
  | [],_,p,hp=>by cases hp
  | (i,o) :: r,h,p,hp=>by
    simp only[adK,Bool.and_eq_true]at h
    rcases List.mem_cons.1 hp with rfl|hp'
    · cases hq:pl[i]? with
      | none=>rw[hq]at h;simp at h
      | some q =>
        obtain⟨f,s⟩:=q;rw[hq]at h;simp only[Bool.and_eq_true]at h;obtain⟨⟨⟨c,d⟩,e⟩,_⟩:=h;have a:=Nat.eq_of_beq_eq_true c;have b:=Nat.eq_of_beq_eq_true d;subst a;subst b;exact⟨rfl,lq e⟩
    · exact IX h.2 p hp'
theorem Ye {t:TypeId} {zs vs:List Value} {pl ps:List (Nat × Nat)} (c:dX P t=some zs) (b:fG P t=some pl) (hl:ps.length=vs.length) (i:adK pl zs.length ps=true) (h1:pW vs) :
    P.built t ((ps.map (·.1)).zip vs)=some (rI zs<|xW ps vs).toArray:=by
  have h:=IX i;unfold dX at c;cases hi:P.info? t with
  | none=>simp[hi]at c
  | some it =>
    cases hzz:it.zero with
    | none=>simp[hi,hzz]at c
    | some z =>
      simp only[hi,hzz,Option.some.injEq]at c;have C:z.cells=zs.toArray:=(by rw[<- c]);unfold fG at b;unfold Program.built;cases hu:P.underlying t with
      | none=>simp[hu]at b
      | some d =>
        cases d <;> try (simp[hu]at b;done)
        case array m e =>
          cases hie:P.info? e with
          | none=>simp[hu,hie]at b
          | some ie =>
            simp only[hu,hie,Option.some.injEq]at b;simp only[hi,hzz,hie,C];refine wD ps vs zs hl (fun p f=>?_) h1;obtain⟨a,D⟩:=h p f;rw[<- b,List.getElem?_map]at a;have G:(List.range m)[p.1]? = some p.1:=by
              cases hq:(List.range m)[p.1]? with
              | none=>rw[hq]at a;simp at a
              | some q=>have:=List.getElem?_eq_some_iff.1 hq;obtain⟨H,g⟩:=this;simp at g;rw[<- g]
            rw[G]at a;simp only[Option.map_some,Option.some.injEq,Prod.mk.injEq]at a;exact⟨by rw[a.1,a.2],D⟩
        case struct aC =>
          simp only[hu]at b;simp only[hi,hzz,b,C];refine wD ps vs zs hl (fun p f=>?_) h1;obtain⟨a,D⟩:=h p f;exact⟨by simpa using a,D⟩
theorem xI {t:TypeId} {parts:List (Nat × Operand)} {zs vs cs:List Value} {pl ps:List (Nat × Nat)} {d':Option Tmp} {i:String} {g:Option (Nat × Bool)} (h:dX P t=some zs) (e:fG P t=some pl) (f:parts.map (·.1)=ps.map (·.1)) (d:evs n l (parts.map (·.2))=some vs)
    (h1:pW vs) (hl:ps.length=vs.length) (hps:adK pl zs.length ps=true) (hcs:rI zs (xW ps vs)=cs) :
    cw P ⟨d',.build t parts.toArray,ty,i,af,g⟩ (aN A D l).eval w (.agg cs.toArray):=by
  have b:=sJ (A:=A) (D:=D) d;have a:parts.map (fun p=>(p.1,(aN A D l).eval p.2))=(ps.map (·.1)).zip vs:=by rw[<- f,<- b,List.map_map,List.zip_map'];rfl
  have C:=Ye h e hl hps h1;rw[<- a]at C;have c:=run_build (P:=P) w t (parts.map<|fun p=>(p.1,(aN A D l).eval p.2)).toArray _ (by simpa using C);subst hcs;simp only[cw,execOp,List.map_toArray];show Sem.run P (do pure (Next.value<|<- Instr.build t (parts.map fun x=>(x.1,(aN A D l).eval x.2)).toArray)) w=_;simp[c]
variable {C:World->Prop} {QQ:Act->Prop}
theorem AL {id:Nat} {lo:List Oper} {a:Act} (C:World->Prop) (f:P.follows .mixedOrders=true) (d:Region.lexB .any lo.toArray=true) (e:C {w with drawn:=w.drawn+1})
    (h:wpQuiet P lo.toArray C (fun c=>∀b,C b->Q .normal c b) lo a):(Code.region id lo.toArray true).wp P Q a w :=
  wp_region_quiet f d e (by simpa using h)
theorem afI {o:Oper} {a:Act} (b:o.guard=none) (h:o.quiet P a C (wpQuiet P ops C QQ rest)):wpQuiet P ops C QQ (o :: rest) a:=by unfold wpQuiet;rw[if_pos (by simp[Region.wanted,b])];exact h
theorem LV {o:Oper} {a:Act} {c:Act->Prop} (v:Value) (d:∀b,C b->cw P o a.eval b v) (h:c (a.put o.dst v)):o.quiet P a C c :=
  ⟨v,fun b e=>by have:=d b e;unfold cw at this;unfold Oper.quietAt;rw[this];exact⟨q,q⟩,h⟩
theorem qz (v:Value) (b:∀a,C a->cw P ⟨some d,op,ty,ps,af,none⟩ (aN A D l).eval a v) (k:wpQuiet P ops C QQ rest (aN A D ((d,v) :: l))) :
    wpQuiet P ops C QQ (⟨some d,op,ty,ps,af,none⟩ :: rest) (aN A D l):=afI q<|LV v b k
theorem Xa {a:Act} (h:QQ a):wpQuiet P ops C QQ [] a:=h
variable {QS:Act->Prop}
theorem afN {o:Oper} {a:Act} (b:o.guard=none) (h:o.still P a w (wpStill P ops w QS rest)):wpStill P ops w QS (o :: rest) a:=by unfold wpStill;rw[if_pos (by simp[Region.wanted,b])];exact h
theorem s (v:Value) (a:cw P ⟨some d,op,ty,ps,af,none⟩ (aN A D l).eval w v) (k:wpStill P ops w QS rest (aN A D ((d,v) :: l))) :
    wpStill P ops w QS (⟨some d,op,ty,ps,af,none⟩ :: rest) (aN A D l):=afN q (by unfold cw at a;unfold Oper.still;rw[a];exact⟨q,k⟩)
def vF (P:Program) (e:TypeId) (sz by':Nat):Bool :=
  match P.info? e with
  | some i=>match i.zero with
    | some z=>Nat.beq i.size sz && Nat.beq i.bytes by' && Nat.beq z.cells.size sz
    | none=>false
  | none=>false
theorem oS {e:TypeId} {sz a:Nat} (h:vF P e sz a=true):∃i z,P.info? e=some i/\i.zero=some z/\i.size=sz/\i.bytes=a/\z.cells.size=sz:=by
  unfold vF at h;split at h
  · rename_i i hi
    split at h
    · rename_i z hz
      simp only[Bool.and_eq_true]at h;exact⟨i,z,hi,hz,Nat.eq_of_beq_eq_true h.1.1,Nat.eq_of_beq_eq_true h.1.2,Nat.eq_of_beq_eq_true h.2⟩
    cases h
  cases h
def Own (w:World) (e:TypeId) (sz:Nat) (v:Value) (n:Nat) (xs:List Value):Prop:=w.ownsRow 0 e sz v n xs
theorem Own.nil (w:World) (e:TypeId) (sz:Nat):Own w e sz (.slice none 0 0) 0 []:=World.ownsRow_nil w 0 e sz
theorem Own.md {S:List Nat} {a:World} {e:TypeId} {sz m:Nat} {v:Value} {xs:List Value} (h:Own w e sz v m xs) (c:Md S w a) (hs:∀b,ah v=some b->b∉S):Own a e sz v m xs:=by
  refine⟨h.1,?_⟩
  rcases h.2 with F|⟨g,C,D,rfl,E,A,B⟩
  · exact .inl F
  refine .inr ⟨g,C,D,q,E,?_,B⟩;rw[c.block g (Array.getElem?_eq_some_iff.1 A).1 (hs g q)];exact A
theorem Own.o {a:World} {e:TypeId} {sz m:Nat} {v:Value} {xs:List Value} (h:Own w e sz v m xs) (b:Md [] w a):Own a e sz v m xs:=h.md b Oj
instance alV {w':World} {e:TypeId} {sz m:Nat} {v:Value} {xs:List Value}:Tp w w' (Own w e sz v m xs) (Own w' e sz v m xs):=⟨fun m h=>h.o m⟩
theorem Own.lt {e:TypeId} {sz m:Nat} {v:Value} {xs:List Value} (h:Own w e sz v m xs):∀b,ah v=some b->b<w.heap.size:=fun b hb=>(World.ownsRow.lt h b (by cases v<;>simp_all [ah,Value.ownBlock];rename_i a _ _;cases a<;>simp_all)).2
theorem Own.ne {e ty':TypeId} {sz m b:Nat} {v:Value} {xs cs:List Value} (h:Own w e sz v m xs) (a:bK w b cs ty') (f:Nat.beq e ty'=false):∀d,ah v=some d->d≠b:=by
  rintro d c rfl
  rcases h.2 with⟨rfl,_⟩|⟨g,B,C,rfl,_,D,_⟩
  · simp[ah]at c
  simp[ah]at c;subst c;unfold bK at a;rw[D]at a;simp at a;rw[a.2]at f;simp at f
theorem vr {t ty' e:TypeId} {sz y:Nat} (o:P.underlying t=some (.slice e)) (K:vF P e sz y=true) (M:0<sz) {v:Value} {m:Nat} {xs:List Value} (h:Own w e sz v m xs)
    {a:Option Addr} {k c:Nat} {news:List Value} (hl:news.length=k*sz) (ha:a=none->k=0/\c=0) (hnews:∀p,a=some p->∀r j,news[r]? = some j->w.cell? (p.add r)=some j) (h1:∀j∈news,j.oneCell'=true)
    (h63:m+k<=maxLen) (hbytes:(m+k)*y<=140737488355328) :
    ∃n s,(Builtin.append_ #[t,t] ty' #[v,.slice a k c]).run P w = .ok n s/\Own s e sz n (m+k) (xs ++ news)/\Md (ah v).toList w s/\(n = .slice none 0 0↔v = .slice none 0 0/\k=0) /\
      (∀b,ah n=some b->ah v=some b\/w.heap.size<=b):=by
  obtain⟨i,z,H,x,Q,l,F⟩:=oS K;have E:v.ownBlock=ah v:=by rcases h.2 with⟨rfl,_⟩|⟨g,C,D,rfl,_⟩ <;> rfl
  cases a with
  | none =>
    obtain⟨rfl,rfl⟩:=ha q;have:news=[]:=List.eq_nil_of_length_eq_zero (by simpa using hl);subst this;exact⟨v,w,run_append_owned_none w 0 t ty' e i sz o H v m xs h,by simpa using h,Md.refl _ _,by simp,fun b l=>.inl l⟩
  | some p =>
    obtain⟨n,s,u,R,I,A⟩:=run_append_own (P:=P) w 0 t ty' e i z sz y o H x Q l F M v m xs h p k c news hl (hnews p q) h1 h63 hbytes<|Nat.zero_le _;refine⟨n,s,u,R,by rw[<- E];exact Md.grown I,A,?_⟩;intro b f;subst Q;subst l
    rcases h.2 with⟨rfl,rfl⟩|⟨g,C,D,rfl,T,V,W,U,J,L⟩
    · by_cases hk:k=0
      · have:=A.2 ⟨q,hk⟩
        rw[this]at f;simp[ah]at f
      · have N:xs=[]:=List.eq_nil_of_length_eq_zero (by simpa using h.1)
        simp only[maxLen]at h63;have d:=run_append_nil (P:=P) w t ty' e i z o H x p k c news hl (hnews p q) Xx Xx (by have l:=hbytes;simp only[Nat.zero_add]at l;omega);rw[u]at d;simp only[Result.ok.injEq]at d;rw[d.1]at f;simp[ah]at f;exact .inr Xx
    · by_cases hroom:m+k<=C
      · have G:m*i.size+news.length<=D.size:=by rw[hl,J,<- Nat.add_mul];exact Nat.mul_le_mul_right _ hroom
        have d:=run_append_room (P:=P) w t ty' e i o H g m C D V p k c news hl (hnews p q) h1 hroom G;rw[u]at d;simp only[Result.ok.injEq]at d;rw[d.1]at f;simp[ah]at f;exact .inl (by simp[ah,f])
      · have B:∀r j,xs[r]? = some j->w.cell? ((⟨g,0,none⟩:Addr).add r)=some j:=World.ownsRow.cells h (g:=g) q
        simp only[maxLen]at h63;have d:=run_append_grow (P:=P) w t ty' e i z o H x ⟨g,0,none⟩ m C xs h.1 B p k c news hl (hnews p q) Xx Xx<|growslice_fits Xx hbytes;rw[u]at d;simp only[Result.ok.injEq]at d;rw[d.1]at f;simp[ah]at f;exact .inr Xx
theorem aav {x y:Operand} {t e:TypeId} {j:Nat} {v u:Value} {xs ys:List Value} (B:P.underlying t=some (.slice e)) (z:vF P e 1 j=true) (E:ev n l x=some v) (F:ev n l y=some u)
    (hO:Own w e 1 v xs.length xs) (hS:Sl w u ys) (h1:∀u∈ys,u.oneCell'=true) (h63:xs.length+ys.length<=maxLen) (hbytes:(xs.length+ys.length)*j<=140737488355328)
    (k:∀f g,Own g e 1 f (xs ++ ys).length (xs ++ ys)->Md (ah v).toList w g->(f = .slice none 0 0↔v = .slice none 0 0/\ys.length=0)->(∀b,ah f=some b->ah v=some b\/w.heap.size<=b) ->
      wpList P ops Q rest (aN A D ((d,f) :: l)) g) :
    wpList P ops Q (⟨some d,.call {callee:=.builtin .append,args:=#[x,y],argTypes:=#[t,t]},ty,ps,af,none⟩ :: rest) (aN A D l) w:=by
  refine gI q ?_;obtain⟨a,C,rfl,I,J,i,G⟩:=hS;obtain⟨f,g,s,H,p,r,o⟩:=vr (P:=P) (w:=w) (ty':=ty) B z Xx hO (a:=a) (k:=ys.length) (c:=C) (news:=ys) Oj (fun h=>⟨by have:=i h;omega,i h⟩) G h1 h63 hbytes;have m:(execOp (aN A D l).eval ⟨some d,.call {callee:=.builtin .append,args:=#[x,y],argTypes:=#[t,t]},ty,ps,af,none⟩).run P w = .ok (.value f) g:=by simp[execOp,resolve,invoke,builtin,bM E,bM F,s]
  unfold Oper.wp;rw[m];exact k f g (by simpa using H) p r o
theorem MD {x y:Operand} {t c e ty':TypeId} {g o dLen dCap:Nat} {u:Value} {cs ys:List Value} (i:P.underlying t=some (.slice e)) (b:fW P e 1=true) (j:ev n l x=some (.slice (some ⟨g,o,none⟩) dLen dCap)) (m:ev n l y=some u)
    (hB:bK w g cs ty') (hS:Sl w u ys) (h1:∀u∈ys,u.oneCell'=true) (hfit:o+min ys.length dLen<=cs.length)
    (k:∀f,Md [g] w f->bK f g (dZ cs o<|ys.take dLen) ty'->wpList P ops Q rest (aN A D ((d,.int .i64 (min ys.length dLen:Nat)) :: l)) f) :
    wpList P ops Q (⟨some d,.call {callee:=.builtin .copy,args:=#[x,y],argTypes:=#[t,c]},ty,ps,af,none⟩ :: rest) (aN A D l) w:=by
  refine gI q ?_;obtain⟨F,r,rfl,J,K,v,z⟩:=hS;unfold fW at b;split at b
  case h_2=>cases b
  rename_i inf hinf;have H:inf.size=1:=by simpa using b
  have h:(ys.take dLen).length=min ys.length dLen:=by simp[Nat.min_comm]
  have C:(execOp (aN A D l).eval ⟨some d,.call {callee:=.builtin .copy,args:=#[x,y],argTypes:=#[t,c]},ty,ps,af,none⟩).run P w =
      .ok (.value<|.int .i64 (min ys.length dLen:Nat)) (w.setRow g (dZ cs o<|ys.take dLen).toArray):=by
    cases F with
    | none =>
      have R:=v q;have s:ys=[]:=List.eq_nil_of_length_eq_zero Xx;subst s;have G:dZ cs o []=cs:=(by simp[dZ]);simp only[List.take_nil,G];have:w.setRow g cs.toArray=w:=setRow_self w g _ ty' _ hB;rw[this];simp[execOp,resolve,invoke,builtin,bM j,bM m,Builtin.copy_,run_underlying i,Builtin.lenOf,Builtin.firstCells,ew hinf,storeCells,goInt]
    | some p =>
      have B:=run_copy_row (P:=P) w t c ty e g o dLen dCap p ys.length r cs.toArray ty' (ys.take dLen) i (by simp[hinf,H]) hB h
        (fun I u a=>z p q I u (by rw[List.getElem?_take]at a;split at a;exact a;cases a)) (by rw[h];simpa using hfit)<|fun u E=>h1 u<|List.mem_of_mem_take E
      simp[execOp,resolve,invoke,builtin,bM j,bM m,B,dZ,goInt,Nat.min_comm]
  unfold Oper.wp;rw[C];exact k _ (Md.setRow w g _) hB.setRow
theorem cW {x:Operand} {k:IntKind} {a b:Int} (h:ev n l x=some (.int k a)) (e:a=b):ev n l x=some (.int k b):=by rw[h,e]
theorem sN {x:Operand} {a b:Bool} (h:ev n l x=some (.bool a)) (e:a=b):ev n l x=some (.bool b):=by rw[h,e]
theorem sB {k:IntKind} {a b:Int} (e:a=b):Ending.returned (.int k a) = .returned (.int k b):=by rw[e]
theorem mS {a b:Bool} (e:a=b):Ending.returned (.bool a) = .returned (.bool b):=by rw[e]
theorem al0 {a b:Value} (e:a=b):Ending.returned a = .returned b:=by rw[e]
theorem By.eJ {v:Value} {a:Ly} (h:By w v a):a.length<=9223372036854775807:=by have:=h.DV;simp only[maxLen]at this;omega
theorem Own.md1 {a:World} {e ty':TypeId} {sz m b:Nat} {v:Value} {xs cs:List Value} (h:Own w e sz v m xs) (d:bK w b cs ty') (i:Nat.beq e ty'=false) (g:Md [b] w a):Own a e sz v m xs :=
  h.md g fun c f=>by simpa using h.ne d i c f
theorem bK.mdO {c:World} {e ty':TypeId} {sz m b:Nat} {v:Value} {xs cs:List Value} (a:bK w b cs ty') (h:Own w e sz v m xs) (f:Nat.beq e ty'=false) (d:Md (ah v).toList w c):bK c b cs ty' :=
  a.md d fun hb=>by
    cases hv:ah v with
    | none=>rw[hv]at hb;simp at hb
    | some b'=>rw[hv]at hb;simp at hb;exact h.ne a f b' hv hb.symm
theorem Md.cE {a c:World} {S:List Nat} {v:Value} (d:Md S a w) (e:Md (ah v).toList w c) (f:∀b,ah v=some b->b∈S\/a.heap.size<=b):Md S a c :=
  d.step e fun i hi=>by
    cases h:ah v with
    | none=>rw[h]at hi;simp at hi
    | some b=>rw[h]at hi;simp at hi;subst hi;exact f i h
theorem LG (c:Ly):∀a∈c.map b8,a.oneCell'=true:=by intro a b;obtain⟨x,_,rfl⟩:=List.mem_map.1 b;rfl
theorem ahp {e:Type} {b c:Nat} {o:Nat} {len cap:Nat} {d:List e} (h:b≠c):Apart (.slice (some ⟨b,o,none⟩) len cap) d [c]:=by intro f a _;simp[ah]at a;subst a;simpa using h
theorem MX {v:Value} {a:Ly} {b:Nat} (h:By w v a) (hb:w.heap.size<=b):Apart v a [b]:=Apart.af8 h (by intro i hi;simp at hi;subst hi;exact hb)
theorem UB {x y:Operand} {t e:TypeId} {v u:Value} {xs ys:Ly} (m:P.underlying t=some (.slice e)) (j:vF P e 1 1=true) (o:ev n l x=some v) (p:ev n l y=some u)
    (hO:Own w e 1 v xs.length (xs.map b8)) (hS:By w u ys) (hbytes:xs.length+ys.length<=140737488355328)
    (k:∀a c,Own c e 1 a (xs ++ ys).length ((xs ++ ys).map b8)->Md (ah v).toList w c->(a = .slice none 0 0↔v = .slice none 0 0/\ys.length=0)->(∀b,ah a=some b->ah v=some b\/w.heap.size<=b) ->
      wpList P ops Q rest (aN A D ((d,a) :: l)) c) :
    wpList P ops Q (⟨some d,.call {callee:=.builtin .append,args:=#[x,y],argTypes:=#[t,t]},ty,ps,af,none⟩ :: rest) (aN A D l) w :=
  aav (xs:=xs.map b8) (ys:=ys.map b8) m j o p (by simpa using hO) hS (LG _) (by simp[maxLen];omega) Xh fun a c f g h i=>k a c (by simpa using f) g (by simpa using h) i
theorem Own.akJ {e:TypeId} {m:Nat} {v:Value} {xs:List Value} (h:Own w e 1 v m xs):Own w e 1 (pz v 0 0) 0 []:=by
  rcases h.2 with⟨rfl,rfl⟩|⟨g,A,B,rfl,C,E,G,D,F,H⟩
  · exact Own.nil w e 1
  refine⟨by simp,.inr ⟨g,A,B,?_,C,E,Nat.zero_le _,D,F,by simp⟩⟩;simp[pz,Addr.add]
theorem QV {v:Value} {b:Nat} (h:ah (pz v 0 0)=some b):ah v=some b:=FK h
theorem abA {place:Nat->Option (Nat × Nat)} {ps:List (Nat × Nat)} {vs cs:List Value} (hl:ps.length=vs.length) (a:∀p∈ps,place p.1=some (p.2,1)/\p.2<cs.length) (h1:pW vs) :
    Instr.fill place cs.toArray ((ps.map (·.1)).zip vs)=some (rI cs<|xW ps vs).toArray:=wD ps vs cs hl a h1
def FY:Nat->Nat->List (Nat × Nat)
  | _,0=>[]
  | i,k+1=>(i,i) :: FY (i+1) k
theorem acd (i k:Nat):(FY i k).length=k:=by induction k generalizing i with|zero=>rfl|succ k ih=>simp[FY,ih]
theorem OM {p:Nat × Nat}:∀{i k:Nat},p∈FY i k->p.1=p.2/\p.2<i+k
  | _,0,h=>by cases h
  | i,k+1,h=>by
    rcases List.mem_cons.1 h with rfl|h
    · exact⟨q,by simp⟩
    · have:=OM h;omega
theorem XG:∀(vs:List Value) (pre cs:List Value),cs.length=vs.length->rI (pre ++ cs) (xW (FY pre.length vs.length) vs)=pre ++ vs
  | [],pre,cs,h=>by have:cs=[]:=List.eq_nil_of_length_eq_zero (by simpa using h);subst this;rfl
  | v :: vs,pre,c :: cs,h=>by simp only[List.length_cons,FY,xW,rI];have e:(pre ++ c :: cs).set pre.length v=(pre ++ [v]) ++ cs:=(by simp);rw[e];have:=XG vs (pre ++ [v]) cs (by simpa using h);simp only[List.length_append,List.length_cons,List.length_nil,Nat.zero_add]at this;rw[this];simp
  | _ :: _,_,[],h=>by simp at h
theorem ni {t e:TypeId} {m y:Nat} {parts:List (Nat × Operand)} {vs:List Value} (I:P.underlying t=some (.slice e)) (B:vF P e 1 y=true) (L:m<=16777216) (F:parts.map (·.1)=(FY 0 m).map (·.1)) (E:evs n l (parts.map (·.2))=some vs)
    (hlen:vs.length=m) (h1:pW vs) (h0:m≠0)
    (k:∀b c,w.heap.size<=b->b<c.heap.size->Md [] w c->bK c b vs e->wpList P ops Q rest (aN A D ((d,.slice (some ⟨b,0,none⟩) m m) :: l)) c) :
    wpList P ops Q (⟨some d,.buildSlice t m parts.toArray,ty,ps,af,none⟩ :: rest) (aN A D l) w:=by
  refine gI rfl ?_;obtain⟨i,z,h,V,v,W,f⟩:=oS B;have R:=sJ (A:=A) (D:=D) E;have G:parts.map (fun p=>(p.1,(aN A D l).eval p.2))=((FY 0 m).map (·.1)).zip vs:=by rw[<- F,<- R,List.map_map,List.zip_map'];rfl
  have C:∀cs:List Value,cs.length=m->Instr.fill (fun i=>some (i*1,1)) cs.toArray (((FY 0 m).map (·.1)).zip vs)=some vs.toArray:=by intro cs J;have:=abA (place:=fun i=>some (i*1,1)) (ps:=FY 0 m) (vs:=vs) (cs:=cs) (by rw[acd,hlen]) (fun p T=>by have:=OM T;simp only[Nat.mul_one];exact⟨by rw[this.1],by omega⟩) h1;have g:=XG vs [] cs Xx;simp only[List.nil_append,List.length_nil]at g;rw[hlen]at g;rw[this,g]
  have j:(execOp (aN A D l).eval ⟨some d,.buildSlice t m parts.toArray,ty,ps,af,none⟩).run P w = .ok (.value<|.slice (some ⟨w.heap.size,0,none⟩) m m) (w.alloc<|.cells vs.toArray e):=by
    have r:∃a,z.cells = #[a]:=by
      cases hzc:z.cells with
      | mk q=>rw[hzc]at f;simp at f;match q,f with|[a],_=>exact⟨a,rfl⟩
    obtain⟨a,s⟩:=r;have H:(if m=0 then(#[]:Array Value)else #[a]).size<=1:=(by split <;> simp);have K:¬(16777216<m):=(by omega);show Sem.run P (do pure (Next.value<|<- Instr.buildSlice t m ((parts.toArray).map fun x=>(x.1,(aN A D l).eval x.2)))) w=_;rw[List.map_toArray,G];have o:((List.range m).map fun x=>(#[a]:Array Value)[x%1]!).length=m:=(by simp);have:=C _ o;simp only[Nat.mul_one]at this;simp only[Instr.buildSlice,Sem.run_bind,run_underlying I,Result.andThen_ok,ew h,v,Nat.mul_one];simp[show ¬(16777216<m)by omega,h0,zeroValue,typeInfo,h,V,s,newRow];have u:Array.map (fun x=>([a]:List Value)[x%1]?.getD default) (Array.range m)=((List.range m).map fun x=>(#[a]:Array Value)[x%1]!).toArray:=(by apply Array.ext';simp);rw[u,this];simp
  unfold Oper.wp;rw[j];exact k _ _ (Nat.le_refl _) Oj (Md.alloc w _)<|bK.new w vs e
theorem BI {x:Operand} {t u e:TypeId} {p:Addr} {g:Option (Nat × Bool)} (f:ev n l x=some (.pointer<|some p)) (a:P.underlying t=some (.pointer e)) :
    cw P ⟨some d,.binOp .eql t x (.const<|.pointer none) u,ty,ps,af,g⟩ (aN A D l).eval w (.bool false):=by
  have c:P.underlying t=some (.pointer<|P.pointee t):=by rw[a];simp[Program.pointee,a]
  have h:=run_eql_pointer_nil (P:=P) w t (some p) c;have b:(aN A D l).eval (.const<|.pointer none) = .pointer none:=rfl;have C:(eqGuard .eql t x (.const<|.pointer none) (.pointer<|some p)<|.pointer none).run P w = .ok () w:=by unfold eqGuard;simp
  simp[cw,execOp,bM f,b,C,h]
end
section
variable {P:Program} {ops:Array Oper} {md:Region.Mode} {C:World->Prop} {Q:Exit->Act->World->Prop}
def QF:Exit->Act->World->Prop:=fun _ _ _=>False
def opC (P:Program) (ops:Array Oper) (C:World->Prop) (i:Nat) (K:Act->World->Prop) (a:Act) (w:World):Prop :=
  match ops[i]? with
  | none=>K a w
  | some o=>if Region.wanted o (yielded ops a.tmps)then o.wp P a w (fun a' w'=>C w'/\K a' w') QF else K (a.put o.dst undef) w
def kR (P:Program) (md:Region.Mode) (ops:Array Oper) (C:World->Prop) (Q:Act->World->Prop):Nat->Array Bool->Act->World->Prop
  | 0,listed,a,w=>Region.ready md ops listed=[]/\Q a w
  | f+1,listed,a,w=>(Region.ready md ops listed=[]->Q a w)/\∀i∈Region.ready md ops listed,opC P ops C i (kR P md ops C Q f<|listed.setIfInBounds i true) a w
theorem UK {o:Oper} {a:Act} {w:World} {g i:Act->World->Prop} (h:∀a w,g a w->i a w) (b:o.wp P a w g QF):o.wp P a w i Q:=by
  unfold Oper.wp at *;generalize (execOp a.eval o).run P w=r at *;cases r with
  | ok x w' =>
    cases x <;> simp only[Oper.upon]at b ⊢
    case value v=>exact h _ _ b
    case skip=>exact h _ _ b
    case defer d=>exact h _ _ b
    case enter f args =>
      refine b.mono fun k j e=>?_;cases k with
      | returned v=>exact h _ _ e
      | panicked c=>exact e.elim
      | outgrown=>obtain⟨_,_,e⟩:=e;exact e.elim
    case row r args=>exact b.mono fun v j e=>h _ _ e
  | halt x w' =>
    cases x <;> simp only[Oper.upon]at b ⊢
    exact b.elim
theorem uU {o:Oper} {a:Act} {w:World} {b c:Act->World->Prop} (h:∀a w,b a w->c a w) (d:o.wp P a w b QF):o.wp P a w c QF:=UK (Q:=QF) h d
theorem mY {QN:Act->World->Prop} (c:∀a w,QN a w->Q .normal a w):∀(f:Nat) (listed:Array Bool) (a:Act) (w:World),kR P md ops C QN f listed a w->wpAny P md ops Q f listed a w
  | 0,_,_,_,h=>⟨h.1,c _ _ h.2⟩
  | f+1,listed,a,w,h=>⟨fun e=>c _ _<|h.1 e,fun i hi=>by
      have b:=h.2 i hi;unfold opC at b;unfold wpOp;split
      · rename_i ho;rw[ho]at b;exact mY c f _ a w b
      · rename_i o ho
        rw[ho]at b;simp only at b;split
        · rename_i hw;rw[if_pos hw]at b;exact .inl (UK (fun d j g=>mY c f _ d j g.2) b)
        · rename_i hw;rw[if_neg hw]at b;exact mY c f _ _ w b⟩
def Qv (P:Program) (ops:Array Oper) (C:World->Prop) (o:Oper) (v:Value) (a:Act):Prop :=
  (Region.wanted o (yielded ops a.tmps)=true/\∀w,C w->(execOp a.eval o).run P w = .ok (.value v) w)\/(Region.wanted o (yielded ops a.tmps)=false/\v=undef)
theorem Qv.opC {i:Nat} {o:Oper} {v:Value} {a:Act} {w:World} {b:Act->World->Prop} (hi:ops[i]? = some o) (c:C w) (d:Qv P ops C o v a) (h:b (a.put o.dst v) w):Wk.opC P ops C i b a w:=by
  unfold Wk.opC;simp only[hi]
  rcases d with⟨A,B⟩|⟨A,rfl⟩
  · rw[if_pos A];unfold Oper.wp;rw[B w c];exact⟨c,h⟩
  rw[if_neg (by rw[A];simp)];exact h
theorem Qv.keep {c:Oper} {v:Value} {a:Act} {d:Option Tmp} {u:Value} (hs:∀f b,c.op≠.select f b) (h:∀e,d=some e->e∉c.looksAt ops) (g:Qv P ops C c v a):Qv P ops C c v (a.put d u):=by unfold Qv at *;rw[execOp_put c hs a d u h,wanted_put c a d u h];exact g
theorem WU {j:Nat} {i k:Oper} {v:Value} {a:Act} {w:World} {o p:Act->World->Prop} (u:ops[j]? = some k) (t:i.apart ops k=true) (y:∀s b,k.op≠.select s b)
    (hK:∀(b:Act) e w',b.tmps=a.tmps->C w'->o ((b.put k.dst e).put i.dst v) w'->p (b.put k.dst e) w') (hw:C w)
    (h:opC P ops C j o (a.put i.dst v) w):opC P ops C j p a w:=by
  obtain⟨n,D,z⟩:=Oper.apart_spec t;unfold opC at *;simp only[u]at *;rw[wanted_put k a i.dst v n]at h;split
  · rename_i hwt
    rw[if_pos hwt]at h;unfold Oper.wp at *;rw[execOp_put k y a i.dst v n]at h;generalize hr:(execOp a.eval k).run P w=r at *;cases r with
    | ok x w' =>
      cases x <;> simp only[Oper.upon]at h ⊢
      case value e=>exact⟨h.1,hK a e w' q h.1 (by rw[<- Act.put_comm a v e D];exact h.2)⟩
      case skip=>exact⟨h.1,hK a undef w' q h.1 (by rw[<- Act.put_comm a v undef D];exact h.2)⟩
      case defer d =>
        have m:({a.put i.dst v with defers:=d :: (a.put i.dst v).defers}:Act)=({a with defers:=d :: a.defers}:Act).put i.dst v:=(by cases i.dst <;> rfl);refine⟨h.1,hK {a with defers:=d :: a.defers} undef w' q h.1 ?_⟩;rw[<- Act.put_comm _ v undef D,<- m];exact h.2
      case enter f args =>
        refine h.mono fun m l g=>?_;cases m with
        | returned e=>exact⟨g.1,hK a e l q g.1 (by rw[<- Act.put_comm a v e D];exact g.2)⟩
        | panicked c=>exact g
        | outgrown=>exact g
      case row r args=>exact h.mono fun e l g=>⟨g.1,hK a e l q g.1 (by rw[<- Act.put_comm a v e D];exact g.2)⟩
    | halt x w' =>
      cases x <;> simp only[Oper.upon]at h ⊢
      exact h
  rename_i hwt;rw[if_neg hwt]at h;exact hK a undef w q hw (by rw[<- Act.put_comm a v undef D];exact h)
theorem Qv.same {d:Oper} {v:Value} {a b:Act} (c:b.tmps=a.tmps) (f:Qv P ops C d v a):Qv P ops C d v b:=by
  have e:b.eval=a.eval:=by funext x;cases x <;> simp[Act.eval,c]
  unfold Qv at *;rw[e,c];exact f
theorem rP {QN:Act->World->Prop} {i:Nat} {m:Oper} {v:Value} (hi:ops[i]? = some m) (B:∀(j:Nat) (o:Oper) q b,ops[j]? = some o->o.op≠.select q b) :
    ∀(f:Nat) (listed:Array Bool) (a:Act) (w:World),
      (∀j l,ops[j]? = some l->j≠i->listed.getD j true=false->(∀e∈l.after,Region.binds md e=true->e.on≠i)->m.apart ops l=true) ->
      i∈Region.ready md ops listed->C w->Qv P ops C m v a ->
      kR P md ops C QN f (listed.setIfInBounds i true) (a.put m.dst v) w->kR P md ops C QN (f+1) listed a w:=by
  intro f
  induction f with
  | zero =>
    intro listed a w _ g r t H;refine⟨fun h=>(by rw[h]at g;cases g),fun j s=>?_⟩
    by_cases hji:j=i
    · subst hji;exact t.opC hi r H
    · have:=ready_mono s hji
      rw[H.1]at this;cases this
  | succ f ih =>
    intro listed a w x g r t H;refine⟨fun h=>(by rw[h]at g;cases g),fun j s=>?_⟩
    by_cases hji:j=i
    · subst hji;exact t.opC hi r H
    · have I:=H.2 j<|ready_mono s hji
      obtain⟨y,l,D,G⟩:=mem_ready.1 s;have E:∀e∈l.after,Region.binds md e=true->e.on≠i:=fun e c u T=>by
        have n:=G e c u;have W:=(mem_ready.1 g).1;rw[T]at n
        rcases Nat.lt_or_ge i listed.size with Q|Q
        · simp[Q]at W n;rw[W]at n;cases n
        · simp[Array.getElem?_eq_none Q]at n
      have z:=x j l D hji y E;obtain⟨_,_,J⟩:=Oper.apart_spec z;have L:∀k p,ops[k]? = some p->k≠i->(listed.setIfInBounds j true).getD k true=false ->
          (∀e∈p.after,Region.binds md e=true->e.on≠i)->m.apart ops p=true:=fun k p hk F A V=>by
        refine x k p hk F ?_ V
        by_cases hjk:j=k
        · subst hjk;exact y
        · rw[getD_set_ne true hjk]at A;exact A
      refine WU D z (fun q b=>B j l q b D) (fun b M d u R K=>?_) r I;refine ih (listed.setIfInBounds j true) _ d L (ready_mono g<|Ne.symm hji) R ((t.same u).keep (fun q b=>B i m q b hi) J) ?_;rw[Array.setIfInBounds_comm _ _ hji];exact K
def qa (l:List Oper):List (Nat × Bool)->List (Bool × Oper)
  | []=>[]
  | (i,q) :: r=>match l[i]? with
    | some o=>(q,o) :: qa l r
    | none=>qa l r
def eF (P:Program) (ops:Array Oper) (C:World->Prop) (QN:Act->World->Prop):List (Bool × Oper)->Act->World->Prop
  | [],a,w=>QN a w
  | (true,o) :: r,a,w=>if Region.wanted o (yielded ops a.tmps)then ∃v,(∀w',C w'->(execOp a.eval o).run P w' = .ok (.value v) w')/\eF P ops C QN r (a.put o.dst v) w else eF P ops C QN r (a.put o.dst undef) w
  | (false,o) :: r,a,w=>if Region.wanted o (yielded ops a.tmps)then o.wp P a w (fun a' w'=>C w'/\∃C':World->Prop,C' w'/\(∀x,C' x->C x)/\eF P ops C' QN r a' w') QF else eF P ops C QN r (a.put o.dst undef) w
theorem pU {d:World->Prop} {QN:Act->World->Prop} (c:∀x,d x->C x):∀(f:Nat) (listed:Array Bool) (a:Act) (w:World),kR P md ops d QN f listed a w->kR P md ops C QN f listed a w
  | 0,_,_,_,h=>h
  | f+1,listed,a,w,h=>⟨h.1,fun i hi=>by
      have b:=h.2 i hi;unfold opC at *;split
      · rename_i ho;rw[ho]at b;exact pU c f _ a w b
      · rename_i o ho
        rw[ho]at b;simp only at b;split
        · rename_i hw;rw[if_pos hw]at b;exact uU (fun g j e=>⟨c _ e.1,pU c f _ g j e.2⟩) b
        · rename_i hw;rw[if_neg hw]at b;exact pU c f _ _ w b⟩
def ac2 (md:Region.Mode) (ops:Array Oper):List (Nat × Bool)->Array Bool->Bool
  | [],listed=>(Region.ready md ops listed).isEmpty
  | (i,q) :: r,listed=>(ops[i]?).isSome && (if q then(Region.ready md ops listed).contains i && Region.free md ops listed i else decide (Region.ready md ops listed=[i])) && ac2 md ops r (listed.setIfInBounds i true)
theorem jI {QN:Act->World->Prop} (hs:Region.noSelect ops=true):∀{C:World->Prop} (e:List (Nat × Bool)) (listed:Array Bool) (a:Act) (w:World),C w->ac2 md ops e listed=true ->
    eF P ops C QN (qa ops.toList e) a w->kR P md ops C QN e.length listed a w
  | _,[],listed,a,w,_,hB,h=>⟨by simpa [ac2]using hB,h⟩
  | _,(i,q) :: r,listed,a,w,hC,hB,h=>by
    simp only[ac2,Bool.and_eq_true]at hB;obtain⟨⟨n,b⟩,d⟩:=hB;obtain⟨o,c⟩:=Option.isSome_iff_exists.1 n;have p:ops.toList[i]? = some o:=(by simpa using c);simp only[qa,p]at h;cases q with
    | true =>
      simp only[if_true,Bool.and_eq_true]at b;simp only[eF]at h;have g:i∈Region.ready md ops listed:=(by simpa using b.1);split at h
      · rename_i hw
        obtain⟨v,m,hk⟩:=h;exact rP c (Region.noSelect_spec hs) r.length listed a w (Region.free_spec c b.2) g hC (.inl ⟨hw,m⟩)<|jI hs r _ _ _ hC d hk
      · rename_i hw
        exact rP c (Region.noSelect_spec hs) r.length listed a w (Region.free_spec c b.2) g hC (.inr ⟨by simpa using hw,rfl⟩) (jI hs r _ _ _ hC d h)
    | false =>
      simp only[Bool.false_eq_true,if_false,decide_eq_true_eq]at b;simp only[eF]at h;refine⟨fun f=>(by rw[b]at f;cases f),fun s D=>?_⟩;rw[b]at D;have k:s=i:=(by simpa using D);subst k;unfold opC;simp only[c];split at h
      · rename_i hw
        rw[if_pos hw];exact uU (fun u x j=>⟨j.1,by obtain⟨t,G,H,l⟩:=j.2;exact pU H _ _ _ _<|jI hs r _ _ _ G d l⟩) h
      · rename_i hw
        rw[if_neg hw];exact jI hs r _ _ _ hC d h
def W9 (md:Region.Mode) (ops:Array Oper) (ord:List (Nat × Bool)):Bool:=Region.noSelect ops && decide (ord.length=ops.size) && ac2 md ops ord (Array.replicate ops.size false)
theorem UZ {id:Nat} {lo:List Oper} {a:Act} {w:World} (b:List (Nat × Bool)) (C:World->Prop) (j:P.follows .mixedOrders=true) (d:W9 .any lo.toArray b=true)
    (h:∀c,Md [] w c->C c/\eF P lo.toArray C (fun a w=>Q .normal a w) (qa lo b) a c):(Code.region id lo.toArray true).wp P Q a w:=by
  simp only[W9,Bool.and_eq_true,decide_eq_true_eq]at d;obtain⟨⟨e,f⟩,D⟩:=d;obtain⟨g,hk⟩:=h _<|Md.drew w;refine wp_region_any j<|mY (C:=C) (QN:=fun a w=>Q .normal a w) (fun _ _ i=>i) _ _ _ _ ?_;have:=jI (md:=.any) (C:=C) (QN:=fun a w=>Q .normal a w) e b _ a _ g D hk
  rwa [f]at this
variable {n:Nat} {A:Fr n} {D:List Deferred} {l:List (Nat × Value)} {w:World} {QN:Act->World->Prop} {rest:List (Bool × Oper)}
variable {d:Tmp} {op:Op} {ty:TypeId} {ps:String} {af:Array Edge}
theorem m (v:Value) (b:∀a,C a->cw P ⟨some d,op,ty,ps,af,none⟩ (aN A D l).eval a v) (k:eF P ops C QN rest (aN A D ((d,v) :: l)) w) :
    eF P ops C QN ((true,⟨some d,op,ty,ps,af,none⟩) :: rest) (aN A D l) w:=by
  unfold eF;rw[if_pos (by simp[Region.wanted])];exact⟨v,b,k⟩
theorem nX {j t:Nat} {o:Oper} {b a:Bool} (v:Value) (e:ops[j]? = some o) (f:o.dst=some t) (g:ev n l (.tmp t)=some (.bool b)) (hb:b=a)
    (hr:∀c,C c->cw P ⟨some d,op,ty,ps,af,some (j,a)⟩ (aN A D l).eval c v) (k:eF P ops C QN rest (aN A D ((d,v) :: l)) w) :
    eF P ops C QN ((true,⟨some d,op,ty,ps,af,some (j,a)⟩) :: rest) (aN A D l) w:=by
  unfold eF;rw[if_pos (by simp[Region.wanted,lC e f g,hb])];exact⟨v,hr,k⟩
theorem dK {q:Bool} {j t:Nat} {o:Oper} {b a:Bool} (c:ops[j]? = some o) (e:o.dst=some t) (f:ev n l (.tmp t)=some (.bool b)) (hb:b = !a)
    (k:eF P ops C QN rest (aN A D ((d,undef) :: l)) w) :
    eF P ops C QN ((q,⟨some d,op,ty,ps,af,some (j,a)⟩) :: rest) (aN A D l) w:=by
  cases q <;> unfold eF <;> rw[if_neg (by subst hb;simp[Region.wanted,lC c e f])] <;> exact k
theorem LI {t:Nat} {b:Bool} {a:List (Bool × Oper)} (_:ev n l (.tmp t)=some (.bool b)) (h1:b=true->eF P ops C QN a (aN A D l) w) (c:b=false->eF P ops C QN a (aN A D l) w):eF P ops C QN a (aN A D l) w:=by cases b<;>simp_all
theorem di {a:Act} (h:QN a w):eF P ops C QN [] a w:=h
theorem m_c {o:Oper} {a:Act} (h:wpList P ops (fun i l e=>i = .normal/\C e/\∃g:World->Prop,g e/\(∀x,g x->C x)/\eF P ops g QN rest l e) [o] a w) (j:Region.wanted o (yielded ops a.tmps)=true):eF P ops C QN ((false,o) :: rest) a w:=by
  unfold eF;rw[if_pos j];unfold wpList at h;rw[if_pos j]at h
  rcases h with h|h
  · unfold Oper.wp at *
    generalize (execOp a.eval o).run P w=r at *;cases r with
    | ok x e =>
      cases x <;> simp only[Oper.upon]at h ⊢
      case value v=>exact(show _/\_ from h).2
      case skip=>exact(show _/\_ from h).2
      case defer d=>exact(show _/\_ from h).2
      case enter f args =>
        refine h.mono fun i k b=>?_;cases i with
        | returned v=>exact(show _/\_ from b).2
        | panicked c=>exact absurd b.1 Oj
        | outgrown=>obtain⟨_,_,b⟩:=b;exact absurd b.1 Oj
      case row r args=>exact h.mono fun v k b=>(show _/\_ from b).2
    | halt x e =>
      cases x <;> simp only[Oper.upon]at h ⊢
      exact absurd h.1 Oj
  obtain⟨_,_,_,b⟩:=h;exact absurd b.1 Oj
theorem ajO {i j:Exit->Act->World->Prop} (b:∀g a w,i g a w->j g a w) {a:Act} {o:Oper} (h:wpList P ops i [o] a w):wpList P ops j [o] a w:=by
  unfold wpList at *;split
  · rename_i hw
    rw[if_pos hw]at h
    rcases h with h|h
    · refine .inl ?_
      unfold Oper.wp at *;generalize (execOp a.eval o).run P w=r at *;cases r with
      | ok x w' =>
        cases x <;> simp only[Oper.upon]at h ⊢
        case value v=>exact b _ _ _ h
        case skip=>exact b _ _ _ h
        case defer d=>exact b _ _ _ h
        case enter f args =>
          refine h.mono fun g k e=>?_;cases g with
          | returned v=>exact b _ _ _ e
          | panicked c=>exact b _ _ _ e
          | outgrown=>obtain⟨C,D,e⟩:=e;exact⟨C,D,b _ _ _ e⟩
        case row r args=>exact h.mono fun v k e=>b _ _ _ e
      | halt x w' =>
        cases x <;> simp only[Oper.upon]at h ⊢
        exact b _ _ _ h
    obtain⟨C,D,l,e⟩:=h;exact .inr ⟨C,D,l,b _ _ _ e⟩
  rename_i hw;rw[if_neg hw]at h;exact b _ _ _ h
theorem jc {o:Oper} {a:Act} (h:wpList P ops (fun e d c=>e = .normal/\C c/\eF P ops C QN rest d c) [o] a w) (f:Region.wanted o (yielded ops a.tmps)=true):eF P ops C QN ((false,o) :: rest) a w :=
  m_c (ajO (fun _ _ _ b=>⟨b.1,b.2.1,C,b.2.1,fun _ h=>h,b.2.2⟩) h) f
theorem agQ {j t:Nat} {o a:Oper} {b d:Bool} (i:ops[j]? = some a) (k:a.dst=some t) (m:ev n l (.tmp t)=some (.bool b)) (hb:b=d) (g:o.guard=some (j,d))
    (h:wpList P ops (fun f e c=>f = .normal/\C c/\eF P ops C QN rest e c) [o] (aN A D l) w):eF P ops C QN ((false,o) :: rest) (aN A D l) w :=
  jc h (by simp[Region.wanted,g,lC i k m,hb])
end
def str (s:Ly):Value:=.string ⟨s.toArray⟩
section
variable {P:Program} {n:Nat} {A:Fr n} {D:List Deferred} {l:List (Nat × Value)} {w:World}
variable {d:Option Tmp} {ty:TypeId} {ps:String} {af:Array Edge} {g:Option (Nat × Bool)}
theorem lY {x:Operand} {s:Ly} {t:TypeId} (c:ev n l x=some (str s)) (b:P.underlying t=some .string) :
    cw P ⟨d,.call {callee:=.builtin .len,args:=#[x],argTypes:=#[t]},ty,ps,af,g⟩ (aN A D l).eval w (.int .i64 s.length):=by
  have a:(⟨s.toArray⟩:ByteArray).size=s.length:=by simp[ByteArray.size]
  simp[cw,execOp,bM c,resolve,invoke,builtin,Builtin.len_,run_underlying b,goInt,str,a]
theorem aij {x y:Operand} {s:Ly} {t:TypeId} {k:IntKind} {i:Int} (c:ev n l x=some (str s)) (e:ev n l y=some (.int k i)) (b:P.underlying t=some .string) (hi:0<=i/\i<s.length) :
    cw P ⟨d,.index t x y,ty,ps,af,g⟩ (aN A D l).eval w (b8<|s.getD i.toNat 0):=by
  have h:=run_index_string (P:=P) w t ⟨s.toArray⟩ k i b;have a:(⟨s.toArray⟩:ByteArray).size=s.length:=by simp[ByteArray.size]
  rw[dif_pos (by rw[a];exact hi)]at h;have C:((⟨s.toArray⟩:ByteArray)[i.toNat]'(by rw[a];omega))=s.getD i.toNat 0:=by show s.toArray[i.toNat]'_=_;have:i.toNat<s.length:=(by omega);simp[List.getD,this]
  rw[C]at h;simp[cw,execOp,bM c,bM e,str,b8,h]
theorem rH {x y:Operand} {s:Ly} {t:TypeId} {k:IntKind} {i:Nat} (b:ev n l x=some (str s)) (c:ev n l y=some (.int k (i:Int))) (a:P.underlying t=some .string) (hi:i<s.length) :
    cw P ⟨d,.index t x y,ty,ps,af,g⟩ (aN A D l).eval w (b8<|s.getD i 0):=by
  have:=aij (P:=P) (A:=A) (D:=D) (w:=w) (d:=d) (ty:=ty) (ps:=ps) (af:=af) (g:=g) b c a Xx;simpa using this
theorem xN {c:BinOp} {x y:Operand} {t u:TypeId} {a b:Ly} {r:Value} (f:ev n l x=some (str a)) (h:ev n l y=some (str b)) (e:∀v,(eqGuard c t x y (str a) v).run P w = .ok () w)
    (hr:(binOp c t (str a)<|str b).run P w = .ok r w):cw P ⟨d,.binOp c t x y u,ty,ps,af,g⟩ (aN A D l).eval w r:=by
  simp[cw,execOp,bM f,bM h,e,hr]
theorem qO (b:BinOp) (t:TypeId) (x y:Operand) (a:Ly) (v:Value):(eqGuard b t x y (str a) v).run P w = .ok () w:=by unfold eqGuard str;cases b<;>simp
theorem BK (a b:Ly):((⟨a.toArray⟩:ByteArray).toList == (⟨b.toArray⟩:ByteArray).toList)=decide (a=b):=by rw[ByteArray.toList_eq,ByteArray.toList_eq];rw[Bool.eq_iff_iff];simp
theorem yY {x y:Operand} {t u:TypeId} {a b:Ly} (c:ev n l x=some (str a)) (e:ev n l y=some (str b)) (hl:a.length+b.length<=9223372036854775807) :
    cw P ⟨d,.binOp .add t x y u,ty,ps,af,g⟩ (aN A D l).eval w (str<|a ++ b):=by
  refine xN c e (qO _ _ _ _ _) ?_;have h:=run_string_add_sum (P:=P) (w:=w) ⟨a.toArray⟩ ⟨b.toArray⟩ (by simpa [ByteArray.size]using hl);simp only[binOp,str];rw[h];congr 2
theorem EY {x y:Operand} {t u:TypeId} {a b:Ly} (c:ev n l x=some (str a)) (e:ev n l y=some (str b)) :
    cw P ⟨d,.binOp .eql t x y u,ty,ps,af,g⟩ (aN A D l).eval w (.bool<|decide (a=b)) :=
  xN c e (qO _ _ _ _ _) (by simp only[binOp,str,Op.stringOp,BK,Sem.run_pure])
theorem ail {x y:Operand} {t u:TypeId} {a b:Ly} (c:ev n l x=some (str a)) (e:ev n l y=some (str b)) :
    cw P ⟨d,.binOp .neq t x y u,ty,ps,af,g⟩ (aN A D l).eval w (.bool<|!decide (a=b)) :=
  xN c e (qO _ _ _ _ _) (by simp only[binOp,str,Op.stringOp,BK,Sem.run_pure])
theorem adS {x y:Operand} {t u:TypeId} {a b:Ly} (c:ev n l x=some (str a)) (e:ev n l y=some (str b)) :
    cw P ⟨d,.binOp .lss t x y u,ty,ps,af,g⟩ (aN A D l).eval w (.bool<|Op.bytesLess a b) :=
  xN c e (qO _ _ _ _ _) (by simp only[binOp,str,Op.stringOp,Sem.run_pure,ByteArray.toList_eq])
theorem aii {x y:Operand} {t u:TypeId} {a b:Ly} (c:ev n l x=some (str a)) (e:ev n l y=some (str b)) :
    cw P ⟨d,.binOp .gtr t x y u,ty,ps,af,g⟩ (aN A D l).eval w (.bool<|!(Op.bytesLess a b || decide (a=b))) :=
  xN c e (qO _ _ _ _ _) (by simp only[binOp,str,Op.stringOp,Sem.run_pure];rw[BK];simp only[ByteArray.toList_eq])
theorem xJ {x:Operand} {v:Value} {s:Ly} {src a e:TypeId} (hs:P.underlying src=some (.slice e)) (h:P.underlying e=some (.int .u8)) (hd:P.underlying a=some .string) (i:ev n l x=some v) (m:By w v s) :
    cw P ⟨d,.convert src a x,ty,ps,af,g⟩ (aN A D l).eval w (str s):=by
  obtain⟨f,b,rfl,r,t,j,G⟩:=m;have c:(convert src a<|.slice f (s.map b8).length b).run P w = .ok (str s) w:=by
    cases f with
    | none =>
      have u:=j q;have k:(s.map b8).length=0:=(by omega);have C:s=[]:=(by simpa using k);subst C;have:=run_convert_bytes_string (P:=P) w src a e none 0 b hs h hd;simp only[List.map_nil,List.length_nil];rw[this];rfl
    | some p =>
      have:=run_convert_bytes_back (P:=P) w src a e p b s hs h hd<|fun o H=>G p q o _ (by simp[b8,H]);simpa [str]using this
  simp only[List.length_map]at c i;simp[cw,execOp,bM i,c]
theorem NT (w:World) (a:Addr) (k:Nat) (p:Addr):(w.freeze a k).cell? p=w.cell? p:=by
  unfold World.freeze;split
  · rfl
  unfold World.cell?;simp only[Array.getElem?_modify]
  by_cases h:a.block=p.block
  · rw[if_pos h]
    cases w.heap[p.block]? with
    | none=>rfl
    | some o=>cases o <;> rfl
  rw[if_neg h]
theorem Md.freeze (w:World) (a:Addr) (k:Nat):Md [a.block] w (w.freeze a k):=by
  unfold World.freeze;split
  · exact⟨q,q,q,Nat.le_refl _,fun _ _ _=>rfl⟩
  refine⟨q,q,q,by simp,fun j _ A=>?_⟩;simp only[Array.getElem?_modify];rw[if_neg (by rintro rfl;simp at A)]
theorem XH {f:Array Oper} {Q:Exit->Act->World->Prop} {rest:List Oper} {d:Tmp} {x:Operand} {s:Ly} {t e:TypeId} {b m c:Nat} {ty':TypeId} (z:P.underlying t=some (.slice e)) (y:P.underlying e=some (.int .u8))
    (hx:ev n l x=some (.slice (some ⟨b,0,none⟩) m c)) (hB:bK w b (s.map b8) ty') (hY:By w (.slice (some ⟨b,0,none⟩) m c) s)
    (k:∀a,Md [b] w a->By a (.slice (some ⟨b,0,none⟩) m c) s->wpList P f Q rest (aN A D ((d,.slice (some ⟨b,0,none⟩) m c) :: l)) a) :
    wpList P f Q (⟨some d,.convert t t x,ty,ps,af,none⟩ :: rest) (aN A D l) w:=by
  refine gI q ?_;have h:w.shape? b=some (ty',(s.map b8).toArray.size):=by unfold bK at hB;simp[World.shape?,hB]
  have g:(execOp (aN A D l).eval ⟨some d,.convert t t x,ty,ps,af,none⟩).run P w = .ok (.value<|.slice (some ⟨b,0,none⟩) m c) (w.freeze ⟨b,(s.map b8).toArray.size,none⟩ 1):=by simp[execOp,bM hx,convert,run_underlying z,run_underlying y,markStringish,h]
  unfold Oper.wp;rw[g];refine k _ (Md.freeze w ⟨b,_,none⟩ _) ?_;obtain⟨v,C,i,G,H,j,o⟩:=hY;exact⟨v,C,i,G,H,j,fun p u B E r=>by rw[NT];exact o p u B E r⟩
theorem kG {j:Array Oper} {Q:Exit->Act->World->Prop} {rest:List Oper} {d:Tmp} {x:Operand} {s:Ly} {src a e:TypeId} (hs:P.underlying src=some .string) (hd:P.underlying a=some (.slice e)) (t:P.underlying e=some (.int .u8))
    (hx:ev n l x=some (str s)) (hl:s.length<=maxLen)
    (k:∀v f,Md [] w f->By f v s->(∀b,ah v=some b->w.heap.size<=b/\b<f.heap.size)->wpList P j Q rest (aN A D ((d,v) :: l)) f) :
    wpList P j Q (⟨some d,.convert src a x,ty,ps,af,none⟩ :: rest) (aN A D l) w:=by
  refine gI q ?_;have i:=run_bytes_of_string (P:=P) w src a e ⟨s.toArray⟩ hs hd t;have m:(⟨s.toArray⟩:ByteArray).size=s.length:=by simp[ByteArray.size]
  have C:(execOp (aN A D l).eval ⟨some d,.convert src a x,ty,ps,af,none⟩).run P w = .ok (.value<|.slice (some ⟨w.heap.size,0,none⟩) s.length<|grownCap w s.length 0 e)
      (w.drew.alloc<|.cells (bytesRow ⟨s.toArray⟩<|grownCap w s.length 0 e) e ((bytesRow ⟨s.toArray⟩<|grownCap w s.length 0 e).size,(bytesRow ⟨s.toArray⟩<|grownCap w s.length 0 e).size+1)):=by
    rw[m]at i;simp[execOp,bM hx,str,i]
  unfold Oper.wp;rw[C];refine k _ _ ⟨q,q,q,by simp,fun _ hk _=>heap_alloc_old _ _ hk⟩ ?_ ?_
  · refine⟨_,_,by simp;exact⟨q,q⟩,?_,?_,by simp,?_⟩
    · simpa using grownCap_ge w s.length 0 e
    · exact grownCap_le_maxLen w _ _ _ hl
    intro p H c u g;simp at H;subst H;have h:c<s.length:=(by have:=(List.getElem?_eq_some_iff.1 g).1;simpa using this);have r:=World.cell?_alloc_mark w.drew (bytesRow ⟨s.toArray⟩<|grownCap w s.length 0 e) e ((bytesRow ⟨s.toArray⟩<|grownCap w s.length 0 e).size,(bytesRow ⟨s.toArray⟩<|grownCap w s.length 0 e).size+1) c;have o:(⟨w.heap.size,0,none⟩:Addr).add c=⟨w.heap.size,c,none⟩:=(by unfold Addr.add;split <;> simp_all);rw[o];refine r.trans ?_;simp[h,b8]at g;simp[bytesRow,Array.getElem?_append,h,g]
  intro b G;simp[ah]at G;subst G;simp
def pairT (P:Program) (t f:TypeId):Bool :=
  match P.underlying t with
  | some (.struct fs) => (fs.toList.map fun x => (x.type, x.offset)) == [(f, 0), (f, 1)] && fs.toList.all (fun x => x.name != "_") && iv P f && !P.stoodInHeld t && !P.eqGuardType P.depth t
  | _=>false
def jP (p:List UInt8 × List UInt8):Value:=.agg #[str p.1,str p.2]
theorem zP {t f:TypeId} (e:pairT P t f=true) (hf:P.underlying f=some .string) (p q:List UInt8 × List UInt8) (w:World) (k:Nat):(Op.equalIn (k+2) t (jP p)<|jP q).run P w = .ok (decide (p=q)) w:=by
  unfold pairT at e;split at e
  · rename_i fs I
    simp only[Bool.and_eq_true,Bool.not_eq_true']at e;obtain⟨⟨⟨⟨H,c⟩,o⟩,r⟩,T⟩:=e;have i:P.fieldsOf t=fs:=(by simp[Program.fieldsOf,I]);have y:P.underlying t=some (.struct<|P.fieldsOf t):=(by rw[i];exact I);have h:=run_equalIn_struct (P:=P) w (k+1) t #[str p.1,str p.2] #[str q.1,str q.2] y r;unfold jP;rw[h,i];obtain⟨n⟩:=fs;simp only at H c ⊢;have a:=eq_of_beq H
    match n,a,c with
    | [],a,_=>simp at a
    | [_],a,_=>simp at a
    | _ :: _ :: _ :: _,a,_=>simp at a
    | [g,b],a,c =>
      simp only[List.map_cons,List.map_nil,List.cons.injEq,Prod.mk.injEq,and_true]at a;obtain⟨⟨s,D⟩,u,m⟩:=a;simp only[List.all_cons,List.all_nil,Bool.and_true,Bool.and_eq_true,bne_iff_ne]at c;have j:=vu o;have G:∀(g b:Ly) (w:World),(Op.equalIn (k+1) f (str g)<|str b).run P w = .ok (decide (g=b)) w:=fun g b w=>by unfold str;rw[run_equalIn_string w k f _ _ hf,BK]
      have l:∀(d v:Value) (w:World),(part f #[d,v] 0).run P w = .ok d w:=fun d v w=>by simp[part,j]
      have C:∀(d v:Value) (w:World),(part f #[d,v] 1).run P w = .ok v w:=fun d v w=>by simp[part,j]
      simp only[Op.eqFields,ne_eq,c.1,c.2,not_false_eq_true,if_true,s,D,u,m,Sem.run_bind,l,C,Result.andThen_ok,G];have z:=l;have A:=C;obtain⟨C,Q⟩:=p;obtain⟨R,x⟩:=q
      by_cases h6:C=R <;> by_cases h7:Q=x <;> simp[h6,h7,Sem.run_ite,z,A,G]
  cases e
theorem ES {t f:TypeId} (a:pairT P t f=true) (b:BinOp) (x y:Operand) (p q:List UInt8 × List UInt8):(eqGuard b t x y (jP p)<|jP q).run P w = .ok () w:=by
  unfold pairT at a;split at a
  · simp only[Bool.and_eq_true,Bool.not_eq_true']at a
    exact run_eqGuard_agg w b t x y _ _ a.2
  cases a
theorem aif {x y:Operand} {t f u:TypeId} {p q:List UInt8 × List UInt8} (a:pairT P t f=true) (hf:P.underlying f=some .string) (c:ev n l x=some (jP p)) (e:ev n l y=some (jP q)) :
    cw P ⟨d,.binOp .eql t x y u,ty,ps,af,g⟩ (aN A D l).eval w (.bool<|decide (p=q)):=by
  have b:=ES (w:=w) a .eql x y p q;have C:(binOp .eql t (jP p)<|jP q).run P w = .ok (.bool<|decide (p=q)) w:=by rw[jP,jP,run_eql_struct,<- jP,<- jP,zP a hf p q w 9998];rfl
  simp[cw,execOp,bM c,bM e,b,C]
theorem aik {x y:Operand} {t f u:TypeId} {p q:List UInt8 × List UInt8} (a:pairT P t f=true) (hf:P.underlying f=some .string) (c:ev n l x=some (jP p)) (e:ev n l y=some (jP q)) :
    cw P ⟨d,.binOp .neq t x y u,ty,ps,af,g⟩ (aN A D l).eval w (.bool<|!decide (p=q)):=by
  have b:=ES (w:=w) a .neq x y p q;have C:(binOp .neq t (jP p)<|jP q).run P w = .ok (.bool<|!decide (p=q)) w:=by rw[jP,jP,run_neq_struct,<- jP,<- jP,zP a hf p q w 9998];rfl
  simp[cw,execOp,bM c,bM e,b,C]
theorem jF {b:Array Oper} {Q:Exit->Act->World->Prop} {rest:List Oper} {h:Op} {d:Tmp} {j t:Nat} {o:Oper} {i:Bool} (e:b[j]? = some o) (f:o.dst=some t) (g:ev n l (.tmp t)=some undef)
    (k:wpList P b Q rest (aN A D ((d,undef) :: l)) w) :
    wpList P b Q (⟨some d,h,ty,ps,af,some (j,i)⟩ :: rest) (aN A D l) w:=by
  have a:=bM (A:=A) (D:=D) g;have c:yielded b (aN A D l).tmps j=none:=by
    simp only[Act.eval]at a;unfold yielded;simp[e,f];rw[Array.getD_eq_getD_getElem?]at a;cases hq:(aN A D l).tmps[t]? with
    | none=>rfl
    | some v=>rw[hq]at a;simp at a;rw[a];rfl
  unfold wpList;rw[if_neg (by simp[Region.wanted,c])];exact k
end
def digit (c:UInt8):Bool:=decide (48<=c.toNat/\c.toNat<=57)
def iH (c:UInt8):Bool:=decide ((65<=c.toNat/\c.toNat<=90)\/(48<=c.toNat/\c.toNat<=57)\/c.toNat=95)
def eo (s:Ly):Bool:=decide (1<=s.length) && decide (s.length<=64) && !digit (s.getD 0 0) && s.all iH
theorem MV {f:UInt8->Bool} {s:Ly} (h:∀j,j<s.length->f (s.getD j 0)=true):s.all f=true:=by rw[List.all_eq_true];intro x B;obtain⟨j,A,rfl⟩:=List.mem_iff_getElem.1 B;have:=h j A;simpa [List.getD,A]using this
theorem abR {f:UInt8->Bool} {s:Ly} (h:s.all f=true) {j:Nat} (hj:j<s.length):f (s.getD j 0)=true:=by rw[List.all_eq_true]at h;have:=h (s[j]'hj)<|List.getElem_mem hj;simpa [List.getD,hj]using this
theorem WC {s:Ly} (h1:1<=s.length) (b:s.length<=64) (c:digit (s.getD 0 0)=false) (d:∀a,a<s.length->iH (s.getD a 0)=true):eo s=true:=by unfold eo;rw[decide_eq_true h1,decide_eq_true b,c,MV d];rfl
theorem fH {s:Ly} (h:eo s=true):1<=s.length/\s.length<=64:=by simp only[eo,Bool.and_eq_true,decide_eq_true_eq]at h;exact⟨h.1.1.1,h.1.1.2⟩
theorem ac4 {s:Ly} (h:eo s=true) {c:UInt8} (a:c∈s):iH c=true:=by simp only[eo,Bool.and_eq_true]at h;exact List.all_eq_true.1 h.2 c a
theorem gP {s:Ly} (h:eo s=true):¬(48<=(s.getD 0 0).toNat/\(s.getD 0 0).toNat<=57):=by simp only[eo,Bool.and_eq_true,Bool.not_eq_true']at h;have:=h.1.2;unfold digit at this;exact dF this
theorem jO {s:Ly} (h:eo s=true) (j:Nat) (a:j<s.length):(65<=(s.getD j 0).toNat/\(s.getD j 0).toNat<=90)\/(48<=(s.getD j 0).toNat/\(s.getD j 0).toNat<=57)\/(s.getD j 0).toNat=95:=by simp only[eo,Bool.and_eq_true]at h;exact dq<|abR h.2 a
abbrev sE:=List UInt8 × List UInt8
def whole (p:sE):List UInt8:=p.1 ++ [61] ++ p.2
def right (p:sE):Bool:=eo p.1 && decide (p.2.length<=256)
def acg (p:sE):Int:=if eo p.1=false then 1 else if 256<p.2.length then 21 else 0
def MB (s:Ly):Int :=
  if Lib.indexByte s 61<0 then 20 else if eo (s.take (Lib.indexByte s 61).toNat)=false then 20 else if 256<(s.drop<|(Lib.indexByte s 61).toNat+1).length then 21 else 0
def aeo (s:Ly):sE:=if MB s=0 then(s.take (Lib.indexByte s 61).toNat,s.drop ((Lib.indexByte s 61).toNat+1))else([],[])
theorem nu (p:sE):(acg p=0)↔right p=true:=by unfold acg right;cases eo p.1 <;> simp
theorem KW {a b:Ly} {c:UInt8} (h:c∉a):Lib.indexByte (a ++ c :: b) c=a.length:=by
  induction a with
  | nil=>simp[Lib.indexByte]
  | cons x r ih =>
    have B:x≠c:=fun A=>h (by simp[A]);have C:c∉r:=fun A=>h (by simp[A]);have D:(x == c)=false:=(by simp[B]);simp only[List.cons_append,Lib.indexByte,D,ih C];have:((r.length:Int) == -1)=false:=(by rw[beq_eq_false_iff_ne];omega);simp[this]
theorem pQ {p:sE} (h:acg p=0):MB (whole p)=0/\aeo (whole p)=p:=by
  obtain⟨a,b⟩:=p;have A:=(nu _).1 h;simp only[right,Bool.and_eq_true,decide_eq_true_eq]at A;have G:(61:UInt8)∉a:=fun F=>by have:=ac4 A.1 F;revert this;decide
  have E:Lib.indexByte (whole (a,b)) 61=a.length:=by unfold whole;simp only[List.append_assoc,List.singleton_append];exact KW G
  have B:(whole (a,b)).take a.length=a:=by simp[whole]
  have C:(whole (a,b)).drop (a.length+1)=b:=by unfold whole;rw[List.drop_append_of_le_length Oj];simp
  have D:MB (whole (a,b))=0:=by unfold MB;rw[E,if_neg Xx,Int.toNat_natCast,B,C,if_neg (by simp[A.1]),if_neg Xx]
  refine⟨D,?_⟩;unfold aeo;rw[if_pos D,E,Int.toNat_natCast,B,C]
theorem ac6 {s:Ly} (h1:1<=s.length) (h:∀j,j<s.length->iH (s.getD j 0)=true/\(j=0->digit (s.getD j 0)=false)):decide ((s.length:Int)<=64)=eo s:=by have B:=(h 0 Xx).2 q;have A:=MV fun j C=>(h j C).1;unfold eo;rw[decide_eq_true h1,B,A,Bool.true_and,Bool.not_false,Bool.and_true,Bool.and_true];exact decide_eq_decide.2 Xx
def NH (a b:Ly):Int:=if Op.bytesLess a b=true then -1 else if(!(Op.bytesLess a b || decide (a=b)))=true then 1 else 0
theorem abi (a b:Ly):decide (NH a b<0)=Op.bytesLess a b:=by
  unfold NH;cases h:Op.bytesLess a b with
  | true=>simp
  | false =>
    simp only[Bool.false_eq_true,if_false];split <;> rfl
section
variable {P:Program} {n:Nat} {A:Fr n} {D:List Deferred} {l:List (Nat × Value)} {w:World}
variable {d:Option Tmp} {ty:TypeId} {ps:String} {af:Array Edge} {g:Option (Nat × Bool)}
end
def gT:List UInt8->Int
  | []=>0
  | b :: r=>(b.toNat:Int)+256*gT r
theorem rf (l:Ly):0<=gT l:=by
  induction l with
  | nil=>simp[gT]
  | cons b r ih=>simp only[gT];omega
theorem acn (l:Ly):gT l<256 ^ l.length:=by
  induction l with
  | nil=>simp[gT]
  | cons b r ih =>
    simp only[gT,List.length_cons,Int.pow_succ];have:=b.toNat_lt;omega
theorem sV {l:Ly} {k:Nat} (h:l.length<=k):gT l<256 ^ k:=by refine Int.lt_of_lt_of_le (acn l) ?_;have B:256 ^ l.length<=256 ^ k:=Nat.pow_le_pow_right Xx h;have A:=Int.ofNat_le.2 B;rw[Int.natCast_pow,Int.natCast_pow]at A;exact A
def szB (n:Int):Bool:=decide (n=1\/n=2\/n=4\/n=8)
theorem afS (v:Int) (c:UInt8) (d:0<=v) (h1:v<72057594037927936) :
    bits .or .u64 (mg .u64 v 8) (IntKind.u64.wrap (c.toNat:Int))=(c.toNat:Int)+256*v:=by
  obtain⟨m,rfl⟩:=Int.eq_ofNat_of_zero_le d;have e:=c.toNat_lt;have a:mg .u64 (m:Int) 8=((m*256:Nat):Int):=by unfold mg;have:min (8:Int).toNat IntKind.u64.bits=8:=(by decide);rw[this,wrap_u64 Xx Xx];omega
  have b:IntKind.u64.wrap (c.toNat:Int)=(c.toNat:Int):=wrap_u64 Xx Xx;rw[a,b];unfold bits;simp only[BitVec.ofInt_natCast];have D:IntKind.u64.bits=64:=rfl;have C:(BitVec.ofNat IntKind.u64.bits (m*256) ||| BitVec.ofNat IntKind.u64.bits c.toNat).toNat=c.toNat+256*m:=by rw[BitVec.toNat_or,BitVec.toNat_ofNat,BitVec.toNat_ofNat,D,Nat.mod_eq_of_lt Xx,Nat.mod_eq_of_lt Xx];have:=Nat.two_pow_add_eq_or_of_lt (i:=8) (show c.toNat<2 ^ 8 by omega) m;rw[show m*256=2 ^ 8*m by omega,<- this];omega
  rw[C,wrap_u64 Xx Xx];omega
theorem SQ (l:Ly) (at' i k:Nat) (h:at'+i<l.length):gT (((l.drop<|at'+i).take<|k+1))=((l.getD (at'+i) 0).toNat:Int)+256*gT ((l.drop<|at'+(i+1)).take k):=by
  have:l.drop (at'+i)=l.getD (at'+i) 0 :: l.drop (at'+(i+1)):=by rw[List.drop_eq_getElem_cons h];simp[List.getD,h,Nat.add_assoc]
  rw[this];rfl
theorem YV {l:Ly} (a n:Int) (k:Nat) (e:n=1\/n=2\/n=4\/n=8) (d:0<=a) (hl:a+n<=l.length) (hk:(k:Int)<n) :
    bits .or .u64 (mg .u64 (gT<|(l.drop<|a.toNat+(n.toNat-k)).take k) 8) (IntKind.u64.wrap ((l.getD (a+(n-1-k)).toNat 0).toNat:Int)) =
      gT ((l.drop<|a.toNat+(n.toNat-(k+1))).take<|k+1):=by
  have b:=rf<|(l.drop<|a.toNat+(n.toNat-k)).take k;have c:gT ((l.drop<|a.toNat+(n.toNat-k)).take k)<256 ^ 7:=sV Xh;rw[afS _ _ b (by simpa using c),SQ l a.toNat (n.toNat-(k+1)) k Xx];rw[show(a+(n-1-k)).toNat=a.toNat+(n.toNat-(k+1))by omega,show n.toNat-(k+1)+1=n.toNat-k by omega]
def rZ (x k:Int):Int:=bits .or .u32 (mg .u32 x k)<|afT .u32 x<|32-k
def zN (x k:Int):Int:=bits .or .u64 (mg .u64 x k)<|afT .u64 x<|64-k
theorem vg (k:Int) (m:Nat) (c:0<=k) (h1:k<2 ^ m) (d:m<=63):bits .and .u64 (IntKind.u64.wrap k) ((2 ^ m-1:Nat):Int)=k:=by
  obtain⟨x,rfl⟩:=Int.eq_ofNat_of_zero_le c;have D:x<2 ^ m:=by have:((x:Nat):Int)<((2 ^ m:Nat):Int):=(by rw[Int.natCast_pow];exact h1);exact Int.ofNat_lt.1 this
  have C:2 ^ m<=2 ^ 63:=Nat.pow_le_pow_right Xx d;have a:(x:Int)<18446744073709551616:=by have:x<2 ^ 63:=(by omega);omega
  rw[wrap_u64 Xx a];unfold bits;simp only[BitVec.ofInt_natCast];have b:IntKind.u64.bits=64:=rfl;rw[BitVec.toNat_and,BitVec.toNat_ofNat,BitVec.toNat_ofNat,b,Nat.mod_eq_of_lt (show x<2 ^ 64 by omega),Nat.mod_eq_of_lt (show 2 ^ m-1<2 ^ 64 by omega),Nat.and_two_pow_sub_one_eq_mod,Nat.mod_eq_of_lt D];exact wrap_u64 Xx a
theorem aiH {k:Int} (a:0<=k) (h1:k<32):bits .and .u64 (IntKind.u64.wrap k) 31=k:=vg k 5 a (by simpa using h1) Xx
theorem aiI {k:Int} (a:0<=k) (h1:k<64):bits .and .u64 (IntKind.u64.wrap k) 63=k:=vg k 6 a (by simpa using h1) Xx
structure T3 where
  x:Int
  y:Int
  z:Int
def T3.cells (t:T3):List Value:=[.int .u32 t.x,.int .u32 t.y,.int .u32 t.z]
def vO (l:Ly) (i:Nat):Int:=gT [l.getD i 0,l.getD (i+1) 0,l.getD (i+2) 0,l.getD (i+3) 0]
def qR (x:Int):Int:=IntKind.u32.wrap x
def lD (t:T3) (l:Ly):T3:=⟨qR<|t.x+qR (vO l 0),qR<|t.y+qR (vO l 4),qR<|t.z+qR (vO l 8)⟩
def vv (a b:Int):Int:=bits .xor .u32 a b
def ajU (t:T3) (a b c:Int):T3 :=
  let x:=vv (qR<|t.x-t.z)<|rZ t.z a
  let z:=qR<|t.z+t.y
  let y:=vv (qR<|t.y-x)<|rZ x b
  let x:=qR<|x+z
  let z:=vv (qR<|z-y)<|rZ y c
  ⟨x,qR<|y+x,z⟩
def mix (t:T3):T3:=ajU (ajU t 4 6 8) 16 19 4
def last (t:T3):T3 :=
  let z:=qR<|vv t.z t.y-rZ t.y 14
  let x:=qR<|vv t.x z-rZ z 11
  let y:=qR<|vv t.y x-rZ x 25
  let z:=qR<|vv z y-rZ y 16
  let x:=qR<|vv x z-rZ z 4
  let y:=qR<|vv y x-rZ x 14
  let z:=qR<|vv z y-rZ y 24
  ⟨x,y,z⟩
def pack (t:T3):Int:=bits .or .u64 (mg .u64 (IntKind.u64.wrap t.z) 32)<|IntKind.u64.wrap t.y
def Wm:Nat->T3->List UInt8->Int
  | 0,t,l=>if l=[]then pack t else pack (last<|lD t l)
  | k+1,t,l=>if 12<l.length then Wm k (mix<|lD t l) (l.drop 12)else if l=[]then pack t else pack (last<|lD t l)
theorem acr:∀(k j:Nat) (t:T3) (l:Ly),l.length<=k->l.length<=j->Wm k t l=Wm j t l:=by
  intro k
  induction k with
  | zero =>
    intro j t l B C;have A:l=[]:=List.eq_nil_of_length_eq_zero Xx;subst A;cases j <;> simp[Wm]
  | succ k ih =>
    intro j t l B C;cases j with
    | zero =>
      have A:l=[]:=List.eq_nil_of_length_eq_zero Xx;subst A;simp[Wm]
    | succ j =>
      simp only[Wm];split
      · exact ih j _ _ Xh Xh
      · rfl
def lk (t:T3) (l:Ly):Int:=Wm l.length t l
theorem Wo (t:T3) (l:Ly) (h:12<l.length):lk t l=lk (mix<|lD t l) (l.drop 12):=by unfold lk;obtain⟨k,hk⟩:∃k,l.length=k+1:=⟨l.length-1,by omega⟩;rw[hk];simp only[Wm,if_pos h];exact acr _ _ _ _ Xh Oj
theorem ahM (t:T3):lk t []=pack t:=by simp[lk,Wm]
theorem Wn (t:T3) (l:Ly) (h:l≠[]) (a:l.length<=12):lk t l=pack (last<|lD t l):=by unfold lk;obtain⟨k,hk⟩:∃k,l.length=k+1:=⟨l.length-1,by have:=List.length_pos_iff.2 h;omega⟩;rw[hk];simp only[Wm,if_neg (show ¬12<l.length by omega),if_neg h]
def SV (l:Ly):T3:=⟨qR<|3735928559+qR l.length,qR<|3735928559+qR l.length,qR<|3735928559+qR l.length⟩
def lookup (l:Ly):Int:=lk (SV l) l
theorem DT (l:Ly) (i:Nat) (h:i+4<=l.length):gT ((l.drop i).take 4)=vO l i:=by
  unfold vO;congr 1;apply List.ext_getElem
  · simp;omega
  intro j B A;simp at A;have:j=0\/j=1\/j=2\/j=3:=by omega
  rcases this with rfl|rfl|rfl|rfl <;> simp[List.getD] <;> rw[List.getElem?_eq_getElem Xx] <;> rfl
theorem aan (v:Int) (c:UInt8) (d:0<=v) (h1:v<16777216) :
    bits .or .u32 (mg .u32 v 8) (IntKind.u32.wrap (c.toNat:Int))=(c.toNat:Int)+256*v:=by
  obtain⟨m,rfl⟩:=Int.eq_ofNat_of_zero_le d;have e:=c.toNat_lt;have a:mg .u32 (m:Int) 8=((m*256:Nat):Int):=by unfold mg;have:min (8:Int).toNat IntKind.u32.bits=8:=(by decide);rw[this,wrap_u32 Xx Xx];omega
  have b:IntKind.u32.wrap (c.toNat:Int)=(c.toNat:Int):=wrap_u32 Xx Xx;rw[a,b];unfold bits;simp only[BitVec.ofInt_natCast];have D:IntKind.u32.bits=32:=rfl;have C:(BitVec.ofNat IntKind.u32.bits (m*256) ||| BitVec.ofNat IntKind.u32.bits c.toNat).toNat=c.toNat+256*m:=by rw[BitVec.toNat_or,BitVec.toNat_ofNat,BitVec.toNat_ofNat,D,Nat.mod_eq_of_lt Xx,Nat.mod_eq_of_lt Xx];have:=Nat.two_pow_add_eq_or_of_lt (i:=8) (show c.toNat<2 ^ 8 by omega) m;rw[show m*256=2 ^ 8*m by omega,<- this];omega
  rw[C,wrap_u32 Xx Xx];omega
theorem afR (v:Int) (a:0<=v) (h1:v<16777216):mg .u32 v 8=256*v:=by
  unfold mg;have:min (8:Int).toNat IntKind.u32.bits=8:=by decide
  rw[this,wrap_u32 Xx Xx];omega
def wP (l:Ly) (i k:Nat):Int:=gT<|[l.getD i 0,l.getD (i+1) 0,l.getD (i+2) 0,l.getD (i+3) 0].drop<|4-k
theorem DR (l:Ly) (i k:Nat) (hk:k<4):wP l i (k+1)=((l.getD (i+(3-k)) 0).toNat:Int)+256*wP l i k:=by
  have:k=0\/k=1\/k=2\/k=3:=by omega
  rcases this with rfl|rfl|rfl|rfl <;> rfl
theorem Oi (l:Ly) (i k:Nat) (hk:k<4):0<=wP l i k/\wP l i k<16777216:=by refine⟨rf _,?_⟩;have:=sV (l:=[l.getD i 0,l.getD (i+1) 0,l.getD (i+2) 0,l.getD (i+3) 0].drop<|4-k) (k:=3) Xh;exact this
theorem yx (l:Ly) (i:Nat):0<=vO l i/\vO l i<4294967296 :=
  ⟨rf _,sV (k:=4) Oj⟩
theorem agj (l:Ly) (i:Nat):qR (vO l i)=vO l i:=wrap_u32 (yx l i).1 (yx l i).2
theorem DC (l:Ly) (i:Nat) (h:l.length<=i):l.getD i 0=0:=by simp[List.getD,List.getElem?_eq_none h]
theorem yA {l b:Ly} {i j:Nat} (h:∀k,k<4->l.getD (i+k) 0=b.getD (j+k) 0):vO l i=vO b j:=by unfold vO;have a:=h 0 Xx;have c:=h 1 Xx;have C:=h 2 Xx;have D:=h 3 Xx;simp only[Nat.add_zero]at a;rw[a,c,C,D]
def rY (m:Nat) (l:Ly):List UInt8:=l ++ List.replicate (m-l.length) 0
theorem ER (m:Nat) (l:Ly) (i:Nat):(rY m l).getD i 0=l.getD i 0:=by
  unfold rY
  by_cases h:i<l.length
  · simp[List.getD,List.getElem?_append_left h]
  rw[DC l i Xx];simp only[List.getD];rw[List.getElem?_append_right Xx,List.getElem?_replicate];split <;> rfl
theorem qM (m:Nat) (l:Ly) (h:l.length<=m):(rY m l).length=m:=by simp[rY];omega
theorem afw (m:Nat) (l:Ly) (i:Nat):vO (rY m l) i=vO l i:=yA fun k _=>ER m l<|i+k
theorem XU (t:T3) (m:Nat) (l:Ly):lD t (rY m l)=lD t l:=by simp only[lD,afw]
theorem O1 (l:Ly) (d i:Nat):vO (l.drop d) i=vO l (d+i):=yA fun k _=>by simp[List.getD,Nat.add_assoc]
theorem yB (l:Ly) (m i:Nat) (h:i+4<=m):vO (l.take m) i=vO l i:=yA fun k hk=>by simp only[List.getD];rw[List.getElem?_take,if_pos Xx]
theorem RF (t:T3) (l:Ly) (m:Nat) (h:12<=m):lD t (l.take m)=lD t l:=by simp only[lD];rw[yB l m 0 Xx,yB l m 4 Xx,yB l m 8 Xx]
theorem FH {m:Nat} {l:Ly} (h:l.length<=m):dZ ((List.replicate m 0).map b8) 0 ((l.map b8).take m)=(rY m l).map b8:=by have e:(l.map b8).take m=l.map b8:=List.take_of_length_le (by simpa using h);rw[e];simp[dZ,rY]
theorem agm (l:Ly) (a:Int) (k:Nat) (e:0<=a) (hk:k<4) (d:a+(3-k)<l.length) :
    bits .or .u32 (mg .u32 (wP l a.toNat k) 8) (IntKind.u32.wrap ((l.getD (a+(3-k)).toNat 0).toNat:Int))=wP l a.toNat (k+1):=by
  obtain⟨b,c⟩:=Oi l a.toNat k hk;rw[aan _ _ b c,DR l _ _ hk,show(a+(3-k)).toNat=a.toNat+(3-k)by omega]
theorem ae6 (l:Ly) (a:Int) (k:Nat) (d:0<=a) (hk:k<4) (h:l.length<=a+(3-k)):mg .u32 (wP l a.toNat k) 8=wP l a.toNat (k+1):=by obtain⟨b,c⟩:=Oi l a.toNat k hk;rw[afR _ b c,DR l _ _ hk,DC l _ Xx];simp
theorem JD (t:T3) (l:Ly) (k:Nat):(⟨qR<|t.x+vO l (k:Int).toNat,qR<|t.y+vO l (k+4:Int).toNat,qR<|t.z+vO l (k+8:Int).toNat⟩:T3)=lD t (l.drop k):=by simp only[lD,agj,O1];rw[show(k:Int).toNat=k+0 by omega,show(k+4:Int).toNat=k+4 by omega,show(k+8:Int).toNat=k+8 by omega]
structure S4 where
  p:Int
  q:Int
  r:Int
  s:Int
def S4.cells (v:S4) (n:Int) (rest:Value):List Value:=[.int .u64 v.p,.int .u64 v.q,.int .u64 v.r,.int .u64 v.s,.int .i64 n,rest]
def S4.arr (v:S4):List Value:=[.int .u64 v.p,.int .u64 v.q,.int .u64 v.r,.int .u64 v.s]
theorem S4.tK (v:S4):v.arr.length=4:=rfl
theorem S4.KI (v:S4):∀u∈v.arr,u.oneCell'=true:=by intro u A;simp[S4.arr]at A;rcases A with rfl|rfl|rfl|rfl<;>rfl
def w64 (x:Int):Int:=IntKind.u64.wrap x
def kL (a b:Int):Int:=bits .xor .u64 a b
def aek (v:S4):S4 :=
  let p:=w64<|v.p+v.q
  let q:=kL (zN v.q 13) p
  let p:=zN p 32
  let r:=w64<|v.r+v.s
  let s:=kL (zN v.s 16) r
  let p:=w64<|p+s
  let s:=kL (zN s 21) p
  let r:=w64<|r+q
  let q:=kL (zN q 17) r
  ⟨p,q,zN r 32,s⟩
def dW:Nat->S4->S4
  | 0,v=>v
  | k+1,v=>aek<|dW k v
def S4.xp (v:S4) (m:Int):S4:=⟨kL v.p m,v.q,v.r,v.s⟩
def S4.xr (v:S4) (m:Int):S4:=⟨v.p,v.q,kL v.r m,v.s⟩
def S4.xs (v:S4) (m:Int):S4:=⟨v.p,v.q,v.r,kL v.s m⟩
def S4.all (v:S4):Int:=kL (kL (kL v.p v.q) v.r) v.s
def oC (v:S4) (m:Int):S4:=(dW 2<|v.xs m).xp m
theorem ain (v:S4) (m n:Int) (rest:Value):(v.cells n rest).set 0 (.int .u64<|kL v.p m)=(v.xp m).cells n rest:=rfl
theorem aio (v:S4) (m n:Int) (rest:Value):(v.cells n rest).set 2 (.int .u64<|kL v.r m)=(v.xr m).cells n rest:=rfl
theorem aip (v:S4) (m n:Int) (rest:Value):(v.cells n rest).set 3 (.int .u64<|kL v.s m)=(v.xs m).cells n rest:=rfl
theorem aaY (v:S4) (m:Int):v.arr.set 0 (.int .u64<|kL v.p m)=(v.xp m).arr:=rfl
theorem ahr (v:S4) (m:Int):v.arr.set 2 (.int .u64<|kL v.r m)=(v.xr m).arr:=rfl
theorem aaZ (v:S4) (m:Int):v.arr.set 3 (.int .u64<|kL v.s m)=(v.xs m).arr:=rfl
def pP (key:Ly):S4 :=
  ⟨kL (gT<|(key.drop 0).take 8) 8317987319222330741,kL (gT<|(key.drop 8).take 8) 7237128888997146477,
   kL (gT<|(key.drop 0).take 8) 7816392313619706465,kL (gT<|(key.drop 8).take 8) 8387220255154660723⟩
def JW:Nat->S4->List UInt8->S4 × List UInt8
  | 0,v,l=>(v,l)
  | k+1,v,l=>if 8<=l.length then JW k (oC v<|gT<|l.take 8) (l.drop 8)else(v,l)
theorem XT:∀(k j:Nat) (v:S4) (l:Ly),l.length<=k->l.length<=j->JW k v l=JW j v l:=by
  intro k
  induction k with
  | zero =>
    intro j v l B C;have A:l=[]:=List.eq_nil_of_length_eq_zero Xx;subst A;cases j <;> simp[JW]
  | succ k ih =>
    intro j v l B C;cases j with
    | zero =>
      have A:l=[]:=List.eq_nil_of_length_eq_zero Xx;subst A;simp[JW]
    | succ j =>
      simp only[JW];split
      · exact ih j _ _ Xh Xh
      · rfl
def jy (v:S4) (l:Ly):S4 × List UInt8:=JW l.length v l
theorem tE (v:S4) (l:Ly) (h:8<=l.length):jy v l=jy (oC v<|gT<|l.take 8) (l.drop 8):=by unfold jy;obtain⟨k,hk⟩:∃k,l.length=k+1:=⟨l.length-1,by omega⟩;rw[hk];simp only[JW,if_pos h];exact XT _ _ _ _ Xh Oj
theorem pO (v:S4) (l:Ly) (h:l.length<8):jy v l=(v,l):=by
  unfold jy;cases hk:l.length with
  | zero=>rfl
  | succ k=>simp only[JW];rw[if_neg Xx]
theorem Uw:∀(k:Nat) (v:S4) (l:Ly),l.length<=k->(jy v l).2.length<8:=by
  intro k
  induction k with
  | zero =>
    intro v l h;rw[pO v l Xx];simp;omega
  | succ k ih =>
    intro v l h
    by_cases h8:8<=l.length
    · rw[tE v l h8];exact ih _ _ Xh
    · rw[pO v l Xx];simp;omega
def j5 (r:Ly) (n:Int):List UInt8:=(rY 8 r).set 7<|UInt8.ofNat n.toNat
def FD (v:S4) (r:Ly) (n:Int):Int :=
  (dW 4<|(oC v<|gT<|((j5 r n).drop 0).take 8).xr 255).all
def sip (key l:Ly):Int:=FD (jy (pP key) l).1 (jy (pP key) l).2 l.length
theorem aeT (n:Int) (h:0<=n):Value.int .u8 (IntKind.u8.wrap n)=b8 (UInt8.ofNat n.toNat):=by unfold b8;rw[Rb];congr 1;simp;omega
theorem alp (a b:Nat) (h:a<8):(if(b:Int)<8-(a:Int)then(b:Int)else 8-(a:Int))=((min (8-a) b:Nat):Int):=by split<;>omega
theorem GB (r:Ly) (n:Int) (a:0<=n):((rY 8 r).map b8).set 7 (.int .u8<|IntKind.u8.wrap n)=(j5 r n).map b8:=by rw[aeT n a,j5,List.map_set]
theorem tF (r:Ly) (n:Int) (h:r.length<=8):(j5 r n).length=8:=by rw[j5,List.length_set,qM 8 r h]
theorem aaN (v:S4) (a l:Ly) (d:a.length<8) (e:a.length+min (8-a.length) l.length=8) :
    jy v (a ++ l)=jy (oC v<|gT<|((a ++ l.take (min (8-a.length) l.length)).drop 0).take 8) ([] ++ l.drop (min (8-a.length) l.length)):=by
  generalize hk:min (8-a.length) l.length=k at *;have b:a ++ l=(a ++ l.take k) ++ l.drop k:=by simp
  have c:(a ++ l.take k).length=8:=by simp;omega
  rw[tE v (a ++ l) Xh,b,List.take_append_of_le_length Xx,List.drop_append_of_le_length Xx,List.take_of_length_le Xx,List.drop_of_length_le Xx];simp only[List.drop_zero];rw[List.take_of_length_le (show(a ++ l.take k).length<=8 by omega)]
theorem aaO (v:S4) (a l:Ly) (k:Nat):jy v (a ++ l)=jy v ((a ++ l.take k) ++ l.drop k):=by simp
def ve (l:Ly) (i:Nat):Int:=vO l i+4294967296*vO l (i+4)
theorem ahK (l:Ly) (i:Nat):0<=ve l i/\ve l i<18446744073709551616:=by obtain⟨A,B⟩:=yx l i;obtain⟨C,D⟩:=yx l<|i+4;unfold ve;omega
theorem WV (a b k:Nat) (hk:k<64) (f:a<2 ^ k) (hb:b*2 ^ k<2 ^ 64) :
    bits .or .u64 (a:Int) ((b*2 ^ k:Nat):Int)=((a+b*2 ^ k:Nat):Int):=by
  have D:2 ^ k<=2 ^ 64:=Nat.pow_le_pow_right Xx Xx;unfold bits;simp only[BitVec.ofInt_natCast];have g:IntKind.u64.bits=64:=rfl;rw[BitVec.toNat_or,BitVec.toNat_ofNat,BitVec.toNat_ofNat,g,Nat.mod_eq_of_lt Xx,Nat.mod_eq_of_lt hb];have:=Nat.two_pow_add_eq_or_of_lt (i:=k) f b;rw[Nat.or_comm,show b*2 ^ k=2 ^ k*b from Nat.mul_comm _ _,<- this];have e:a+2 ^ k*b<2 ^ 64:=by
    obtain⟨c,d⟩:∃c,2 ^ 64=2 ^ k*c:=⟨2 ^ (64-k),by rw[<- Nat.pow_add];congr 1;omega⟩;have C:b<c:=by rw[d,Nat.mul_comm]at hb;exact Nat.lt_of_mul_lt_mul_left hb
    calc a+2 ^ k*b<2 ^ k+2 ^ k*b:=by omega
      _=2 ^ k*(b+1):=by rw[Nat.mul_add];omega
      _<=2 ^ k*c:=Nat.mul_le_mul_left _ C
      _=2 ^ 64:=d.symm
  rw[Nat.add_comm (2 ^ k*b) a];exact wrap_u64 Xx (by have:=Int.ofNat_lt.2 e;simpa using this)
theorem QJ (a:Nat) (k:Nat) (hk:k<=64) (h:a*2 ^ k<2 ^ 64):mg .u64 (a:Int) (k:Int)=((a*2 ^ k:Nat):Int):=by
  unfold mg;have:min (k:Int).toNat IntKind.u64.bits=k:=by have:IntKind.u64.bits=64:=rfl;rw[this];omega
  rw[this];have e:(a:Int)*2 ^ k=((a*2 ^ k:Nat):Int):=by rw[Int.natCast_mul,Int.natCast_pow];rfl
  rw[e];exact wrap_u64 Xx (by have:=Int.ofNat_lt.2 h;simpa using this)
theorem abu (l:Ly) (a:Int) (g:0<=a) :
    bits .or .u64 (IntKind.u64.wrap<|vO l a.toNat) (mg .u64 (IntKind.u64.wrap<|vO l (a+4).toNat) 32)=ve l a.toNat:=by
  obtain⟨b,e⟩:=yx l a.toNat;obtain⟨c,f⟩:=yx l (a+4).toNat;rw[wrap_u64 b Xx,wrap_u64 c Xx];obtain⟨x,C⟩:=Int.eq_ofNat_of_zero_le b;obtain⟨y,D⟩:=Int.eq_ofNat_of_zero_le c;unfold ve;rw[show a.toNat+4=(a+4).toNat by omega,C,D];rw[C]at e;rw[D]at f;have d:=QJ y 32 Xx Xx;rw[show((32:Nat):Int)=32 from rfl]at d;rw[d,WV x y 32 Xx Xx Xx];omega
theorem wQ (l:Ly) (i:Nat):ve l i=gT [l.getD i 0,l.getD (i+1) 0,l.getD (i+2) 0,l.getD (i+3) 0,l.getD (i+4) 0,l.getD (i+5) 0,l.getD (i+6) 0,l.getD (i+7) 0]:=by simp only[ve,vO,gT,Nat.add_assoc,Nat.reduceAdd];omega
theorem UI (l:Ly) (i:Nat) (h:i+8<=l.length):(l.drop i).take 8=[l.getD i 0,l.getD (i+1) 0,l.getD (i+2) 0,l.getD (i+3) 0,l.getD (i+4) 0,l.getD (i+5) 0,l.getD (i+6) 0,l.getD (i+7) 0]:=by
  apply List.ext_getElem
  · simp;omega
  intro j B A;simp at A;have:j=0\/j=1\/j=2\/j=3\/j=4\/j=5\/j=6\/j=7:=by omega
  rcases this with rfl|rfl|rfl|rfl|rfl|rfl|rfl|rfl <;> simp[List.getD] <;> rw[List.getElem?_eq_getElem Xx] <;> rfl
theorem wR (l:Ly) (i:Nat) (h:i+8<=l.length):gT ((l.drop i).take 8)=ve l (i:Int).toNat:=by rw[UI l i h,show(i:Int).toNat=i from rfl,wQ]
theorem QK (key:Ly) (h:key.length=16):(pP key).arr =
    [.int .u64 (bits .xor .u64 (ve key (0:Int).toNat) 8317987319222330741),.int .u64 (bits .xor .u64 (ve key (8:Int).toNat) 7237128888997146477),
     .int .u64 (bits .xor .u64 (ve key (0:Int).toNat) 7816392313619706465),.int .u64 (bits .xor .u64 (ve key (8:Int).toNat) 8387220255154660723)]:=by
  have A:=wR key 0 Xx;have B:=wR key 8 Xx;rw[show((0:Nat):Int)=0 from rfl]at A;rw[show((8:Nat):Int)=8 from rfl]at B;simp only[pP,S4.arr,A,B,kL]
theorem QL (r:Ly) (n:Nat) (h:r.length<8):gT (((j5 r n).drop 0).take 8)=bits .or .u64 (ve r 0) (mg .u64 (IntKind.u64.wrap<|(n:Int).tmod 256) 56):=by
  have R:=tF r n Xx;have G:=wR (j5 r n) 0 Xx;rw[G,show((0:Nat):Int).toNat=0 from rfl];have B:∀i,i<7->(j5 r n).getD i 0=r.getD i 0:=by intro i Q;rw[<- ER 8 r i];simp only[j5,List.getD];rw[List.getElem?_set_ne Xx]
  have H:(j5 r n).getD 7 0=UInt8.ofNat n:=by simp only[j5,List.getD];rw[List.getElem?_set_self (by rw[qM 8 r Xx];omega)];simp
  have C:r.getD 7 0=0:=DC r 7 Xx;have F:ve (j5 r n) 0=ve r 0+72057594037927936*((n%256:Nat):Int):=by rw[wQ,wQ];simp only[gT,Nat.zero_add];rw[B 0 Xx,B 1 Xx,B 2 Xx,B 3 Xx,B 4 Xx,B 5 Xx,B 6 Xx,H,C];have:((UInt8.ofNat n).toNat:Int)=((n%256:Nat):Int):=(by simp);have D:((0:UInt8).toNat:Int)=0:=rfl;rw[this,D];omega
  have A:0<=ve r 0/\ve r 0<72057594037927936:=by refine⟨(ahK r 0).1,?_⟩;rw[wQ];simp only[gT,Nat.zero_add,C];have J:=(r.getD 0 0).toNat_lt;have K:=(r.getD 1 0).toNat_lt;have L:=(r.getD 2 0).toNat_lt;have M:=(r.getD 3 0).toNat_lt;have N:=(r.getD 4 0).toNat_lt;have O:=(r.getD 5 0).toNat_lt;have P:=(r.getD 6 0).toNat_lt;have D:((0:UInt8).toNat:Int)=0:=rfl;simp only[D];omega
  obtain⟨x,E⟩:=Int.eq_ofNat_of_zero_le A.1;have I:(n:Int).tmod 256=((n%256:Nat):Int):=by rw[Int.tmod_eq_emod_of_nonneg Xx];omega
  rw[F,I,E,wrap_u64 Xx Xx];rw[E]at A;have e:=QJ (n%256) 56 Xx Xx;rw[show((56:Nat):Int)=56 from rfl]at e;rw[e,WV x (n%256) 56 Xx Xx Xx];omega
theorem ack (l:Ly) (d i:Nat):ve (l.drop d) i=ve l (d+i):=by simp only[ve,O1,Nat.add_assoc]
theorem aed (l:Ly) (v:S4) (k:Nat) (hk:k<=l.length) (b:l.length<k+8) :
    bits .xor .u64 (bits .xor .u64 (bits .xor .u64 (dW 4<|((dW 2<|v.xs<|bits .or .u64 (ve l (k:Int).toNat)<|mg .u64 (IntKind.u64.wrap<|(l.length:Int).tmod 256) 56).xp<|bits .or .u64 (ve l (k:Int).toNat)<|mg .u64 (IntKind.u64.wrap<|(l.length:Int).tmod 256) 56).xr 255).p
        (dW 4<|((dW 2<|v.xs<|bits .or .u64 (ve l (k:Int).toNat)<|mg .u64 (IntKind.u64.wrap<|(l.length:Int).tmod 256) 56).xp<|bits .or .u64 (ve l (k:Int).toNat)<|mg .u64 (IntKind.u64.wrap<|(l.length:Int).tmod 256) 56).xr 255).q)
        (dW 4<|((dW 2<|v.xs<|bits .or .u64 (ve l (k:Int).toNat)<|mg .u64 (IntKind.u64.wrap<|(l.length:Int).tmod 256) 56).xp<|bits .or .u64 (ve l (k:Int).toNat)<|mg .u64 (IntKind.u64.wrap<|(l.length:Int).tmod 256) 56).xr 255).r)
        (dW 4<|((dW 2<|v.xs<|bits .or .u64 (ve l (k:Int).toNat)<|mg .u64 (IntKind.u64.wrap<|(l.length:Int).tmod 256) 56).xp<|bits .or .u64 (ve l (k:Int).toNat)<|mg .u64 (IntKind.u64.wrap<|(l.length:Int).tmod 256) 56).xr 255).s=FD v (l.drop k) l.length:=by
  have a:ve l (k:Int).toNat=ve (l.drop k) 0:=by rw[ack];rfl
  rw[a,<- QL (l.drop k) l.length Xh];unfold FD oC;generalize gT (((j5 (l.drop k) (l.length:Int)).drop 0).take 8)=m;generalize dW 4 (((dW 2<|v.xs m).xp m).xr 255)=u;rfl
def aiF (cs:List Value):Prop:=∀u∈cs,u.oneCell'=true
structure Dt (α:Type) where
  n:Nat
  pos:0<n
  nN:World->(Nat->Prop)->List Value->α->Prop
  len:∀{w Q cs x},nN w Q cs x->cs.length=n
  one:∀{w Q cs x},nN w Q cs x->aiF cs
  md:∀{S w w' Q cs x},nN w Q cs x->Md S w w'->(∀b∈S,¬Q b)->nN w' Q cs x
  sub:∀{w Q Q' cs x},nN w Q cs x->(∀b,Q b->b<w.heap.size->Q' b)->nN w Q' cs x
def qg {α:Type} (f:α->Value) (h1:∀x,(f x).oneCell'=true) (ok:α->Prop):Dt α where
  n:=1
  pos:=Nat.zero_lt_one
  nN _ _ cs x:=cs=[f x]/\ok x
  len:=by rintro _ _ _ _ ⟨rfl,_⟩;rfl
  one:=by rintro _ _ _ _ ⟨rfl,_⟩ u hu;simp at hu;subst hu;exact h1 _
  md:=fun h _ _=>h
  sub:=fun h _=>h
def dQ:Dt Nat:=qg (fun x=>.int .u64 (x:Int)) (fun _=>rfl)<|fun x=>x<18446744073709551616
def tU32:Dt Nat:=qg (fun x=>.int .u32 (x:Int)) (fun _=>rfl)<|fun x=>x<4294967296
def qf:Dt Nat:=qg (fun x=>.int .i64 (x:Int)) (fun _=>rfl)<|fun x=>x<9223372036854775808
def pC:Dt Int:=qg (fun x=>.int .i64 x) (fun _=>rfl)<|fun x=>-9223372036854775808<=x/\x<9223372036854775808
def dh:Dt UInt8:=qg b8 (fun _=>rfl)<|fun _=>True
def ak0:Dt Bool:=qg (fun x=>.bool x) (fun _=>rfl)<|fun _=>True
def AI:Dt (List UInt8):=qg str (fun _=>rfl)<|fun _=>True
def iD (l:Ly):List Value:=[b8 (l.getD 0 0),b8 (l.getD 1 0),b8 (l.getD 2 0),b8 (l.getD 3 0),b8 (l.getD 4 0),b8 (l.getD 5 0),b8 (l.getD 6 0),b8 (l.getD 7 0),b8 (l.getD 8 0),b8 (l.getD 9 0),b8 (l.getD 10 0),b8 (l.getD 11 0),b8 (l.getD 12 0),b8 (l.getD 13 0),b8 (l.getD 14 0),b8 (l.getD 15 0)]
theorem jM {l:Ly} (h:l.length=16):iD l=l.map b8:=by
  apply List.ext_getElem
  · simp[iD,h]
  intro i C E;simp[iD]at C;simp only[List.getElem_map];have A:i<l.length:=by omega
  rcases Nat.lt_or_ge i 8 with D|D
  · rcases Nat.lt_or_ge i 4 with B|B
    · rcases(show i=0\/i=1\/i=2\/i=3 by omega)with rfl|rfl|rfl|rfl <;> simp[iD,List.getD,A]
    rcases(show i=4\/i=5\/i=6\/i=7 by omega)with rfl|rfl|rfl|rfl <;> simp[iD,List.getD,A]
  rcases Nat.lt_or_ge i 12 with B|B
  · rcases(show i=8\/i=9\/i=10\/i=11 by omega)with rfl|rfl|rfl|rfl <;> simp[iD,List.getD,A]
  rcases(show i=12\/i=13\/i=14\/i=15 by omega)with rfl|rfl|rfl|rfl <;> simp[iD,List.getD,A]
def tId:Dt (List UInt8) where
  n:=16
  pos:=by decide
  nN _ _ cs x:=cs=iD x/\x.length=16
  len:=by rintro _ _ _ _ ⟨rfl,_⟩;rfl
  one:=by rintro _ _ _ _ ⟨rfl,h⟩;rw[jM h];exact LG _
  md:=fun h _ _=>h
  sub:=fun h _=>h
def fC {α β:Type} (A:Dt α) (B:Dt β):Dt (α × β) where
  n:=A.n+B.n
  pos:=ly A.pos<|Nat.le_add_right _ _
  nN w Q cs p:=∃c1 c2,cs=c1 ++ c2/\A.nN w Q c1 p.1/\B.nN w Q c2 p.2
  len:=by rintro _ _ _ _ ⟨c1,c2,rfl,h1,h2⟩;simp[A.len h1,B.len h2]
  one:=by
    rintro _ _ _ _ ⟨c1,c2,rfl,h1,h2⟩ u hu
    rcases List.mem_append.1 hu with h|h
    · exact A.one h1 u h
    · exact B.one h2 u h
  md:=fun⟨c1,c2,h,h1,h2⟩ m hs=>⟨c1,c2,h,A.md h1 m hs,B.md h2 m hs⟩
  sub:=fun⟨c1,c2,h,h1,h2⟩ s=>⟨c1,c2,h,A.sub h1 s,B.sub h2 s⟩
def sw {α β:Type} (f:β->α) (A:Dt α):Dt β where
  n:=A.n
  pos:=A.pos
  nN w Q cs x:=A.nN w Q cs<|f x
  len:=A.len
  one:=A.one
  md:=A.md
  sub:=A.sub
section
variable {α:Type} {T:Dt α} {w w':World} {Q Q':Nat->Prop}
def qi (T:Dt α) (w:World) (Q:Nat->Prop):List Value->List α->Prop
  | cs,[]=>cs=[]
  | cs,x :: xs=>∃c r,cs=c ++ r/\T.nN w Q c x/\qi T w Q r xs
theorem qi.len {cs:List Value} {xs:List α} (h:qi T w Q cs xs):cs.length=xs.length*T.n:=by
  induction xs generalizing cs with
  | nil=>simp only[qi]at h;subst h;simp
  | cons x xs ih =>
    obtain⟨c,r,rfl,A,B⟩:=h;simp[T.len A,ih B,Nat.succ_mul,Nat.add_comm]
theorem qi.one {cs:List Value} {xs:List α} (h:qi T w Q cs xs):aiF cs:=by
  induction xs generalizing cs with
  | nil=>simp only[qi]at h;subst h;intro u A;simp at A
  | cons x xs ih =>
    obtain⟨c,r,rfl,B,C⟩:=h;intro u A
    rcases List.mem_append.1 A with h|h
    · exact T.one B u h
    · exact ih C u h
theorem qi.md {S:List Nat} {cs:List Value} {xs:List α} (h:qi T w Q cs xs) (m:Md S w w') (hs:∀b∈S,¬Q b):qi T w' Q cs xs:=by
  induction xs generalizing cs with
  | nil=>exact h
  | cons x xs ih=>obtain⟨c,r,e,A,B⟩:=h;exact⟨c,r,e,T.md A m hs,ih B⟩
theorem qi.sub {cs:List Value} {xs:List α} (h:qi T w Q cs xs) (s:∀b,Q b->b<w.heap.size->Q' b):qi T w Q' cs xs:=by
  induction xs generalizing cs with
  | nil=>exact h
  | cons x xs ih=>obtain⟨c,r,e,A,B⟩:=h;exact⟨c,r,e,T.sub A s,ih B⟩
theorem qi.append {cs ds:List Value} {xs ys:List α} (h:qi T w Q cs xs) (k:qi T w Q ds ys):qi T w Q (cs ++ ds) (xs ++ ys):=by
  induction xs generalizing cs with
  | nil=>simp only[qi]at h;subst h;exact k
  | cons x xs ih=>obtain⟨c,r,rfl,A,B⟩:=h;exact⟨c,r ++ ds,by simp,A,ih B⟩
theorem qi.get {cs:List Value} {xs:List α} {i:Nat} {x:α} (h:qi T w Q cs xs) (hi:xs[i]? = some x):∃c,T.nN w Q c x/\∀j u,c[j]? = some u->cs[i*T.n+j]? = some u:=by
  induction xs generalizing cs i with
  | nil=>simp at hi
  | cons y xs ih =>
    obtain⟨c,r,rfl,B,C⟩:=h;cases i with
    | zero =>
      simp at hi;subst hi;refine⟨c,B,fun j u A=>?_⟩;have:=(List.getElem?_eq_some_iff.1 A).1;rw[Nat.zero_mul,Nat.zero_add,List.getElem?_append_left this];exact A
    | succ i =>
      obtain⟨d,E,D⟩:=ih C (by simpa using hi);refine⟨d,E,fun j u A=>?_⟩;have F:=T.len B;rw[Nat.succ_mul,List.getElem?_append_right Xx];rw[show i*T.n+T.n+j-c.length=i*T.n+j by omega];exact D j u A
theorem qi.split {cs:List Value} {xs ys:List α} (h:qi T w Q cs (xs ++ ys)):qi T w Q (cs.take<|xs.length*T.n) xs/\qi T w Q (cs.drop<|xs.length*T.n) ys:=by
  induction xs generalizing cs with
  | nil=>simp[qi];exact h
  | cons x xs ih =>
    obtain⟨c,r,rfl,A,B⟩:=h;obtain⟨C,D⟩:=ih B;have E:=T.len A;have e:(x :: xs).length*T.n=c.length+xs.length*T.n:=(by simp[Nat.succ_mul,E,Nat.add_comm]);rw[e];refine⟨⟨c,r.take<|xs.length*T.n,?_,A,C⟩,?_⟩
    · rw[List.take_append,List.take_of_length_le (Nat.le_add_right _ _),Nat.add_sub_cancel_left]
    · rw[List.drop_append,List.drop_of_length_le (Nat.le_add_right _ _),Nat.add_sub_cancel_left];exact D
theorem qi.set {cs:List Value} {xs:List α} {i:Nat} {c:List Value} {x:α} (h:qi T w Q cs xs) (l:T.nN w Q c x) (hi:i<xs.length) :
    qi T w Q (cs.take (i*T.n) ++ c ++ cs.drop (i*T.n+T.n)) (xs.set i x):=by
  have k:xs=xs.take i ++ xs.drop i:=(List.take_append_drop i xs).symm;have g:(xs.take i).length=i:=by simp;omega
  rw[k]at h;obtain⟨b,C⟩:=h.split;rw[g]at b C;obtain⟨y,a,e⟩:∃y a,xs.drop i=y :: a:=by
    cases D:xs.drop i with
    | nil=>have:=congrArg List.length D;simp at this;omega
    | cons y a=>exact⟨y,a,q⟩
  rw[e]at C;obtain⟨d,r,D,H,f⟩:=C;have j:cs.drop (i*T.n+T.n)=r:=by rw[<- List.drop_drop,D];simp[T.len H]
  have G:xs.set i x=xs.take i ++ (x :: a):=by rw[List.set_eq_take_append_cons_drop,if_pos hi];congr 2;have:xs.drop (i+1)=(xs.drop i).drop 1:=(by simp[Nat.add_comm]);rw[this,e];rfl
  rw[G,j,List.append_assoc];exact b.append ⟨c,r,q,l,f⟩
def Ls (T:Dt α) (w:World) (Q:Nat->Prop) (v:Value) (xs:List α):Prop :=
  ∃a cap cs,v = .slice a xs.length cap/\xs.length<=cap/\cap<=maxLen/\(a=none->cap=0)/\(∀p,a=some p->xs≠[]->Q p.block)/\(∀p,a=some p->∀j u,cs[j]? = some u->w.cell? (p.add j)=some u)/\qi T w Q cs xs
theorem Ls.nil (T:Dt α) (w:World) (Q:Nat->Prop):Ls T w Q (.slice none 0 0) []:=⟨none,0,[],q,Nat.le_refl _,by simp[maxLen],fun _=>rfl,by simp,by simp,q⟩
theorem Ls.md {S:List Nat} {v:Value} {xs:List α} (h:Ls T w Q v xs) (m:Md S w w') (hs:∀b∈S,¬Q b):Ls T w' Q v xs:=by obtain⟨a,A,F,G,H,I,J,C,K,B⟩:=h;refine⟨a,A,F,G,H,I,J,C,fun p E j u D=>m.cell (K p E j u D) ?_,B.md m hs⟩;rw[Addr.add_block];intro L;refine hs _ L<|C p E ?_;rintro rfl;simp only[qi]at B;subst B;simp at D
theorem Ls.o {v:Value} {xs:List α} (h:Ls T w Q v xs) (m:Md [] w w'):Ls T w' Q v xs:=h.md m Oj
instance amn {v:Value} {xs:List α}:Tp w w' (Ls T w Q v xs) (Ls T w' Q v xs):=⟨fun m h=>h.o m⟩
theorem Ls.sub {v:Value} {xs:List α} (h:Ls T w Q v xs) (s:∀b,Q b->b<w.heap.size->Q' b):Ls T w Q' v xs:=by
  obtain⟨a,A,F,G,H,I,J,K,B,C⟩:=h;refine⟨a,A,F,G,H,I,J,fun p D E=>s _ (K p D E) ?_,B,C.sub s⟩;cases xs with
  | nil=>exact absurd q E
  | cons x xs =>
    obtain⟨c,r,rfl,L,M⟩:=C;cases c with
    | nil=>have:=T.len L;have:=T.pos;simp at *;omega
    | cons u c=>have:=World.block_lt_of_cell? w _<|B p D 0 u q;rwa [Addr.add_block]at this
theorem Ls.eA {v:Value} {xs:List α} (h:Ls T w Q v xs):R3 v xs.length:=by obtain⟨a,A,F,B,C,D,E,_⟩:=h;exact⟨a,A,B,C,D,E⟩
theorem Ls.DV {v:Value} {xs:List α} (h:Ls T w Q v xs):xs.length<=maxLen:=by obtain⟨a,A,B,C,D,E,_⟩:=h;omega
theorem Ls.eJ {v:Value} {xs:List α} (h:Ls T w Q v xs):xs.length<=9223372036854775807:=by have:=h.DV;simp only[maxLen]at this;omega
theorem Ls.cZ {v:Value} {xs:List α} (h:Ls T w Q v xs):v.oneCell'=true:=by obtain⟨a,A,B,rfl,_⟩:=h;rfl
theorem Ls.by {v:Value} {xs:Ly} (h:Ls dh w Q v xs):By w v xs:=by
  obtain⟨a,A,B,C,D,G,H,I,E,F⟩:=h;have e:B=xs.map b8:=by
    clear C D I E
    induction xs generalizing B with
    | nil=>exact F
    | cons x xs ih=>obtain⟨c,r,rfl,⟨rfl,_⟩,J⟩:=F;rw[ih _ J];rfl
  subst e;exact⟨a,A,by simpa using C,by simpa using D,G,H,E⟩
theorem uc {β:Type} {f:β->Value} {h1:∀x,(f x).oneCell'=true} {ok:β->Prop} {xs:List β} (h:∀x∈xs,ok x):qi (qg f h1 ok) w Q (xs.map f) xs:=by
  induction xs with
  | nil=>rfl
  | cons x xs ih=>exact⟨[f x],xs.map f,q,⟨q,h x Oj⟩,ih fun y A=>h y (by simp[A])⟩
theorem qV {β:Type} {f:β->Value} {h1:∀x,(f x).oneCell'=true} {ok:β->Prop} {cs:List Value} {xs:List β} (h:qi (qg f h1 ok) w Q cs xs):cs=xs.map f/\∀x∈xs,ok x:=by
  induction xs generalizing cs with
  | nil=>exact⟨h,by simp⟩
  | cons x xs ih =>
    obtain⟨c,r,rfl,⟨rfl,C⟩,A⟩:=h;obtain⟨rfl,B⟩:=ih A;exact⟨q,by simpa using ⟨C,B⟩⟩
theorem Ls.agU {a:Type} {f:a->Value} {h1:∀x,(f x).oneCell'=true} {ok:a->Prop} {v:Value} {xs:List a} (h:Sl w v (xs.map f)) (k:∀x∈xs,ok x) (j:∀b,ah v=some b->xs≠[]->Q b):Ls (qg f h1 ok) w Q v xs:=by obtain⟨i,c,rfl,d,C,D,e⟩:=h;exact⟨i,c,xs.map f,by simp,by simpa using d,C,D,fun p g G=>j _ (by subst g;rfl) G,e,uc k⟩
theorem Ls.sl {β:Type} {f:β->Value} {h1:∀x,(f x).oneCell'=true} {ok:β->Prop} {v:Value} {xs:List β} (h:Ls (qg f h1 ok) w Q v xs):Sl w v (xs.map f)/\∀x∈xs,ok x:=by obtain⟨a,A,H,rfl,B,C,D,I,E,F⟩:=h;obtain⟨rfl,G⟩:=qV F;exact⟨⟨a,A,by simp,by simpa using B,C,D,E⟩,G⟩
theorem Ls.of_by {v:Value} {xs:Ly} (h:By w v xs) (a:∀b,ah v=some b->xs≠[]->Q b):Ls dh w Q v xs:=Ls.agU h (fun _ _=>trivial) a
def FI (T:Dt α):Dt (List α) where
  n:=1
  pos:=Nat.zero_lt_one
  nN w Q cs xs:=∃v,cs=[v]/\Ls T w Q v xs
  len:=by rintro _ _ _ _ ⟨v,rfl,_⟩;rfl
  one:=by rintro _ _ _ _ ⟨v,rfl,h⟩ u hu;simp at hu;subst hu;exact h.cZ
  md:=fun⟨v,e,h⟩ m hs=>⟨v,e,h.md m hs⟩
  sub:=fun⟨v,e,h⟩ s=>⟨v,e,h.sub s⟩
def Pt (T:Dt α) (ty:TypeId) (w:World) (Q:Nat->Prop) (v:Value) (x:α):Prop:=∃b c,v = .pointer (some ⟨b,0,none⟩)/\Q b/\bK w b c ty/\T.nN w Q c x
theorem Pt.md {ty:TypeId} {S:List Nat} {v:Value} {x:α} (h:Pt T ty w Q v x) (m:Md S w w') (hs:∀b∈S,¬Q b):Pt T ty w' Q v x:=by obtain⟨b,c,B,A,C,D⟩:=h;exact⟨b,c,B,A,C.md m fun E=>hs b E A,T.md D m hs⟩
theorem Pt.o {ty:TypeId} {v:Value} {x:α} (h:Pt T ty w Q v x) (m:Md [] w w'):Pt T ty w' Q v x:=h.md m Oj
instance amr {ty:TypeId} {v:Value} {x:α}:Tp w w' (Pt T ty w Q v x) (Pt T ty w' Q v x):=⟨fun m h=>h.o m⟩
theorem Pt.sub {ty:TypeId} {v:Value} {x:α} (h:Pt T ty w Q v x) (s:∀b,Q b->b<w.heap.size->Q' b):Pt T ty w Q' v x:=by obtain⟨b,c,B,C,A,D⟩:=h;exact⟨b,c,B,s b C A.lt,A,T.sub D s⟩
def rK (sz:Nat):Value->Nat->Nat->Value
  | .slice a _ cap,lo,hi=>.slice (if cap=lo then a else a.map (·.add (lo*sz))) (hi-lo) (cap-lo)
  | _,_,_=>undef
theorem Ls.part {v:Value} {xs:List α} (h:Ls T w Q v xs) (lo hi:Nat) (h1:lo<=hi) (t:hi<=xs.length):Ls T w Q (rK T.n v lo hi) ((xs.take hi).drop lo):=by
  obtain⟨b,c,R,rfl,r,s,k,l,m,f⟩:=h;have e:((xs.take hi).drop lo).length=hi-lo:=by simp;omega
  have j:xs=(xs.take hi).take lo ++ (((xs.take hi).drop lo) ++ xs.drop hi):=by rw[<- List.append_assoc,List.take_append_drop,List.take_append_drop]
  rw[j]at f;have g:=f.split.2;have G:((xs.take hi).take lo).length=lo:=by simp;omega
  rw[G]at g;have D:=g.split.1;rw[e]at D;refine⟨if c=lo then b else b.map (·.add (lo*T.n)),c-lo,_,?_,?_,by omega,?_,?_,?_,D⟩
  · simp only[rK,e]
  · rw[e];omega
  · intro h
    split at h
    · omega
    cases b with
    | none=>have:=k rfl;omega
    | some p=>simp at h
  · intro p a i
    have C:c≠lo:=(by intro P;apply i;apply List.eq_nil_of_length_eq_zero;omega);rw[if_neg C]at a;cases b with
    | none=>simp at a
    | some q =>
      simp at a;subst a;rw[Addr.add_block];exact l q rfl (by rintro rfl;simp at i)
  intro p a u o H;have d:=(List.getElem?_eq_some_iff.1 H).1;simp only[List.length_take,List.length_drop]at d;have C:c≠lo:=by intro P;have:hi-lo=0:=(by omega);rw[this]at d;simp at d
  rw[if_neg C]at a;cases b with
  | none=>simp at a
  | some q =>
    simp at a;subst a;rw[Addr.add_add];refine m q rfl _ o ?_;rw[List.getElem?_take,if_pos Xx,List.getElem?_drop]at H;exact H
def At (w:World) (v:Value) (k:Nat) (c:List Value):Prop:=∃p l cp,v = .slice (some p) l cp/\∀j u,c[j]? = some u->w.cell? (p.add<|k+j)=some u
theorem Ls.get {v:Value} {xs:List α} {i:Nat} {x:α} (h:Ls T w Q v xs) (hi:xs[i]? = some x):∃c,T.nN w Q c x/\At w v (i*T.n) c:=by
  obtain⟨a,A,H,rfl,I,J,B,K,C,D⟩:=h;obtain⟨c,E,F⟩:=D.get hi;cases a with
  | none =>
    have:=B q;have:=(List.getElem?_eq_some_iff.1 hi).1;omega
  | some p=>exact⟨c,E,p,_,A,q,fun j u G=>C p q _ u<|F j u G⟩
theorem At.o {v:Value} {k:Nat} {c:List Value} (h:At w v k c) (m:Md [] w w'):At w' v k c:=by obtain⟨p,l,B,C,D⟩:=h;exact⟨p,l,B,C,fun j u E=>m.cell (D j u E) Oj⟩
instance aml {v:Value} {k:Nat} {c:List Value}:Tp w w' (At w v k c) (At w' v k c):=⟨fun m h=>h.o m⟩
def Ow (T:Dt α) (e:TypeId) (lo:Nat->Prop) (w:World) (Q:Nat->Prop) (v:Value) (xs:List α):Prop :=
  (∃cs,Own w e T.n v xs.length cs/\qi T w Q cs xs)/\∀b,ah v=some b->lo b/\¬Q b
theorem Ow.nil (T:Dt α) (e:TypeId) (lo:Nat->Prop) (w:World) (Q:Nat->Prop):Ow T e lo w Q (.slice none 0 0) []:=⟨⟨[],Own.nil w e _,q⟩,by simp[ah]⟩
theorem Ow.md {e:TypeId} {lo:Nat->Prop} {S:List Nat} {v:Value} {xs:List α} (h:Ow T e lo w Q v xs) (m:Md S w w') (d:∀b,ah v=some b->b∉S) (hs:∀b∈S,¬Q b):Ow T e lo w' Q v xs:=by obtain⟨⟨a,c,C⟩,D⟩:=h;exact⟨⟨a,c.md m d,C.md m hs⟩,D⟩
theorem Ow.o {e:TypeId} {lo:Nat->Prop} {v:Value} {xs:List α} (h:Ow T e lo w Q v xs) (m:Md [] w w'):Ow T e lo w' Q v xs:=h.md m Oj Oj
instance amq {e:TypeId} {lo:Nat->Prop} {v:Value} {xs:List α}:Tp w w' (Ow T e lo w Q v xs) (Ow T e lo w' Q v xs):=⟨fun m h=>h.o m⟩
theorem Ow.lt {e:TypeId} {lo:Nat->Prop} {v:Value} {xs:List α} (h:Ow T e lo w Q v xs):∀b,ah v=some b->b<w.heap.size:=by obtain⟨⟨B,A,C⟩,D⟩:=h;exact A.lt
theorem Ow.sub {e:TypeId} {lo:Nat->Prop} {v:Value} {xs:List α} (h:Ow T e lo w Q v xs) (s:∀b,Q b->b<w.heap.size->Q' b) (t:∀b,Q' b->Q b):Ow T e lo w Q' v xs:=by obtain⟨⟨C,D,E⟩,A⟩:=h;exact⟨⟨C,D,E.sub s⟩,fun b B=>⟨(A b B).1,fun F=>(A b B).2<|t b F⟩⟩
theorem yU {e:TypeId} {sz m:Nat} {v:Value} {cs:List Value} (h:Own w e sz v m cs):∃a cap,v = .slice a m cap/\m<=cap/\cap<=maxLen/\(a=none->cap=0)/\∀p,a=some p->∀j u,cs[j]? = some u->w.cell? (p.add j)=some u:=by
  rcases h.2 with⟨rfl,rfl⟩|⟨g,cap,A,rfl,F,G,C,B,H,I⟩
  · exact⟨none,0,q,Nat.le_refl _,by simp[maxLen],fun _=>rfl,by simp⟩
  exact⟨some ⟨g,0,none⟩,cap,q,C,B,by simp,fun p D j u E=>by cases D;exact World.ownsRow.cells h (g:=g) q j u E⟩
theorem Ow.ls {e:TypeId} {lo:Nat->Prop} {v:Value} {xs:List α} (h:Ow T e lo w Q v xs) (t:∀b,Q b->Q' b) (u:∀b,lo b->Q' b):Ls T w Q' v xs:=by obtain⟨⟨B,C,D⟩,E⟩:=h;obtain⟨a,A,rfl,F,G,H,I⟩:=yU C;exact⟨a,A,B,q,F,G,H,fun p K _=>u _ (E _ (by subst K;rfl)).1,I,D.sub fun b J _=>t b J⟩
theorem Ow.get {e:TypeId} {lo:Nat->Prop} {v:Value} {xs:List α} {i:Nat} {x:α} (h:Ow T e lo w Q v xs) (hi:xs[i]? = some x):∃c,T.nN w Q c x/\At w v (i*T.n) c:=by
  obtain⟨⟨I,B,C⟩,_⟩:=h;obtain⟨a,A,rfl,J,K,D,E⟩:=yU B;obtain⟨c,F,G⟩:=C.get hi;cases a with
  | none =>
    have:=D q;have:=(List.getElem?_eq_some_iff.1 hi).1;omega
  | some p=>exact⟨c,F,p,_,A,q,fun j u H=>E p q _ u<|G j u H⟩
theorem Ow.read {e:TypeId} {lo:Nat->Prop} {v:Value} {xs:List α} (h:Ow T e lo w Q v xs):Ls T w (fun b=>Q b\/lo b) v xs:=h.ls (fun _=>.inl)<|fun _=>.inr
theorem Ow.eA {e:TypeId} {lo:Nat->Prop} {v:Value} {xs:List α} (h:Ow T e lo w Q v xs):R3 v xs.length:=h.read.eA
theorem Ow.cZ {e:TypeId} {lo:Nat->Prop} {v:Value} {xs:List α} (h:Ow T e lo w Q v xs):v.oneCell'=true:=h.read.cZ
end
def Up (w:World) (Q:Nat->Prop):Prop:=∀b,w.heap.size<=b->Q b
theorem Up.md {S:List Nat} {w a:World} {Q:Nat->Prop} (u:Up w Q) (m:Md S w a):Up a Q:=fun b hb=>u b<|lv m.size hb
instance amu {w w':World} {Q:Nat->Prop}:Tp w w' (Up w Q) (Up w' Q):=⟨fun m h=>h.md m⟩
theorem oI {Q:Nat->Prop} {w d:World} {b:Nat} (u:Up w Q) (h1:w.heap.size<=b) (e:b<d.heap.size) (m:Md [] w d) :
    ∃c:Nat->Prop,(∀x,Q x->x<w.heap.size->c x)/\(∀x,c x->Q x)/\¬c b/\Up d c :=
  ⟨fun x=>Q x/\x≠b,fun x a hl=>⟨a,by omega⟩,fun x a=>a.1,fun h=>h.2 q,fun x a=>⟨u x<|lv m.size a,by omega⟩⟩
def lim:IntKind->Nat
  | .u8=>256|.u16=>65536|.u32=>4294967296|.u64=>18446744073709551616
  | .i8=>128|.i16=>32768|.i32=>2147483648|.i64=>9223372036854775808
theorem wrapN (k:IntKind) (x:Nat) (h:x<lim k):k.wrap (x:Int)=x:=by cases k <;> simp[IntKind.wrap,IntKind.bits,IntKind.signed,lim]at * <;> omega
theorem ae8 (k:IntKind) (x:Int) (h:k.signed=false):k.wrap x=((x%(lim k:Int)).toNat:Nat):=by cases k <;> simp[IntKind.wrap,IntKind.bits,IntKind.signed,lim]at * <;> omega
theorem cw.to {P:Program} {w:World} {o:Oper} {e:Operand->Value} {a b:Value} (h:cw P o e w a) (c:a=b):cw P o e w b:=c ▸ h
section
variable {P:Program} {n:Nat} {A:Fr n} {D:List Deferred} {l:List (Nat × Value)} {w:World}
variable {d:Option Tmp} {ty:TypeId} {ps:String} {af:Array Edge} {g:Option (Nat × Bool)}
variable {x y:Operand} {t u:TypeId} {k j:IntKind} {a b:Nat}
theorem dH (L:Nat) (c:lim k=L) (e:ev n l x=some (.int k (a:Int))) (f:ev n l y=some (.int k (b:Int))) (h:a+b<L) :
    cw P ⟨d,.binOp .add t x y u,ty,ps,af,g⟩ (aN A D l).eval w (.int k ((a+b:Nat):Int)) :=
  (ic e f).jf (by rw[<- wrapN k (a+b) (c ▸ h)];rfl)
theorem vW (L:Nat) (f:lim k=L) (c:ev n l x=some (.int k (a:Int))) (e:ev n l y=some (.int k (b:Int))) (h:b<=a/\a<L) :
    cw P ⟨d,.binOp .sub t x y u,ty,ps,af,g⟩ (aN A D l).eval w (.int k ((a-b:Nat):Int)) :=
  (iC c e).jf (by rw[<- wrapN k (a-b) Xx];congr 1;omega)
theorem mR (L:Nat) (c:lim k=L) (e:ev n l x=some (.int k (a:Int))) (f:ev n l y=some (.int k (b:Int))) (h:a*b<L) :
    cw P ⟨d,.binOp .mul t x y u,ty,ps,af,g⟩ (aN A D l).eval w (.int k ((a*b:Nat):Int)) :=
  (akt e f).jf (by rw[<- wrapN k (a*b) (c ▸ h),Int.natCast_mul])
theorem mP (L:Nat) (c:lim k=L) (hs:k.signed=false) (e:ev n l x=some (.int k (a:Int))) (f:ev n l y=some (.int k (b:Int))) :
    cw P ⟨d,.binOp .add t x y u,ty,ps,af,g⟩ (aN A D l).eval w (.int k (((a+b)%L:Nat):Int)) :=
  (ic e f).jf (by rw[ae8 k _ hs,c,show(a:Int)+b=((a+b:Nat):Int)from rfl,<- Int.natCast_emod,Int.toNat_natCast])
theorem adV (L:Nat) (c:lim k=L) (e:ev n l x=some (.int k (a:Int))) (f:ev n l y=some (.int k (b:Int))) (h:b≠0/\a<L) :
    cw P ⟨d,.binOp .quo t x y u,ty,ps,af,g⟩ (aN A D l).eval w (.int k ((a/b:Nat):Int)) :=
  (akv e f Xx).jf (by
    rw[show Int.tdiv (a:Int) b=((a/b:Nat):Int)from rfl];exact wrapN k _<|c ▸ Nat.lt_of_le_of_lt (Nat.div_le_self _ _) h.2)
theorem EZ (c:ev n l x=some (.int k (a:Int))) (e:ev n l y=some (.int k (b:Int))) (h:b≠0) :
    cw P ⟨d,.binOp .rem t x y u,ty,ps,af,g⟩ (aN A D l).eval w (.int k ((a%b:Nat):Int)) :=
  (adW c e Xx).jf q
theorem fD (c:ev n l x=some (.int k (a:Int))) (e:ev n l y=some (.int k (b:Int))):cw P ⟨d,.binOp .eql t x y u,ty,ps,af,g⟩ (aN A D l).eval w (.bool<|decide (a=b)) :=
  (mB c e).ND<|decide_eq_decide.2 Xx
theorem fU (c:ev n l x=some (.int k (a:Int))) (e:ev n l y=some (.int k (b:Int))):cw P ⟨d,.binOp .neq t x y u,ty,ps,af,g⟩ (aN A D l).eval w (.bool<|decide (a≠b)) :=
  (ZW c e).ND<|decide_eq_decide.2 Xx
theorem fJ (c:ev n l x=some (.int k (a:Int))) (e:ev n l y=some (.int k (b:Int))):cw P ⟨d,.binOp .lss t x y u,ty,ps,af,g⟩ (aN A D l).eval w (.bool<|decide (a<b)) :=
  (oA c e).ND<|decide_eq_decide.2 Xx
theorem jQ (c:ev n l x=some (.int k (a:Int))) (e:ev n l y=some (.int k (b:Int))):cw P ⟨d,.binOp .gtr t x y u,ty,ps,af,g⟩ (aN A D l).eval w (.bool<|decide (b<a)) :=
  (qb c e).ND<|decide_eq_decide.2 Xx
theorem adQ (c:ev n l x=some (.int k (a:Int))) (e:ev n l y=some (.int k (b:Int))):cw P ⟨d,.binOp .geq t x y u,ty,ps,af,g⟩ (aN A D l).eval w (.bool<|decide (b<=a)) :=
  (rG c e).ND<|decide_eq_decide.2 Xx
theorem dR {s:TypeId} (L:Nat) (b:lim k=L) (hs:(P.underlying s).isSome=true) (c:P.underlying t=some (.int k)) (e:ev n l x=some (.int j (a:Int))) (h:a<L) :
    cw P ⟨d,.convert s t x,ty,ps,af,g⟩ (aN A D l).eval w (.int k (a:Int)):=(i7 hs c e).jf<|wrapN k a<|b ▸ h
theorem lX {s:TypeId} (L:Nat) (b:lim k=L) (hk:k.signed=false) (hs:(P.underlying s).isSome=true) (c:P.underlying t=some (.int k)) (e:ev n l x=some (.int j (a:Int))) :
    cw P ⟨d,.convert s t x,ty,ps,af,g⟩ (aN A D l).eval w (.int k ((a%L:Nat):Int)):=(i7 hs c e).jf (by rw[ae8 k _ hk,b,<- Int.natCast_emod,Int.toNat_natCast])
theorem adU (c:ev n l x=some (.int k (a:Int))) (e:ev n l y=some (.int j (b:Int))) {f:Array TypeId} :
    cw P ⟨d,.call {callee:=.builtin .min,args:=#[x,y],argTypes:=f},ty,ps,af,g⟩ (aN A D l).eval w (.int k ((min a b:Nat):Int)) :=
  (ahd c e).jf (by split<;>omega)
theorem adT {a b:Int} (c:ev n l x=some (.int k a)) (e:ev n l y=some (.int j b)) {f:Array TypeId} :
    cw P ⟨d,.call {callee:=.builtin .max,args:=#[x,y],argTypes:=f},ty,ps,af,g⟩ (aN A D l).eval w (.int k<|if a<b then b else a):=by
  simp[cw,execOp,bM c,bM e,resolve,invoke,builtin,Builtin.max_,Builtin.max2]
theorem LY (c:ev n l x=some (.int k (a:Int))) (e:ev n l y=some (.int j (b:Int))) {f:Array TypeId} :
    cw P ⟨d,.call {callee:=.builtin .max,args:=#[x,y],argTypes:=f},ty,ps,af,g⟩ (aN A D l).eval w (.int k ((max a b:Nat):Int)) :=
  (adT c e).jf (by split<;>omega)
theorem aim (L:Nat) (c:lim k=L) (hs:k.signed=false) (s:Nat) (e:k.bits=s) (f:ev n l x=some (.int k (a:Int))) (i:ev n l y=some (.int j (b:Int))) (h:b<=s) :
    cw P ⟨d,.binOp .shl t x y u,ty,ps,af,g⟩ (aN A D l).eval w (.int k ((a*2 ^ b%L:Nat):Int)) :=
  (pN f i Xx).jf (by
    unfold mg;rw[ae8 k _ hs,c,e,Int.toNat_natCast,Nat.min_eq_left h];rw[show(a:Int)*2 ^ b=((a*2 ^ b:Nat):Int)by simp,<- Int.natCast_emod,Int.toNat_natCast])
theorem adY (s:Nat) (c:k.bits=s) (e:ev n l x=some (.int k (a:Int))) (f:ev n l y=some (.int j (b:Int))) (h:b<=s) :
    cw P ⟨d,.binOp .shr t x y u,ty,ps,af,g⟩ (aN A D l).eval w (.int k ((a/2 ^ b:Nat):Int)) :=
  (QD e f Xx).jf (by
    unfold afT;rw[c,Int.toNat_natCast,Nat.min_eq_left h];simp)
theorem OB (hk:k.signed=false):lim k=2 ^ k.bits:=by cases k<;>simp[IntKind.signed]at hk<;>rfl
theorem abf (hk:k.signed=false) (d:a<lim k) (hb:b<lim k):bits .xor k (a:Int) (b:Int)=((a ^^^ b:Nat):Int):=by
  have c:=OB hk;have e:a ^^^ b<lim k:=by rw[c];exact Nat.xor_lt_two_pow (c ▸ d)<|c ▸ hb
  unfold bits;simp only[BitVec.ofInt_natCast,BitVec.toNat_xor,BitVec.toNat_ofNat,<- c,Nat.mod_eq_of_lt d,Nat.mod_eq_of_lt hb];exact wrapN k _ e
theorem aeU (hk:k.signed=false) (d:a<lim k) (hb:b<lim k):bits .or k (a:Int) (b:Int)=((a ||| b:Nat):Int):=by
  have c:=OB hk;have e:a ||| b<lim k:=by rw[c];exact Nat.or_lt_two_pow (c ▸ d)<|c ▸ hb
  unfold bits;simp only[BitVec.ofInt_natCast,BitVec.toNat_or,BitVec.toNat_ofNat,<- c,Nat.mod_eq_of_lt d,Nat.mod_eq_of_lt hb];exact wrapN k _ e
theorem adZ (L:Nat) (c:lim k=L) (hk:k.signed=false) (e:ev n l x=some (.int k (a:Int))) (f:ev n l y=some (.int k (b:Int))) (h:a<L/\b<L) :
    cw P ⟨d,.binOp .xor t x y u,ty,ps,af,g⟩ (aN A D l).eval w (.int k ((a ^^^ b:Nat):Int)):=(eD e f).jf<|abf hk (c ▸ h.1)<|c ▸ h.2
theorem aku (L:Nat) (c:lim k=L) (hk:k.signed=false) (e:ev n l x=some (.int k (a:Int))) (f:ev n l y=some (.int k (b:Int))) (h:a<L/\b<L) :
    cw P ⟨d,.binOp .or t x y u,ty,ps,af,g⟩ (aN A D l).eval w (.int k ((a ||| b:Nat):Int)):=(za e f).jf<|aeU hk (c ▸ h.1)<|c ▸ h.2
theorem adX (L:Nat) (c:lim k=L) (s:Nat) (e:k.bits=s) (f:ev n l x=some (.int k (a:Int))) (i:ev n l y=some (.int j (b:Int))) (h:b<=s/\a*2 ^ b<L) :
    cw P ⟨d,.binOp .shl t x y u,ty,ps,af,g⟩ (aN A D l).eval w (.int k ((a*2 ^ b:Nat):Int)) :=
  (pN f i Xx).jf (by
    unfold mg;rw[e,Int.toNat_natCast,Nat.min_eq_left h.1,show(a:Int)*2 ^ b=((a*2 ^ b:Nat):Int)by simp];exact wrapN k _<|c ▸ h.2)
theorem adP {s:TypeId} {z:Int} (L:Nat) (c:lim k=L) (hs:(P.underlying s).isSome=true) (a:P.underlying t=some (.int k)) (b:ev n l x=some (.int j z)) (h:0<=z/\z<L) :
    cw P ⟨d,.convert s t x,ty,ps,af,g⟩ (aN A D l).eval w (.int k ((z.toNat:Nat):Int)) :=
  (i7 hs a b).jf (by rw[show z=((z.toNat:Nat):Int)by omega];exact wrapN k _ Xx)
variable {α:Type} {T:Dt α} {Q:Nat->Prop} {v:Value} {xs:List α}
theorem bQ {e:TypeId} {m i:Nat} (sz:Nat) (f:ev n l x=some v) (h:ev n l y=some (.int k (i:Int))) (c:P.underlying t=some (.slice e)) (a:fW P e sz=true) (b:R3 v m) (hi:i<m) :
    cw P ⟨d,.indexAddr t x y,ty,ps,af,g⟩ (aN A D l).eval w (mF v<|i*sz):=by
  have:=xK (P:=P) (A:=A) (D:=D) (w:=w) (d:=d) (ty:=ty) (ps:=ps) (af:=af) (g:=g) sz f h c a b Xx;simpa using this
theorem cC {e:TypeId} {m b o i:Nat} (sz:Nat) (h:ev n l x=some (.pointer<|some ⟨b,o,none⟩)) (j:ev n l y=some (.int k (i:Int))) (f:P.underlying t=some (.array m e)) (a:fW P e sz=true) (hi:i<m) :
    cw P ⟨d,.indexAddr t x y,ty,ps,af,g⟩ (aN A D l).eval w (.pointer<|some ⟨b,o+i*sz,none⟩):=by
  unfold fW at a;split at a
  · rename_i inf hinf
    have c:inf.size=sz:=(by simpa using a);simp[cw,execOp,bM h,bM j,Instr.indexAt,Instr.sureAddr,asIntOf,run_underlying f,ew hinf,hi,c,Addr.jj]
  cases a
theorem CS {kk:Nat} {c:List Value} (h:At w v kk c):∃p:Addr,(∀m,mF v m = .pointer (some<|p.add m))/\∀j u,c[j]? = some u->w.cell? (p.add<|kk+j)=some u:=by obtain⟨p,l,B,rfl,A⟩:=h;exact⟨p,fun _=>rfl,A⟩
theorem iX {s:TypeId} {f m off kk:Nat} {c:List Value} (a:ev n l x=some (mF v m)) (e:At w v kk c) (hf:aJ P s f=some off) :
    cw P ⟨d,.fieldAddr s x f,ty,ps,af,g⟩ (aN A D l).eval w (mF v<|m+off):=by
  obtain⟨p,b,_⟩:=CS e;rw[b]at a ⊢;unfold aJ at hf;split at hf
  · rename_i fs hfs
    split at hf
    · rename_i fd hfd
      split at hf
      · rename_i inf hinf
        split at hf
        · cases hf
        rename_i hz;simp only[Option.some.injEq]at hf;subst hf;simp[cw,execOp,bM a,Instr.fieldAt,Instr.sureAddr,run_underlying hfs,hfd,fieldPlace,ew hinf,hz,Addr.add_add]
      cases hf
    cases hf
  cases hf
theorem dS {m kk:Nat} {c:List Value} {r:Value} (j:Nat) (a:ev n l x=some (mF v m)) (i:m=kk+j) (f:iv P t=true) (e:At w v kk c) (h:c[j]? = some r) :
    cw P ⟨d,.load t x,ty,ps,af,g⟩ (aN A D l).eval w r:=by
  obtain⟨p,C,b⟩:=CS e;rw[C]at a;exact TV a f (by rw[i];exact b j r h)
theorem fI {m kk:Nat} {c:List Value} (cs:List Value) (o:Nat) (b:ev n l x=some (mF v m)) (k:m=kk+o) (i:gH P t cs.length=true) (h:At w v kk c) (j:(c.drop o).take cs.length=cs) :
    cw P ⟨d,.load t x,ty,ps,af,g⟩ (aN A D l).eval w (.agg cs.toArray):=by
  obtain⟨p,f,C⟩:=CS h;rw[f]at b;refine yZ b i q fun s r a=>?_;have e:=(List.getElem?_eq_some_iff.1 a).1;rw[Addr.add_add,k,Nat.add_assoc];refine C _ r ?_;rw[<- j,List.getElem?_take,if_pos e,List.getElem?_drop]at a;exact a
theorem bU {ty':TypeId} {b o:Nat} {c:List Value} (cs:List Value) (i:ev n l x=some (.pointer<|some ⟨b,o,none⟩)) (f:gH P t cs.length=true) (e:bK w b c ty') (h:(c.drop o).take cs.length=cs) :
    cw P ⟨d,.load t x,ty,ps,af,g⟩ (aN A D l).eval w (.agg cs.toArray):=by
  refine yZ i f q fun j r a=>?_;have C:=(List.getElem?_eq_some_iff.1 a).1;rw[Addr.jj,e.cell];rw[<- h,List.getElem?_take,if_pos C,List.getElem?_drop]at a;exact a
theorem jE {lo hi:Option Operand} {m e:Nat} (sz L H:Nat) (c:P.underlying t=some (.slice e)) (b:fW P e sz=true) (f:ev n l x=some v)
    (hS:R3 v m) (h1:L<=H) (h2:H<=m)
    (hlo:match lo with|none=>L=0|some y=>∃k,ev n l y=some (.int k (L:Int))) (hhi:match hi with|none=>H=m|some y=>∃k,ev n l y=some (.int k (H:Int))) :
    cw P ⟨d,.slice t x lo hi none,ty,ps,af,g⟩ (aN A D l).eval w (rK sz v L H):=by
  obtain⟨p,C,rfl,G,j,o⟩:=hS;unfold fW at b;split at b
  · rename_i inf hinf
    have a:inf.size=sz:=(by simpa using b);have h:H<=C:=(by omega);cases lo with
    | none =>
      simp only at hlo;subst hlo;cases hi with
      | none =>
        simp only at hhi;subst hhi;simp[cw,execOp,bM f,Instr.sliceAt,Instr.slice,Instr.sliceBounds,run_underlying c,ew hinf,rK,a]
      | some y =>
        simp only at hhi;obtain⟨k,hk⟩:=hhi;simp[cw,execOp,bM f,bM hk,Instr.sliceAt,Instr.slice,Instr.sliceBounds,Instr.sliceBound,asIntOf,run_underlying c,ew hinf,rK,a,h]
    | some z =>
      simp only at hlo;obtain⟨q,i⟩:=hlo;cases hi with
      | none =>
        simp only at hhi;subst hhi;simp[cw,execOp,bM f,bM i,Instr.sliceAt,Instr.slice,Instr.sliceBounds,Instr.sliceBound,asIntOf,run_underlying c,ew hinf,rK,a,h1]
      | some y =>
        simp only at hhi;obtain⟨k,hk⟩:=hhi;simp[cw,execOp,bM f,bM i,bM hk,Instr.sliceAt,Instr.slice,Instr.sliceBounds,Instr.sliceBound,asIntOf,run_underlying c,ew hinf,rK,a,h1,h]
  cases b
end
theorem zG:∀(us:List Value) (k o:Nat) (cs:List Value),o+k+us.length<=cs.length ->
    (us.zipIdx k).foldl (fun(cs:Array Value) (x:Value × Nat)=>cs.setIfInBounds (o+x.2) x.1) cs.toArray=(dZ cs (o+k) us).toArray
  | [],k,o,cs,_=>by simp[dZ]
  | u :: us,k,o,cs,h=>by
    simp only[List.length_cons]at h;rw[List.zipIdx_cons,List.foldl_cons];simp only[List.setIfInBounds_toArray];rw[zG us (k+1) o (cs.set (o+k) u) Xh];congr 1;unfold dZ;have b:(cs.set (o+k) u).take (o+(k+1))=cs.take (o+k) ++ [u]:=(by rw[show o+(k+1)=(o+k)+1 by omega,List.take_add_one];simp[show o+k<cs.length by omega,List.take_set_of_le]);have a:(cs.set (o+k) u).drop (o+(k+1)+us.length)=cs.drop (o+k+(us.length+1)):=(by rw[List.drop_set_of_lt Xx];congr 1;omega);rw[b,a];simp
theorem SC {v:Value} {us:List Value} (a:v.cells=us.toArray) (o:Nat) (cs:List Value) (h:o+us.length<=cs.length) :
    v.cells.zipIdx.foldl (fun(cs:Array Value) (x:Value × Nat)=>cs.setIfInBounds (o+x.2) x.1) cs.toArray=(dZ cs o us).toArray:=by
  have:=zG us 0 o cs Xx;rw[a];simpa [<- Array.foldl_toList]using this
def nj:List Value->List (List Value)->Prop
  | [],[]=>True
  | v :: vs,u :: us=>v.cells=u.toArray/\nj vs us
  | _,_=>False
def mh (cs:List Value):List (Nat × Nat × Nat)->List (List Value)->List Value
  | (_,o,_) :: ps,u :: us=>mh (dZ cs o u) ps us
  | _,_=>cs
def UF:List (Nat × Nat × Nat)->List (List Value)->Prop
  | [],[]=>True
  | (_,_,s) :: ps,u :: us=>u.length=s/\UF ps us
  | _,_=>False
theorem mW {cs us:List Value} {o:Nat} (h:o+us.length<=cs.length):(dZ cs o us).length=cs.length:=by simp[dZ];omega
theorem wC {place:Nat->Option (Nat × Nat)}:∀(ps:List (Nat × Nat × Nat)) (vs:List Value) (us:List (List Value)) (cs:List Value),nj vs us->UF ps us->(∀p∈ps,place p.1=some (p.2.1,p.2.2)/\p.2.1+p.2.2<=cs.length) ->
    Instr.fill place cs.toArray ((ps.map (·.1)).zip vs)=some (mh cs ps us).toArray
  | [],[],[],cs,_,_,_=>by simp[Instr.fill,mh]
  | [],[],_ :: _,_,h,_,_=>by simp[nj]at h
  | [],_ :: _,[],_,h,_,_=>by simp[nj]at h
  | [],_ :: _,_ :: _,_,_,h,_=>by simp[UF]at h
  | _ :: _,_,[],_,_,h,_=>by simp[UF]at h
  | _ :: _,[],_ :: _,_,h,_,_=>by simp[nj]at h
  | (i,o,s) :: ps,v :: vs,u :: us,cs,⟨h1,h2⟩,⟨h3,h4⟩,hp=>by obtain⟨b,d⟩:=hp (i,o,s) Oj;simp only at b d;have hs:v.cells.size=s:=(by rw[h1];simpa using h3);have a:o+u.length<=cs.length:=(by omega);have C:=wC (place:=place) ps vs us (dZ cs o u) h2 h4 (fun p c=>by rw[mW a];exact hp p (by simp[c]));simp only[List.map_cons,List.zip_cons_cons,Instr.fill,b];rw[if_neg (by simp[hs];omega),SC h1 o cs a];simpa [mh]using C
def adJ (pl:List (Nat × Nat)) (m:Nat):List (Nat × Nat × Nat)->Bool
  | []=>true
  | (i,o,s) :: r=>(match pl[i]? with
    | some (o',s')=>Nat.beq o' o && Nat.beq s' s && Nat.ble (o+s) m
    | none=>false) && adJ pl m r
theorem IV {pl:List (Nat × Nat)} {m:Nat}:∀{ps:List (Nat × Nat × Nat)},adJ pl m ps=true->∀p∈ps,pl[p.1]? = some (p.2.1,p.2.2)/\p.2.1+p.2.2<=m
  | [],_,p,hp=>by cases hp
  | (i,o,s) :: r,h,p,hp=>by
    simp only[adJ,Bool.and_eq_true]at h
    rcases List.mem_cons.1 hp with rfl|hp'
    · cases hq:pl[i]? with
      | none=>rw[hq]at h;simp at h
      | some q =>
        obtain⟨f,g⟩:=q;rw[hq]at h;simp only[Bool.and_eq_true]at h;obtain⟨⟨⟨c,d⟩,e⟩,_⟩:=h;have a:=Nat.eq_of_beq_eq_true c;have b:=Nat.eq_of_beq_eq_true d;subst a;subst b;exact⟨rfl,lq e⟩
    · exact IV h.2 p hp'
section
variable {P:Program} {ops:Array Oper} {Q:Exit->Act->World->Prop} {rest:List Oper}
variable {n:Nat} {A:Fr n} {D:List Deferred} {l:List (Nat × Value)} {w:World}
variable {d:Tmp} {op:Op} {ty:TypeId} {ps:String} {af:Array Edge} {g:Option (Nat × Bool)}
theorem Yd {t:TypeId} {zs vs:List Value} {us:List (List Value)} {pl:List (Nat × Nat)} {ps:List (Nat × Nat × Nat)} (c:dX P t=some zs) (b:fG P t=some pl) (h:nj vs us) (hs:UF ps us) (i:adJ pl zs.length ps=true) :
    P.built t ((ps.map (·.1)).zip vs)=some (mh zs ps us).toArray:=by
  have G:=IV i;unfold dX at c;cases hi:P.info? t with
  | none=>simp[hi]at c
  | some it =>
    cases hzz:it.zero with
    | none=>simp[hi,hzz]at c
    | some z =>
      simp only[hi,hzz,Option.some.injEq]at c;have D:z.cells=zs.toArray:=(by rw[<- c]);unfold fG at b;unfold Program.built;cases hu:P.underlying t with
      | none=>simp[hu]at b
      | some d =>
        cases d <;> try (simp[hu]at b;done)
        case array m e =>
          cases hie:P.info? e with
          | none=>simp[hu,hie]at b
          | some ie =>
            simp only[hu,hie,Option.some.injEq]at b;simp only[hi,hzz,hie,D];refine wC ps vs us zs h hs<|fun p C=>?_;obtain⟨a,f⟩:=G p C;rw[<- b,List.getElem?_map]at a;have H:(List.range m)[p.1]? = some p.1:=by
              cases hq:(List.range m)[p.1]? with
              | none=>rw[hq]at a;simp at a
              | some q=>have:=List.getElem?_eq_some_iff.1 hq;obtain⟨j,g⟩:=this;simp at g;rw[<- g]
            rw[H]at a;simp only[Option.map_some,Option.some.injEq,Prod.mk.injEq]at a;exact⟨by rw[a.1,a.2],f⟩
        case struct aC =>
          simp only[hu]at b;simp only[hi,hzz,b,D];refine wC ps vs us zs h hs<|fun p C=>?_;obtain⟨a,f⟩:=G p C;exact⟨by simpa using a,f⟩
theorem dI {t:TypeId} {parts:List (Nat × Operand)} {zs vs cs:List Value} {us:List (List Value)} {pl:List (Nat × Nat)} (ps:List (Nat × Nat × Nat)) {d':Option Tmp} {i:String} (h:dX P t=some zs) (e:fG P t=some pl) (f:parts.map (·.1)=ps.map (·.1)) (d:evs n l (parts.map (·.2))=some vs)
    (hc:nj vs us) (hs:UF ps us) (hps:adJ pl zs.length ps=true) (hcs:mh zs ps us=cs) :
    cw P ⟨d',.build t parts.toArray,ty,i,af,g⟩ (aN A D l).eval w (.agg cs.toArray):=by
  have b:=sJ (A:=A) (D:=D) d;have a:parts.map (fun p=>(p.1,(aN A D l).eval p.2))=(ps.map (·.1)).zip vs:=by rw[<- f,<- b,List.map_map,List.zip_map'];rfl
  have C:=Yd h e hc hs hps;rw[<- a]at C;have c:=run_build (P:=P) w t (parts.map<|fun p=>(p.1,(aN A D l).eval p.2)).toArray _ (by simpa using C);subst hcs;simp only[cw,execOp,List.map_toArray];show Sem.run P (do pure (Next.value<|<- Instr.build t (parts.map fun x=>(x.1,(aN A D l).eval x.2)).toArray)) w=_;simp[c]
def rowAt (sz:Nat):Nat->Nat->List (Nat × Nat × Nat)
  | _,0=>[]
  | i,k+1=>(i,i*sz,sz) :: rowAt sz (i+1) k
def JV (sz:Nat):List (List Value)->Prop
  | []=>True
  | u :: us=>u.length=sz/\JV sz us
theorem QG {sz:Nat}:∀(us:List (List Value)) (i:Nat),JV sz us->UF (rowAt sz i us.length) us
  | [],_,_=>trivial
  | _ :: us,i,h=>⟨h.1,QG us (i+1) h.2⟩
theorem HU {sz:Nat} {p:Nat × Nat × Nat}:∀{i k:Nat},p∈rowAt sz i k->p.2.1=p.1*sz/\p.2.2=sz/\p.1<i+k
  | _,0,h=>by cases h
  | i,k+1,h=>by
    rcases List.mem_cons.1 h with rfl|h
    · exact⟨q,q,by simp⟩
    · have:=HU h;omega
theorem zT {sz:Nat}:∀(us:List (List Value)) (i:Nat) (pre cs:List Value),JV sz us->pre.length=i*sz->cs.length=us.length*sz->mh (pre ++ cs) (rowAt sz i us.length) us=pre ++ us.flatten
  | [],i,pre,cs,_,_,h=>by have:cs=[]:=List.eq_nil_of_length_eq_zero (by simpa using h);subst this;simp[rowAt,mh]
  | u :: us,i,pre,cs,h,hp,hc=>by
    simp only[List.length_cons,rowAt,mh];have b:cs.length=sz+us.length*sz:=(by simpa [Nat.succ_mul,Nat.add_comm]using hc);have a:dZ (pre ++ cs) (i*sz) u=(pre ++ u) ++ cs.drop sz:=(by simp only[dZ,<- hp,h.1];rw[List.take_left,List.drop_append,List.drop_of_length_le (Nat.le_add_right _ _),Nat.add_sub_cancel_left];simp);rw[a,zT us (i+1) (pre ++ u) (cs.drop sz) h.2 (by simp[hp,h.1,Nat.succ_mul]) Xh];simp
theorem bh {t e:TypeId} {m sz B:Nat} {parts:List (Nat × Operand)} {vs:List Value} (us:List (List Value)) (J:P.underlying t=some (.slice e)) (E:vF P e sz B=true) (M:0<sz) (L:m*sz<=16777216) (I:parts.map (·.1)=(rowAt sz 0 m).map (·.1)) (F:evs n l (parts.map (·.2))=some vs)
    (hc:nj vs us) (hl:JV sz us) (hlen:us.length=m) (h0:m≠0)
    (k:∀b a,w.heap.size<=b->b<a.heap.size->Md [] w a->bK a b us.flatten e->wpList P ops Q rest (aN A D ((d,.slice (some ⟨b,0,none⟩) m m) :: l)) a) :
    wpList P ops Q (⟨some d,.buildSlice t m parts.toArray,ty,ps,af,none⟩ :: rest) (aN A D l) w:=by
  refine gI q ?_;obtain⟨i,z,f,R,y,T,K⟩:=oS E;have u:=sJ (A:=A) (D:=D) F;have G:parts.map (fun p=>(p.1,(aN A D l).eval p.2))=((rowAt sz 0 m).map (·.1)).zip vs:=by rw[<- I,<- u,List.map_map,List.zip_map'];rfl
  have g:∀C:List Value,C.length=m*sz->Instr.fill (fun i=>some (i*sz,sz)) C.toArray (((rowAt sz 0 m).map (·.1)).zip vs)=some us.flatten.toArray:=by
    intro C c;have:=wC (place:=fun i=>some (i*sz,sz)) (rowAt sz 0 m) vs us C hc (by rw[<- hlen];exact QG us 0 hl) (fun p v=>by
      have h:=HU v;refine⟨by rw[h.1,h.2.1],?_⟩;rw[h.1,h.2.1,c,<- Nat.succ_mul];exact Nat.mul_le_mul_right _ Xx)
    have H:=zT us 0 [] C hl Oj (by rw[c,hlen]);simp only[List.nil_append]at H;rw[hlen]at H;rw[this,H]
  have r:¬(m*sz=0):=Nat.mul_ne_zero h0 Xx;have j:(execOp (aN A D l).eval ⟨some d,.buildSlice t m parts.toArray,ty,ps,af,none⟩).run P w = .ok (.value<|.slice (some ⟨w.heap.size,0,none⟩) m m) (w.alloc<|.cells us.flatten.toArray e):=by
    show Sem.run P (do pure (Next.value<|<- Instr.buildSlice t m ((parts.toArray).map fun x=>(x.1,(aN A D l).eval x.2)))) w=_;rw[List.map_toArray,G];have o:((List.range<|m*sz).map fun x=>(z.cells)[x%z.cells.size]!).length=m*sz:=(by simp);have:=g _ o;simp only[Instr.buildSlice,Sem.run_bind,run_underlying J,Result.andThen_ok,ew f,y];have s:Array.map (fun x=>z.cells[x%z.cells.size]!) (Array.range<|m*sz)=((List.range<|m*sz).map fun x=>(z.cells)[x%z.cells.size]!).toArray:=(by apply Array.ext';simp);simp only[show ¬(m*sz > 2 ^ 24)from by omega,if_neg r,if_false];simp[zeroValue,typeInfo,f,R,newRow];rw[s,this];simp
  unfold Oper.wp;rw[j];exact k _ _ (Nat.le_refl _) Oj (Md.alloc w _)<|bK.new w us.flatten e
theorem Own.blk {e:TypeId} {sz m:Nat} {v:Value} {cs:List Value} (h:Own w e sz v m cs) (c:0<m):∃b cap a,v = .slice (some ⟨b,0,none⟩) m cap/\bK w b a e/\m<=cap/\cap<=maxLen/\a.length=cap*sz/\a.take (m*sz)=cs:=by
  rcases h.2 with⟨rfl,rfl⟩|⟨g,cap,a,rfl,F,B,C,A,D,E⟩
  · omega
  exact⟨g,cap,a.toList,q,B,C,A,by simpa using D,E⟩
theorem Own.cL {e:TypeId} {sz m b cap:Nat} {cur:List Value} (d:bK w b cur e) (h1:m<=cap) (c:cap<=maxLen) (a:cur.length=cap*sz):Own w e sz (.slice (some ⟨b,0,none⟩) m cap) m (cur.take<|m*sz):=by refine⟨by rw[List.length_take,a];exact Nat.min_eq_left<|Nat.mul_le_mul_right _ h1,.inr ⟨b,cap,cur.toArray,q,Nat.zero_le _,d,h1,c,by simpa using a,by simp⟩⟩
variable {α:Type} {T:Dt α} {R R':Nat->Prop}
def Lz (T:Dt α) (w:World) (Q:Nat->Prop) (v:Value) (xs:List α):Prop :=
  ∃a cap cs,v = .slice a xs.length cap/\xs.length<=cap/\cap<=maxLen/\(a=none->cap=0)/\(∀p,a=some p->∀j u,cs[j]? = some u->w.cell? (p.add j)=some u)/\qi T w Q cs xs
theorem Ls.lz {v:Value} {xs:List α} (h:Ls T w R v xs):Lz T w R v xs:=by obtain⟨a,A,B,C,D,E,F,I,G,H⟩:=h;exact⟨a,A,B,C,D,E,F,G,H⟩
theorem Ow.lz {e:TypeId} {lo:Nat->Prop} {v:Value} {xs:List α} (h:Ow T e lo w R v xs):Lz T w R v xs:=by obtain⟨⟨B,C,D⟩,I⟩:=h;obtain⟨a,A,rfl,E,F,G,H⟩:=yU C;exact⟨a,A,B,q,E,F,G,H,D⟩
theorem qd {x y:Operand} {t e:TypeId} {sz L:Nat} {lo:Nat->Prop} {v u:Value} {xs ys:List α} (r:T.n=sz) (Y:P.underlying t=some (.slice e)) (U:vF P e sz L=true) (Z:ev n l x=some v) (aa:ev n l y=some u)
    (hO:Ow T e lo w R v xs) (hY:Lz T w R u ys) (uR:Up w R) (hlo:∀b,w.heap.size<=b->lo b) (h63:xs.length+ys.length<=9223372036854775807) (hbytes:(xs.length+ys.length)*L<=140737488355328)
    (k:∀j m p,(∀b,R b->b<w.heap.size->p b)->(∀b,p b->R b)->Up m p->Ow T e lo m p j (xs ++ ys)->Md (ah v).toList w m->(∀b∈(ah v).toList,¬p b)->(∀b,ah v=some b->b<w.heap.size) ->
      (∀b,ah j=some b->ah v=some b\/w.heap.size<=b)->wpList P ops Q rest (aN A D ((d,j) :: l)) m) :
    wpList P ops Q (⟨some d,.call {callee:=.builtin .append,args:=#[x,y],argTypes:=#[t,t]},ty,ps,af,none⟩ :: rest) (aN A D l) w:=by
  subst r;refine gI q ?_;obtain⟨a,H,s,rfl,ad,f,J,W,B⟩:=hY;have X:=hO;obtain⟨⟨I,K,O⟩,C⟩:=X;obtain⟨j,m,S,V,G,ab,z⟩:=vr (P:=P) (w:=w) (ty':=ty) Y U T.pos K (a:=a) (k:=ys.length) (c:=H) (news:=s) B.len (fun h=>⟨by have:=J h;omega,J h⟩) W B.one (by simpa [maxLen]using h63) hbytes;have N:(execOp (aN A D l).eval ⟨some d,.call {callee:=.builtin .append,args:=#[x,y],argTypes:=#[t,t]},ty,ps,af,none⟩).run P w = .ok (.value j) m:=by simp[execOp,resolve,invoke,builtin,bM Z,bM aa,S]
  unfold Oper.wp;rw[N];have F:∀b,R b->b<w.heap.size->(R b/\ah j≠some b):=fun b i g=>⟨i,fun o=>by
    rcases z b o with h|h
    · exact(C b h).2 i
    · omega⟩
  have r:∀b∈(ah v).toList,¬(R b/\ah j≠some b):=fun b i E=>by
    cases o:ah v with
    | none=>rw[o]at i;simp at i
    | some c=>rw[o]at i;simp at i;subst i;exact(C _ o).2 E.1
  have M:Own m e T.n j (xs ++ ys).length (I ++ s):=by simpa using V
  refine k j m (fun b=>R b/\ah j≠some b) F (fun b i=>i.1) (fun b i=>⟨uR b<|lv G.size i,fun o=>by have:=M.lt b o;omega⟩) ⟨⟨I ++ s,M,?_⟩,fun b i=>⟨?_,fun E=>E.2 i⟩⟩ G r K.lt z
  · exact((O.sub F).md G r).append<|(B.sub F).md G r
  rcases z b i with h|h
  · exact(C b h).1
  exact hlo b h
theorem fO {x y:Operand} {t e:TypeId} {sz g:Nat} {lo:Nat->Prop} {v u:Value} {xs ys:List α} (i:T.n=sz) (j:P.underlying t=some (.slice e)) (h:vF P e sz g=true) (m:ev n l x=some v) (o:ev n l y=some u)
    (hO:Ow T e lo w R v xs) (hY:Ls T w R' u ys) (hR:∀b,R' b->b<w.heap.size->R b) (uR:Up w R) (hlo:∀b,w.heap.size<=b->lo b) (h63:xs.length+ys.length<=9223372036854775807) (hbytes:(xs.length+ys.length)*g<=140737488355328)
    (k:∀f c a,(∀b,R b->b<w.heap.size->a b)->(∀b,a b->R b)->Up c a->Ow T e lo c a f (xs ++ ys)->Md (ah v).toList w c->(∀b∈(ah v).toList,¬a b)->(∀b,ah v=some b->b<w.heap.size) ->
      (∀b,ah f=some b->ah v=some b\/w.heap.size<=b)->wpList P ops Q rest (aN A D ((d,f) :: l)) c) :
    wpList P ops Q (⟨some d,.call {callee:=.builtin .append,args:=#[x,y],argTypes:=#[t,t]},ty,ps,af,none⟩ :: rest) (aN A D l) w :=
  qd i j h m o hO (hY.sub hR).lz uR hlo h63 hbytes k
theorem Ow.into {e:TypeId} {lo:Nat->Prop} {i:Nat} {v:Value} {xs:List α} {c:List Value} {z:α} (t:Ow T e lo w R v xs) (o:T.nN w R c z) (hi:i<xs.length) :
    ∃b cap a,v = .slice (some ⟨b,0,none⟩) xs.length cap/\bK w b a e/\i*T.n+c.length<=a.length/\¬R b/\∀f,Md [b] w f->bK f b (dZ a (i*T.n) c) e->Ow T e lo f R v (xs.set i z):=by
  obtain⟨⟨G,P,C⟩,g⟩:=t;obtain⟨b,cap,a,rfl,Q,H,r,j,s⟩:=P.blk Xx;have D:=T.len o;have x:i*T.n+T.n<=xs.length*T.n:=by rw[<- Nat.succ_mul];exact Nat.mul_le_mul_right _ hi
  have u:xs.length*T.n<=a.length:=by rw[j];exact Nat.mul_le_mul_right _ H
  have k:∀h∈[b],¬R h:=fun h d=>by simp at d;subst d;exact(g _ q).2
  refine⟨b,cap,a,q,Q,by omega,(g _ q).2,fun f l d=>⟨⟨(dZ a (i*T.n) c).take<|xs.length*T.n,by simpa using Own.cL (m:=xs.length) d H r (by rw[mW Xx,j]),?_⟩,g⟩⟩;have p:(dZ a (i*T.n) c).take (xs.length*T.n)=G.take (i*T.n) ++ c ++ G.drop (i*T.n+T.n):=by unfold dZ;rw[D,<- s,List.take_append,List.take_of_length_le Xh,List.take_take,Nat.min_eq_left Xx,List.drop_take];congr 2;simp;omega
  rw[p];exact(C.md l k).set (T.md o l k) hi
theorem Uo (cs:List Value) (j:Nat) (u:Value) (h:j<cs.length):cs.set j u=dZ cs j [u]:=by rw[List.set_eq_take_append_cons_drop,if_pos h];simp[dZ]
theorem UD {x y:Operand} {t e:TypeId} {lo:Nat->Prop} {i k:Nat} {v u:Value} {xs:List α} {z:α} (hk:k=i*T.n) (o:ev n l x=some (mF v k)) (p:ev n l y=some u) (m:iv P t=true)
    (hO:Ow T e lo w R v xs) (hz:T.nN w R [u] z) (hi:i<xs.length)
    (kk:∀a,Md (ah v).toList w a->(∀b∈(ah v).toList,¬R b)->Ow T e lo a R v (xs.set i z)->wpList P ops Q rest (aN A D l) a) :
    wpList P ops Q (⟨none,.store t x y,ty,ps,af,none⟩ :: rest) (aN A D l) w:=by
  subst hk;obtain⟨b,q,G,rfl,h,H,f,g⟩:=hO.into hz hi;simp only[List.length_singleton]at H;refine aQ (b:=b) (j:=i*T.n) (by rw[o];simp[mF,Addr.jj]) p m (T.one hz u Oj) h Xx fun a d C=>?_;rw[Uo _ _ _ Xx]at C;exact kk a (by simpa [ah]using d) (fun r c=>by simp[ah]at c;subst c;exact f)<|g a d C
theorem tH {x y:Operand} {t e:TypeId} {lo:Nat->Prop} {i k:Nat} {v:Value} {xs:List α} {c:List Value} {z:α} (hk:k=i*T.n) (o:ev n l x=some (mF v k)) (p:ev n l y=some (.agg c.toArray)) (m:gH P t c.length=true)
    (hO:Ow T e lo w R v xs) (hz:T.nN w R c z) (hi:i<xs.length)
    (kk:∀a,Md (ah v).toList w a->(∀b∈(ah v).toList,¬R b)->Ow T e lo a R v (xs.set i z)->wpList P ops Q rest (aN A D l) a) :
    wpList P ops Q (⟨none,.store t x y,ty,ps,af,none⟩ :: rest) (aN A D l) w:=by
  subst hk;obtain⟨b,q,r,rfl,g,G,H,f⟩:=hO.into hz hi;refine cA (b:=b) (j:=i*T.n) (by rw[o];simp[mF,Addr.jj]) p m (T.one hz) g G fun a C h=>?_;exact kk a (by simpa [ah]using C) (fun s d=>by simp[ah]at d;subst d;exact H)<|f a C h
theorem Ls.cL {e:TypeId} {b m:Nat} {cs:List Value} {xs:List α} (d:bK w b cs e) (f:qi T w R cs xs) (h:xs.length=m) (c:m<=maxLen) (g:R b):Ls T w R (.slice (some ⟨b,0,none⟩) m m) xs:=by subst h;exact⟨_,_,cs,q,Nat.le_refl _,c,by simp,fun p a _=>by cases a;exact g,fun p a i j C=>by cases a;rw[Addr.jj,Nat.zero_add,d.cell];exact C,f⟩
theorem Ow.cL {e:TypeId} {lo:Nat->Prop} {b m:Nat} {cs:List Value} {xs:List α} (g:bK w b cs e) (d:qi T w R cs xs) (j:xs.length=m) (f:m<=maxLen) (i:lo b) (h:¬R b):Ow T e lo w R (.slice (some ⟨b,0,none⟩) m m) xs:=by subst j;have c:=d.len;have:=Own.cL (sz:=T.n) (m:=xs.length) g (Nat.le_refl _) f c;rw[<- c,List.take_length]at this;exact⟨⟨cs,this,d⟩,fun C a=>by simp[ah]at a;subst a;exact⟨i,h⟩⟩
theorem kF {t e:TypeId} {sz g:Nat} (j:P.underlying t=some (.slice e)) (h:vF P e sz g=true)
    (k:∀b a,w.heap.size<=b->b<a.heap.size->Md [] w a->bK a b [] e->wpList P ops Q rest (aN A D ((d,.slice (some ⟨b,0,none⟩) 0 0) :: l)) a) :
    wpList P ops Q (⟨some d,.buildSlice t 0 #[],ty,ps,af,none⟩ :: rest) (aN A D l) w:=by
  refine gI q ?_;obtain⟨i,z,f,n,H,G,m⟩:=oS h;have c:(execOp (aN A D l).eval ⟨some d,.buildSlice t 0 #[],ty,ps,af,none⟩).run P w = .ok (.value<|.slice (some ⟨w.heap.size,0,none⟩) 0 0) (w.alloc<|.cells ([]:List Value).toArray e):=by show Sem.run P (do pure (Next.value<|<- Instr.buildSlice t 0 ((#[]:Array (Nat × Operand)).map fun x=>(x.1,(aN A D l).eval x.2)))) w=_;have C:(Array.map (fun x=>(default:Value))<|Array.range 0) = #[]:=(by simp[Array.range]);simp[Instr.buildSlice,run_underlying j,ew f,Instr.fill,newRow,C]
  unfold Oper.wp;rw[c];exact k _ _ (Nat.le_refl _) Oj (Md.alloc w _)<|bK.new w [] e
theorem Z7 (a:List Value) (m:Nat) (f:0<a.length):(madeCells a.toArray<|m*a.length).toList=(List.replicate m a).flatten:=by
  induction m with
  | zero=>simp[madeCells]
  | succ m ih =>
    rw[List.replicate_succ',List.flatten_append,<- ih];simp only[madeCells,List.flatten_cons,List.flatten_nil,List.append_nil];apply List.ext_getElem
    · simp[Nat.succ_mul]
    · intro b d C
      simp at d C
      by_cases hj:b<m*a.length
      · rw[List.getElem_append_left (by simpa using hj)];simp
      · rw[List.getElem_append_right (by simpa using hj)]
        simp only[Array.toList_map,Array.toList_range,List.getElem_map,List.getElem_range,List.length_map,List.length_range];have e:b%a.length=b-m*a.length:=(by rw[show b=(b-m*a.length)+m*a.length by omega,Nat.add_mul_mod_self_right,Nat.add_sub_cancel];exact Nat.mod_eq_of_lt Xx);have c:b-m*a.length<a.length:=(by omega);simp[e,c]
theorem ab1 {a:List Value} {z:α} (m:Nat) (h:∀w R,T.nN w R a z):qi T w R (List.replicate m a).flatten (List.replicate m z):=by
  induction m with
  | zero=>rfl
  | succ m ih=>exact⟨a,_,by simp[List.replicate_succ],h _ _,ih⟩
theorem tG {x:Operand} {t e:TypeId} {sz u m:Nat} {j:IntKind} {lo:Nat->Prop} {z:α} {zs:List Value} (J:T.n=sz) (K:P.underlying t=some (.slice e)) (I:vF P e sz u=true) (h:dX P e=some zs) (L:ev n l x=some (.int j (m:Int)))
    (hrep:∀w R,T.nN w R zs z) (uR:Up w R) (hlo:∀b,w.heap.size<=b->lo b) (hm:m<=9223372036854775807/\m*u<=140737488355328)
    (k:∀o c g,(∀b,R b->b<w.heap.size->g b)->(∀b,g b->R b)->Up c g->Ow T e lo c g o (List.replicate m z)->Md [] w c->(∀b,ah o=some b->w.heap.size<=b)->wpList P ops Q rest (aN A D ((d,o) :: l)) c) :
    wpList P ops Q (⟨some d,.makeSlice t x x,ty,ps,af,none⟩ :: rest) (aN A D l) w:=by
  subst J;refine gI q ?_;obtain⟨i,s,p,G,F,a,V⟩:=oS I;have y:s.cells=zs.toArray:=by unfold dX at h;simp only[p,G,Option.some.injEq]at h;rw[<- h]
  have H:zs.length=T.n:=T.len<|hrep w R;obtain⟨c,E,r,f⟩:=run_make_full (P:=P) w 0 t e i s T.n K p G F j j m (by rw[a];have:=hm.2;rw[Nat.mul_comm]at this;omega) (by simp only[maxLen];exact hm.1)<|Nat.zero_le _;have v:(execOp (aN A D l).eval ⟨some d,.makeSlice t x x,ty,ps,af,none⟩).run P w = .ok (.value<|.slice (some ⟨w.heap.size,0,none⟩) m m) c:=by simp[execOp,bM L,E]
  unfold Oper.wp;rw[v];have C:Own c e T.n (.slice (some ⟨w.heap.size,0,none⟩) m m) (List.replicate m z).length (List.replicate m zs).flatten:=by rw[y,<- H,Z7 zs m (by rw[H];exact T.pos)]at r;rw[<- H];simpa [Own]using r
  have N:w.heap.size<c.heap.size:=Own.lt C _ q;have M:w.heap.size<=c.heap.size:=f.size;refine k _ _ (fun b=>R b/\b≠w.heap.size) (fun b a H=>⟨a,by omega⟩) (fun b a=>a.1) (fun b a=>⟨uR b Xx,by omega⟩) ⟨⟨_,C,ab1 m hrep⟩,fun b a=>?_⟩ ⟨f.os,f.tape,f.output,f.size,fun k hk _=>f.block k hk Oj⟩<|fun b a=>?_
  · simp[ah]at a;subst a;exact⟨hlo _<|Nat.le_refl _,fun B=>B.2 q⟩
  have O:w.heap.size=b:=by simpa [ah]using a
  omega
theorem ais {x y:Operand} {t e:TypeId} {sz M m c:Nat} {lo:Nat->Prop} {p:Addr} {u:Value} {xs ys:List α} (ae:T.n=sz) (ag:P.underlying t=some (.slice e)) (ab:vF P e sz M=true) (ai:ev n l x=some (.slice (some p) m c)) (aj:ev n l y=some u)
    (hX:Ls T w R (.slice (some p) m c) xs) (hY:Ls T w R u ys) (uR:Up w R) (hlo:∀b,w.heap.size<=b->lo b) (hm:xs.length=m) (hg:c<m+ys.length) (h63:xs.length+ys.length<=9223372036854775807) (hbytes:(xs.length+ys.length)*M<=140737488355328)
    (k:∀J F E,(∀b,R b->b<w.heap.size->E b)->(∀b,E b->R b)->Up F E->Ow T e lo F E J (xs ++ ys)->Md [] w F->(∀b,ah J=some b->w.heap.size<=b)->wpList P ops Q rest (aN A D ((d,J) :: l)) F) :
    wpList P ops Q (⟨some d,.call {callee:=.builtin .append,args:=#[x,y],argTypes:=#[t,t]},ty,ps,af,none⟩ :: rest) (aN A D l) w:=by
  subst ae;subst hm;refine gI rfl ?_;obtain⟨i,z,g,ak,V,a,X⟩:=oS ab;obtain⟨o,al,j,K,an,ao,ap,aq,Z,B⟩:=hX;simp only[Value.slice.injEq]at K;obtain⟨rfl,_,rfl⟩:=K;obtain⟨L,O,G,rfl,r,v,W,am,Y,s⟩:=hY;have aa:∃q,L=some q:=by
    cases L with
    | none=>have:=W rfl;omega
    | some q=>exact⟨q,rfl⟩
  obtain⟨q,rfl⟩:=aa;have h:=run_append_grow (P:=P) w t ty e i z ag g ak p xs.length c j (by rw[V];exact B.len) (Z p rfl) q ys.length O G (by rw[V];exact s.len) (Y q rfl) hg Xx (by rw[a];exact growslice_fits hg hbytes);have U:=grownCap_ge w (xs.length+ys.length) c e;have S:=grownCap_le_maxLen w (xs.length+ys.length) c e (by simp only[maxLen];exact h63);have N:(execOp (aN A D l).eval ⟨some d,.call {callee:=.builtin .append,args:=#[x,y],argTypes:=#[t,t]},ty,ps,af,none⟩).run P w = .ok (.value<|.slice (some ⟨w.heap.size,0,none⟩) (xs.length+ys.length)<|grownCap w (xs.length+ys.length) c e)
        (w.drew.alloc<|.cells (j.toArray ++ G.toArray ++ Builtin.zeroCells z.cells (grownCap w (xs.length+ys.length) c e-(xs.length+ys.length))) e):=by
    simp[execOp,resolve,invoke,builtin,bM ai,bM aj,h]
  unfold Oper.wp;rw[N];have C:(j ++ G).length=(xs.length+ys.length)*T.n:=by rw[List.length_append,B.len,s.len,Nat.add_mul]
  have H:Md [] w (w.drew.alloc<|.cells (j.toArray ++ G.toArray ++ Builtin.zeroCells z.cells (grownCap w (xs.length+ys.length) c e-(xs.length+ys.length))) e):=⟨rfl,rfl,rfl,by simp,fun k hk _=>heap_alloc_old w.drew _ hk⟩;have I:∀b,R b->b<w.heap.size->(R b/\b≠w.heap.size):=fun b a hl=>⟨a,by omega⟩;refine k _ _ (fun b=>R b/\b≠w.heap.size) I (fun b a=>a.1) (fun b a=>?_) ⟨⟨j ++ G,⟨by simpa using C,.inr ⟨w.heap.size,_,_,by simp,Nat.zero_le _,heap_alloc_new w.drew _,by simpa using U,S,?_,?_⟩⟩,?_⟩,fun b a=>?_⟩ H<|fun b a=>?_
  · have ad:w.heap.size+1<=b:=by simpa using a
    exact⟨uR b Xx,by omega⟩
  · simp only[Array.size_append,List.size_toArray,size_zeroCells,X,B.len,s.len,<- Nat.add_mul]
    congr 1;omega
  · simp only[Array.toList_append,List.append_assoc]
    rw[<- List.append_assoc];have:(xs ++ ys).length*T.n=(j ++ G).length:=(by rw[C];simp);rw[this];exact List.take_left
  · exact((B.sub I).append<|s.sub I).md H Oj
  · simp[ah]at a;subst a;exact⟨hlo _<|Nat.le_refl _,fun f=>f.2 rfl⟩
  have ad:w.heap.size=b:=by simpa [ah]using a
  omega
theorem Ls.vQ {d:Type} {f:d->Value} {h1:∀x,(f x).oneCell'=true} {ok:d->Prop} {b o m:Nat} {cs:List Value} {ty':TypeId} {xs:List d} (g:bK w b cs ty') (h:R b) (j:xs.length=m) (e:m<=maxLen) (i:(cs.drop o).take m=xs.map f) (k:∀x∈xs,ok x):Ls (qg f h1 ok) w R (.slice (some ⟨b,o,none⟩) m m) xs:=by
  subst j;refine⟨_,_,xs.map f,q,Nat.le_refl _,e,by simp,fun p c _=>by cases c;exact h,fun p c l n a=>?_,uc k⟩;cases c;rw[Addr.jj,g.cell];rw[<- i,List.getElem?_take]at a;split at a
  · rw[List.getElem?_drop]at a;exact a
  cases a
end
section
variable {P:Program} {Q:Exit->Act->World->Prop} {n:Nat} {A:Fr n} {D:List Deferred} {l:List (Nat × Value)} {w:World}
def agv {X0:Type} (n:Nat) (D:List Deferred) (inv:X0->List (Nat × Value)) (W:X0->World->Prop) (mu:X0->Nat) (m:Nat) (a:Act) (w:World):Prop :=
  ∃y0:X0,∃B:Fr n,a=aN B D (inv y0)/\W y0 w/\mu y0<m
theorem vm {a:Type} {c:Code} (inv:a->List (Nat × Value)) (W:a->World->Prop) (e:a->Nat) (x0:a) (j:Fits n l (inv x0)) (k:W x0 w)
    (round:∀(x0:a) (d:Fr n) (b:World),W x0 b->c.wp P (Exit.then (agv n D inv W e<|e x0) Q) (aN d D<|inv x0) b) :
    (Code.loop c).wp P Q (aN A D l) w:=by
  refine jv (X:=a) (fun p=>inv p) (fun p w=>W p w) (fun p=>e p) x0 j k<|fun p d b h=>wp_mono (round p d b h) ?_;intro i m o h;cases i with
  | normal=>obtain⟨H,C,f,g,G⟩:=h;exact⟨H,C,f,g,G⟩
  | _=>exact h
theorem sZ {a:Type} {inv:a->List (Nat × Value)} {W:a->World->Prop} {b:a->Nat} {m:Nat} (x0:a) (c:b x0<m) (hf:Fits n l (inv x0)) (d:W x0 w) :
    agv n D inv W b m (aN A D l) w:=⟨x0,_,(ec (A:=A) (D:=D) hf).symm,d,c⟩
def agw {X0 X1:Type} (n:Nat) (D:List Deferred) (inv:X0->X1->List (Nat × Value)) (W:X0->X1->World->Prop) (mu:X0->X1->Nat) (m:Nat) (a:Act) (w:World):Prop :=
  ∃y0:X0,∃y1:X1,∃B:Fr n,a=aN B D (inv y0 y1)/\W y0 y1 w/\mu y0 y1<m
theorem wV {a b:Type} {c:Code} (inv:a->b->List (Nat × Value)) (W:a->b->World->Prop) (f:a->b->Nat) (x0:a) (x1:b) (m:Fits n l (inv x0 x1)) (o:W x0 x1 w)
    (round:∀(x0:a) (x1:b) (e:Fr n) (d:World),W x0 x1 d->c.wp P (Exit.then (agw n D inv W f<|f x0 x1) Q) (aN e D<|inv x0 x1) d) :
    (Code.loop c).wp P Q (aN A D l) w:=by
  refine jv (X:=a × b) (fun p=>inv p.1 p.2) (fun p w=>W p.1 p.2 w) (fun p=>f p.1 p.2) (x0,x1) m o<|fun p e d h=>wp_mono (round (p.1) (p.2) e d h) ?_;intro k q r h;cases k with
  | normal=>obtain⟨H,j,C,g,i,G⟩:=h;exact⟨(H,j),C,g,i,G⟩
  | _=>exact h
theorem tc {a b:Type} {inv:a->b->List (Nat × Value)} {W:a->b->World->Prop} {c:a->b->Nat} {m:Nat} (x0:a) (x1:b) (d:c x0 x1<m) (hf:Fits n l (inv x0 x1)) (e:W x0 x1 w) :
    agw n D inv W c m (aN A D l) w:=⟨x0,x1,_,(ec (A:=A) (D:=D) hf).symm,e,d⟩
def agx {X0 X1 X2:Type} (n:Nat) (D:List Deferred) (inv:X0->X1->X2->List (Nat × Value)) (W:X0->X1->X2->World->Prop) (mu:X0->X1->X2->Nat) (m:Nat) (a:Act) (w:World):Prop :=
  ∃y0:X0,∃y1:X1,∃y2:X2,∃B:Fr n,a=aN B D (inv y0 y1 y2)/\W y0 y1 y2 w/\mu y0 y1 y2<m
theorem kV {a b d:Type} {c:Code} (inv:a->b->d->List (Nat × Value)) (W:a->b->d->World->Prop) (g:a->b->d->Nat) (x0:a) (x1:b) (x2:d) (q:Fits n l (inv x0 x1 x2)) (r:W x0 x1 x2 w)
    (round:∀(x0:a) (x1:b) (x2:d) (f:Fr n) (e:World),W x0 x1 x2 e->c.wp P (Exit.then (agx n D inv W g<|g x0 x1 x2) Q) (aN f D<|inv x0 x1 x2) e) :
    (Code.loop c).wp P Q (aN A D l) w:=by
  refine jv (X:=a × b × d) (fun p=>inv p.1 p.2.1 p.2.2) (fun p w=>W p.1 p.2.1 p.2.2 w) (fun p=>g p.1 p.2.1 p.2.2) (x0,x1,x2) q r<|fun p f e h=>wp_mono (round (p.1) (p.2.1) (p.2.2) f e h) ?_;intro o s t h;cases o with
  | normal=>obtain⟨H,k,m,C,i,j,G⟩:=h;exact⟨(H,k,m),C,i,j,G⟩
  | _=>exact h
theorem iW {a b c:Type} {inv:a->b->c->List (Nat × Value)} {W:a->b->c->World->Prop} {d:a->b->c->Nat} {m:Nat} (x0:a) (x1:b) (x2:c) (e:d x0 x1 x2<m) (hf:Fits n l (inv x0 x1 x2)) (f:W x0 x1 x2 w) :
    agx n D inv W d m (aN A D l) w:=⟨x0,x1,x2,_,(ec (A:=A) (D:=D) hf).symm,f,e⟩
def agy {X0 X1 X2 X3:Type} (n:Nat) (D:List Deferred) (inv:X0->X1->X2->X3->List (Nat × Value)) (W:X0->X1->X2->X3->World->Prop) (mu:X0->X1->X2->X3->Nat) (m:Nat) (a:Act) (w:World):Prop :=
  ∃y0:X0,∃y1:X1,∃y2:X2,∃y3:X3,∃B:Fr n,a=aN B D (inv y0 y1 y2 y3)/\W y0 y1 y2 y3 w/\mu y0 y1 y2 y3<m
theorem ajP {b d e f:Type} {c:Code} (inv:b->d->e->f->List (Nat × Value)) (W:b->d->e->f->World->Prop) (j:b->d->e->f->Nat) (x0:b) (x1:d) (x2:e) (a:f) (t:Fits n l (inv x0 x1 x2 a)) (u:W x0 x1 x2 a w)
    (round:∀(x0:b) (x1:d) (x2:e) (a:f) (i:Fr n) (g:World),W x0 x1 x2 a g->c.wp P (Exit.then (agy n D inv W j<|j x0 x1 x2 a) Q) (aN i D<|inv x0 x1 x2 a) g) :
    (Code.loop c).wp P Q (aN A D l) w:=by
  refine jv (X:=b × d × e × f) (fun p=>inv p.1 p.2.1 p.2.2.1 p.2.2.2) (fun p w=>W p.1 p.2.1 p.2.2.1 p.2.2.2 w) (fun p=>j p.1 p.2.1 p.2.2.1 p.2.2.2) (x0,x1,x2,a) t u<|fun p i g h=>wp_mono (round (p.1) (p.2.1) (p.2.2.1) (p.2.2.2) i g h) ?_;intro s v x h;cases s with
  | normal=>obtain⟨H,o,q,r,C,k,m,G⟩:=h;exact⟨(H,o,q,r),C,k,m,G⟩
  | _=>exact h
theorem ajV {a b c d:Type} {inv:a->b->c->d->List (Nat × Value)} {W:a->b->c->d->World->Prop} {f:a->b->c->d->Nat} {m:Nat} (x0:a) (x1:b) (x2:c) (e:d) (g:f x0 x1 x2 e<m) (hf:Fits n l (inv x0 x1 x2 e)) (h:W x0 x1 x2 e w) :
    agy n D inv W f m (aN A D l) w:=⟨x0,x1,x2,e,_,(ec (A:=A) (D:=D) hf).symm,h,g⟩
def agz {X0 X1 X2 X3 X4:Type} (n:Nat) (D:List Deferred) (inv:X0->X1->X2->X3->X4->List (Nat × Value)) (W:X0->X1->X2->X3->X4->World->Prop) (mu:X0->X1->X2->X3->X4->Nat) (m:Nat) (a:Act) (w:World):Prop :=
  ∃y0:X0,∃y1:X1,∃y2:X2,∃y3:X3,∃y4:X4,∃B:Fr n,a=aN B D (inv y0 y1 y2 y3 y4)/\W y0 y1 y2 y3 y4 w/\mu y0 y1 y2 y3 y4<m
theorem agP {d e f g i:Type} {c:Code} (inv:d->e->f->g->i->List (Nat × Value)) (W:d->e->f->g->i->World->Prop) (m:d->e->f->g->i->Nat) (x0:d) (x1:e) (x2:f) (a:g) (b:i) (x:Fits n l (inv x0 x1 x2 a b)) (y:W x0 x1 x2 a b w)
    (round:∀(x0:d) (x1:e) (x2:f) (a:g) (b:i) (k:Fr n) (j:World),W x0 x1 x2 a b j->c.wp P (Exit.then (agz n D inv W m<|m x0 x1 x2 a b) Q) (aN k D<|inv x0 x1 x2 a b) j) :
    (Code.loop c).wp P Q (aN A D l) w:=by
  refine jv (X:=d × e × f × g × i) (fun p=>inv p.1 p.2.1 p.2.2.1 p.2.2.2.1 p.2.2.2.2) (fun p w=>W p.1 p.2.1 p.2.2.1 p.2.2.2.1 p.2.2.2.2 w) (fun p=>m p.1 p.2.1 p.2.2.1 p.2.2.2.1 p.2.2.2.2) (x0,x1,x2,a,b) x y<|fun p k j h=>wp_mono (round (p.1) (p.2.1) (p.2.2.1) (p.2.2.2.1) (p.2.2.2.2) k j h) ?_;intro v z B h;cases v with
  | normal=>obtain⟨H,r,s,t,u,C,o,q,G⟩:=h;exact⟨(H,r,s,t,u),C,o,q,G⟩
  | _=>exact h
theorem agS {a b c d e:Type} {inv:a->b->c->d->e->List (Nat × Value)} {W:a->b->c->d->e->World->Prop} {h:a->b->c->d->e->Nat} {m:Nat} (x0:a) (x1:b) (x2:c) (f:d) (g:e) (i:h x0 x1 x2 f g<m) (hf:Fits n l (inv x0 x1 x2 f g)) (j:W x0 x1 x2 f g w) :
    agz n D inv W h m (aN A D l) w:=⟨x0,x1,x2,f,g,_,(ec (A:=A) (D:=D) hf).symm,j,i⟩
def ag0 {X0 X1 X2 X3 X4 X5:Type} (n:Nat) (D:List Deferred) (inv:X0->X1->X2->X3->X4->X5->List (Nat × Value)) (W:X0->X1->X2->X3->X4->X5->World->Prop) (mu:X0->X1->X2->X3->X4->X5->Nat) (m:Nat) (a:Act) (w:World):Prop :=
  ∃y0:X0,∃y1:X1,∃y2:X2,∃y3:X3,∃y4:X4,∃y5:X5,∃B:Fr n,a=aN B D (inv y0 y1 y2 y3 y4 y5)/\W y0 y1 y2 y3 y4 y5 w/\mu y0 y1 y2 y3 y4 y5<m
theorem ajQ {e f g i j k:Type} {c:Code} (inv:e->f->g->i->j->k->List (Nat × Value)) (W:e->f->g->i->j->k->World->Prop) (q:e->f->g->i->j->k->Nat) (x0:e) (x1:f) (x2:g) (a:i) (b:j) (d:k) (B:Fits n l (inv x0 x1 x2 a b d)) (E:W x0 x1 x2 a b d w)
    (round:∀(x0:e) (x1:f) (x2:g) (a:i) (b:j) (d:k) (o:Fr n) (m:World),W x0 x1 x2 a b d m->c.wp P (Exit.then (ag0 n D inv W q<|q x0 x1 x2 a b d) Q) (aN o D<|inv x0 x1 x2 a b d) m) :
    (Code.loop c).wp P Q (aN A D l) w:=by
  refine jv (X:=e × f × g × i × j × k) (fun p=>inv p.1 p.2.1 p.2.2.1 p.2.2.2.1 p.2.2.2.2.1 p.2.2.2.2.2) (fun p w=>W p.1 p.2.1 p.2.2.1 p.2.2.2.1 p.2.2.2.2.1 p.2.2.2.2.2 w) (fun p=>q p.1 p.2.1 p.2.2.1 p.2.2.2.1 p.2.2.2.2.1 p.2.2.2.2.2) (x0,x1,x2,a,b,d) B E<|fun p o m h=>wp_mono (round (p.1) (p.2.1) (p.2.2.1) (p.2.2.2.1) (p.2.2.2.2.1) (p.2.2.2.2.2) o m h) ?_;intro z F I h;cases z with
  | normal=>obtain⟨H,t,u,v,x,y,C,r,s,G⟩:=h;exact⟨(H,t,u,v,x,y),C,r,s,G⟩
  | _=>exact h
theorem ajW {a b c d e f:Type} {inv:a->b->c->d->e->f->List (Nat × Value)} {W:a->b->c->d->e->f->World->Prop} {j:a->b->c->d->e->f->Nat} {m:Nat} (x0:a) (x1:b) (x2:c) (g:d) (h:e) (i:f) (k:j x0 x1 x2 g h i<m) (hf:Fits n l (inv x0 x1 x2 g h i)) (o:W x0 x1 x2 g h i w) :
    ag0 n D inv W j m (aN A D l) w:=⟨x0,x1,x2,g,h,i,_,(ec (A:=A) (D:=D) hf).symm,o,k⟩
def vf (P:Program) (w:World) (n:Nat) (l:List (Nat × Value)):List ResultVar->List Value->Prop
  | [],[]=>True
  | .tmp t :: r,v :: vs=>ev n l (.tmp t)=some v/\vf P w n l r vs
  | .cell t ty :: r,v :: vs=>(∃p,ev n l (.tmp t)=some (.pointer<|some p)/\(loadVar ty p).run P w = .ok v w)/\vf P w n l r vs
  | _,_=>False
theorem zL {e:Func} {b:List ResultVar} {vs:List Value} (i:e.results=b.toArray) (h:vf P w n l b vs) :
    (results e (aN A D l).tmps).run P w = .ok (if h:vs.length=1 then vs[0]else .tuple vs.toArray) w:=by
  have f:∀(b:List ResultVar) (vs:List Value),vf P w n l b vs->(b.mapM (fun x:ResultVar=>(match x with
      | .tmp t=>pure ((aN A D l).tmps.getD t undef)
      | .cell a t=>do loadVar t (<- asAddr ((aN A D l).tmps.getD a undef)):Sem Value))).run P w = .ok vs w:=by
    intro b
    induction b with
    | nil=>intro vs h;cases vs with
      | nil=>simp
      | cons v vs=>simp[vf]at h
    | cons r b ih =>
      intro vs h;cases vs with
      | nil=>cases r <;> simp[vf]at h
      | cons v vs =>
        cases r with
        | tmp t =>
          obtain⟨c,C⟩:=h;have d:=uw (A:=A) (D:=D) c;simp only[List.mapM_cons,Sem.run_bind,Sem.run_pure,Result.andThen_ok,ih vs C,d]
        | cell t ty =>
          obtain⟨⟨p,c,H⟩,C⟩:=h;have d:=uw (A:=A) (D:=D) c;have g:(asAddr<|.pointer<|some p).run P w = .ok p w:=(by simp[asAddr]);simp only[List.mapM_cons,Sem.run_bind,Sem.run_pure,Result.andThen_ok,ih vs C,d,g,H]
  have:=f b vs h;unfold results;rw[i];simp only[List.mapM_toArray,Sem.run_bind,Sem.run_map];rw[show(fun x:ResultVar=>(match x with
      | .tmp t=>pure ((aN A D l).tmps.getD t undef)
      | .cell a t=>do loadVar t (<- asAddr ((aN A D l).tmps.getD a undef)):Sem Value))=_ from rfl]at this
  refine Eq.trans (congrArg (fun r:Result (List Value)=>(r.andThen fun a G=>Result.ok a.toArray G).andThen fun a G=>Sem.run P (pure (if h:a.size=1 then a[0]else Value.tuple a)) G) this) ?_;simp
theorem kM {a:Func} {R:Ending->World->Prop} {e:Exit} {b:List ResultVar} {vs:List Value} (d:vl e) (g:a.results=b.toArray) (h:vf P w n l b vs) (hl:Nat.beq vs.length 1=false) (c:R (.returned<|.tuple vs.toArray) w):bodyPost P a R e (aN A [] l) w :=
  bp d kg (zL (A:=A) (D:=[]) g h) (by rw[dif_neg (by intro f;rw[f]at hl;cases hl)];exact c)
theorem kY {a:Func} {R:Ending->World->Prop} {e:Exit} {b:List ResultVar} {v:Value} (d:vl e) (f:a.results=b.toArray) (h:vf P w n l b [v]) (c:R (.returned v) w):bodyPost P a R e (aN A [] l) w :=
  bp d kg (zL (A:=A) (D:=[]) f h) c
theorem oW {t ty':TypeId} {b:Nat} {cs:List Value} (c:gH P t cs.length=true) (a:bK w b cs ty'):(loadVar t ⟨b,0,none⟩).run P w = .ok (.agg cs.toArray) w:=sd c a
end
end Go.Wk
namespace Go.Wk
open Go Go.RowKit Go.ChangeShapes Go.WideShapes Go.ChangeAt Go.Deep
section
variable {H:Type} {enc:TypeId × Value->H} {P:Program} {w:World} {t e:TypeId} {v:Value} {d:DataW H} {ps:List MemPlace}
theorem abd {z:Int} (h:(Lit.int .u8 z).wf=true):Value.int .u8 z=b8 (UInt8.ofNat z.toNat):=by simp[Lit.wf,IntKind.min,IntKind.max,IntKind.signed,IntKind.bits]at h;unfold b8;congr 1;simp;omega
theorem sK {c:Type} (p:Nat->c->Prop):∀n,(∀i,i<n->∃a,p i a)->∃l:List c,l.length=n/\∀i a,l[i]? = some a->p i a
  | 0,_=>⟨[],q,by simp⟩
  | n+1,h=>by
    obtain⟨l,hl,f⟩:=sK p n<|fun i hi=>h i Xx;obtain⟨a,e⟩:=h n Xx;refine⟨l ++ [a],by simp[hl],fun i b hb=>?_⟩
    by_cases hi:i<n
    · rw[List.getElem?_append_left Xx]at hb;exact f i b hb
    · have d:=(List.getElem?_eq_some_iff.1 hb).1
      simp at d;have:i=n:=(by omega);subst this;rw[List.getElem?_append_right Xx,hl,Nat.sub_self]at hb;simp at hb;subst hb;exact e
def Rows (w:World) (v:Value) (vs:List Value) (ls:List (List UInt8)):Prop:=Sl w v vs/\vs.length=ls.length/\∀(i:Nat) (u:Value) (l:Ly),vs[i]? = some u->ls[i]? = some l->By w u l
end
end Go.Wk
namespace Go.Wk
open Go Go.RowKit
section
variable {P:Program} {ops:Array Oper} {md:Region.Mode} {C:World->Prop} {Q:Exit->Act->World->Prop} {E:Array Bool->Act->World->Prop}
def wm (P:Program) (md:Region.Mode) (ops:Array Oper) (C:World->Prop) (E:Array Bool->Act->World->Prop):Nat->Array Bool->Act->World->Prop
  | 0,listed,a,w=>E listed a w
  | f+1,listed,a,w=>Region.ready md ops listed≠[]/\∀i∈Region.ready md ops listed,opC P ops C i (wm P md ops C E f<|listed.setIfInBounds i true) a w
theorem rQ {t:Nat} (c:∀listed a w,E listed a w->wpAny P md ops Q t listed a w):∀(f:Nat) (listed:Array Bool) (a:Act) (w:World),wm P md ops C E f listed a w->wpAny P md ops Q (f+t) listed a w
  | 0,listed,a,w,h=>by rw[Nat.zero_add];exact c _ _ _ h
  | f+1,listed,a,w,h=>by
    rw[show f+1+t=(f+t)+1 by omega];refine⟨fun e=>absurd e h.1,fun i hi=>?_⟩;have b:=h.2 i hi;unfold opC at b;unfold wpOp;split
    · rename_i ho;rw[ho]at b;exact rQ c f _ a w b
    · rename_i o ho
      rw[ho]at b;simp only at b;split
      · rename_i hw;rw[if_pos hw]at b;exact .inl<|UK (fun d j g=>rQ c f _ d j g.2) b
      · rename_i hw;rw[if_neg hw]at b;exact rQ c f _ _ w b
def Closed (md:Region.Mode) (ops:Array Oper) (listed:Array Bool):Prop:=∀k ok,ops[k]? = some ok->listed.getD k false=true->∀e∈ok.after,Region.binds md e=true->listed.getD e.on false=true
theorem Closed.set {listed:Array Bool} {i:Nat} (h:Closed md ops listed) (hi:i∈Region.ready md ops listed):Closed md ops (listed.setIfInBounds i true):=by
  intro k I hk G e F E;have B:listed.getD e.on false=true->(listed.setIfInBounds i true).getD e.on false=true:=fun D=>by
    by_cases hei:e.on=i
    · rw[hei]at D ⊢
      rcases Nat.lt_or_ge i listed.size with C|C
      · simp[C]
      · simp[Array.getElem?_eq_none C]at D
    · rw[getD_set_ne false (Ne.symm hei)];exact D
  by_cases hki:k=i
  · subst hki
    obtain⟨_,o,H,A⟩:=mem_ready.1 hi;rw[hk]at H;cases H;exact B<|A e F E
  rw[getD_set_ne false (Ne.symm hki)]at G;exact B<|h k I hk G e F E
def vX (md:Region.Mode) (ops:Array Oper) (i:Nat):Nat->Nat->Bool
  | 0,_=>false
  | f+1,j=>match ops[j]? with
    | some o=>o.after.any fun e=>Region.binds md e && (Nat.beq e.on i || vX md ops i f e.on)
    | none=>false
theorem FA {i:Nat} {listed:Array Bool} (e:Closed md ops listed):∀(f j:Nat) (a:Oper),ops[j]? = some a->vX md ops i f j=true->(∀c∈a.after,Region.binds md c=true->listed.getD c.on false=true)->listed.getD i false=true
  | 0,j,a,_,h,_=>by simp[vX]at h
  | f+1,j,a,hj,h,hall=>by
    simp only[vX,hj,Array.any_eq_true,Bool.and_eq_true,Bool.or_eq_true]at h;obtain⟨k,hk,hb,b⟩:=h;have g:a.after[k]∈a.after:=Array.getElem_mem hk;have d:=hall _ g hb
    rcases b with b|b
    · rw[<- Nat.eq_of_beq_eq_true b];exact d
    · cases ho:ops[a.after[k].on]? with
      | none=>cases f<;>simp[vX,ho]at b
      | some ok=>exact FA e f _ ok ho b<|e _ ok ho d
def Behind (md:Region.Mode) (ops:Array Oper) (tl:List Nat) (i:Nat):Prop:=∀j∈tl,vX md ops i ops.size j=true
theorem xU {tl:List Nat} {i:Nat} {r:Oper} {v:Value} (hi:ops[i]? = some r) (F:∀(j:Nat) (o:Oper) t b,ops[j]? = some o->o.op≠.select t b)
    (hT:Behind md ops tl i) (hE:∀listed a w,E listed a w->∀j∈Region.ready md ops listed,j∈tl) :
    ∀(f:Nat) (listed:Array Bool) (a:Act) (w:World),
      (∀j n,ops[j]? = some n->j≠i->listed.getD j true=false->(∀m∈n.after,Region.binds md m=true->m.on≠i)->r.apart ops n=true) ->
      Closed md ops listed->i∈Region.ready md ops listed->C w->Qv P ops C r v a ->
      wm P md ops C E f (listed.setIfInBounds i true) (a.put r.dst v) w->wm P md ops C E (f+1) listed a w:=by
  intro f
  induction f with
  | zero =>
    intro listed a w _ y p u T H;refine⟨fun h=>(by rw[h]at p;cases p),fun j q=>?_⟩
    by_cases hji:j=i
    · subst hji;exact T.opC hi u H
    · have z:=hE _ _ _ H j<|ready_mono q hji
      obtain⟨_,n,D,x⟩:=mem_ready.1 q;have e:=FA y _ j n D (hT j z) x;have s:=(mem_ready.1 p).1;exfalso
      rcases Nat.lt_or_ge i listed.size with J|J
      · simp[J]at s e;rw[s]at e;cases e
      · simp[Array.getElem?_eq_none J]at e
  | succ f ih =>
    intro listed a w A y p u T H;refine⟨fun h=>(by rw[h]at p;cases p),fun j q=>?_⟩
    by_cases hji:j=i
    · subst hji;exact T.opC hi u H
    · have z:=H.2 j<|ready_mono q hji
      obtain⟨G,n,D,x⟩:=mem_ready.1 q;have I:∀m∈n.after,Region.binds md m=true->m.on≠i:=fun m g W K=>by
        have e:=x m g W;have s:=(mem_ready.1 p).1;rw[K]at e
        rcases Nat.lt_or_ge i listed.size with J|J
        · simp[J]at s e;rw[s]at e;cases e
        · simp[Array.getElem?_eq_none J]at e
      have B:=A j n D hji G I;obtain⟨_,_,c⟩:=Oper.apart_spec B;have N:∀k R,ops[k]? = some R->k≠i->(listed.setIfInBounds j true).getD k true=false ->
          (∀m∈R.after,Region.binds md m=true->m.on≠i)->r.apart ops R=true:=fun k R hk L Q M=>by
        refine A k R hk L ?_ M
        by_cases hjk:j=k
        · subst hjk;exact G
        · rw[getD_set_ne true hjk]at Q;exact Q
      refine WU D B (fun t b=>F j n t b D) (fun b O l W V d=>?_) u z;refine ih (listed.setIfInBounds j true) _ l N (y.set q) (ready_mono p<|Ne.symm hji) V ((T.same W).keep (fun t b=>F i r t b hi) c) ?_;rw[Array.setIfInBounds_comm _ _ hji];exact d
theorem pV {d:World->Prop} (c:∀x,d x->C x):∀(f:Nat) (listed:Array Bool) (a:Act) (w:World),wm P md ops d E f listed a w->wm P md ops C E f listed a w
  | 0,_,_,_,h=>h
  | f+1,listed,a,w,h=>⟨h.1,fun i hi=>by
      have b:=h.2 i hi;unfold opC at *;split
      · rename_i ho;rw[ho]at b;exact pV c f _ a w b
      · rename_i o ho
        rw[ho]at b;simp only at b;split
        · rename_i hw;rw[if_pos hw]at b;exact uU (fun g j e=>⟨c _ e.1,pV c f _ g j e.2⟩) b
        · rename_i hw;rw[if_neg hw]at b;exact pV c f _ _ w b⟩
def UY (md:Region.Mode) (ops:Array Oper) (tl:List Nat) (i:Nat):Bool:=tl.all fun j=>vX md ops i ops.size j
theorem KJ {tl:List Nat} {i:Nat} (h:UY md ops tl i=true):Behind md ops tl i:=fun b a=>List.all_eq_true.1 h b a
def chainB (md:Region.Mode) (ops:Array Oper):List Nat->Array Bool->Bool
  | [],listed=>(Region.ready md ops listed).isEmpty
  | j :: r,listed=>(ops[j]?).isSome && decide (Region.ready md ops listed=[j]) && chainB md ops r (listed.setIfInBounds j true)
def oD (l:List Oper):List Nat->List Oper
  | []=>[]
  | j :: r=>match l[j]? with
    | some o=>o :: oD l r
    | none=>oD l r
theorem yc:∀(tl:List Nat) (listed:Array Bool) (a:Act) (w:World),chainB md ops tl listed=true->wpList P ops Q (oD ops.toList tl) a w->wpAny P md ops Q tl.length listed a w
 | [],listed,a,w,hB,h=>⟨by simpa [chainB]using hB,h⟩
 | j :: r,listed,a,w,hB,h=>by
  simp only[chainB,Bool.and_eq_true,decide_eq_true_eq]at hB;obtain⟨⟨l,c⟩,d⟩:=hB;obtain⟨o,e⟩:=Option.isSome_iff_exists.1 l;have m:ops.toList[j]? = some o:=by simpa using e
  simp only[oD,m]at h;refine⟨fun b=>(by rw[c]at b;cases b),fun i C=>?_⟩;rw[c]at C;have f:i=j:=by simpa using C
  subst f;unfold wpOp;unfold wpList at h;simp only[e];split at h
  ·rename_i hw;rw[if_pos hw];exact h.imp (fun g=>Oper.wp_mono (fun D G k=>yc r _ D G d k) g) id
  ·rename_i hw;rw[if_neg hw];exact yc r _ _ w d h
def W8 (md:Region.Mode) (ops:Array Oper) (tl:List Nat):List (Nat × Bool)->Array Bool->Bool
  | [],listed=>chainB md ops tl listed
  | (i,q) :: r,listed=>(ops[i]?).isSome && (if q then(Region.ready md ops listed).contains i && Region.free md ops listed i && UY md ops tl i else decide (Region.ready md ops listed=[i])) && W8 md ops tl r (listed.setIfInBounds i true)
theorem NE {tl:List Nat} {listed:Array Bool} (h:chainB md ops tl listed=true):∀j∈Region.ready md ops listed,j∈tl:=by
  intro j A;cases tl with
  | nil=>simp only[chainB,List.isEmpty_iff]at h;rw[h]at A;cases A
  | cons k r =>
    simp only[chainB,Bool.and_eq_true,decide_eq_true_eq]at h;rw[h.1.2]at A;simp at A;simp[A]
theorem kZ {tl:List Nat} (hs:Region.noSelect ops=true):∀{C:World->Prop} (g:List (Nat × Bool)) (listed:Array Bool) (a:Act) (w:World),Closed md ops listed->C w->W8 md ops tl g listed=true ->
    eF P ops C (fun a w=>wpList P ops Q (oD ops.toList tl) a w) (qa ops.toList g) a w ->
    wm P md ops C (fun listed a w=>chainB md ops tl listed=true/\wpList P ops Q (oD ops.toList tl) a w) g.length listed a w
  | _,[],listed,a,w,_,_,hB,h=>⟨hB,h⟩
  | _,(i,q) :: r,listed,a,w,hcl,hC,hB,h=>by
    simp only[W8,Bool.and_eq_true]at hB;obtain⟨⟨t,b⟩,f⟩:=hB;obtain⟨o,d⟩:=Option.isSome_iff_exists.1 t;have u:ops.toList[i]? = some o:=(by simpa using d);simp only[qa,u]at h;cases q with
    | true =>
      simp only[if_true,Bool.and_eq_true]at b;simp only[eF]at h;have e:i∈Region.ready md ops listed:=(by simpa using b.1.1);have k:=KJ b.2;split at h
      · rename_i hw
        obtain⟨v,s,hk⟩:=h;exact xU d (Region.noSelect_spec hs) k (fun _ _ _ c=>NE c.1) r.length listed a w (Region.free_spec d b.1.2) hcl e hC (.inl ⟨hw,s⟩)<|kZ hs r _ _ _ (hcl.set e) hC f hk
      · rename_i hw
        exact xU d (Region.noSelect_spec hs) k (fun _ _ _ c=>NE c.1) r.length listed a w (Region.free_spec d b.1.2) hcl e hC (.inr ⟨by simpa using hw,rfl⟩) (kZ hs r _ _ _ (hcl.set e) hC f h)
    | false =>
      simp only[Bool.false_eq_true,if_false,decide_eq_true_eq]at b;simp only[eF]at h;refine⟨fun j=>(by rw[b]at j;cases j),fun m G=>?_⟩;rw[b]at G;have D:m=i:=(by simpa using G);subst D;have l:=hcl.set (i:=m) (by rw[b];simp);unfold opC;simp only[d];split at h
      · rename_i hw
        rw[if_pos hw];exact uU (fun y z c=>⟨c.1,by obtain⟨x,H,n,p⟩:=c.2;exact pV n _ _ _ _<|kZ hs r _ _ _ l H f p⟩) h
      · rename_i hw
        rw[if_neg hw];exact kZ hs r _ _ _ l hC f h
def TF (md:Region.Mode) (ops:Array Oper) (ord:List (Nat × Bool)) (tl:List Nat):Bool:=Region.noSelect ops && decide (ord.length+tl.length=ops.size) && W8 md ops tl ord (Array.replicate ops.size false)
theorem iy {id:Nat} {lo:List Oper} {a:Act} {w:World} (c:List (Nat × Bool)) (tl:List Nat) (C:World->Prop) (l:P.follows .mixedOrders=true) (f:TF .any lo.toArray c tl=true)
    (h:∀d,Md [] w d->C d/\eF P lo.toArray C (fun a w=>wpList P lo.toArray Q (oD lo tl) a w) (qa lo c) a d):(Code.region id lo.toArray true).wp P Q a w:=by
  simp only[TF,Bool.and_eq_true,decide_eq_true_eq]at f;obtain⟨⟨G,H⟩,i⟩:=f;obtain⟨j,hk⟩:=h _<|Md.drew w;refine wp_region_any l ?_;have:=kZ (md:=.any) (C:=C) (Q:=Q) (tl:=tl) G c _ a _ (fun k m hk D=>by simp[Array.getD_eq_getD_getElem?,Array.getElem?_replicate]at D;split at D<;>simp at D) j i (by simpa using hk);have g:=rQ (Q:=Q) (t:=tl.length) (E:=fun b a w=>chainB .any lo.toArray tl b=true/\wpList P lo.toArray Q (oD lo.toArray.toList tl) a w) (fun b a w e=>yc tl b a w e.1 e.2) _ _ _ _ this
  rwa [H]at g
end
theorem gF {α:Type} {l:List α} {i:Nat} (h:i<l.length):∃x,l[i]? = some x:=⟨l[i],by simp[h]⟩
theorem BZ (n:Nat):(Value.int .u8 ((n%256:Nat):Int))=b8 (UInt8.ofNat n):=by simp[b8,UInt8.toNat_ofNat']
theorem xG (l:Ly):∀u∈iD l,u.oneCell'=true:=by
  intro u A;simp only[iD,List.mem_cons,List.not_mem_nil,or_false]at A
  rcases A with h|h|h|h|h|h|h|h|h|h|h|h|h|h|h|h <;> (subst h;rfl)
theorem dB {cs:List Value} (h:cs.all (fun u=>u.oneCell')=true):∀u∈cs,u.oneCell'=true:=by simpa using h
def pB:List UInt8:=List.replicate 16 0
theorem fP {α:Type} {l:List α} {i:Nat} {x:α} (h:l[i]? = some x):l.drop i=x :: l.drop (i+1):=by obtain⟨A,B⟩:=List.getElem?_eq_some_iff.1 h;rw[List.drop_eq_getElem_cons A,B]
theorem gN {α:Type} {l:List α} {i:Nat} (h:l.length<=i):l.drop i=[]:=List.drop_eq_nil_of_le h
theorem aex {α:Type} {l:List α} {i:Nat} {x:α} (h:l[i]? = some x):l.take (i+1)=l.take i ++ [x]:=by rw[List.take_add_one,h];rfl
def aX (S:List Nat) (w:World) (b:Nat):Prop:=b∈S\/w.heap.size<=b
theorem aX.new {S S':List Nat} {w a:World} (c:Md S w a):∀b,a.heap.size<=b->aX S' w b:=fun _ hb=>.inr<|lv c.size hb
theorem aX.up {w:World} {Q:Nat->Prop} (u:Up w Q):∀b,aX [] w b->Q b:=fun b hb=>hb.elim (fun h=>by simp at h)<|u b
theorem aX.wid {S:List Nat} {w:World} {b:Nat} (h:aX [] w b):aX S w b:=h.elim (fun h=>by simp at h) .inr
theorem aX.lift {S S':List Nat} {w a:World} (c:Md S w a):∀b,aX [] a b->aX S' w b:=fun _ hb=>hb.elim (fun h=>by simp at h)<|fun h=>.inr<|lv c.size h
theorem bH {x b:Nat} {l:List Nat} (h:x≠b) (k:x∉l):x∉b :: l:=by simp[h,k]
theorem bW {x:Nat} {l m:List Nat} (h:x∉l) (k:x∉m):x∉l ++ m:=by simp[h,k]
theorem bX {P:Nat->Prop} {b:Nat} {l:List Nat} (h:P b) (k:∀i∈l,P i):∀i∈b :: l,P i:=by
  intro i A
  rcases List.mem_cons.1 A with A|A
  · rw[A];exact h
  exact k i A
theorem dx {P:Nat->Prop} {l m:List Nat} (h:∀i∈l,P i) (k:∀i∈m,P i):∀i∈l ++ m,P i:=by intro i A;exact(List.mem_append.1 A).elim (h i)<|k i
theorem all_nil {P:Nat->Prop}:∀i∈([]:List Nat),P i:=by simp
theorem gL {P:Nat->Prop} {v:Value} (h:∀b,ah v=some b->P b):∀i∈(ah v).toList,P i:=by
  intro i A;cases hv:ah v with
  | none=>rw[hv]at A;simp at A
  | some b=>rw[hv]at A;simp at A;subst A;exact h _ hv
def iQ (w w':World) (Q Q':Nat->Prop):Prop:=(∀b,Q b->b<w.heap.size->Q' b)/\(∀b,Q' b->Q b)/\Up w' Q'
section
variable {α β:Type} {T:Dt α} {U:Dt β} {w w':World} {Q Q':Nat->Prop} {v:Value} {xs:List α}
theorem Ls.head {hi:Nat} (h:Ls T w Q v xs) (a:hi<=xs.length):Ls T w Q (rK T.n v 0 hi) (xs.take hi):=by simpa using h.part 0 hi (Nat.zero_le _) a
theorem Ls.tail {lo:Nat} (h:Ls T w Q v xs) (h1:lo<=xs.length):Ls T w Q (rK T.n v lo xs.length) (xs.drop lo):=by simpa using h.part lo xs.length h1 (Nat.le_refl _)
theorem Ow.cT {e:Nat} {lo lo':Nat->Prop} (h:Ow T e lo w Q v xs) (hl:∀b,ah v=some b->lo' b):Ow T e lo' w Q v xs:=⟨h.1,fun b hb=>⟨hl b hb,(h.2 b hb).2⟩⟩
theorem Ow.lower {e:Nat} {lo lo':Nat->Prop} (h:Ow T e lo w Q v xs) (hl:∀b,lo b->lo' b):Ow T e lo' w Q v xs:=⟨h.1,fun b hb=>⟨hl b (h.2 b hb).1,(h.2 b hb).2⟩⟩
theorem Ow.freeze {e:Nat} {lo:Nat->Prop} (h:Ow T e lo w Q v xs):∃a:Nat->Prop,(∀b,Q b->a b)/\(∀b,a b->Q b\/ah v=some b)/\Ls T w a v xs :=
  ⟨fun b=>Q b\/ah v=some b,fun _=>.inl,fun _=>id,(h.cT (lo':=fun b=>ah v=some b) fun _ hb=>hb).ls (fun _=>.inl)<|fun _=>.inr⟩
theorem Ow.jd {e:Nat} {lo:Nat->Prop} {d:Value} (h:Ow T e lo w Q v xs) (s:∀b,Q b->Q' b) (t:∀b,Q' b->Q b\/ah d=some b) (i:∀b,ah v=some b->b∉(ah d).toList):Ow T e lo w Q' v xs:=by obtain⟨⟨C,D,f⟩,c⟩:=h;exact⟨⟨C,D,f.sub fun b a _=>s b a⟩,fun b a=>⟨(c b a).1,fun g=>(t b g).elim (c b a).2 fun G=>i b a (by rw[G];simp)⟩⟩
theorem SR {b m:Nat} {s:Ly} (h:By w (.slice (some ⟨b,0,none⟩) m m) s):∃a:Nat->Prop,(∀x,Q x->a x)/\(∀x,a x->Q x\/x=b)/\Ls dh w a (.slice (some ⟨b,0,none⟩) m m) s :=
  ⟨fun x=>Q x\/x=b,fun _=>.inl,fun _=>id,Ls.of_by h fun x c _=>.inr (by simp[ah]at c;exact c.symm)⟩
theorem Ow.back {e:Nat} {lo:Nat->Prop} (h:Ow T e lo w Q v xs) (t:∀b,Q b->Q' b) (n:∀b,ah v=some b->¬Q' b):Ow T e lo w Q' v xs:=by obtain⟨⟨B,C,D⟩,E⟩:=h;exact⟨⟨B,C,D.sub fun b A _=>t b A⟩,fun b A=>⟨(E b A).1,n b A⟩⟩
theorem OU {b:Nat} {v:Value} (h:b∉(ah v).toList) (k:ah v=some b):False:=h (by rw[k];simp)
theorem Ls.AF {S:List Nat} {i:Nat} {x:α} (h:Ls T w Q v xs) (hi:xs[i]? = some x) (hs:∀b∈S,¬Q b):∀b,ah v=some b->b∉S:=by
  obtain⟨a,B,E,rfl,F,G,H,C,I,J⟩:=h;intro b A D;cases a with
  | none=>simp[ah]at A
  | some p =>
    simp[ah]at A;subst A;exact hs _ D<|C p q (by rintro rfl;simp at hi)
theorem At.md {S:List Nat} {k:Nat} {c:List Value} (h:At w v k c) (m:Md S w w') (hs:∀b,ah v=some b->b∉S):At w' v k c:=by obtain⟨p,l,A,rfl,B⟩:=h;exact⟨p,l,A,q,fun j u C=>m.cell (B j u C) (by rw[Addr.add_block];exact hs _ q)⟩
theorem Ow.fV {e ty b:Nat} {lo:Nat->Prop} {cs:List Value} (h:Ow T e lo w Q v xs) (d:bK w b cs ty) (f:Nat.beq e ty=false):∀a,ah v=some a->a≠b:=by obtain⟨⟨g,c,C⟩,D⟩:=h;exact c.ne d f
theorem aaU {e ty b:Nat} {lo:Nat->Prop} {cs:List Value} (c:bK w b cs ty) (h:Ow T e lo w Q v xs) (d:Nat.beq e ty=false):∀a,ah v=some a->a∉[b] :=
  fun a hb=>by simpa using h.fV c d a hb
theorem MZ {e ty b:Nat} {lo:Nat->Prop} {cs:List Value} (h:Ow T e lo w Q v xs) (d:bK w b cs ty) (f:Nat.beq e ty=false):b∉(ah v).toList:=by
  intro a;cases hv:ah v with
  | none=>rw[hv]at a;simp at a
  | some c=>rw[hv]at a;simp at a;exact h.fV d f c hv a.symm
theorem Own.ahU {e e' sz i m m':Nat} {v d:Value} {cs f:List Value} (h:Own w e sz v m cs) (k:Own w e' i d m' f) (c:Nat.beq e e'=false):∀b,ah v=some b->ah d≠some b:=by
  intro b C a
  rcases h.2 with⟨rfl,_⟩|⟨g,F,G,rfl,_,H,_⟩
  · simp[ah]at C
  rcases k.2 with⟨rfl,_⟩|⟨I,D,E,rfl,_,B,_⟩
  · simp[ah]at a
  simp[ah]at C a;subst C;subst a;rw[H]at B;simp at B;rw[B.2]at c;simp at c
theorem dM {v d:Value} (h:∀x,ah v=some x->ah d≠some x):∀b,ah d=some b->b∉(ah v).toList:=by
  intro b e a;cases hv:ah v with
  | none=>rw[hv]at a;simp at a
  | some c=>rw[hv]at a;simp at a;subst a;exact h _ hv e
theorem qU {v a:Value} (h:∀x,ah v=some x->ah a≠some x):∀x,ah a=some x->ah v≠some x:=fun x c b=>h x b c
theorem aaV {e e':Nat} {lo lo':Nat->Prop} {d:Value} {ys:List β} (h:Ow T e lo w Q v xs) (k:Ow U e' lo' w Q' d ys) (g:Nat.beq e e'=false):∀b,ah d=some b->b∉(ah v).toList:=by
  intro b C a;obtain⟨⟨i,f,G⟩,H⟩:=h;obtain⟨⟨j,D,l⟩,m⟩:=k;cases hv:ah v with
  | none=>rw[hv]at a;simp at a
  | some c=>rw[hv]at a;simp at a;subst a;exact f.ahU D g _ hv C
theorem aB {e ty b:Nat} {lo:Nat->Prop} {cs:List Value} (c:bK w b cs ty) (h:Ow T e lo w Q v xs) (d:Nat.beq e ty=false:=by decide):∀a,ah v=some a->a∉[b]:=aaU c h d
theorem aW {e ty b:Nat} {lo:Nat->Prop} {cs:List Value} (h:Ow T e lo w Q v xs) (a:bK w b cs ty) (c:Nat.beq e ty=false:=by decide):b∉(ah v).toList:=MZ h a c
theorem aO {e e':Nat} {lo lo':Nat->Prop} {a:Value} {ys:List β} (h:Ow T e lo w Q v xs) (k:Ow U e' lo' w Q' a ys) (c:Nat.beq e e'=false:=by decide):∀b,ah a=some b->b∉(ah v).toList:=aaV h k c
end
section
variable {P:Program} {Q:Exit->Act->World->Prop} {n:Nat} {A:Fr n} {D:List Deferred} {l:List (Nat × Value)} {w:World}
def Joins (n:Nat) (D:List Deferred) (l1:Bool->List (Nat × Value)) (R:Bool->World->Prop) (a:Act) (w:World):Prop:=∃(b:Bool) (B:Fr n),a=aN B D (l1 b)/\R b w
theorem RN {id:Nat} {lo:List Oper} (f:Bool->List (Nat × Value)) (R:Bool->World->Prop)
    (h:wpList P lo.toArray (fun d c a=>d = .normal/\Joins n D f R c a) lo (aN A D l) w)
    (k:∀(b:Bool) (e:Fr n) (a:World),R b a->Q .normal (aN e D<|f b) a):(Code.region id lo.toArray false).wp P Q (aN A D l) w:=by
  refine wp_mono (aI (Q:=fun d c a=>d = .normal/\Joins n D f R c a) h) ?_;rintro d c a ⟨rfl,b,e,rfl,C⟩;exact k b e a C
theorem jn {a:Bool->List (Nat × Value)} {R:Bool->World->Prop} (b:Bool) (hf:Fits n l (a b)) (c:R b w):Joins n D a R (aN A D l) w :=
  ⟨b,_,(ec (A:=A) (D:=D) hf).symm,c⟩
theorem vC {G:Prop} (b:Bool) (h1:b=true->G) (a:b=false->G):G:=by cases b<;>simp_all
end
def mU (n:Int):Bool:=decide (n=1\/n=2\/n=4\/n=8)
def wT:List UInt8->Nat
  | []=>0
  | b :: r=>b.toNat+256*wT r
def mA (l:Ly) (a n:Int):Nat × Bool :=
  if mU n=true/\0<=a/\a+n<=l.length then(wT ((l.drop a.toNat).take n.toNat),true)else(0,false)
theorem ahL (l:Ly):wT l<256 ^ l.length:=by
  induction l with
  | nil=>simp[wT]
  | cons b r ih =>
    simp only[wT,List.length_cons,Nat.pow_succ];have:=UInt8.toNat_lt b;omega
theorem yC {l:Ly} {k:Nat} (h:l.length<=k):wT l<256 ^ k:=ly (ahL l)<|Nat.pow_le_pow_right Xx h
theorem O9 {l:Ly} {i k:Nat} {x:UInt8} (h:l[i]? = some x):wT ((l.drop i).take<|k+1)=x.toNat+256*wT ((l.drop<|i+1).take k):=by rw[fP h];rfl
theorem AQ {l:Ly} {a n:Int} (h:¬(mU n=true/\0<=a/\a+n<=l.length)):mA l a n=(0,false):=if_neg h
theorem eL {n:Int}:mU n=true↔(n=1\/n=2\/n=4\/n=8):=by simp[mU]
theorem zi {n:Int} (h:mU n=true):1<=n/\n<=8:=by rw[eL]at h;omega
end Go.Wk
