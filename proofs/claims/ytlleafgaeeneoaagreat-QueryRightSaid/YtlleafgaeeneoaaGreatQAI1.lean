/- Part 1 of what the walk of a law stands on: Base, Ops, Steps, Draws, Strings, Rep, Nums, Puts, Loops, GuardR, FieldP, HashP, Opens, Tails. No statement is proved here. -/
import Derived.WalkKit
import Derived.WalkSpells
import Derived.WalkLawsBesides
import Derived.Deep.Quiet
import Derived.StillTail
import Derived.KernelRfl
import Derived.Deep.LoopGhost
import Derived.Laws.IdiomStrings
import Derived.Laws.StructEq
import Derived.Laws.Externs
import Derived.Lib.BytesEntry
import Derived.Recover
import Derived.Lib.IndexLaws
import Derived.ProofKit
import Derived.OpenShut
import Derived.ShutString
import Derived.Deep.Slices
import Derived.Lib.Overlaps
import Derived.Lib.AppendZerosOnto
import Derived.Sort.Grow
import Derived.Lib.SliceRun
import Derived.Lib.Bytealg
import Derived.Shelf.SortM.Plain
import Derived.Shelf.SortM.SortNone
import Derived.Lib.SmallJoins
set_option linter.unusedVariables false
set_option linter.unusedSimpArgs false
namespace Go.Wk
open Go Go.RowKit
theorem q {α:Sort _} {a:α}:a=a:=rfl
theorem dT {p:Prop} [Decidable p] (h:decide p=true):p:=of_decide_eq_true h
theorem dF {p:Prop} [Decidable p] (h:decide p=false):¬p:=of_decide_eq_false h
theorem lB {a b:Nat} (h:Nat.ble a b=true):a≤b:=Nat.le_of_ble_eq_true h
theorem lj {a b c:Nat} (h:a<b) (k:b≤c):a<c:=Nat.lt_of_lt_of_le h k
theorem ly {a b c:Nat} (h:a≤b) (k:b≤c):a≤c:=Nat.le_trans h k
theorem tV:True:=True.intro
theorem Oj {p:Prop} (h:p:=by simp):p:=h
theorem Ok {p:Prop} (h:p:=by omega):p:=h
theorem Jk {p:Prop} (h:p:=by decide):p:=h
theorem Yz {p:Prop} (h:p:=by kernel_rfl):p:=h
theorem Yj {p:Prop} (h:p:=by assumption):p:=h
theorem Yw {p:Prop} (h:p:=by simp;omega):p:=h
theorem Yk {p:Prop} (h:p:=by(simp<;>omega)):p:=h
theorem Yh {p:Prop} (h:p:=by first|omega|(simp<;>omega)):p:=h
theorem Ym {p:Prop} (h:p:=by first|assumption|omega|simp_all):p:=h
theorem Zq {p:Prop} (h:p:=by first|omega|(simp<;>omega)|simp_all):p:=h
theorem Zx {p:Prop} (h:p:=by simp[List.length_take,List.length_drop];omega):p:=h
theorem Zw {p:Prop} (h:p:=by first|omega|(simp<;>omega)|(simp at *<;>omega)):p:=h
theorem Vj {p:Prop} (h:p:=by first|omega|assumption|(simp<;>omega)|simp_all):p:=h
theorem Vk {p:Prop} (h:p:=by intro h;simp at h;omega):p:=h
theorem eM {b:Bool} (h:(!b)=true):b=false:=by cases b<;>simp_all
theorem eL {b:Bool} (h:(!b)=false):b=true:=by cases b<;>simp_all
def look:List (Nat × Value)→Nat→Option Value
  | [],_=>none
  | (k,v) :: r,t=>cond (Nat.beq k t) (some v) (look r t)
structure Fr (n:Nat) where
  tmps:Array Value
  size:tmps.size=n
def bw {n:Nat} (A:Fr n) (D:List Deferred):List (Nat × Value)→Act
  | []=>⟨A.tmps,D⟩
  | (k,v) :: r=>(bw A D r).put (some k) v
def ev (n:Nat) (l:List (Nat × Value)):Operand→Option Value
  | .tmp t=>cond (Nat.ble n t) none (look l t)
  | .const v=>some v
  | .global g=>some (.pointer (some ⟨g,0,none⟩))
  | .func f=>some (.func (.func f) #[] #[])
section
variable {n:Nat} {A:Fr n} {D:List Deferred} {l:List (Nat × Value)}
theorem wI:(bw A D l).tmps.size=n:=by
  induction l with
  | nil=>exact A.size
  | cons p r ih=>simp[bw,Act.put,ih]
theorem fD:(bw A D l).defers=D:=by
  induction l with
  | nil=>rfl
  | cons p r ih=>simp[bw,Act.put,ih]
theorem TM {t:Nat} {v:Value} (ht:t<n) (h:look l t=some v):(bw A D l).tmps.getD t undef=v:=by
  induction l with
  | nil=>simp[look]at h
  | cons p r ih =>
    obtain⟨k,u⟩:=p
    simp only[look]at h
    have E:(bw A D r).tmps.size=n:=wI
    by_cases hk:k=t
    · subst hk
      simp at h
      subst h
      simp[bw,Act.put,Array.getD,E,ht]
    · have:Nat.beq k t=false:=Bool.eq_false_iff.2 fun B=>hk (Nat.eq_of_beq_eq_true B)
      simp only[this,cond_false]at h
      have C:=ih h
      rw[← C]
      show((bw A D r).tmps.setIfInBounds k u).getD t undef=_
      simp[hk]
theorem bZ {x:Operand} {v:Value} (h:ev n l x=some v):(bw A D l).eval x=v:=by
  cases x with
  | tmp t =>
    simp only[ev]at h
    cases ht:Nat.ble n t with
    | true=>simp[ht]at h
    | false =>
      simp only[ht,cond_false]at h
      have:t<n:=Nat.lt_of_not_le fun B=>by rw[Nat.ble_eq_true_of_le B]at ht;cases ht
      exact TM this h
  | const u=>simp only[ev,Option.some.injEq]at h;exact h
  | global g=>simp only[ev,Option.some.injEq]at h;exact h
  | func f=>simp only[ev,Option.some.injEq]at h;exact h
def evs (n:Nat) (l:List (Nat × Value)):List Operand→Option (List Value)
  | []=>some []
  | x :: r=>match ev n l x,evs n l r with
    | some v,some vs=>some (v :: vs)
    | _,_=>none
theorem lF {xs:List Operand} {vs:List Value} (h:evs n l xs=some vs):xs.map (bw A D l).eval=vs:=by
  induction xs generalizing vs with
  | nil=>simpa [evs]using h
  | cons x r ih =>
    simp only[evs]at h
    split at h
    · rename_i v us h1 h2
      simp at h;subst h
      simp[bZ h1,ih h2]
    · cases h
def Fits (n:Nat) (l:List (Nat × Value)):List (Nat × Value)→Prop
  | []=>True
  | (t,v) :: r=>ev n l (.tmp t)=some v∧Fits n l r
theorem JS (a:Act) (t:Nat) (v:Value) (h:a.tmps.getD t undef=v):a.put (some t) v=a:=by
  cases a with
  | mk tm ds =>
    simp only[Act.put]
    congr 1
    apply Array.ext
    · simp
    · intro i A B
      rw[Array.getElem_setIfInBounds]
      split
      · rename_i e;subst e;subst h;simp at A;simp[Array.getD,A]
      · rfl
theorem abi (a:Act) (h:a.defers=D):(⟨a.tmps,D⟩:Act)=a:=by cases a;subst h;rfl
theorem dz {l1:List (Nat × Value)} (h:Fits n l l1):bw (⟨(bw A D l).tmps,wI⟩:Fr n) D l1=bw A D l:=by
  induction l1 with
  | nil=>exact abi _ fD
  | cons p r ih =>
    obtain⟨t,v⟩:=p
    simp only[Fits]at h
    simp only[bw]
    rw[ih h.2]
    exact JS _ _ _ (by have:=bZ (A:=A) (D:=D) h.1;simpa [Act.eval]using this)
end
structure Md (S:List Nat) (w w':World):Prop where
  os:w'.os=w.os
  tape:w'.tape=w.tape
  output:w'.output=w.output
  size:w.heap.size≤w'.heap.size
  block:∀k,k<w.heap.size→k∉S→w'.heap[k]? = w.heap[k]?
class Tp (w w':World) (A:Prop) (B:outParam Prop):Prop where t:Md [] w w'→A→B
theorem k2 {w w':World} {A B A' B':Prop} [Tp w w' A A'] [Tp w w' B B'] (m:Md [] w w') (a:A) (b:B):A'∧B':=⟨Tp.t m a,Tp.t m b⟩
theorem k3 {w w':World} {A B C A' B' C':Prop} [Tp w w' A A'] [Tp w w' B B'] [Tp w w' C C'] (m:Md [] w w') (a:A) (b:B) (c:C):A'∧B'∧C':=⟨Tp.t m a,Tp.t m b,Tp.t m c⟩
theorem k4 {w w':World} {A B C D A' B' C' D':Prop} [Tp w w' A A'] [Tp w w' B B'] [Tp w w' C C'] [Tp w w' D D'] (m:Md [] w w') (a:A) (b:B) (c:C) (d:D):A'∧B'∧C'∧D':=⟨Tp.t m a,Tp.t m b,Tp.t m c,Tp.t m d⟩
theorem k5 {w w':World} {A B C D E A' B' C' D' E':Prop} [Tp w w' A A'] [Tp w w' B B'] [Tp w w' C C'] [Tp w w' D D'] [Tp w w' E E'] (m:Md [] w w') (a:A) (b:B) (c:C) (d:D) (e:E):A'∧B'∧C'∧D'∧E':=⟨Tp.t m a,Tp.t m b,Tp.t m c,Tp.t m d,Tp.t m e⟩
theorem k6 {w w':World} {A B C D E F A' B' C' D' E' F':Prop} [Tp w w' A A'] [Tp w w' B B'] [Tp w w' C C'] [Tp w w' D D'] [Tp w w' E E'] [Tp w w' F F'] (m:Md [] w w') (a:A) (b:B) (c:C) (d:D) (e:E) (f:F):A'∧B'∧C'∧D'∧E'∧F':=⟨Tp.t m a,Tp.t m b,Tp.t m c,Tp.t m d,Tp.t m e,Tp.t m f⟩
theorem k7 {w w':World} {A B C D E F G A' B' C' D' E' F' G':Prop} [Tp w w' A A'] [Tp w w' B B'] [Tp w w' C C'] [Tp w w' D D'] [Tp w w' E E'] [Tp w w' F F'] [Tp w w' G G'] (m:Md [] w w') (a:A) (b:B) (c:C) (d:D) (e:E) (f:F) (g:G):A'∧B'∧C'∧D'∧E'∧F'∧G':=⟨Tp.t m a,Tp.t m b,Tp.t m c,Tp.t m d,Tp.t m e,Tp.t m f,Tp.t m g⟩
theorem k8 {w w':World} {A B C D E F G H A' B' C' D' E' F' G' H':Prop} [Tp w w' A A'] [Tp w w' B B'] [Tp w w' C C'] [Tp w w' D D'] [Tp w w' E E'] [Tp w w' F F'] [Tp w w' G G'] [Tp w w' H H'] (m:Md [] w w') (a:A) (b:B) (c:C) (d:D) (e:E) (f:F) (g:G) (h:H):A'∧B'∧C'∧D'∧E'∧F'∧G'∧H':=⟨Tp.t m a,Tp.t m b,Tp.t m c,Tp.t m d,Tp.t m e,Tp.t m f,Tp.t m g,Tp.t m h⟩
theorem Md.refl (S:List Nat) (w:World):Md S w w:=⟨q,q,q,Nat.le_refl _,fun _ _ _=>rfl⟩
theorem Md.trans {S:List Nat} {a b c:World} (h:Md S a b) (k:Md S b c):Md S a c :=
  ⟨k.os.trans h.os,k.tape.trans h.tape,k.output.trans h.output,ly h.size k.size,fun i hi hs=>(k.block i (lj hi h.size) hs).trans (h.block i hi hs)⟩
theorem Md.mono {S T:List Nat} {a b:World} (h:Md S a b) (hs:∀k,k∈S→k<a.heap.size→k∈T):Md T a b :=
  ⟨h.os,h.tape,h.output,h.size,fun i hi ht=>h.block i hi fun hm=>ht (hs i hm hi)⟩
theorem Md.step {S T:List Nat} {a b c:World} (h:Md S a b) (k:Md T b c) (hT:∀i,i∈T→i∈S∨a.heap.size≤i):Md S a c :=
  ⟨k.os.trans h.os,k.tape.trans h.tape,k.output.trans h.output,ly h.size k.size,fun i hi hs =>
    (k.block i (lj hi h.size) fun hm=>(hT i hm).elim hs fun h'=>by omega).trans (h.block i hi hs)⟩
theorem Md.k {S:List Nat} {a b c:World} (h:Md S a b) (k:Md [] b c):Md S a c:=h.step k Oj
instance ais {S:List Nat} {a b c:World}:Tp b c (Md S a b) (Md S a c):=⟨fun m h=>h.k m⟩
theorem Md.ej {S:List Nat} {a b c:World} {i:Nat} (h:Md S a b) (k:Md [i] b c) (hi:a.heap.size≤i):Md S a c :=
  h.step k (by intro j hj;simp at hj;subst hj;exact .inr hi)
theorem Md.gw {S:List Nat} {a b c:World} {i:Nat} (h:Md S a b) (k:Md [i] b c) (hi:i∈S):Md S a c :=
  h.step k (by intro j hj;simp at hj;subst hj;exact .inl hi)
theorem Md.below {w w':World} (h:Md [] w w'):Below w.heap.size w w':=⟨h.os,h.tape,h.output,h.size,fun k hk=>h.block k hk Oj⟩
theorem Md.drew (w:World):Md [] w {w with drawn:=w.drawn+1}:=⟨q,q,q,Nat.le_refl _,fun _ _ _=>rfl⟩
theorem Md.alloc (w:World) (o:Obj):Md [] w (w.alloc o):=⟨q,q,q,by simp,fun _ hk _=>heap_alloc_old w o hk⟩
theorem Md.setCell (w:World) (a:Addr) (u:Value):Md [a.block] w (w.setCell a u) :=
  ⟨q,q,q,by simp[World.setCell],fun k _ hs=>Below.heap_setCell w a u k (by simpa using hs)⟩
theorem Md.grown {w w':World} {r:Option Nat} (h:w.grownBy w' r):Md r.toList w w' :=
  ⟨h.os,h.tape,h.output,h.size,fun k hk hs=>h.block k hk (by rintro rfl;simp at hs)⟩
theorem Md.cell {S:List Nat} {w w':World} {p:Addr} {u:Value} (h:Md S w w') (hc:w.cell? p=some u) (hs:p.block∉S):w'.cell? p=some u :=
  (World.cell?_of_block (h.block p.block (World.block_lt_of_cell? w p hc) hs)).trans hc
def bO (w:World) (b:Nat) (cs:List Value) (ty:TypeId):Prop:=w.heap[b]? = some (.cells cs.toArray ty (0,0))
section
variable {w w':World} {b:Nat} {cs:List Value} {ty:TypeId}
theorem bO.lt (h:bO w b cs ty):b<w.heap.size:=(Array.getElem?_eq_some_iff.1 h).1
theorem bO.md {S:List Nat} (h:bO w b cs ty) (m:Md S w w') (hs:b∉S):bO w' b cs ty:=(m.block b h.lt hs).trans h
theorem bO.o (h:bO w b cs ty) (m:Md [] w w'):bO w' b cs ty:=h.md m Oj
instance aid:Tp w w' (bO w b cs ty) (bO w' b cs ty):=⟨fun m h=>h.o m⟩
theorem bO.sM {i:Nat} (h:bO w b cs ty) (m:Md [i] w w') (hi:b≠i):bO w' b cs ty:=h.md m (by simpa using hi)
theorem bO.cell (h:bO w b cs ty) (j:Nat):w.cell? ⟨b,j,none⟩=cs[j]?:=by
  unfold bO at h
  simp[World.cell?,h]
theorem bO.frozen (h:bO w b cs ty) (j:Nat):w.frozen? ⟨b,j,none⟩=false:=by
  unfold bO at h
  simp[World.frozen?,h]
theorem bO.set (h:bO w b cs ty) (j:Nat) (u:Value):bO (w.setCell ⟨b,j,none⟩ u) b (cs.set j u) ty:=by
  have A:=h.lt
  unfold bO at h ⊢
  simp only[World.setCell,Array.getElem?_modify,h]
  simp
theorem bO.new (w:World) (cs:List Value) (ty:TypeId):bO (w.alloc (.cells cs.toArray ty)) w.heap.size cs ty:=heap_alloc_new w _
end
def Sl (w:World) (v:Value) (l:List Value):Prop :=
  ∃a cap,v = .slice a l.length cap∧l.length≤cap∧cap≤maxLen∧(a=none→cap=0)∧∀p,a=some p→∀j u,l[j]? = some u→w.cell? (p.add j)=some u
def b8 (x:UInt8):Value:=.int .u8 (x.toNat:Int)
def By (w:World) (v:Value) (l:List UInt8):Prop:=Sl w v (l.map b8)
def lC:Value→Nat→Value
  | .slice (some p) _ _,i=>.pointer (some (p.add i))
  | _,_=>undef
def nC:Value→Nat→Nat→Value
  | .slice a _ cap,lo,hi=>.slice (if cap=lo then a else a.map (·.add lo)) (hi-lo) (cap-lo)
  | _,_,_=>undef
theorem Addr.add_block (p:Addr) (j:Nat):(p.add j).block=p.block:=by unfold Addr.add;split<;>rfl
theorem Addr.add_add (p:Addr) (i j:Nat):(p.add i).add j=p.add (i+j):=by
  unfold Addr.add
  by_cases hi:i=0 <;> by_cases hj:j=0 <;> simp[hi,hj]
  omega
theorem Addr.jL (b o j:Nat):(⟨b,o,none⟩:Addr).add j=⟨b,o+j,none⟩:=by unfold Addr.add;split<;>simp_all
section
variable {w w':World} {v:Value} {l:List Value}
theorem Sl.nil (w:World):Sl w (.slice none 0 0) []:=⟨none,0,q,Nat.le_refl _,by simp[maxLen],fun _=>rfl,by simp⟩
theorem Sl.zi (h:Sl w v l):l.length≤maxLen:=by obtain⟨a,A,_,B,C,_⟩:=h;omega
theorem Sl.o (h:Sl w v l) (m:Md [] w w'):Sl w' v l:=by
  obtain⟨a,A,B,C,D,E,F⟩:=h
  exact⟨a,A,B,C,D,E,fun p G j u H=>m.cell (F p G j u H) Oj⟩
instance aiv:Tp w w' (Sl w v l) (Sl w' v l):=⟨fun m h=>h.o m⟩
def ah:Value→Option Nat
  | .slice (some p) _ _=>some p.block
  | _=>none
theorem SS:(∀{c:Prop} {h:Decidable c} (_:c) {α:Type} {t e:α},(if c then t else e)=t)∧(∀{c:Prop} {h:Decidable c} (_:¬c) {α:Type} {t e:α},(if c then t else e)=e)∧(∀{α:Type} {a b:α},(some a).getD b=a)∧(∀{α:Type} {a b:α},(some a=some b)=(a=b))∧((false=true)=False)∧((true=false)=False)∧(∀{h:Decidable True},@decide True h=true)∧(∀{h:Decidable False},@decide False h=false)∧((¬True)=False)∧((¬False)=True) :=
  ⟨fun h=>if_pos h,fun h=>if_neg h,q,by simp,by simp,by simp,by simp,by simp,by simp,by simp⟩
theorem LL:(∀{α:Type} {a:α} {l:List α},(a :: l).length=l.length+1)∧(∀{α:Type},([]:List α).length=0)∧(∀{α:Type} {a b:List α},(a ++ b).length=a.length+b.length)∧(∀{α:Type} {n:Nat} {a:α},(List.replicate n a).length=n)∧(∀(n:Nat),0+n=n) :=
  ⟨q,q,by simp,by simp,by simp⟩
def zr (n:Nat) (v:Value):List Value:=List.replicate n v
def ml (n:Nat):List (Nat × Bool):=(List.range n).map fun i=>(i,true)
abbrev Ly:=List UInt8
abbrev vS (b:Nat) (x y z:Value):List Nat:=b :: (ah x).toList ++ ((ah y).toList ++ ((ah z).toList))
def GC (v:Value) (m:Nat):Prop:=∃a cap,v = .slice a m cap∧m≤cap∧cap≤maxLen∧(a=none→cap=0)
theorem Sl.cV (h:Sl w v l):GC v l.length:=by obtain⟨a,A,B,C,D,E,_⟩:=h;exact⟨a,A,B,C,D,E⟩
def Apart {α:Type} (v:Value) (l:List α) (S:List Nat):Prop:=∀b,ah v=some b→l≠[]→b∉S
theorem Sl.lt {b:Nat} (h:Sl w v l) (hb:ah v=some b) (hl:l≠[]):b<w.heap.size:=by
  obtain⟨a,A,B,D,E,F,C⟩:=h
  cases l with
  | nil=>exact absurd q hl
  | cons u r =>
    subst B
    cases a with
    | none=>simp[ah]at hb
    | some p =>
      have:=World.block_lt_of_cell? w _ (C p q 0 u q)
      rw[Addr.add_block]at this
      simp[ah]at hb
      omega
theorem Apart.aev {S:List Nat} (h:Sl w v l) (hS:∀i∈S,w.heap.size≤i):Apart v l S:=fun b hb hl hm=>by
  have:=h.lt hb hl
  have:=hS b hm
  omega
theorem AL {lo hi b:Nat} (h:ah (nC v lo hi)=some b):ah v=some b:=by
  cases v with
  | slice a len cap =>
    cases a with
    | none=>simp only[nC]at h;split at h <;> simp[ah]at h
    | some p =>
      simp only[nC]at h
      split at h
      · exact h
      · simp only[Option.map_some,ah,Addr.add_block]at h;exact h
  | _=>simp[nC,undef,ah]at h
theorem Apart.sub {α:Type} {l:List α} {S:List Nat} (h:Apart v l S) (lo hi:Nat):Apart (nC v lo hi) ((l.take hi).drop lo) S:=fun b hb hl=>h b (AL hb) (by rintro rfl;simp at hl)
theorem Sl.md {S:List Nat} (h:Sl w v l) (m:Md S w w') (hs:Apart v l S):Sl w' v l:=by
  obtain⟨a,A,B,E,F,G,H⟩:=h
  refine⟨a,A,B,E,F,G,fun p C j u D=>m.cell (H p C j u D) ?_⟩
  subst B;subst C
  rw[Addr.add_block]
  exact hs _ q (by rintro rfl;simp at D)
theorem Sl.cK {b:Nat} {cs:List Value} {ty:TypeId} (h:bO w b cs ty) (hm:cs.length≤maxLen):Sl w (.slice (some ⟨b,0,none⟩) cs.length cs.length) cs :=
  ⟨_,_,q,Nat.le_refl _,hm,by simp,fun p hp j u hu=>by cases hp;rw[Addr.jL,Nat.zero_add,h.cell];exact hu⟩
theorem Sl.qB {base:Nat} {e:TypeId} (h:w.ownsRow base e 1 v l.length l):Sl w v l:=by
  rcases h.2 with⟨rfl,C⟩|⟨g,A,B,rfl,H,I,E,D,J,K⟩
  · have:l=[]:=List.eq_nil_of_length_eq_zero C
    subst this
    exact Sl.nil w
  exact⟨_,A,q,E,D,by simp,fun p F j u G=>by cases F;exact h.cells (g:=g) q j u G⟩
theorem Sl.sub (h:Sl w v l) (lo hi:Nat) (h1:lo≤hi) (h2:hi≤l.length):Sl w (nC v lo hi) ((l.take hi).drop lo):=by
  obtain⟨a,A,rfl,G,H,E,F⟩:=h
  refine⟨if A=lo then a else a.map (·.add lo),A-lo,?_,?_,by omega,?_,?_⟩
  · simp only[nC];congr 1;simp;omega
  · simp;omega
  · intro h
    split at h
    · omega
    cases a with
    | none=>have:=E rfl;omega
    | some p=>simp at h
  intro p B j u C
  have I:j<hi-lo:=by
    have:=(List.getElem?_eq_some_iff.1 C).1
    simp at this
    omega
  have D:A≠lo:=by omega
  rw[if_neg D]at B
  cases a with
  | none=>simp at B
  | some q =>
    simp at B
    subst B
    rw[Addr.add_add]
    refine F q rfl (lo+j) u ?_
    rw[List.getElem?_drop,List.getElem?_take]at C
    rw[if_pos Ok]at C
    exact C
end
theorem By.sub {w:World} {v:Value} {l:Ly} (h:By w v l) (lo hi:Nat) (h1:lo≤hi) (h2:hi≤l.length):By w (nC v lo hi) ((l.take hi).drop lo):=by
  have:=Sl.sub h lo hi h1 (by simpa using h2)
  unfold By
  rwa [List.map_drop,List.map_take]
theorem By.cV {w:World} {v:Value} {l:Ly} (h:By w v l):GC v l.length:=by have:=Sl.cV h;simpa using this
theorem By.o {w w':World} {v:Value} {l:Ly} (h:By w v l) (m:Md [] w w'):By w' v l:=Sl.o h m
instance aiq {w w':World} {v:Value} {l:Ly}:Tp w w' (By w v l) (By w' v l):=⟨fun m h=>h.o m⟩
theorem By.md {S:List Nat} {w w':World} {v:Value} {l:Ly} (h:By w v l) (m:Md S w w') (hs:Apart v l S):By w' v l:=Sl.md h m (fun b hb hl=>hs b hb (by rintro rfl;simp at hl))
theorem Apart.abQ {w:World} {v:Value} {l:Ly} {S:List Nat} (h:By w v l) (hS:∀i∈S,w.heap.size≤i):Apart v l S:=fun b hb hl=>Apart.aev h hS b hb (by simpa using hl)
theorem By.cK {w:World} {b:Nat} {l:Ly} {ty:TypeId} {m:Nat} (h:bO w b (l.map b8) ty) (hl:l.length=m) (hm:m≤maxLen):By w (.slice (some ⟨b,0,none⟩) m m) l:=by
  have:=Sl.cK h (by simpa [hl]using hm)
  simpa [By,hl]using this
theorem By.zi {w:World} {v:Value} {l:Ly} (h:By w v l):l.length≤maxLen:=by have:=Sl.zi h;simpa using this
theorem OX (l:Ly) (i:Nat) (h:i<l.length):(l.map b8)[i]? = some (b8 (l.getD i 0)):=by
  simp[List.getD,h]
theorem By.head {w:World} {v:Value} {l:Ly} (h:By w v l) (k:Nat) (hk:k≤l.length):By w (nC v 0 k) (l.take k):=by simpa using h.sub 0 k (Nat.zero_le _) hk
theorem By.tail {w:World} {v:Value} {l:Ly} (h:By w v l) (k:Nat) (hk:k≤l.length):By w (nC v k l.length) (l.drop k):=by simpa using h.sub k l.length hk (Nat.le_refl _)
theorem Apart.tail {α:Type} {v:Value} {l:List α} {S:List Nat} (h:Apart v l S) (k:Nat):Apart (nC v k l.length) (l.drop k) S:=by simpa using h.sub k l.length
def gZ (P:Program) (t:TypeId):Bool :=
  match P.underlying t with
  | some (.struct _)|some (.array _ _)|none=>false
  | some _=>Nat.beq (P.cellsOf t) 1
def fA (P:Program) (t:TypeId) (n:Nat):Bool :=
  match P.underlying t with
  | some (.struct _)|some (.array _ _)=>match P.info? t with
    | some i=>Nat.beq i.size n
    | none=>false
  | _=>false
def bh (P:Program) (s:TypeId) (f:Nat):Option Nat :=
  match P.underlying s with
  | some (.struct fs)=>match fs[f]? with
    | some fd=>match P.info? fd.type with
      | some i=>if i.size=0 then none else some fd.offset
      | none=>none
    | none=>none
  | _=>none
def ea (P:Program) (t:TypeId):Option (List Value) :=
  match P.info? t with
  | some i=>match i.zero with
    | some z=>some z.cells.toList
    | none=>none
  | none=>none
def gu (P:Program) (e:TypeId) (n:Nat):Bool :=
  match P.info? e with
  | some i=>Nat.beq i.size n
  | none=>false
theorem za {P:Program} {t:TypeId} (h:gZ P t=true):∃d i,P.underlying t=some d∧P.info? t=some i∧i.size=1∧(d matches .struct _|.array _ _)=false:=by
  unfold gZ at h
  split at h
  · cases h
  · cases h
  · cases h
  rename_i d h1 h2 hd
  refine⟨d,?_⟩
  cases hi:P.info? t with
  | none=>simp[Program.cellsOf,hi]at h
  | some i =>
    refine⟨i,hd,q,by simpa [Program.cellsOf,hi]using h,?_⟩
    cases d <;> simp_all
theorem oQ {P:Program} {t:TypeId} {n:Nat} (h:fA P t n=true):∃d i,P.underlying t=some d∧P.info? t=some i∧i.size=n∧(d matches .struct _|.array _ _)=true:=by
  unfold fA at h
  split at h
  · rename_i d hd
    split at h
    · rename_i i hi;exact⟨_,i,hd,hi,by simpa using h,q⟩
    cases h
  · rename_i d hd
    split at h
    · rename_i i hi;exact⟨_,i,hd,hi,by simpa using h,q⟩
    cases h
  cases h
theorem mB {P:Program} {t:TypeId} (h:gZ P t=true) (w:World):(isAgg t).run P w = .ok false w:=by
  obtain⟨d,i,A,B,C,D⟩:=za h
  simp only[isAgg,Sem.run_bind,run_underlying A,Result.andThen_ok]
  cases d <;> simp_all
theorem tJ {P:Program} {t:TypeId} {n:Nat} (h:fA P t n=true) (w:World):(isAgg t).run P w = .ok true w:=by
  obtain⟨d,i,A,B,C,D⟩:=oQ h
  simp only[isAgg,Sem.run_bind,run_underlying A,Result.andThen_ok]
  cases d <;> simp_all
theorem eB {P:Program} {t:TypeId} {i:TypeInfo} (h:P.info? t=some i) (w:World):(sizeOf t).run P w = .ok i.size w:=by
  simp[sizeOf,typeInfo,h]
end Go.Wk
namespace Go.Wk
open Go Go.RowKit
def cC (P:Program) (o:Oper) (e:Operand→Value) (w:World) (v:Value):Prop:=(execOp e o).run P w = .ok (.value v) w
section
variable {P:Program} {n:Nat} {A:Fr n} {D:List Deferred} {l:List (Nat × Value)} {w:World}
variable {d:Option Tmp} {ty:TypeId} {ps:String} {af:Array Edge} {g:Option (Nat × Bool)}
theorem bf {x:Operand} {v:Value} (h:ev n l x=some v):cC P ⟨d,.move x,ty,ps,af,g⟩ (bw A D l).eval w v:=by
  simp[cC,execOp,bZ h]
theorem eU {x:Operand} {v:Value} (h:ev n l x=some v):cC P ⟨d,.assign x,ty,ps,af,g⟩ (bw A D l).eval w v:=by
  simp[cC,execOp,bZ h]
theorem bF {c x y:Operand} {b:Bool} {v:Value} (hc:ev n l c=some (.bool b)) (hb:b=true) (h:ev n l x=some v) :
    cC P ⟨d,.pick c x y,ty,ps,af,g⟩ (bw A D l).eval w v:=by
  subst hb;simp[cC,execOp,bZ h,bZ hc,asBool]
theorem bE {c x y:Operand} {b:Bool} {v:Value} (hc:ev n l c=some (.bool b)) (hb:b=false) (h:ev n l y=some v) :
    cC P ⟨d,.pick c x y,ty,ps,af,g⟩ (bw A D l).eval w v:=by
  subst hb;simp[cC,execOp,bZ h,bZ hc,asBool]
theorem jw {x:Operand} {i:Nat} {vs:Array Value} {v:Value} (h:ev n l x=some (.tuple vs)) (hv:vs[i]? = some v) :
    cC P ⟨d,.extract x i,ty,ps,af,g⟩ (bw A D l).eval w v:=by
  simp[cC,execOp,bZ h,Instr.extract,hv]
theorem gR {x:Operand} {t:TypeId} {b:Bool} (h:ev n l x=some (.bool b)) :
    cC P ⟨d,.unOp .not t x,ty,ps,af,g⟩ (bw A D l).eval w (.bool !b):=by
  simp[cC,execOp,bZ h,Op.unary]
theorem cH {x:Operand} {p:Addr} (h:ev n l x=some (.pointer (some p))) :
    cC P ⟨d,.nilCheck x,ty,ps,af,g⟩ (bw A D l).eval w (.pointer (some p)):=by
  simp[cC,execOp,bZ h]
theorem mS {op:BinOp} {x y:Operand} {t u:TypeId} {k j:IntKind} {a b:Int} {r:Value} (hx:ev n l x=some (.int k a)) (hy:ev n l y=some (.int j b))
    (hr:(binOp op t (.int k a) (.int j b)).run P w = .ok r w):cC P ⟨d,.binOp op t x y u,ty,ps,af,g⟩ (bw A D l).eval w r:=by
  have B:(eqGuard op t x y (.int k a) (.int j b)).run P w = .ok () w:=by unfold eqGuard;cases op <;> simp
  simp[cC,execOp,bZ hx,bZ hy,B,hr]
theorem ig {x y:Operand} {t u:TypeId} {k:IntKind} {a b:Int} (hx:ev n l x=some (.int k a)) (hy:ev n l y=some (.int k b)) :
    cC P ⟨d,.binOp .add t x y u,ty,ps,af,g⟩ (bw A D l).eval w (.int k (k.wrap (a+b))):=mS hx hy (by simp[binOp,Op.intArith])
theorem iB {x y:Operand} {t u:TypeId} {k:IntKind} {a b:Int} (hx:ev n l x=some (.int k a)) (hy:ev n l y=some (.int k b)) :
    cC P ⟨d,.binOp .sub t x y u,ty,ps,af,g⟩ (bw A D l).eval w (.int k (k.wrap (a-b))):=mS hx hy (by simp[binOp,Op.intArith])
theorem agE {x y:Operand} {t u:TypeId} {k:IntKind} {a b:Int} (hx:ev n l x=some (.int k a)) (hy:ev n l y=some (.int k b)) :
    cC P ⟨d,.binOp .mul t x y u,ty,ps,af,g⟩ (bw A D l).eval w (.int k (k.wrap (a*b))):=mS hx hy (by simp[binOp,Op.intArith])
theorem agG {x y:Operand} {t u:TypeId} {k:IntKind} {a b:Int} (hx:ev n l x=some (.int k a)) (hy:ev n l y=some (.int k b)) (h0:b≠0) :
    cC P ⟨d,.binOp .quo t x y u,ty,ps,af,g⟩ (bw A D l).eval w (.int k (k.wrap (a.tdiv b))):=mS hx hy (by simp[binOp,Op.intDiv,h0])
theorem aa4 {x y:Operand} {t u:TypeId} {k:IntKind} {a b:Int} (hx:ev n l x=some (.int k a)) (hy:ev n l y=some (.int k b)) (h0:b≠0) :
    cC P ⟨d,.binOp .rem t x y u,ty,ps,af,g⟩ (bw A D l).eval w (.int k (a.tmod b)):=mS hx hy (by simp[binOp,Op.intDiv,h0])
theorem aay {x y:Operand} {t u:TypeId} {k:IntKind} {a b:Int} (hx:ev n l x=some (.int k a)) (hy:ev n l y=some (.int k b)) :
    cC P ⟨d,.binOp .and t x y u,ty,ps,af,g⟩ (bw A D l).eval w (.int k (bits .and k a b)):=mS hx hy (by simp[binOp];rfl)
theorem wM {x y:Operand} {t u:TypeId} {k:IntKind} {a b:Int} (hx:ev n l x=some (.int k a)) (hy:ev n l y=some (.int k b)) :
    cC P ⟨d,.binOp .or t x y u,ty,ps,af,g⟩ (bw A D l).eval w (.int k (bits .or k a b)):=mS hx hy (by simp[binOp];rfl)
theorem eI {x y:Operand} {t u:TypeId} {k:IntKind} {a b:Int} (hx:ev n l x=some (.int k a)) (hy:ev n l y=some (.int k b)) :
    cC P ⟨d,.binOp .xor t x y u,ty,ps,af,g⟩ (bw A D l).eval w (.int k (bits .xor k a b)):=mS hx hy (by simp[binOp];rfl)
theorem aaz {x y:Operand} {t u:TypeId} {k:IntKind} {a b:Int} (hx:ev n l x=some (.int k a)) (hy:ev n l y=some (.int k b)) :
    cC P ⟨d,.binOp .andNot t x y u,ty,ps,af,g⟩ (bw A D l).eval w (.int k (bits .andNot k a b)):=mS hx hy (by simp[binOp];rfl)
def lR (k:IntKind) (a b:Int):Int:=k.wrap (a*2 ^ min b.toNat k.bits)
def ac4 (k:IntKind) (a b:Int):Int:=a/2 ^ min b.toNat k.bits
theorem oZ {x y:Operand} {t u:TypeId} {k j:IntKind} {a b:Int} (hx:ev n l x=some (.int k a)) (hy:ev n l y=some (.int j b)) (h0:0≤b) :
    cC P ⟨d,.binOp .shl t x y u,ty,ps,af,g⟩ (bw A D l).eval w (.int k (lR k a b)):=mS hx hy (by simp only[binOp];rw[shift_shl_any k j a b h0];rfl)
theorem JY {x y:Operand} {t u:TypeId} {k j:IntKind} {a b:Int} (hx:ev n l x=some (.int k a)) (hy:ev n l y=some (.int j b)) (h0:0≤b) :
    cC P ⟨d,.binOp .shr t x y u,ty,ps,af,g⟩ (bw A D l).eval w (.int k (ac4 k a b)):=mS hx hy (by simp only[binOp];rw[shift_shr_any k j a b h0];rfl)
theorem kJ {x y:Operand} {t u:TypeId} {k:IntKind} {a b:Int} (hx:ev n l x=some (.int k a)) (hy:ev n l y=some (.int k b)) :
    cC P ⟨d,.binOp .eql t x y u,ty,ps,af,g⟩ (bw A D l).eval w (.bool (decide (a=b))):=mS hx hy (by simp[binOp,Op.intCmp];rw[Bool.eq_iff_iff];simp)
theorem Ni {x y:Operand} {t u:TypeId} {k:IntKind} {a b:Int} (hx:ev n l x=some (.int k a)) (hy:ev n l y=some (.int k b)) :
    cC P ⟨d,.binOp .neq t x y u,ty,ps,af,g⟩ (bw A D l).eval w (.bool (decide (a≠b))):=mS hx hy (by simp[binOp,Op.intCmp];rw[Bool.eq_iff_iff];simp)
theorem qd {x y:Operand} {t u:TypeId} {k:IntKind} {a b:Int} (hx:ev n l x=some (.int k a)) (hy:ev n l y=some (.int k b)) :
    cC P ⟨d,.binOp .lss t x y u,ty,ps,af,g⟩ (bw A D l).eval w (.bool (decide (a<b))):=mS hx hy (by simp[binOp,Op.intCmp])
theorem vB {x y:Operand} {t u:TypeId} {k:IntKind} {a b:Int} (hx:ev n l x=some (.int k a)) (hy:ev n l y=some (.int k b)) :
    cC P ⟨d,.binOp .leq t x y u,ty,ps,af,g⟩ (bw A D l).eval w (.bool (decide (a≤b))):=mS hx hy (by simp[binOp,Op.intCmp])
theorem tf {x y:Operand} {t u:TypeId} {k:IntKind} {a b:Int} (hx:ev n l x=some (.int k a)) (hy:ev n l y=some (.int k b)) :
    cC P ⟨d,.binOp .gtr t x y u,ty,ps,af,g⟩ (bw A D l).eval w (.bool (decide (b<a))):=mS hx hy (by simp[binOp,Op.intCmp])
theorem qc {x y:Operand} {t u:TypeId} {k:IntKind} {a b:Int} (hx:ev n l x=some (.int k a)) (hy:ev n l y=some (.int k b)) :
    cC P ⟨d,.binOp .geq t x y u,ty,ps,af,g⟩ (bw A D l).eval w (.bool (decide (b≤a))):=mS hx hy (by simp[binOp,Op.intCmp])
theorem wrap_i64 {x:Int} (h0:-9223372036854775808≤x) (h1:x≤9223372036854775807):IntKind.i64.wrap x=x:=by
  simp[IntKind.wrap,IntKind.bits,IntKind.signed];omega
theorem wrap_u64 {x:Int} (h0:0≤x) (h1:x<18446744073709551616):IntKind.u64.wrap x=x:=by
  simp[IntKind.wrap,IntKind.bits,IntKind.signed];omega
theorem wrap_u32 {x:Int} (h0:0≤x) (h1:x<4294967296):IntKind.u32.wrap x=x:=by
  simp[IntKind.wrap,IntKind.bits,IntKind.signed];omega
theorem FY (x:Int):IntKind.u64.wrap x=x%18446744073709551616:=by simp[IntKind.wrap,IntKind.bits,IntKind.signed]
theorem KX (x:Int):IntKind.u8.wrap x=x%256:=by simp[IntKind.wrap,IntKind.bits,IntKind.signed]
theorem eE {x y:Operand} {t u:TypeId} {a b:Int} (hx:ev n l x=some (.int .i64 a)) (hy:ev n l y=some (.int .i64 b)) (h:-9223372036854775808≤a+b∧a+b≤9223372036854775807) :
    cC P ⟨d,.binOp .add t x y u,ty,ps,af,g⟩ (bw A D l).eval w (.int .i64 (a+b)):=by have:=ig (P:=P) (A:=A) (D:=D) (w:=w) (d:=d) (t:=t) (u:=u) (ty:=ty) (ps:=ps) (af:=af) (g:=g) hx hy;rwa [wrap_i64 h.1 h.2]at this
theorem jx {x y:Operand} {t u:TypeId} {a b:Int} (hx:ev n l x=some (.int .i64 a)) (hy:ev n l y=some (.int .i64 b)) (h:-9223372036854775808≤a-b∧a-b≤9223372036854775807) :
    cC P ⟨d,.binOp .sub t x y u,ty,ps,af,g⟩ (bw A D l).eval w (.int .i64 (a-b)):=by have:=iB (P:=P) (A:=A) (D:=D) (w:=w) (d:=d) (t:=t) (u:=u) (ty:=ty) (ps:=ps) (af:=af) (g:=g) hx hy;rwa [wrap_i64 h.1 h.2]at this
theorem iw {x:Operand} {s t:TypeId} {k j:IntKind} {a:Int} (hs:(P.underlying s).isSome=true) (ht:P.underlying t=some (.int k)) (hx:ev n l x=some (.int j a)) :
    cC P ⟨d,.convert s t x,ty,ps,af,g⟩ (bw A D l).eval w (.int k (k.wrap a)):=by
  obtain⟨C,B⟩:=Option.isSome_iff_exists.1 hs
  simp[cC,execOp,bZ hx,convert,run_underlying B,run_underlying ht,Conv.intToInt]
theorem ad4 {x y:Operand} {ts:Array TypeId} {k j:IntKind} {a b:Int} (hx:ev n l x=some (.int k a)) (hy:ev n l y=some (.int j b)) :
    cC P ⟨d,.call {callee:=.builtin .min,args:=#[x,y],argTypes:=ts},ty,ps,af,g⟩ (bw A D l).eval w (.int k (if b<a then b else a)):=by
  simp[cC,execOp,bZ hx,bZ hy,resolve,invoke,builtin,Builtin.min_,Builtin.min2]
theorem iu {x:Operand} {v:Value} {m:Nat} {t e:TypeId} (hx:ev n l x=some v) (hT:P.underlying t=some (.slice e)) (hS:GC v m) :
    cC P ⟨d,.call {callee:=.builtin .len,args:=#[x],argTypes:=#[t]},ty,ps,af,g⟩ (bw A D l).eval w (.int .i64 m):=by
  obtain⟨a,B,rfl,_⟩:=hS
  simp[cC,execOp,bZ hx,resolve,invoke,builtin,Builtin.len_,run_underlying hT,goInt]
theorem rY {x y:Operand} {v:Value} {m:Nat} {t e:TypeId} {k:IntKind} {i:Int} (sz:Nat) (hx:ev n l x=some v) (hy:ev n l y=some (.int k i)) (hT:P.underlying t=some (.slice e)) (hE:gu P e sz=true)
    (hS:GC v m) (hi:0≤i∧i<m):cC P ⟨d,.indexAddr t x y,ty,ps,af,g⟩ (bw A D l).eval w (lC v (i.toNat*sz)):=by
  obtain⟨a,C,rfl,F,G,E⟩:=hS
  unfold gu at hE
  split at hE
  · rename_i inf hinf
    have B:inf.size=sz:=by simpa using hE
    cases a with
    | none=>have:=E rfl;omega
    | some p=>simp[cC,execOp,bZ hx,bZ hy,Instr.indexAt,asIntOf,run_underlying hT,eB hinf,hi.1,hi.2,B,lC]
  cases hE
theorem xZ {x y:Operand} {v:Value} {m:Nat} {t e:TypeId} {k:IntKind} {i:Int} (hx:ev n l x=some v) (hy:ev n l y=some (.int k i)) (hT:P.underlying t=some (.slice e)) (hE:gu P e 1=true)
    (hS:GC v m) (hi:0≤i∧i<m):cC P ⟨d,.indexAddr t x y,ty,ps,af,g⟩ (bw A D l).eval w (lC v i.toNat):=by
  have:=rY (P:=P) (A:=A) (D:=D) (w:=w) (d:=d) (ty:=ty) (ps:=ps) (af:=af) (g:=g) 1 hx hy hT hE hS hi
  simpa using this
theorem kP {x:Operand} {lo hi:Option Operand} {v:Value} {m:Nat} {t e:TypeId} (L H:Nat) (hT:P.underlying t=some (.slice e)) (hE:gu P e 1=true) (hx:ev n l x=some v)
    (hS:GC v m) (h1:L≤H) (h2:H≤m)
    (hlo:match lo with|none=>L=0|some y=>∃k,ev n l y=some (.int k L)) (hhi:match hi with|none=>H=m|some y=>∃k,ev n l y=some (.int k H)) :
    cC P ⟨d,.slice t x lo hi none,ty,ps,af,g⟩ (bw A D l).eval w (nC v L H):=by
  obtain⟨a,C,rfl,G,I,J⟩:=hS
  unfold gu at hE
  split at hE
  · rename_i inf hinf
    have B:inf.size=1:=by simpa using hE
    have E:H≤C:=by omega
    cases lo with
    | none =>
      simp only at hlo;subst hlo
      cases hi with
      | none =>
        simp only at hhi;subst hhi
        simp[cC,execOp,bZ hx,Instr.sliceAt,Instr.slice,Instr.sliceBounds,run_underlying hT,eB hinf,nC,B]
      | some y =>
        simp only at hhi;obtain⟨k,hk⟩:=hhi
        simp[cC,execOp,bZ hx,bZ hk,Instr.sliceAt,Instr.slice,Instr.sliceBounds,Instr.sliceBound,asIntOf,run_underlying hT,eB hinf,nC,B,E]
    | some z =>
      simp only at hlo;obtain⟨j,F⟩:=hlo
      cases hi with
      | none =>
        simp only at hhi;subst hhi
        simp[cC,execOp,bZ hx,bZ F,Instr.sliceAt,Instr.slice,Instr.sliceBounds,Instr.sliceBound,asIntOf,run_underlying hT,eB hinf,nC,B,h1]
      | some y =>
        simp only at hhi;obtain⟨k,hk⟩:=hhi
        simp[cC,execOp,bZ hx,bZ F,bZ hk,Instr.sliceAt,Instr.slice,Instr.sliceBounds,Instr.sliceBound,asIntOf,run_underlying hT,eB hinf,nC,B,h1,E]
  cases hE
theorem fP {x:Operand} {p:Addr} {t e:TypeId} {m:Nat} (hT:P.underlying t=some (.array m e)) (hE:gu P e 1=true) (hx:ev n l x=some (.pointer (some p))) (_hm:m≠0) :
    cC P ⟨d,.slice t x none none none,ty,ps,af,g⟩ (bw A D l).eval w (.slice (some p) m m):=by
  unfold gu at hE
  split at hE
  · rename_i inf hinf
    simp[cC,execOp,bZ hx,Instr.sliceAt,Instr.sureAddr,Instr.sliceBounds,run_underlying hT,eB hinf,Addr.add]
  cases hE
theorem MZ {x:Operand} {t:TypeId} {p:Addr} {u:Value} (hx:ev n l x=some (.pointer (some p))) (hT:gZ P t=true) (hc:w.cell? p=some u) :
    cC P ⟨d,.load t x,ty,ps,af,g⟩ (bw A D l).eval w u:=by
  simp[cC,execOp,bZ hx,Instr.loadAt,Instr.sureAddr,loadVar,mB hT,hc]
theorem aA {x:Operand} {t ty':TypeId} {b j:Nat} {cs:List Value} {u:Value} (hx:ev n l x=some (.pointer (some ⟨b,j,none⟩))) (hT:gZ P t=true) (hB:bO w b cs ty') (hj:cs[j]? = some u) :
    cC P ⟨d,.load t x,ty,ps,af,g⟩ (bw A D l).eval w u:=MZ hx hT (by rw[hB.cell];exact hj)
theorem aa1 {x:Operand} {t:TypeId} {i:Nat} {v u:Value} {l':List Value} (hx:ev n l x=some (lC v i)) (hT:gZ P t=true) (hS:Sl w v l') (hj:l'[i]? = some u) :
    cC P ⟨d,.load t x,ty,ps,af,g⟩ (bw A D l).eval w u:=by
  obtain⟨a,B,rfl,F,G,C,E⟩:=hS
  have H:=(List.getElem?_eq_some_iff.1 hj).1
  cases a with
  | none=>have:=C rfl;omega
  | some p=>exact MZ (p:=p.add i) hx hT (E p q i u hj)
theorem yc {x:Operand} {t:TypeId} {i:Nat} {v:Value} {l':Ly} (hx:ev n l x=some (lC v i)) (hT:gZ P t=true) (hS:By w v l') (hj:i<l'.length) :
    cC P ⟨d,.load t x,ty,ps,af,g⟩ (bw A D l).eval w (b8 (l'.getD i 0)):=aa1 hx hT hS (OX l' i hj)
theorem wL {x:Operand} {t:TypeId} {p:Addr} {m:Nat} {cs:List Value} (hx:ev n l x=some (.pointer (some p))) (hT:fA P t m=true) (hm:cs.length=m) (hc:∀j u,cs[j]? = some u→w.cell? (p.add j)=some u) :
    cC P ⟨d,.load t x,ty,ps,af,g⟩ (bw A D l).eval w (.agg cs.toArray):=by
  obtain⟨G,F,H,B,C,I⟩:=oQ hT
  have E:=run_loadCells_list (P:=P) (w:=w) p cs hc
  simp[cC,execOp,bZ hx,Instr.loadAt,Instr.sureAddr,loadVar,tJ hT,eB B,C,← hm,E]
theorem lZ {x:Operand} {t ty':TypeId} {b:Nat} {cs:List Value} (hx:ev n l x=some (.pointer (some ⟨b,0,none⟩))) (hT:fA P t cs.length=true) (hB:bO w b cs ty') :
    cC P ⟨d,.load t x,ty,ps,af,g⟩ (bw A D l).eval w (.agg cs.toArray) :=
  wL hx hT q fun j u hj=>by rw[Addr.jL,Nat.zero_add,hB.cell];exact hj
theorem aU {x:Operand} {s:TypeId} {f b o off:Nat} (hx:ev n l x=some (.pointer (some ⟨b,o,none⟩))) (hf:bh P s f=some off) :
    cC P ⟨d,.fieldAddr s x f,ty,ps,af,g⟩ (bw A D l).eval w (.pointer (some ⟨b,o+off,none⟩)):=by
  unfold bh at hf
  split at hf
  · rename_i fs hfs
    split at hf
    · rename_i fd hfd
      split at hf
      · rename_i inf hinf
        split at hf
        · cases hf
        rename_i hz
        simp only[Option.some.injEq]at hf
        subst hf
        simp[cC,execOp,bZ hx,Instr.fieldAt,Instr.sureAddr,run_underlying hfs,hfd,fieldPlace,eB hinf,hz,Addr.jL]
      cases hf
    cases hf
  cases hf
theorem By.qB {e:TypeId} {v:Value} {l':Ly} (h:w.ownsRow 0 e 1 v l'.length (l'.map b8)):By w v l':=Sl.qB (e:=e) (base:=0) (by simpa using h)
theorem eY {x y:Operand} {t e:TypeId} {m b o:Nat} {k:IntKind} {i:Int} (hx:ev n l x=some (.pointer (some ⟨b,o,none⟩))) (hy:ev n l y=some (.int k i)) (hT:P.underlying t=some (.array m e)) (hE:gu P e 1=true)
    (hi:0≤i∧i<m):cC P ⟨d,.indexAddr t x y,ty,ps,af,g⟩ (bw A D l).eval w (.pointer (some ⟨b,o+i.toNat,none⟩)):=by
  unfold gu at hE
  split at hE
  · rename_i inf hinf
    have B:inf.size=1:=by simpa using hE
    simp[cC,execOp,bZ hx,bZ hy,Instr.indexAt,Instr.sureAddr,asIntOf,run_underlying hT,eB hinf,hi.1,hi.2,B,Addr.jL]
  cases hE
theorem cC.jd {o:Oper} {e:Operand→Value} {k:IntKind} {a b:Int} (h:cC P o e w (.int k a)) (he:a=b):cC P o e w (.int k b):=he ▸ h
theorem cC.BJ {o:Oper} {e:Operand→Value} {a b:Bool} (h:cC P o e w (.bool a)) (he:a=b):cC P o e w (.bool b):=he ▸ h
theorem cC.cast {o:Oper} {e:Operand→Value} {a b:Value} (h:cC P o e w a) (he:a=b):cC P o e w b:=he ▸ h
end
end Go.Wk
namespace Go.Wk
open Go Go.RowKit
section
variable {P:Program} {n:Nat} {A:Fr n} {D:List Deferred} {l:List (Nat × Value)} {w:World} {ops:Array Oper} {rest:List Oper} {Q:Exit→Act→World→Prop}
variable {d:Tmp} {op:Op} {ty:TypeId} {ps:String} {af:Array Edge}
theorem fO {o:Oper} {a:Act} (hg:o.guard=none) (h:o.wp P a w (wpList P ops Q rest) Q):wpList P ops Q (o :: rest) a w:=by
  unfold wpList;rw[if_pos (by simp[Region.wanted,hg])];exact .inl h
theorem EC {o:Oper} {a:Act} {v:Value} {K:Act→World→Prop} (hr:cC P o a.eval w v) (h:K (a.put o.dst v) w):o.wp P a w K Q:=by
  unfold Oper.wp;unfold cC at hr;rw[hr];exact h
theorem st (v:Value) (hr:cC P ⟨some d,op,ty,ps,af,none⟩ (bw A D l).eval w v) (k:wpList P ops Q rest (bw A D ((d,v) :: l)) w) :
    wpList P ops Q (⟨some d,op,ty,ps,af,none⟩ :: rest) (bw A D l) w:=fO q (EC hr k)
theorem mh {j t:Nat} {o:Oper} {b:Bool} (ho:ops[j]? = some o) (ht:o.dst=some t) (h:ev n l (.tmp t)=some (.bool b)):yielded ops (bw A D l).tmps j=some b:=by
  have h':=bZ (A:=A) (D:=D) h
  have F:(bw A D l).tmps.size=n:=wI
  have E:t<n:=by
    simp only[ev]at h
    cases hb:Nat.ble n t with
    | true=>simp[hb]at h
    | false=>exact Nat.lt_of_not_le fun C=>by rw[Nat.ble_eq_true_of_le C]at hb;cases hb
  simp only[Act.eval,Array.getD,F,E,dite_true]at h'
  have B:(bw A D l).tmps[t]? = some (.bool b):=by
    rw[Array.getElem?_eq_getElem Ok];exact congrArg some h'
  simp[yielded,ho,ht,B]
theorem aaP {j t:Nat} {o:Oper} {b want:Bool} (v:Value) (ho:ops[j]? = some o) (ht:o.dst=some t) (hy:ev n l (.tmp t)=some (.bool b)) (hb:b=want)
    (hr:cC P ⟨some d,op,ty,ps,af,some (j,want)⟩ (bw A D l).eval w v) (k:wpList P ops Q rest (bw A D ((d,v) :: l)) w) :
    wpList P ops Q (⟨some d,op,ty,ps,af,some (j,want)⟩ :: rest) (bw A D l) w:=by
  unfold wpList;rw[if_pos (by simp[Region.wanted,mh ho ht hy,hb])];exact .inl (EC hr k)
theorem ac8 {j t:Nat} {o:Oper} {b want:Bool} (ho:ops[j]? = some o) (ht:o.dst=some t) (hy:ev n l (.tmp t)=some (.bool b)) (hb:b = !want)
    (k:wpList P ops Q rest (bw A D ((d,undef) :: l)) w) :
    wpList P ops Q (⟨some d,op,ty,ps,af,some (j,want)⟩ :: rest) (bw A D l) w:=by
  unfold wpList;rw[if_neg (by subst hb;simp[Region.wanted,mh ho ht hy])];exact k
theorem cB {t:Nat} {b:Bool} (_:ev n l (.tmp t)=some (.bool b)) (h1:b=true→wpList P ops Q rest (bw A D l) w) (h0:b=false→wpList P ops Q rest (bw A D l) w):wpList P ops Q rest (bw A D l) w:=by cases b<;>simp_all
theorem ak {a:Act} (h:Q .normal a w):wpList P ops Q [] a w:=h
theorem ax {id:Nat} {lo:List Oper} {a:Act} (h:wpList P lo.toArray Q lo a w):(Code.region id lo.toArray false).wp P Q a w:=wp_region_lit h
theorem au {x y:Code} {a:Act} (h:x.wp P (Exit.then (fun a w=>y.wp P Q a w) Q) a w):(Code.seq x y).wp P Q a w:=wp_seq h
theorem ai {K:Act→World→Prop} {a:Act} (h:K a w):Exit.then K Q .normal a w:=h
theorem aY {a:Act} (h:Q .normal a w):Code.skip.wp P Q a w:=wp_skip h
theorem gW {a:Act} (h:Q .ret a w):Code.ret.wp P Q a w:=wp_ret h
theorem cw {id:Nat} {a:Act} (h:Q (.exit id) a w):(Code.exit id).wp P Q a w:=wp_exit h
theorem b9 {id:Nat} {c:Code} {a:Act} (h:c.wp P (Exit.inBlock id Q) a w):(Code.block id c).wp P Q a w:=wp_block h
theorem bD {K:Act→World→Prop} {id:Nat} {a:Act} (h:Q (.exit id) a w):Exit.then K Q (.exit id) a w:=h
theorem cZ {id:Nat} {a:Act} (h:Q .normal a w):Exit.inBlock id Q (.exit id) a w:=by simpa [Exit.inBlock]using h
theorem abd {id id':Nat} {a:Act} (hne:Nat.beq id' id=false) (h:Q (.exit id') a w):Exit.inBlock id Q (.exit id') a w:=by
  have:id'≠id:=fun h=>by subst h;simp at hne
  simpa [Exit.inBlock,this]using h
theorem bL {id:Nat} {a:Act} (h:Q .normal a w):Exit.inBlock id Q .normal a w:=h
theorem aV {K:Act→World→Prop} {a:Act} (h:Q .ret a w):Exit.then K Q .ret a w:=h
theorem bG {id:Nat} {a:Act} (h:Q .ret a w):Exit.inBlock id Q .ret a w:=h
theorem bV {c:Operand} {x y:Code} {b:Bool} (hc:ev n l c=some (.bool b)) (h1:b=true→x.wp P Q (bw A D l) w) (h0:b=false→y.wp P Q (bw A D l) w) :
    (Code.cond c x y).wp P Q (bw A D l) w:=wp_cond_split (bZ hc) h1 h0
theorem fZ {c:Operand} {x y:Code} {b:Bool} (hc:ev n l c=some (.bool b)) (hb:b=true) (h:x.wp P Q (bw A D l) w):(Code.cond c x y).wp P Q (bw A D l) w :=
  bV hc (fun _=>h) (fun h0=>by rw[hb]at h0;cases h0)
theorem fW {c:Operand} {x y:Code} {b:Bool} (hc:ev n l c=some (.bool b)) (hb:b=false) (h:y.wp P Q (bw A D l) w):(Code.cond c x y).wp P Q (bw A D l) w :=
  bV hc (fun h0=>by rw[hb]at h0;cases h0) (fun _=>h)
def GB {X:Type} (n:Nat) (D:List Deferred) (inv:X→List (Nat × Value)) (W:X→World→Prop) (mu:X→Nat) (x:X) (a:Act) (w:World):Prop :=
  ∃(x':X) (B:Fr n),a=bw B D (inv x')∧W x' w∧mu x'<mu x
theorem ja {X:Type} {c:Code} (inv:X→List (Nat × Value)) (W:X→World→Prop) (mu:X→Nat) (x0:X) (h0:Fits n l (inv x0)) (hw:W x0 w)
    (round:∀(x:X) (B:Fr n) (w':World),W x w'→c.wp P (Exit.then (GB n D inv W mu x) Q) (bw B D (inv x)) w') :
    (Code.loop c).wp P Q (bw A D l) w:=by
  refine wp_loop_ghost (fun m a w'=>∃(x:X) (B:Fr n),a=bw B D (inv x)∧W x w'∧mu x=m) (mu x0) ⟨x0,_,(dz (A:=A) (D:=D) h0).symm,hw,q⟩ ?_
  rintro m a w' ⟨x,B,rfl,I,rfl⟩
  refine wp_mono (round x B w' I) ?_
  intro e J K h
  cases e with
  | normal=>obtain⟨C,E,F,G,H⟩:=h;exact⟨mu C,H,C,E,F,G,q⟩
  | _=>exact h
theorem next {X:Type} {inv:X→List (Nat × Value)} {W:X→World→Prop} {mu:X→Nat} {x:X} (x':X) (hm:mu x'<mu x) (hf:Fits n l (inv x')) (hw:W x' w) :
    GB n D inv W mu x (bw A D l) w:=⟨x',_,(dz (A:=A) (D:=D) hf).symm,hw,hm⟩
def cM (P:Program) (f:FuncId):Bool :=
  match P.funcs[f]? with
  | some fn => !(fn.name == "runtime.NumGoroutine") && fn.body.isSome
  | none=>false
theorem nO {f:FuncId} (hf:cM P f=true) (args:Array Value):(callFunc f args).run P w = .ok (.enter f args) w:=by
  unfold cM at hf
  split at hf
  · rename_i fn hfn
    simp only[Bool.and_eq_true,Bool.not_eq_true']at hf
    have A : ¬ fn.name = "runtime.NumGoroutine" := by have := hf.1; simpa using this
    have B:¬fn.body=none:=by intro C;rw[C]at hf;simp at hf
    simp[callFunc,hfn,A,B]
  · cases hf
theorem vR {f:FuncId} {xs:List Operand} {ts:Array TypeId} {vs:List Value} {d':Option Tmp} {g:Option (Nat × Bool)} (hf:cM P f=true) (ha:evs n l xs=some vs) :
    (execOp (bw A D l).eval ⟨d',.call {callee:=.value (.func f),args:=xs.toArray,argTypes:=ts},ty,ps,af,g⟩).run P w = .ok (.enter f vs.toArray) w:=by
  have B:=lF (A:=A) (D:=D) ha
  simp only[execOp,resolve,Act.eval,Deferred.ofValue,List.map_toArray,B]
  simp[invoke,nO hf]
theorem aj {f:FuncId} {xs:List Operand} {ts:Array TypeId} {vs:List Value} {R:Ending→World→Prop} (hf:cM P f=true) (ha:evs n l xs=some vs) (hc:Calls P f vs.toArray w R)
    (k:∀e w',R e w'→∃v,e = .returned v∧wpList P ops Q rest (bw A D ((d,v) :: l)) w') :
    wpList P ops Q (⟨some d,.call {callee:=.value (.func f),args:=xs.toArray,argTypes:=ts},ty,ps,af,none⟩ :: rest) (bw A D l) w:=by
  refine fO q ?_
  unfold Oper.wp
  rw[vR hf ha]
  refine hc.mono fun e w' B=>?_
  obtain⟨v,rfl,hk⟩:=k e w' B
  exact hk
theorem gH {f:FuncId} {xs:List Operand} {ts:Array TypeId} {vs:List Value} {R:Ending→World→Prop} {j t:Nat} {o:Oper} {b want:Bool} (ho:ops[j]? = some o) (ht:o.dst=some t) (hy:ev n l (.tmp t)=some (.bool b)) (hb:b=want)
    (hf:cM P f=true) (ha:evs n l xs=some vs) (hc:Calls P f vs.toArray w R)
    (k:∀e w',R e w'→∃v,e = .returned v∧wpList P ops Q rest (bw A D ((d,v) :: l)) w') :
    wpList P ops Q (⟨some d,.call {callee:=.value (.func f),args:=xs.toArray,argTypes:=ts},ty,ps,af,some (j,want)⟩ :: rest) (bw A D l) w:=by
  unfold wpList;rw[if_pos (by simp[Region.wanted,mh ho ht hy,hb])]
  refine .inl ?_
  unfold Oper.wp
  rw[vR hf ha]
  refine hc.mono fun e w' B=>?_
  obtain⟨v,rfl,hk⟩:=k e w' B
  exact hk
def r8:Nat→List Value→List (Nat × Value)
  | _,[]=>[]
  | i,v :: r=>(i,v) :: r8 (i+1) r
theorem CU {B:Fr n} {l1:List (Nat × Value)} (h:∀p∈l1,B.tmps.getD p.1 undef=p.2):bw B D l1=⟨B.tmps,D⟩:=by
  induction l1 with
  | nil=>rfl
  | cons p r ih =>
    simp only[bw]
    rw[ih fun q A=>h q (by simp[A])]
    exact JS _ _ _ (h p Oj)
theorem zu {vs:List Value} {i:Nat} {p:Nat × Value} (h:p∈r8 i vs):∃j,p.1=i+j∧vs[j]? = some p.2:=by
  induction vs generalizing i with
  | nil=>simp[r8]at h
  | cons v r ih =>
    simp only[r8,List.mem_cons]at h
    rcases h with rfl|h
    · exact⟨0,q,q⟩
    · obtain⟨j,B,A⟩:=ih h
      exact⟨j+1,by omega,by simpa using A⟩
theorem enter {f:FuncId} {fn:Func} {c:Code} {vs:List Value} {R:Ending→World→Prop} (hf:P.funcs[f]? = some fn) (hb:fn.body=some c) (hn:fn.ntmps=n) (hle:Nat.ble vs.length n=true)
    (h:∀B:Fr n,c.wp P (bodyPost P fn R) (bw B [] (r8 0 vs)) w):Calls P f vs.toArray w R:=by
  refine calls_of_wp hf hb ?_
  have hle':vs.length≤n:=lB hle
  have D:(vs.toArray ++ Array.replicate (fn.ntmps-vs.toArray.size) undef).size=n:=by simp[hn];omega
  have:=h ⟨_,D⟩
  rwa [CU]at this
  intro p H
  obtain⟨j,E,F⟩:=zu H
  have G:=(List.getElem?_eq_some_iff.1 F)
  obtain⟨A,C⟩:=G
  simp only[E,Nat.zero_add,Array.getD]
  rw[dif_pos Yw]
  show(vs.toArray ++ _)[j]'_=_
  rw[Array.getElem_append_left (by simpa using A)]
  simpa using C
def qS:Exit→Prop
  | .ret|.normal=>True
  | _=>False
theorem bp {fn:Func} {R:Ending→World→Prop} {e:Exit} {v:Value} {a:Act} (he:qS e) (hd:a.defers=[]) (hr:(results fn a.tmps).run P w = .ok v w) (h:R (.returned v) w):bodyPost P fn R e a w:=by
  cases e <;> simp only[qS]at he <;> exact⟨hd,v,hr,h⟩
theorem nI {t:Nat} {v:Value} (h:ev n l (.tmp t)=some v):(bw A D l).tmps.getD t undef=v:=bZ (A:=A) (D:=D) h
theorem yQ {t:Nat} {v:Value} (h:ev n l (.tmp t)=some v):(bw A D l).tmps[t]?.getD undef=v:=by simpa using nI (A:=A) (D:=D) h
theorem UL {fn:Func} {R:Ending→World→Prop} {e:Exit} (he:qS e) (hr:fn.results = #[]) (h:R (.returned (.tuple #[])) w):bodyPost P fn R e (bw A [] l) w :=
  bp he fD (results_none hr _ _ _) h
theorem gI {fn:Func} {R:Ending→World→Prop} {e:Exit} {t:Nat} {v:Value} (he:qS e) (hr:fn.results = #[.tmp t]) (hv:ev n l (.tmp t)=some v) (h:R (.returned v) w):bodyPost P fn R e (bw A [] l) w :=
  bp he fD (results_tmp hr _ _ _) (by rw[nI hv];exact h)
theorem ahO {fn:Func} {R:Ending→World→Prop} {e:Exit} {t u:Nat} {v v':Value} (he:qS e) (hr:fn.results = #[.tmp t,.tmp u]) (hv:ev n l (.tmp t)=some v) (hv':ev n l (.tmp u)=some v')
    (h:R (.returned (.tuple #[v,v'])) w):bodyPost P fn R e (bw A [] l) w :=
  bp he fD (results_tmp2 hr _ _ _) (by rw[nI hv,nI hv'];exact h)
theorem agI {fn:Func} {R:Ending→World→Prop} {e:Exit} {t u x:Nat} {v v' v'':Value} (he:qS e) (hr:fn.results = #[.tmp t,.tmp u,.tmp x]) (hv:ev n l (.tmp t)=some v) (hv':ev n l (.tmp u)=some v') (hv'':ev n l (.tmp x)=some v'')
    (h:R (.returned (.tuple #[v,v',v''])) w):bodyPost P fn R e (bw A [] l) w :=
  bp he fD (results_tmp3 hr _ _ _) (by rw[nI hv,nI hv',nI hv''];exact h)
theorem ny {t ty':TypeId} {b:Nat} {cs:List Value} (hT:fA P t cs.length=true) (hB:bO w b cs ty'):(loadVar t ⟨b,0,none⟩).run P w = .ok (.agg cs.toArray) w:=by
  obtain⟨F,E,G,A,B,H⟩:=oQ hT
  have D:=run_loadCells_list (P:=P) (w:=w) ⟨b,0,none⟩ cs fun j u C=>by rw[Addr.jL,Nat.zero_add,hB.cell];exact C
  simp[loadVar,tJ hT,eB A,B,D]
theorem agL {fn:Func} {R:Ending→World→Prop} {e:Exit} {t:Nat} {tt ty':TypeId} {b:Nat} {cs:List Value} (he:qS e) (hr:fn.results = #[.cell t tt]) (hv:ev n l (.tmp t)=some (.pointer (some ⟨b,0,none⟩)))
    (hT:fA P tt cs.length=true) (hB:bO w b cs ty') (h:R (.returned (.agg cs.toArray)) w):bodyPost P fn R e (bw A [] l) w :=
  bp he fD (by simp[results,hr,yQ hv,asAddr,ny hT hB]) h
theorem xh {fn:Func} {R:Ending→World→Prop} {e:Exit} {t u:Nat} {tt ty':TypeId} {b:Nat} {cs:List Value} {v:Value} (he:qS e) (hr:fn.results = #[.cell t tt,.tmp u]) (hv:ev n l (.tmp t)=some (.pointer (some ⟨b,0,none⟩)))
    (hT:fA P tt cs.length=true) (hB:bO w b cs ty') (hv':ev n l (.tmp u)=some v) (h:R (.returned (.tuple #[.agg cs.toArray,v])) w):bodyPost P fn R e (bw A [] l) w :=
  bp he fD (by simp[results,hr,yQ hv,yQ hv',asAddr,ny hT hB]) h
theorem bI {x y:Operand} {t ty':TypeId} {b j:Nat} {cs:List Value} {u:Value} (hx:ev n l x=some (.pointer (some ⟨b,j,none⟩))) (hy:ev n l y=some u) (hT:gZ P t=true) (hu:u.oneCell'=true)
    (hB:bO w b cs ty') (hj:j<cs.length) (k:∀w',Md [b] w w'→bO w' b (cs.set j u) ty'→wpList P ops Q rest (bw A D l) w') :
    wpList P ops Q (⟨none,.store t x y,ty,ps,af,none⟩ :: rest) (bw A D l) w:=by
  refine fO q ?_
  obtain⟨I,H,J,E,F,K⟩:=za hT
  have G:u.cells = #[u]:=by cases u <;> simp_all [Value.cells,Value.oneCell']
  have B:w.cell? ⟨b,j,none⟩=some cs[j]:=by rw[hB.cell];simp[hj]
  have C:(execOp (bw A D l).eval ⟨none,.store t x y,ty,ps,af,none⟩).run P w = .ok .skip (w.setCell ⟨b,j,none⟩ u):=by
    simp[execOp,bZ hx,bZ hy,Instr.storeAt,Instr.sureAddr,storeVar,eB E,F,G,storeCells,Addr.add,run_store P w _ u _ hu,B,hB.frozen]
  unfold Oper.wp
  rw[C]
  exact k _ (Md.setCell w ⟨b,j,none⟩ u) (hB.set j u)
def fo (cs:List Value) (j:Nat) (us:List Value):List Value:=cs.take j ++ us ++ cs.drop (j+us.length)
theorem bO.setRow {b:Nat} {cs us:List Value} {ty':TypeId} (hB:bO w b cs ty'):bO (w.setRow b us.toArray) b us ty':=setRow_heap w b _ _ ty' _ hB
theorem Md.setRow (w:World) (b:Nat) (us:Array Value):Md [b] w (w.setRow b us):=⟨q,q,q,by simp,fun k _ hs=>setRow_other w b k us (by simpa using hs)⟩
theorem aX {x y:Operand} {t ty':TypeId} {b j:Nat} {cs us:List Value} (hx:ev n l x=some (.pointer (some ⟨b,j,none⟩))) (hy:ev n l y=some (.agg us.toArray)) (hT:fA P t us.length=true)
    (hu:∀u∈us,u.oneCell'=true) (hB:bO w b cs ty') (hj:j+us.length≤cs.length) (k:∀w',Md [b] w w'→bO w' b (fo cs j us) ty'→wpList P ops Q rest (bw A D l) w') :
    wpList P ops Q (⟨none,.store t x y,ty,ps,af,none⟩ :: rest) (bw A D l) w:=by
  refine fO q ?_
  obtain⟨H,G,I,E,F,J⟩:=oQ hT
  have C:=run_storeCells_at P b j ty' us 0 cs.toArray w hB (by simpa using hj) hu
  have B:(execOp (bw A D l).eval ⟨none,.store t x y,ty,ps,af,none⟩).run P w = .ok .skip (w.setRow b (fo cs j us).toArray):=by
    simp[execOp,bZ hx,bZ hy,Instr.storeAt,Instr.sureAddr,storeVar,eB E,F,Value.cells,C,fo]
  unfold Oper.wp
  rw[B]
  exact k _ (Md.setRow w b _) hB.setRow
theorem eW {x y:Operand} {t ty':TypeId} {b:Nat} {cs us:List Value} (hx:ev n l x=some (.pointer (some ⟨b,0,none⟩))) (hy:ev n l y=some (.agg us.toArray)) (hT:fA P t us.length=true)
    (hu:∀u∈us,u.oneCell'=true) (hB:bO w b cs ty') (hj:us.length=cs.length) (k:∀w',Md [b] w w'→bO w' b us ty'→wpList P ops Q rest (bw A D l) w') :
    wpList P ops Q (⟨none,.store t x y,ty,ps,af,none⟩ :: rest) (bw A D l) w :=
  aX hx hy hT hu hB (by omega) fun w' hm hb => k w' hm (by have : fo cs 0 us = us := by simp [fo, hj]
                                                           rwa [this]at hb)
theorem bU {t:TypeId} {cs:List Value} (hz:ea P t=some cs)
    (k:∀b w',w.heap.size≤b→b<w'.heap.size→Md [] w w'→bO w' b cs t→wpList P ops Q rest (bw A D ((d,.pointer (some ⟨b,0,none⟩)) :: l)) w') :
    wpList P ops Q (⟨some d,.alloc t,ty,ps,af,none⟩ :: rest) (bw A D l) w:=by
  refine fO q ?_
  unfold ea at hz
  split at hz
  · rename_i i hi
    split at hz
    · rename_i z hzz
      simp only[Option.some.injEq]at hz
      have B:(execOp (bw A D l).eval ⟨some d,.alloc t,ty,ps,af,none⟩).run P w = .ok (.value (.pointer (some ⟨w.heap.size,0,none⟩))) (w.alloc (.cells cs.toArray t)):=by
        subst hz
        simp[execOp,Instr.alloc,zeroValue,typeInfo,hi,hzz,newVar,newRow]
      unfold Oper.wp
      rw[B]
      exact k _ _ (Nat.le_refl _) Oj (Md.alloc w _) (bO.new w cs t)
    cases hz
  cases hz
theorem eC {t:TypeId} {x:Operand} {v:Value} {cs:List Value} (hx:ev n l x=some v) (hv:v.cells=cs.toArray)
    (k:∀b w',w.heap.size≤b→b<w'.heap.size→Md [] w w'→bO w' b cs t→wpList P ops Q rest (bw A D ((d,.pointer (some ⟨b,0,none⟩)) :: l)) w') :
    wpList P ops Q (⟨some d,.box t x,ty,ps,af,none⟩ :: rest) (bw A D l) w:=by
  refine fO q ?_
  have B:(execOp (bw A D l).eval ⟨some d,.box t x,ty,ps,af,none⟩).run P w = .ok (.value (.pointer (some ⟨w.heap.size,0,none⟩))) (w.alloc (.cells cs.toArray t)):=by
    simp[execOp,Instr.box,newVar,newRow,bZ hx,hv]
  unfold Oper.wp
  rw[B]
  exact k _ _ (Nat.le_refl _) Oj (Md.alloc w _) (bO.new w cs t)
theorem dY {v:Value} (h:v.oneCell'=true):v.cells = #[v]:=by cases v<;>simp_all [Value.cells,Value.oneCell']
theorem Sl.bN {v:Value} {l':List Value} (h:Sl w v l'):v.oneCell'=true:=by obtain⟨a,c,rfl,_⟩:=h;rfl
def qK (cs:List Value):List (Nat × Value)→List Value
  | []=>cs
  | (i,v) :: r=>qK (cs.set i v) r
def nY:List Value→Prop
  | []=>True
  | v :: r=>v.oneCell'=true∧nY r
def vK:List (Nat × Nat)→List Value→List (Nat × Value)
  | (_,o) :: r,v :: vs=>(o,v) :: vK r vs
  | _,_=>[]
theorem uL {place:Nat→Option (Nat × Nat)}:∀(ps:List (Nat × Nat)) (vs:List Value) (cs:List Value),ps.length=vs.length→(∀p∈ps,place p.1=some (p.2,1)∧p.2<cs.length)→nY vs →
    Instr.fill place cs.toArray ((ps.map (·.1)).zip vs)=some (qK cs (vK ps vs)).toArray
  | [],[],cs,_,_,_=>by simp[Instr.fill,vK,qK]
  | (i,o) :: ps,v :: vs,cs,hl,hp,h1=>by
    have hv:=dY h1.1
    obtain⟨h2,h3⟩:=hp (i,o) Oj
    have ih:=uL (place:=place) ps vs (cs.set o v) (by simpa using hl) (fun p hp'=>by have:=hp p (by simp[hp']);simpa using this) h1.2
    simp only at h2 h3
    have hb:¬(cs.length<o+1):=by omega
    simp only[List.map_cons,List.zip_cons_cons,Instr.fill,h2,hv]
    simp[vK,qK,ih,hb]
  | [],_ :: _,_,hl,_,_=>by simp at hl
  | _ :: _,[],_,hl,_,_=>by simp at hl
def fw (P:Program) (t:TypeId):Option (List (Nat × Nat)) :=
  match P.underlying t with
  | some (.array m e)=>match P.info? e with
    | some ie=>some ((List.range m).map fun i=>(i*ie.size,ie.size))
    | none=>none
  | some (.struct ay)=>ay.toList.mapM (fun f=>(P.info? f.type).map fun i=>(f.offset,i.size))
  | _=>none
def aap (pl:List (Nat × Nat)) (m:Nat):List (Nat × Nat)→Bool
  | []=>true
  | (i,o) :: r=>(match pl[i]? with
    | some (o',s)=>Nat.beq o' o && Nat.beq s 1 && Nat.ble (o+1) m
    | none=>false) && aap pl m r
theorem CW {pl:List (Nat × Nat)} {m:Nat}:∀{ps:List (Nat × Nat)},aap pl m ps=true→∀p∈ps,pl[p.1]? = some (p.2,1)∧p.2<m
  | [],_,p,hp=>by cases hp
  | (i,o) :: r,h,p,hp=>by
    simp only[aap,Bool.and_eq_true]at h
    rcases List.mem_cons.1 hp with rfl|hp'
    · cases hq:pl[i]? with
      | none=>rw[hq]at h;simp at h
      | some q =>
        obtain⟨o',s⟩:=q
        rw[hq]at h
        simp only[Bool.and_eq_true]at h
        obtain⟨⟨⟨h1,h2⟩,h3⟩,_⟩:=h
        have e1:=Nat.eq_of_beq_eq_true h1
        have e2:=Nat.eq_of_beq_eq_true h2
        subst e1;subst e2
        exact⟨rfl,lB h3⟩
    · exact CW h.2 p hp'
theorem QV {t:TypeId} {zs vs:List Value} {pl ps:List (Nat × Nat)} (hz:ea P t=some zs) (hpl:fw P t=some pl) (hl:ps.length=vs.length) (hps:aap pl zs.length ps=true) (h1:nY vs) :
    P.built t ((ps.map (·.1)).zip vs)=some (qK zs (vK ps vs)).toArray:=by
  have F:=CW hps
  unfold ea at hz
  cases hi:P.info? t with
  | none=>simp[hi]at hz
  | some it =>
    cases hzz:it.zero with
    | none=>simp[hi,hzz]at hz
    | some z =>
      simp only[hi,hzz,Option.some.injEq]at hz
      have C:z.cells=zs.toArray:=by rw[← hz]
      unfold fw at hpl
      unfold Program.built
      cases hu:P.underlying t with
      | none=>simp[hu]at hpl
      | some d =>
        cases d <;> try (simp[hu]at hpl;done)
        case array m e =>
          cases hie:P.info? e with
          | none=>simp[hu,hie]at hpl
          | some ie =>
            simp only[hu,hie,Option.some.injEq]at hpl
            simp only[hi,hzz,hie,C]
            refine uL ps vs zs hl (fun p B=>?_) h1
            obtain⟨A,D⟩:=F p B
            rw[← hpl,List.getElem?_map]at A
            have G:(List.range m)[p.1]? = some p.1:=by
              cases hq:(List.range m)[p.1]? with
              | none=>rw[hq]at A;simp at A
              | some q=>have:=List.getElem?_eq_some_iff.1 hq;obtain⟨H,E⟩:=this;simp at E;rw[← E]
            rw[G]at A
            simp only[Option.map_some,Option.some.injEq,Prod.mk.injEq]at A
            exact⟨by rw[A.1,A.2],D⟩
        case struct ay =>
          simp only[hu]at hpl
          simp only[hi,hzz,hpl,C]
          refine uL ps vs zs hl (fun p B=>?_) h1
          obtain⟨A,D⟩:=F p B
          exact⟨by simpa using A,D⟩
theorem ji {t:TypeId} {parts:List (Nat × Operand)} {zs vs cs:List Value} {pl ps:List (Nat × Nat)} {d':Option Tmp} {ps':String} {g:Option (Nat × Bool)} (hz:ea P t=some zs) (hpl:fw P t=some pl) (hpp:parts.map (·.1)=ps.map (·.1)) (hev:evs n l (parts.map (·.2))=some vs)
    (h1:nY vs) (hl:ps.length=vs.length) (hps:aap pl zs.length ps=true) (hcs:qK zs (vK ps vs)=cs) :
    cC P ⟨d',.build t parts.toArray,ty,ps',af,g⟩ (bw A D l).eval w (.agg cs.toArray):=by
  have E:=lF (A:=A) (D:=D) hev
  have B:parts.map (fun p=>(p.1,(bw A D l).eval p.2))=(ps.map (·.1)).zip vs:=by
    rw[← hpp,← E,List.map_map,List.zip_map']
    rfl
  have C:=QV hz hpl hl hps h1
  rw[← B]at C
  have F:=run_build (P:=P) w t (parts.map (fun p=>(p.1,(bw A D l).eval p.2))).toArray _ (by simpa using C)
  subst hcs
  simp only[cC,execOp,List.map_toArray]
  show Sem.run P (do pure (Next.value (← Instr.build t (parts.map fun x=>(x.1,(bw A D l).eval x.2)).toArray))) w=_
  simp[F]
variable {C:World→Prop} {QQ:Act→Prop}
theorem xK {id:Nat} {lo:List Oper} {a:Act} (C:World→Prop) (hm:P.follows .mixedOrders=true) (hB:Region.lexB .any lo.toArray=true) (hC:C {w with drawn:=w.drawn+1})
    (h:wpQuiet P lo.toArray C (fun a'=>∀w',C w'→Q .normal a' w') lo a):(Code.region id lo.toArray true).wp P Q a w :=
  wp_region_quiet hm hB hC (by simpa using h)
theorem ack {o:Oper} {a:Act} (hg:o.guard=none) (h:o.quiet P a C (wpQuiet P ops C QQ rest)):wpQuiet P ops C QQ (o :: rest) a:=by
  unfold wpQuiet;rw[if_pos (by simp[Region.wanted,hg])];exact h
theorem FN {o:Oper} {a:Act} {K:Act→Prop} (v:Value) (hr:∀w',C w'→cC P o a.eval w' v) (h:K (a.put o.dst v)):o.quiet P a C K :=
  ⟨v,fun w' hw=>by have:=hr w' hw;unfold cC at this;unfold Oper.quietAt;rw[this];exact⟨q,q⟩,h⟩
theorem qz (v:Value) (hr:∀w',C w'→cC P ⟨some d,op,ty,ps,af,none⟩ (bw A D l).eval w' v) (k:wpQuiet P ops C QQ rest (bw A D ((d,v) :: l))) :
    wpQuiet P ops C QQ (⟨some d,op,ty,ps,af,none⟩ :: rest) (bw A D l):=ack q (FN v hr k)
theorem Qu {a:Act} (h:QQ a):wpQuiet P ops C QQ [] a:=h
variable {QS:Act→Prop}
theorem ac1 {o:Oper} {a:Act} (hg:o.guard=none) (h:o.still P a w (wpStill P ops w QS rest)):wpStill P ops w QS (o :: rest) a:=by
  unfold wpStill;rw[if_pos (by simp[Region.wanted,hg])];exact h
theorem s (v:Value) (hr:cC P ⟨some d,op,ty,ps,af,none⟩ (bw A D l).eval w v) (k:wpStill P ops w QS rest (bw A D ((d,v) :: l))) :
    wpStill P ops w QS (⟨some d,op,ty,ps,af,none⟩ :: rest) (bw A D l):=ac1 q (by unfold cC at hr;unfold Oper.still;rw[hr];exact⟨q,k⟩)
def uH (P:Program) (e:TypeId) (sz by':Nat):Bool :=
  match P.info? e with
  | some i=>match i.zero with
    | some z=>Nat.beq i.size sz && Nat.beq i.bytes by' && Nat.beq z.cells.size sz
    | none=>false
  | none=>false
theorem pG {e:TypeId} {sz by':Nat} (h:uH P e sz by'=true):∃i z,P.info? e=some i∧i.zero=some z∧i.size=sz∧i.bytes=by'∧z.cells.size=sz:=by
  unfold uH at h
  split at h
  · rename_i i hi
    split at h
    · rename_i z hz
      simp only[Bool.and_eq_true]at h
      exact⟨i,z,hi,hz,Nat.eq_of_beq_eq_true h.1.1,Nat.eq_of_beq_eq_true h.1.2,Nat.eq_of_beq_eq_true h.2⟩
    cases h
  cases h
def Own (w:World) (e:TypeId) (sz:Nat) (v:Value) (n:Nat) (xs:List Value):Prop:=w.ownsRow 0 e sz v n xs
theorem Own.nil (w:World) (e:TypeId) (sz:Nat):Own w e sz (.slice none 0 0) 0 []:=World.ownsRow_nil w 0 e sz
theorem Own.md {S:List Nat} {w':World} {e:TypeId} {sz m:Nat} {v:Value} {xs:List Value} (h:Own w e sz v m xs) (hm:Md S w w') (hs:∀b,ah v=some b→b∉S):Own w' e sz v m xs:=by
  refine⟨h.1,?_⟩
  rcases h.2 with F|⟨g,C,D,rfl,E,A,B⟩
  · exact .inl F
  refine .inr ⟨g,C,D,q,E,?_,B⟩
  rw[hm.block g (Array.getElem?_eq_some_iff.1 A).1 (hs g q)]
  exact A
theorem Own.o {w':World} {e:TypeId} {sz m:Nat} {v:Value} {xs:List Value} (h:Own w e sz v m xs) (hm:Md [] w w'):Own w' e sz v m xs:=h.md hm Oj
instance aie {w':World} {e:TypeId} {sz m:Nat} {v:Value} {xs:List Value}:Tp w w' (Own w e sz v m xs) (Own w' e sz v m xs):=⟨fun m h=>h.o m⟩
theorem Own.lt {e:TypeId} {sz m:Nat} {v:Value} {xs:List Value} (h:Own w e sz v m xs):∀b,ah v=some b→b<w.heap.size:=fun b hb=>(World.ownsRow.lt h b (by cases v<;>simp_all [ah,Value.ownBlock];rename_i a _ _;cases a<;>simp_all)).2
theorem Own.ne {e ty':TypeId} {sz m b:Nat} {v:Value} {xs cs:List Value} (h:Own w e sz v m xs) (hB:bO w b cs ty') (hne:Nat.beq e ty'=false):∀b',ah v=some b'→b'≠b:=by
  rintro b' A rfl
  rcases h.2 with⟨rfl,_⟩|⟨g,B,C,rfl,_,D,_⟩
  · simp[ah]at A
  simp[ah]at A
  subst A
  unfold bO at hB
  rw[D]at hB
  simp at hB
  rw[hB.2]at hne
  simp at hne
theorem tH {t ty' e:TypeId} {sz by':Nat} (ht:P.underlying t=some (.slice e)) (hE:uH P e sz by'=true) (hsz:0<sz) {v:Value} {m:Nat} {xs:List Value} (hO:Own w e sz v m xs)
    {a:Option Addr} {k c:Nat} {news:List Value} (hl:news.length=k*sz) (ha:a=none→k=0∧c=0) (hnews:∀p,a=some p→∀j u,news[j]? = some u→w.cell? (p.add j)=some u) (h1:∀u∈news,u.oneCell'=true)
    (h63:m+k≤maxLen) (hbytes:(m+k)*by'≤140737488355328) :
    ∃v' w',(Builtin.append_ #[t,t] ty' #[v,.slice a k c]).run P w = .ok v' w'∧Own w' e sz v' (m+k) (xs ++ news)∧Md (ah v).toList w w'∧(v' = .slice none 0 0↔v = .slice none 0 0∧k=0) ∧
      (∀b,ah v'=some b→ah v=some b∨w.heap.size≤b):=by
  obtain⟨i,z,H,M,Q,F,N⟩:=pG hE
  have K:v.ownBlock=ah v:=by
    rcases hO.2 with⟨rfl,_⟩|⟨g,C,D,rfl,_⟩ <;> rfl
  cases a with
  | none =>
    obtain⟨rfl,rfl⟩:=ha q
    have:news=[]:=List.eq_nil_of_length_eq_zero (by simpa using hl)
    subst this
    exact⟨v,w,run_append_owned_none w 0 t ty' e i sz ht H v m xs hO,by simpa using hO,Md.refl _ _,by simp,fun b F=>.inl F⟩
  | some p =>
    obtain⟨v',w',I,R,S,O⟩:=run_append_own (P:=P) w 0 t ty' e i z sz by' ht H M Q F N hsz v m xs hO p k c news hl (hnews p q) h1 h63 hbytes (Nat.zero_le _)
    refine⟨v',w',I,R,by rw[← K];exact Md.grown S,O,?_⟩
    intro b A
    subst Q;subst F
    rcases hO.2 with⟨rfl,rfl⟩|⟨g,C,D,rfl,T,V,W,U,J,L⟩
    · by_cases hk:k=0
      · have:=O.2 ⟨q,hk⟩
        rw[this]at A;simp[ah]at A
      · have X:xs=[]:=List.eq_nil_of_length_eq_zero (by simpa using hO.1)
        simp only[maxLen]at h63
        have B:=run_append_nil (P:=P) w t ty' e i z ht H M p k c news hl (hnews p q) Ok Ok (by have F:=hbytes;simp only[Nat.zero_add]at F;omega)
        rw[I]at B
        simp only[Result.ok.injEq]at B
        rw[B.1]at A;simp[ah]at A
        exact .inr Ok
    · by_cases hroom:m+k≤C
      · have G:m*i.size+news.length≤D.size:=by rw[hl,J,← Nat.add_mul];exact Nat.mul_le_mul_right _ hroom
        have B:=run_append_room (P:=P) w t ty' e i ht H g m C D V p k c news hl (hnews p q) h1 hroom G
        rw[I]at B
        simp only[Result.ok.injEq]at B
        rw[B.1]at A;simp[ah]at A
        exact .inl (by simp[ah,A])
      · have E:∀j u,xs[j]? = some u→w.cell? ((⟨g,0,none⟩:Addr).add j)=some u:=World.ownsRow.cells hO (g:=g) q
        simp only[maxLen]at h63
        have B:=run_append_grow (P:=P) w t ty' e i z ht H M ⟨g,0,none⟩ m C xs hO.1 E p k c news hl (hnews p q) Ok Ok (growslice_fits Ok hbytes)
        rw[I]at B
        simp only[Result.ok.injEq]at B
        rw[B.1]at A;simp[ah]at A
        exact .inr Ok
theorem Vb {x y:Operand} {t e:TypeId} {by':Nat} {v u:Value} {xs ys:List Value} (ht:P.underlying t=some (.slice e)) (hE:uH P e 1 by'=true) (hx:ev n l x=some v) (hy:ev n l y=some u)
    (hO:Own w e 1 v xs.length xs) (hS:Sl w u ys) (h1:∀u∈ys,u.oneCell'=true) (h63:xs.length+ys.length≤maxLen) (hbytes:(xs.length+ys.length)*by'≤140737488355328)
    (k:∀v' w',Own w' e 1 v' (xs ++ ys).length (xs ++ ys)→Md (ah v).toList w w'→(v' = .slice none 0 0↔v = .slice none 0 0∧ys.length=0)→(∀b,ah v'=some b→ah v=some b∨w.heap.size≤b) →
      wpList P ops Q rest (bw A D ((d,v') :: l)) w') :
    wpList P ops Q (⟨some d,.call {callee:=.builtin .append,args:=#[x,y],argTypes:=#[t,t]},ty,ps,af,none⟩ :: rest) (bw A D l) w:=by
  refine fO q ?_
  obtain⟨a,C,rfl,L,M,F,G⟩:=hS
  obtain⟨v',w',K,H,I,J,E⟩:=tH (P:=P) (w:=w) (ty':=ty) ht hE Ok hO (a:=a) (k:=ys.length) (c:=C) (news:=ys) Oj (fun h=>⟨by have:=F h;omega,F h⟩) G h1 h63 hbytes
  have B:(execOp (bw A D l).eval ⟨some d,.call {callee:=.builtin .append,args:=#[x,y],argTypes:=#[t,t]},ty,ps,af,none⟩).run P w = .ok (.value v') w':=by
    simp[execOp,resolve,invoke,builtin,bZ hx,bZ hy,K]
  unfold Oper.wp
  rw[B]
  exact k v' w' (by simpa using H) I J E
theorem yg {x y:Operand} {t t' e ty':TypeId} {g o dLen dCap:Nat} {u:Value} {cs ys:List Value} (ht:P.underlying t=some (.slice e)) (hE:gu P e 1=true) (hx:ev n l x=some (.slice (some ⟨g,o,none⟩) dLen dCap)) (hy:ev n l y=some u)
    (hB:bO w g cs ty') (hS:Sl w u ys) (h1:∀u∈ys,u.oneCell'=true) (hfit:o+min ys.length dLen≤cs.length)
    (k:∀w',Md [g] w w'→bO w' g (fo cs o (ys.take dLen)) ty'→wpList P ops Q rest (bw A D ((d,.int .i64 (min ys.length dLen:Nat)) :: l)) w') :
    wpList P ops Q (⟨some d,.call {callee:=.builtin .copy,args:=#[x,y],argTypes:=#[t,t']},ty,ps,af,none⟩ :: rest) (bw A D l) w:=by
  refine fO q ?_
  obtain⟨a,F,rfl,N,O,J,K⟩:=hS
  unfold gu at hE
  split at hE
  case h_2=>cases hE
  rename_i inf hinf
  have H:inf.size=1:=by simpa using hE
  have B:(ys.take dLen).length=min ys.length dLen:=by simp[Nat.min_comm]
  have C:(execOp (bw A D l).eval ⟨some d,.call {callee:=.builtin .copy,args:=#[x,y],argTypes:=#[t,t']},ty,ps,af,none⟩).run P w =
      .ok (.value (.int .i64 (min ys.length dLen:Nat))) (w.setRow g (fo cs o (ys.take dLen)).toArray):=by
    cases a with
    | none =>
      have R:=J q
      have I:ys=[]:=List.eq_nil_of_length_eq_zero Ok
      subst I
      have G:fo cs o []=cs:=by simp[fo]
      simp only[List.take_nil,G]
      have:w.setRow g cs.toArray=w:=setRow_self w g _ ty' _ hB
      rw[this]
      simp[execOp,resolve,invoke,builtin,bZ hx,bZ hy,Builtin.copy_,run_underlying ht,Builtin.lenOf,Builtin.firstCells,eB hinf,storeCells,goInt]
    | some p =>
      have L:=run_copy_row (P:=P) w t t' ty e g o dLen dCap p ys.length F cs.toArray ty' (ys.take dLen) ht (by simp[hinf,H]) hB B
        (fun j u E=>K p q j u (by rw[List.getElem?_take]at E;split at E;exact E;cases E)) (by rw[B];simpa using hfit) (fun u M=>h1 u (List.mem_of_mem_take M))
      simp[execOp,resolve,invoke,builtin,bZ hx,bZ hy,L,fo,goInt,Nat.min_comm]
  unfold Oper.wp
  rw[C]
  exact k _ (Md.setRow w g _) hB.setRow
theorem dA {x:Operand} {k:IntKind} {a b:Int} (h:ev n l x=some (.int k a)) (e:a=b):ev n l x=some (.int k b):=by rw[h,e]
theorem sY {x:Operand} {a b:Bool} (h:ev n l x=some (.bool a)) (e:a=b):ev n l x=some (.bool b):=by rw[h,e]
theorem xG {k:IntKind} {a b:Int} (e:a=b):Ending.returned (.int k a) = .returned (.int k b):=by rw[e]
theorem nv {a b:Bool} (e:a=b):Ending.returned (.bool a) = .returned (.bool b):=by rw[e]
theorem ahP {a b:Value} (e:a=b):Ending.returned a = .returned b:=by rw[e]
theorem By.dN {v:Value} {l':Ly} (h:By w v l'):l'.length≤9223372036854775807:=by have:=h.zi;simp only[maxLen]at this;omega
theorem Own.sM {w':World} {e ty':TypeId} {sz m b:Nat} {v:Value} {xs cs:List Value} (h:Own w e sz v m xs) (hB:bO w b cs ty') (hne:Nat.beq e ty'=false) (hm:Md [b] w w'):Own w' e sz v m xs :=
  h.md hm fun b' hb'=>by simpa using h.ne hB hne b' hb'
theorem bO.mdO {w':World} {e ty':TypeId} {sz m b:Nat} {v:Value} {xs cs:List Value} (hB:bO w b cs ty') (h:Own w e sz v m xs) (hne:Nat.beq e ty'=false) (hm:Md (ah v).toList w w'):bO w' b cs ty' :=
  hB.md hm fun hb=>by
    cases hv:ah v with
    | none=>rw[hv]at hb;simp at hb
    | some b'=>rw[hv]at hb;simp at hb;exact h.ne hB hne b' hv hb.symm
theorem Md.cP {w1 w':World} {S:List Nat} {v:Value} (M:Md S w1 w) (hm:Md (ah v).toList w w') (hv:∀b,ah v=some b→b∈S∨w1.heap.size≤b):Md S w1 w' :=
  M.step hm fun i hi=>by
    cases h:ah v with
    | none=>rw[h]at hi;simp at hi
    | some b=>rw[h]at hi;simp at hi;subst hi;exact hv i h
theorem wF (l':Ly):∀u∈l'.map b8,u.oneCell'=true:=by intro u A;obtain⟨x,_,rfl⟩:=List.mem_map.1 A;rfl
theorem adB {α:Type} {b c:Nat} {o:Nat} {len cap:Nat} {l':List α} (h:b≠c):Apart (.slice (some ⟨b,o,none⟩) len cap) l' [c]:=by intro B A _;simp[ah]at A;subst A;simpa using h
theorem GI {v:Value} {l':Ly} {b:Nat} (h:By w v l') (hb:w.heap.size≤b):Apart v l' [b]:=Apart.abQ h (by intro i hi;simp at hi;subst hi;exact hb)
theorem NN {x y:Operand} {t e:TypeId} {v u:Value} {xs ys:Ly} (ht:P.underlying t=some (.slice e)) (hE:uH P e 1 1=true) (hx:ev n l x=some v) (hy:ev n l y=some u)
    (hO:Own w e 1 v xs.length (xs.map b8)) (hS:By w u ys) (hbytes:xs.length+ys.length≤140737488355328)
    (k:∀v' w',Own w' e 1 v' (xs ++ ys).length ((xs ++ ys).map b8)→Md (ah v).toList w w'→(v' = .slice none 0 0↔v = .slice none 0 0∧ys.length=0)→(∀b,ah v'=some b→ah v=some b∨w.heap.size≤b) →
      wpList P ops Q rest (bw A D ((d,v') :: l)) w') :
    wpList P ops Q (⟨some d,.call {callee:=.builtin .append,args:=#[x,y],argTypes:=#[t,t]},ty,ps,af,none⟩ :: rest) (bw A D l) w :=
  Vb (xs:=xs.map b8) (ys:=ys.map b8) ht hE hx hy (by simpa using hO) hS (wF _) (by simp[maxLen];omega) Yw fun v' w' h1 h2 h3 h4=>k v' w' (by simpa using h1) h2 (by simpa using h3) h4
theorem Own.agX {e:TypeId} {m:Nat} {v:Value} {xs:List Value} (h:Own w e 1 v m xs):Own w e 1 (nC v 0 0) 0 []:=by
  rcases h.2 with⟨rfl,rfl⟩|⟨g,A,B,rfl,C,E,G,D,F,H⟩
  · exact Own.nil w e 1
  refine⟨by simp,.inr ⟨g,A,B,?_,C,E,Nat.zero_le _,D,F,by simp⟩⟩
  simp[nC,Addr.add]
theorem KW {v:Value} {b:Nat} (h:ah (nC v 0 0)=some b):ah v=some b:=AL h
theorem XJ {place:Nat→Option (Nat × Nat)} {ps:List (Nat × Nat)} {vs cs:List Value} (hl:ps.length=vs.length) (hp:∀p∈ps,place p.1=some (p.2,1)∧p.2<cs.length) (h1:nY vs) :
    Instr.fill place cs.toArray ((ps.map (·.1)).zip vs)=some (qK cs (vK ps vs)).toArray:=uL ps vs cs hl hp h1
def AV:Nat→Nat→List (Nat × Nat)
  | _,0=>[]
  | i,k+1=>(i,i) :: AV (i+1) k
theorem Y1 (i k:Nat):(AV i k).length=k:=by induction k generalizing i with|zero=>rfl|succ k ih=>simp[AV,ih]
theorem IU {p:Nat × Nat}:∀{i k:Nat},p∈AV i k→p.1=p.2∧p.2<i+k
  | _,0,h=>by cases h
  | i,k+1,h=>by
    rcases List.mem_cons.1 h with rfl|h
    · exact⟨q,by simp⟩
    · have:=IU h;omega
theorem QE:∀(vs:List Value) (pre cs:List Value),cs.length=vs.length→qK (pre ++ cs) (vK (AV pre.length vs.length) vs)=pre ++ vs
  | [],pre,cs,h=>by
    have:cs=[]:=List.eq_nil_of_length_eq_zero (by simpa using h)
    subst this;rfl
  | v :: vs,pre,c :: cs,h=>by
    simp only[List.length_cons,AV,vK,qK]
    have e:(pre ++ c :: cs).set pre.length v=(pre ++ [v]) ++ cs:=by simp
    rw[e]
    have:=QE vs (pre ++ [v]) cs (by simpa using h)
    simp only[List.length_append,List.length_cons,List.length_nil,Nat.zero_add]at this
    rw[this]
    simp
  | _ :: _,_,[],h=>by simp at h
theorem pD {t e:TypeId} {m by':Nat} {parts:List (Nat × Operand)} {vs:List Value} (ht:P.underlying t=some (.slice e)) (hE:uH P e 1 by'=true) (hm:m≤16777216) (hpp:parts.map (·.1)=(AV 0 m).map (·.1)) (hev:evs n l (parts.map (·.2))=some vs)
    (hlen:vs.length=m) (h1:nY vs) (h0:m≠0)
    (k:∀b w',w.heap.size≤b→b<w'.heap.size→Md [] w w'→bO w' b vs e→wpList P ops Q rest (bw A D ((d,.slice (some ⟨b,0,none⟩) m m) :: l)) w') :
    wpList P ops Q (⟨some d,.buildSlice t m parts.toArray,ty,ps,af,none⟩ :: rest) (bw A D l) w:=by
  refine fO rfl ?_
  obtain⟨i,z,M,V,U,W,E⟩:=pG hE
  have R:=lF (A:=A) (D:=D) hev
  have G:parts.map (fun p=>(p.1,(bw A D l).eval p.2))=((AV 0 m).map (·.1)).zip vs:=by
    rw[← hpp,← R,List.map_map,List.zip_map']
    rfl
  have C:∀cs:List Value,cs.length=m→Instr.fill (fun i=>some (i*1,1)) cs.toArray (((AV 0 m).map (·.1)).zip vs)=some vs.toArray:=by
    intro cs O
    have:=XJ (place:=fun i=>some (i*1,1)) (ps:=AV 0 m) (vs:=vs) (cs:=cs) (by rw[Y1,hlen]) (fun p T=>by have:=IU T;simp only[Nat.mul_one];exact⟨by rw[this.1],by omega⟩) h1
    have I:=QE vs [] cs Ok
    simp only[List.nil_append,List.length_nil]at I
    rw[hlen]at I
    rw[this,I]
  have F:(execOp (bw A D l).eval ⟨some d,.buildSlice t m parts.toArray,ty,ps,af,none⟩).run P w = .ok (.value (.slice (some ⟨w.heap.size,0,none⟩) m m)) (w.alloc (.cells vs.toArray e)):=by
    have K:∃B,z.cells = #[B]:=by
      cases hzc:z.cells with
      | mk q=>rw[hzc]at E;simp at E;match q,E with|[B],_=>exact⟨B,rfl⟩
    obtain⟨B,L⟩:=K
    have H:(if m=0 then(#[]:Array Value)else #[B]).size≤1:=by split <;> simp
    have S:¬(16777216<m):=by omega
    show Sem.run P (do pure (Next.value (← Instr.buildSlice t m ((parts.toArray).map fun x=>(x.1,(bw A D l).eval x.2))))) w=_
    rw[List.map_toArray,G]
    have J:((List.range m).map fun x=>(#[B]:Array Value)[x%1]!).length=m:=by simp
    have:=C _ J
    simp only[Nat.mul_one]at this
    simp only[Instr.buildSlice,Sem.run_bind,run_underlying ht,Result.andThen_ok,eB M,U,Nat.mul_one]
    simp[show ¬(16777216<m)by omega,h0,zeroValue,typeInfo,M,V,L,newRow]
    have N:Array.map (fun x=>([B]:List Value)[x%1]?.getD default) (Array.range m)=((List.range m).map fun x=>(#[B]:Array Value)[x%1]!).toArray:=by
      apply Array.ext'
      simp
    rw[N,this]
    simp
  unfold Oper.wp
  rw[F]
  exact k _ _ (Nat.le_refl _) Oj (Md.alloc w _) (bO.new w vs e)
theorem aco {x:Operand} {t u e:TypeId} {p:Addr} {g:Option (Nat × Bool)} (hx:ev n l x=some (.pointer (some p))) (hT:P.underlying t=some (.pointer e)) :
    cC P ⟨some d,.binOp .eql t x (.const (.pointer none)) u,ty,ps,af,g⟩ (bw A D l).eval w (.bool false):=by
  have E:P.underlying t=some (.pointer (P.pointee t)):=by
    rw[hT];simp[Program.pointee,hT]
  have h:=run_eql_pointer_nil (P:=P) w t (some p) E
  have B:(bw A D l).eval (.const (.pointer none)) = .pointer none:=rfl
  have C:(eqGuard .eql t x (.const (.pointer none)) (.pointer (some p)) (.pointer none)).run P w = .ok () w:=by unfold eqGuard;simp
  simp[cC,execOp,bZ hx,B,C,h]
end
end Go.Wk
namespace Go.Wk
open Go Go.RowKit
section
variable {P:Program} {ops:Array Oper} {md:Region.Mode} {C:World→Prop} {Q:Exit→Act→World→Prop}
def QF:Exit→Act→World→Prop:=fun _ _ _=>False
def opC (P:Program) (ops:Array Oper) (C:World→Prop) (i:Nat) (K:Act→World→Prop) (a:Act) (w:World):Prop :=
  match ops[i]? with
  | none=>K a w
  | some o=>if Region.wanted o (yielded ops a.tmps)then o.wp P a w (fun a' w'=>C w'∧K a' w') QF else K (a.put o.dst undef) w
def kH (P:Program) (md:Region.Mode) (ops:Array Oper) (C:World→Prop) (Q:Act→World→Prop):Nat→Array Bool→Act→World→Prop
  | 0,listed,a,w=>Region.ready md ops listed=[]∧Q a w
  | f+1,listed,a,w=>(Region.ready md ops listed=[]→Q a w)∧∀i∈Region.ready md ops listed,opC P ops C i (kH P md ops C Q f (listed.setIfInBounds i true)) a w
theorem NY {o:Oper} {a:Act} {w:World} {K K':Act→World→Prop} (h:∀a w,K a w→K' a w) (hh:o.wp P a w K QF):o.wp P a w K' Q:=by
  unfold Oper.wp at *
  generalize (execOp a.eval o).run P w=r at *
  cases r with
  | ok x w' =>
    cases x <;> simp only[Oper.upon]at hh ⊢
    case value v=>exact h _ _ hh
    case skip=>exact h _ _ hh
    case defer d=>exact h _ _ hh
    case enter f args =>
      refine hh.mono fun e B A=>?_
      cases e with
      | returned v=>exact h _ _ A
      | panicked c=>exact A.elim
      | outgrown=>obtain⟨_,_,A⟩:=A;exact A.elim
    case row r args=>exact hh.mono fun v B A=>h _ _ A
  | halt x w' =>
    cases x <;> simp only[Oper.upon]at hh ⊢
    exact hh.elim
theorem sW {o:Oper} {a:Act} {w:World} {K K':Act→World→Prop} (h:∀a w,K a w→K' a w) (hh:o.wp P a w K QF):o.wp P a w K' QF:=NY (Q:=QF) h hh
theorem oK {QN:Act→World→Prop} (hQ:∀a w,QN a w→Q .normal a w):∀(f:Nat) (listed:Array Bool) (a:Act) (w:World),kH P md ops C QN f listed a w→wpAny P md ops Q f listed a w
  | 0,_,_,_,h=>⟨h.1,hQ _ _ h.2⟩
  | f+1,listed,a,w,h=>⟨fun h0=>hQ _ _ (h.1 h0),fun i hi=>by
      have h1:=h.2 i hi
      unfold opC at h1
      unfold wpOp
      split
      · rename_i ho;rw[ho]at h1;exact oK hQ f _ a w h1
      · rename_i o ho
        rw[ho]at h1
        simp only at h1
        split
        · rename_i hw;rw[if_pos hw]at h1;exact .inl (NY (fun a' w' hx=>oK hQ f _ a' w' hx.2) h1)
        · rename_i hw;rw[if_neg hw]at h1;exact oK hQ f _ _ w h1⟩
def Qv (P:Program) (ops:Array Oper) (C:World→Prop) (o:Oper) (v:Value) (a:Act):Prop :=
  (Region.wanted o (yielded ops a.tmps)=true∧∀w,C w→(execOp a.eval o).run P w = .ok (.value v) w)∨(Region.wanted o (yielded ops a.tmps)=false∧v=undef)
theorem Qv.opC {i:Nat} {o:Oper} {v:Value} {a:Act} {w:World} {K:Act→World→Prop} (hi:ops[i]? = some o) (hC:C w) (hy:Qv P ops C o v a) (h:K (a.put o.dst v) w):Wk.opC P ops C i K a w:=by
  unfold Wk.opC
  simp only[hi]
  rcases hy with⟨A,B⟩|⟨A,rfl⟩
  · rw[if_pos A];unfold Oper.wp;rw[B w hC];exact⟨hC,h⟩
  rw[if_neg (by rw[A];simp)];exact h
theorem Qv.keep {oi:Oper} {v:Value} {a:Act} {d:Option Tmp} {u:Value} (hs:∀cs b,oi.op≠.select cs b) (h:∀d',d=some d'→d'∉oi.looksAt ops) (hy:Qv P ops C oi v a):Qv P ops C oi v (a.put d u):=by
  unfold Qv at *
  rw[execOp_put oi hs a d u h,wanted_put oi a d u h]
  exact hy
theorem Qf {j:Nat} {oi oj:Oper} {v:Value} {a:Act} {w:World} {K K':Act→World→Prop} (hj:ops[j]? = some oj) (hap:oi.apart ops oj=true) (hsj:∀cs b,oj.op≠.select cs b)
    (hK:∀(b:Act) u w',b.tmps=a.tmps→C w'→K ((b.put oj.dst u).put oi.dst v) w'→K' (b.put oj.dst u) w') (hw:C w)
    (h:opC P ops C j K (a.put oi.dst v) w):opC P ops C j K' a w:=by
  obtain⟨E,D,F⟩:=Oper.apart_spec hap
  unfold opC at *
  simp only[hj]at *
  rw[wanted_put oj a oi.dst v E]at h
  split
  · rename_i hwt
    rw[if_pos hwt]at h
    unfold Oper.wp at *
    rw[execOp_put oj hsj a oi.dst v E]at h
    generalize hr:(execOp a.eval oj).run P w=r at *
    cases r with
    | ok x w' =>
      cases x <;> simp only[Oper.upon]at h ⊢
      case value u=>exact⟨h.1,hK a u w' q h.1 (by rw[← Act.put_comm a v u D];exact h.2)⟩
      case skip=>exact⟨h.1,hK a undef w' q h.1 (by rw[← Act.put_comm a v undef D];exact h.2)⟩
      case defer d =>
        have e:({a.put oi.dst v with defers:=d :: (a.put oi.dst v).defers}:Act)=({a with defers:=d :: a.defers}:Act).put oi.dst v:=by cases oi.dst <;> rfl
        refine⟨h.1,hK {a with defers:=d :: a.defers} undef w' q h.1 ?_⟩
        rw[← Act.put_comm _ v undef D,← e]
        exact h.2
      case enter f args =>
        refine h.mono fun e B A=>?_
        cases e with
        | returned u=>exact⟨A.1,hK a u B q A.1 (by rw[← Act.put_comm a v u D];exact A.2)⟩
        | panicked c=>exact A
        | outgrown=>exact A
      case row r args=>exact h.mono fun u B A=>⟨A.1,hK a u B q A.1 (by rw[← Act.put_comm a v u D];exact A.2)⟩
    | halt x w' =>
      cases x <;> simp only[Oper.upon]at h ⊢
      exact h
  rename_i hwt
  rw[if_neg hwt]at h
  exact hK a undef w q hw (by rw[← Act.put_comm a v undef D];exact h)
theorem Qv.same {oi:Oper} {v:Value} {a b:Act} (ht:b.tmps=a.tmps) (hy:Qv P ops C oi v a):Qv P ops C oi v b:=by
  have B:b.eval=a.eval:=by funext x;cases x <;> simp[Act.eval,ht]
  unfold Qv at *
  rw[B,ht]
  exact hy
theorem qN {QN:Act→World→Prop} {i:Nat} {oi:Oper} {v:Value} (hi:ops[i]? = some oi) (hsel:∀(j:Nat) (o:Oper) cs b,ops[j]? = some o→o.op≠.select cs b) :
    ∀(f:Nat) (listed:Array Bool) (a:Act) (w:World),
      (∀j oj,ops[j]? = some oj→j≠i→listed.getD j true=false→(∀e∈oj.after,Region.binds md e=true→e.on≠i)→oi.apart ops oj=true) →
      i∈Region.ready md ops listed→C w→Qv P ops C oi v a →
      kH P md ops C QN f (listed.setIfInBounds i true) (a.put oi.dst v) w→kH P md ops C QN (f+1) listed a w:=by
  intro f
  induction f with
  | zero =>
    intro listed a w _ E M O H
    refine⟨fun h=>(by rw[h]at E;cases E),fun j N=>?_⟩
    by_cases hji:j=i
    · subst hji;exact O.opC hi M H
    · have:=ready_mono N hji
      rw[H.1]at this
      cases this
  | succ f ih =>
    intro listed a w A E M O H
    refine⟨fun h=>(by rw[h]at E;cases E),fun j N=>?_⟩
    by_cases hji:j=i
    · subst hji;exact O.opC hi M H
    · have X:=H.2 j (ready_mono N hji)
      obtain⟨B,oj,D,G⟩:=mem_ready.1 N
      have J:∀e∈oj.after,Region.binds md e=true→e.on≠i:=fun e c S T=>by
        have F:=G e c S
        have W:=(mem_ready.1 E).1
        rw[T]at F
        rcases Nat.lt_or_ge i listed.size with Q|Q
        · simp[Q]at W F;rw[W]at F;cases F
        · simp[Array.getElem?_eq_none Q]at F
      have I:=A j oj D hji B J
      obtain⟨_,_,Y⟩:=Oper.apart_spec I
      have hfree':∀k L,ops[k]? = some L→k≠i→(listed.setIfInBounds j true).getD k true=false →
          (∀e∈L.after,Region.binds md e=true→e.on≠i)→oi.apart ops L=true:=fun k L hk U K V=>by
        refine A k L hk U ?_ V
        by_cases hjk:j=k
        · subst hjk;exact B
        · rw[getD_set_ne true hjk]at K;exact K
      refine Qf D I (fun cs b=>hsel j oj cs b D) (fun b u d S R Z=>?_) M X
      refine ih (listed.setIfInBounds j true) _ d hfree' (ready_mono E (Ne.symm hji)) R ((O.same S).keep (fun cs b=>hsel i oi cs b hi) Y) ?_
      rw[Array.setIfInBounds_comm _ _ hji]
      exact Z
def rW (l:List Oper):List (Nat × Bool)→List (Bool × Oper)
  | []=>[]
  | (i,q) :: r=>match l[i]? with
    | some o=>(q,o) :: rW l r
    | none=>rW l r
def fF (P:Program) (ops:Array Oper) (C:World→Prop) (QN:Act→World→Prop):List (Bool × Oper)→Act→World→Prop
  | [],a,w=>QN a w
  | (true,o) :: r,a,w=>if Region.wanted o (yielded ops a.tmps)then ∃v,(∀w',C w'→(execOp a.eval o).run P w' = .ok (.value v) w')∧fF P ops C QN r (a.put o.dst v) w else fF P ops C QN r (a.put o.dst undef) w
  | (false,o) :: r,a,w=>if Region.wanted o (yielded ops a.tmps)then o.wp P a w (fun a' w'=>C w'∧∃C':World→Prop,C' w'∧(∀x,C' x→C x)∧fF P ops C' QN r a' w') QF else fF P ops C QN r (a.put o.dst undef) w
theorem p9 {C':World→Prop} {QN:Act→World→Prop} (hC:∀x,C' x→C x):∀(f:Nat) (listed:Array Bool) (a:Act) (w:World),kH P md ops C' QN f listed a w→kH P md ops C QN f listed a w
  | 0,_,_,_,h=>h
  | f+1,listed,a,w,h=>⟨h.1,fun i hi=>by
      have h1:=h.2 i hi
      unfold opC at *
      split
      · rename_i ho;rw[ho]at h1;exact p9 hC f _ a w h1
      · rename_i o ho
        rw[ho]at h1
        simp only at h1
        split
        · rename_i hw;rw[if_pos hw]at h1;exact sW (fun a' w' hx=>⟨hC _ hx.1,p9 hC f _ a' w' hx.2⟩) h1
        · rename_i hw;rw[if_neg hw]at h1;exact p9 hC f _ _ w h1⟩
def YO (md:Region.Mode) (ops:Array Oper):List (Nat × Bool)→Array Bool→Bool
  | [],listed=>(Region.ready md ops listed).isEmpty
  | (i,q) :: r,listed=>(ops[i]?).isSome && (if q then(Region.ready md ops listed).contains i && Region.free md ops listed i else decide (Region.ready md ops listed=[i])) && YO md ops r (listed.setIfInBounds i true)
theorem kN {QN:Act→World→Prop} (hs:Region.noSelect ops=true):∀{C:World→Prop} (ord:List (Nat × Bool)) (listed:Array Bool) (a:Act) (w:World),C w→YO md ops ord listed=true →
    fF P ops C QN (rW ops.toList ord) a w→kH P md ops C QN ord.length listed a w
  | _,[],listed,a,w,_,hB,h=>⟨by simpa [YO]using hB,h⟩
  | _,(i,q) :: r,listed,a,w,hC,hB,h=>by
    simp only[YO,Bool.and_eq_true]at hB
    obtain⟨⟨h0,h1⟩,h2⟩:=hB
    obtain⟨o,ho⟩:=Option.isSome_iff_exists.1 h0
    have hol:ops.toList[i]? = some o:=by simpa using ho
    simp only[rW,hol]at h
    cases q with
    | true =>
      simp only[if_true,Bool.and_eq_true]at h1
      simp only[fF]at h
      have E:i∈Region.ready md ops listed:=by simpa using h1.1
      split at h
      · rename_i hw
        obtain⟨v,J,hk⟩:=h
        exact qN ho (Region.noSelect_spec hs) r.length listed a w (Region.free_spec ho h1.2) E hC (.inl ⟨hw,J⟩) (kN hs r _ _ _ hC h2 hk)
      · rename_i hw
        exact qN ho (Region.noSelect_spec hs) r.length listed a w (Region.free_spec ho h1.2) E hC (.inr ⟨by simpa using hw,rfl⟩) (kN hs r _ _ _ hC h2 h)
    | false =>
      simp only[Bool.false_eq_true,if_false,decide_eq_true_eq]at h1
      simp only[fF]at h
      refine⟨fun B=>(by rw[h1]at B;cases B),fun j D=>?_⟩
      rw[h1]at D
      have A:j=i:=by simpa using D
      subst A
      unfold opC
      simp only[ho]
      split at h
      · rename_i hw
        rw[if_pos hw]
        exact sW (fun L M F=>⟨F.1,by obtain⟨K,G,H,I⟩:=F.2;exact p9 H _ _ _ _ (kN hs r _ _ _ G h2 I)⟩) h
      · rename_i hw
        rw[if_neg hw]
        exact kN hs r _ _ _ hC h2 h
def ads (md:Region.Mode) (ops:Array Oper) (ord:List (Nat × Bool)):Bool:=Region.noSelect ops && decide (ord.length=ops.size) && YO md ops ord (Array.replicate ops.size false)
theorem yC {id:Nat} {lo:List Oper} {a:Act} {w:World} (ord:List (Nat × Bool)) (C:World→Prop) (hm:P.follows .mixedOrders=true) (hB:ads .any lo.toArray ord=true)
    (h:∀w',Md [] w w'→C w'∧fF P lo.toArray C (fun a w=>Q .normal a w) (rW lo ord) a w'):(Code.region id lo.toArray true).wp P Q a w:=by
  simp only[ads,Bool.and_eq_true,decide_eq_true_eq]at hB
  obtain⟨⟨A,B⟩,D⟩:=hB
  obtain⟨E,hk⟩:=h _ (Md.drew w)
  refine wp_region_any hm (oK (C:=C) (QN:=fun a w=>Q .normal a w) (fun _ _ F=>F) _ _ _ _ ?_)
  have:=kN (md:=.any) (C:=C) (QN:=fun a w=>Q .normal a w) A ord _ a _ E D hk
  rwa [B]at this
variable {n:Nat} {A:Fr n} {D:List Deferred} {l:List (Nat × Value)} {w:World} {QN:Act→World→Prop} {rest:List (Bool × Oper)}
variable {d:Tmp} {op:Op} {ty:TypeId} {ps:String} {af:Array Edge}
theorem m (v:Value) (hr:∀w',C w'→cC P ⟨some d,op,ty,ps,af,none⟩ (bw A D l).eval w' v) (k:fF P ops C QN rest (bw A D ((d,v) :: l)) w) :
    fF P ops C QN ((true,⟨some d,op,ty,ps,af,none⟩) :: rest) (bw A D l) w:=by
  unfold fF;rw[if_pos (by simp[Region.wanted])];exact⟨v,hr,k⟩
theorem ni {j t:Nat} {o:Oper} {b want:Bool} (v:Value) (ho:ops[j]? = some o) (ht:o.dst=some t) (hy:ev n l (.tmp t)=some (.bool b)) (hb:b=want)
    (hr:∀w',C w'→cC P ⟨some d,op,ty,ps,af,some (j,want)⟩ (bw A D l).eval w' v) (k:fF P ops C QN rest (bw A D ((d,v) :: l)) w) :
    fF P ops C QN ((true,⟨some d,op,ty,ps,af,some (j,want)⟩) :: rest) (bw A D l) w:=by
  unfold fF;rw[if_pos (by simp[Region.wanted,mh ho ht hy,hb])];exact⟨v,hr,k⟩
theorem dX {q:Bool} {j t:Nat} {o:Oper} {b want:Bool} (ho:ops[j]? = some o) (ht:o.dst=some t) (hy:ev n l (.tmp t)=some (.bool b)) (hb:b = !want)
    (k:fF P ops C QN rest (bw A D ((d,undef) :: l)) w) :
    fF P ops C QN ((q,⟨some d,op,ty,ps,af,some (j,want)⟩) :: rest) (bw A D l) w:=by
  cases q <;> unfold fF <;> rw[if_neg (by subst hb;simp[Region.wanted,mh ho ht hy])] <;> exact k
theorem zM {t:Nat} {b:Bool} {ol:List (Bool × Oper)} (_:ev n l (.tmp t)=some (.bool b)) (h1:b=true→fF P ops C QN ol (bw A D l) w) (h0:b=false→fF P ops C QN ol (bw A D l) w):fF P ops C QN ol (bw A D l) w:=by cases b<;>simp_all
theorem d9 {a:Act} (h:QN a w):fF P ops C QN [] a w:=h
theorem m_c {o:Oper} {a:Act} (h:wpList P ops (fun e a' w'=>e = .normal∧C w'∧∃C':World→Prop,C' w'∧(∀x,C' x→C x)∧fF P ops C' QN rest a' w') [o] a w) (hw:Region.wanted o (yielded ops a.tmps)=true):fF P ops C QN ((false,o) :: rest) a w:=by
  unfold fF;rw[if_pos hw]
  unfold wpList at h
  rw[if_pos hw]at h
  rcases h with h|h
  · unfold Oper.wp at *
    generalize (execOp a.eval o).run P w=r at *
    cases r with
    | ok x w' =>
      cases x <;> simp only[Oper.upon]at h ⊢
      case value v=>exact(show _∧_ from h).2
      case skip=>exact(show _∧_ from h).2
      case defer d=>exact(show _∧_ from h).2
      case enter f args =>
        refine h.mono fun e B A=>?_
        cases e with
        | returned v=>exact(show _∧_ from A).2
        | panicked c=>exact absurd A.1 Oj
        | outgrown=>obtain⟨_,_,A⟩:=A;exact absurd A.1 Oj
      case row r args=>exact h.mono fun v B A=>(show _∧_ from A).2
    | halt x w' =>
      cases x <;> simp only[Oper.upon]at h ⊢
      exact absurd h.1 Oj
  obtain⟨_,_,_,A⟩:=h;exact absurd A.1 Oj
theorem agq {Q1 Q2:Exit→Act→World→Prop} (hq:∀e a w,Q1 e a w→Q2 e a w) {a:Act} {o:Oper} (h:wpList P ops Q1 [o] a w):wpList P ops Q2 [o] a w:=by
  unfold wpList at *
  split
  · rename_i hw
    rw[if_pos hw]at h
    rcases h with h|h
    · refine .inl ?_
      unfold Oper.wp at *
      generalize (execOp a.eval o).run P w=r at *
      cases r with
      | ok x w' =>
        cases x <;> simp only[Oper.upon]at h ⊢
        case value v=>exact hq _ _ _ h
        case skip=>exact hq _ _ _ h
        case defer d=>exact hq _ _ _ h
        case enter f args =>
          refine h.mono fun e B A=>?_
          cases e with
          | returned v=>exact hq _ _ _ A
          | panicked c=>exact hq _ _ _ A
          | outgrown=>obtain⟨C,D,A⟩:=A;exact⟨C,D,hq _ _ _ A⟩
        case row r args=>exact h.mono fun v B A=>hq _ _ _ A
      | halt x w' =>
        cases x <;> simp only[Oper.upon]at h ⊢
        exact hq _ _ _ h
    obtain⟨C,D,E,A⟩:=h;exact .inr ⟨C,D,E,hq _ _ _ A⟩
  rename_i hw
  rw[if_neg hw]at h
  exact hq _ _ _ h
theorem kZ {o:Oper} {a:Act} (h:wpList P ops (fun e a' w'=>e = .normal∧C w'∧fF P ops C QN rest a' w') [o] a w) (hw:Region.wanted o (yielded ops a.tmps)=true):fF P ops C QN ((false,o) :: rest) a w :=
  m_c (agq (fun _ _ _ hx=>⟨hx.1,hx.2.1,C,hx.2.1,fun _ h=>h,hx.2.2⟩) h) hw
theorem agu {j t:Nat} {o o':Oper} {b want:Bool} (ho:ops[j]? = some o') (ht:o'.dst=some t) (hy:ev n l (.tmp t)=some (.bool b)) (hb:b=want) (hg:o.guard=some (j,want))
    (h:wpList P ops (fun e a' w'=>e = .normal∧C w'∧fF P ops C QN rest a' w') [o] (bw A D l) w):fF P ops C QN ((false,o) :: rest) (bw A D l) w :=
  kZ h (by simp[Region.wanted,hg,mh ho ht hy,hb])
end
end Go.Wk
namespace Go.Wk
open Go Go.RowKit
def str (s:Ly):Value:=.string ⟨s.toArray⟩
section
variable {P:Program} {n:Nat} {A:Fr n} {D:List Deferred} {l:List (Nat × Value)} {w:World}
variable {d:Option Tmp} {ty:TypeId} {ps:String} {af:Array Edge} {g:Option (Nat × Bool)}
theorem qI {x:Operand} {s:Ly} {t:TypeId} (hx:ev n l x=some (str s)) (hT:P.underlying t=some .string) :
    cC P ⟨d,.call {callee:=.builtin .len,args:=#[x],argTypes:=#[t]},ty,ps,af,g⟩ (bw A D l).eval w (.int .i64 s.length):=by
  have B:(⟨s.toArray⟩:ByteArray).size=s.length:=by simp[ByteArray.size]
  simp[cC,execOp,bZ hx,resolve,invoke,builtin,Builtin.len_,run_underlying hT,goInt,str,B]
theorem ae6 {x y:Operand} {s:Ly} {t:TypeId} {k:IntKind} {i:Int} (hx:ev n l x=some (str s)) (hy:ev n l y=some (.int k i)) (hT:P.underlying t=some .string) (hi:0≤i∧i<s.length) :
    cC P ⟨d,.index t x y,ty,ps,af,g⟩ (bw A D l).eval w (b8 (s.getD i.toNat 0)):=by
  have h:=run_index_string (P:=P) w t ⟨s.toArray⟩ k i hT
  have B:(⟨s.toArray⟩:ByteArray).size=s.length:=by simp[ByteArray.size]
  rw[dif_pos (by rw[B];exact hi)]at h
  have C:((⟨s.toArray⟩:ByteArray)[i.toNat]'(by rw[B];omega))=s.getD i.toNat 0:=by
    show s.toArray[i.toNat]'_=_
    have:i.toNat<s.length:=by omega
    simp[List.getD,this]
  rw[C]at h
  simp[cC,execOp,bZ hx,bZ hy,str,b8,h]
theorem vA {x y:Operand} {s:Ly} {t:TypeId} {k:IntKind} {i:Nat} (hx:ev n l x=some (str s)) (hy:ev n l y=some (.int k (i:Int))) (hT:P.underlying t=some .string) (hi:i<s.length) :
    cC P ⟨d,.index t x y,ty,ps,af,g⟩ (bw A D l).eval w (b8 (s.getD i 0)):=by
  have:=ae6 (P:=P) (A:=A) (D:=D) (w:=w) (d:=d) (ty:=ty) (ps:=ps) (af:=af) (g:=g) hx hy hT Ok
  simpa using this
theorem vC {op:BinOp} {x y:Operand} {t u:TypeId} {a b:Ly} {r:Value} (hx:ev n l x=some (str a)) (hy:ev n l y=some (str b)) (hop:∀v,(eqGuard op t x y (str a) v).run P w = .ok () w)
    (hr:(binOp op t (str a) (str b)).run P w = .ok r w):cC P ⟨d,.binOp op t x y u,ty,ps,af,g⟩ (bw A D l).eval w r:=by
  simp[cC,execOp,bZ hx,bZ hy,hop,hr]
theorem qh (op:BinOp) (t:TypeId) (x y:Operand) (a:Ly) (v:Value):(eqGuard op t x y (str a) v).run P w = .ok () w:=by unfold eqGuard str;cases op<;>simp
theorem yh (a b:Ly):((⟨a.toArray⟩:ByteArray).toList == (⟨b.toArray⟩:ByteArray).toList)=decide (a=b):=by
  rw[ByteArray.toList_eq,ByteArray.toList_eq]
  rw[Bool.eq_iff_iff];simp
theorem FP {x y:Operand} {t u:TypeId} {a b:Ly} (hx:ev n l x=some (str a)) (hy:ev n l y=some (str b)) (hl:a.length+b.length≤9223372036854775807) :
    cC P ⟨d,.binOp .add t x y u,ty,ps,af,g⟩ (bw A D l).eval w (str (a ++ b)):=by
  refine vC hx hy (qh _ _ _ _ _) ?_
  have h:=run_string_add_sum (P:=P) (w:=w) ⟨a.toArray⟩ ⟨b.toArray⟩ (by simpa [ByteArray.size]using hl)
  simp only[binOp,str]
  rw[h]
  congr 2
theorem qH {x y:Operand} {t u:TypeId} {a b:Ly} (hx:ev n l x=some (str a)) (hy:ev n l y=some (str b)) :
    cC P ⟨d,.binOp .eql t x y u,ty,ps,af,g⟩ (bw A D l).eval w (.bool (decide (a=b))) :=
  vC hx hy (qh _ _ _ _ _) (by simp only[binOp,str,Op.stringOp,yh,Sem.run_pure])
theorem ae9 {x y:Operand} {t u:TypeId} {a b:Ly} (hx:ev n l x=some (str a)) (hy:ev n l y=some (str b)) :
    cC P ⟨d,.binOp .neq t x y u,ty,ps,af,g⟩ (bw A D l).eval w (.bool (!decide (a=b))) :=
  vC hx hy (qh _ _ _ _ _) (by simp only[binOp,str,Op.stringOp,yh,Sem.run_pure])
theorem aa2 {x y:Operand} {t u:TypeId} {a b:Ly} (hx:ev n l x=some (str a)) (hy:ev n l y=some (str b)) :
    cC P ⟨d,.binOp .lss t x y u,ty,ps,af,g⟩ (bw A D l).eval w (.bool (Op.bytesLess a b)) :=
  vC hx hy (qh _ _ _ _ _) (by simp only[binOp,str,Op.stringOp,Sem.run_pure,ByteArray.toList_eq])
theorem ae5 {x y:Operand} {t u:TypeId} {a b:Ly} (hx:ev n l x=some (str a)) (hy:ev n l y=some (str b)) :
    cC P ⟨d,.binOp .gtr t x y u,ty,ps,af,g⟩ (bw A D l).eval w (.bool (!(Op.bytesLess a b || decide (a=b)))) :=
  vC hx hy (qh _ _ _ _ _) (by simp only[binOp,str,Op.stringOp,Sem.run_pure];rw[yh];simp only[ByteArray.toList_eq])
theorem mR {x:Operand} {v:Value} {s:Ly} {src dst e:TypeId} (hs:P.underlying src=some (.slice e)) (he:P.underlying e=some (.int .u8)) (hd:P.underlying dst=some .string) (hx:ev n l x=some v) (hB:By w v s) :
    cC P ⟨d,.convert src dst x,ty,ps,af,g⟩ (bw A D l).eval w (str s):=by
  obtain⟨a,B,rfl,J,K,F,G⟩:=hB
  have E:(convert src dst (.slice a (s.map b8).length B)).run P w = .ok (str s) w:=by
    cases a with
    | none =>
      have L:=F q
      have I:(s.map b8).length=0:=by omega
      have C:s=[]:=by simpa using I
      subst C
      have:=run_convert_bytes_string (P:=P) w src dst e none 0 B hs he hd
      simp only[List.map_nil,List.length_nil]
      rw[this]
      rfl
    | some p =>
      have:=run_convert_bytes_back (P:=P) w src dst e p B s hs he hd (fun j H=>G p q j _ (by simp[b8,H]))
      simpa [str]using this
  simp only[List.length_map]at E hx
  simp[cC,execOp,bZ hx,E]
theorem HD (w:World) (a:Addr) (k:Nat) (p:Addr):(w.freeze a k).cell? p=w.cell? p:=by
  unfold World.freeze
  split
  · rfl
  unfold World.cell?
  simp only[Array.getElem?_modify]
  by_cases h:a.block=p.block
  · rw[if_pos h]
    cases w.heap[p.block]? with
    | none=>rfl
    | some o=>cases o <;> rfl
  rw[if_neg h]
theorem Md.freeze (w:World) (a:Addr) (k:Nat):Md [a.block] w (w.freeze a k):=by
  unfold World.freeze
  split
  · exact⟨q,q,q,Nat.le_refl _,fun _ _ _=>rfl⟩
  refine⟨q,q,q,by simp,fun j _ A=>?_⟩
  simp only[Array.getElem?_modify]
  rw[if_neg (by rintro rfl;simp at A)]
theorem QH {ops:Array Oper} {Q:Exit→Act→World→Prop} {rest:List Oper} {d:Tmp} {x:Operand} {s:Ly} {t e:TypeId} {b m c:Nat} {ty':TypeId} (ht:P.underlying t=some (.slice e)) (he:P.underlying e=some (.int .u8))
    (hx:ev n l x=some (.slice (some ⟨b,0,none⟩) m c)) (hB:bO w b (s.map b8) ty') (hY:By w (.slice (some ⟨b,0,none⟩) m c) s)
    (k:∀w',Md [b] w w'→By w' (.slice (some ⟨b,0,none⟩) m c) s→wpList P ops Q rest (bw A D ((d,.slice (some ⟨b,0,none⟩) m c) :: l)) w') :
    wpList P ops Q (⟨some d,.convert t t x,ty,ps,af,none⟩ :: rest) (bw A D l) w:=by
  refine fO q ?_
  have E:w.shape? b=some (ty',(s.map b8).toArray.size):=by
    unfold bO at hB
    simp[World.shape?,hB]
  have B:(execOp (bw A D l).eval ⟨some d,.convert t t x,ty,ps,af,none⟩).run P w = .ok (.value (.slice (some ⟨b,0,none⟩) m c)) (w.freeze ⟨b,(s.map b8).toArray.size,none⟩ 1):=by
    simp[execOp,bZ hx,convert,run_underlying ht,run_underlying he,markStringish,E]
  unfold Oper.wp
  rw[B]
  refine k _ (Md.freeze w ⟨b,_,none⟩ _) ?_
  obtain⟨a,C,F,G,H,I,J⟩:=hY
  exact⟨a,C,F,G,H,I,fun p L j u K=>by rw[HD];exact J p L j u K⟩
theorem kD {ops:Array Oper} {Q:Exit→Act→World→Prop} {rest:List Oper} {d:Tmp} {x:Operand} {s:Ly} {src dst e:TypeId} (hs:P.underlying src=some .string) (hd:P.underlying dst=some (.slice e)) (he:P.underlying e=some (.int .u8))
    (hx:ev n l x=some (str s)) (hl:s.length≤maxLen)
    (k:∀v w',Md [] w w'→By w' v s→(∀b,ah v=some b→w.heap.size≤b∧b<w'.heap.size)→wpList P ops Q rest (bw A D ((d,v) :: l)) w') :
    wpList P ops Q (⟨some d,.convert src dst x,ty,ps,af,none⟩ :: rest) (bw A D l) w:=by
  refine fO q ?_
  have I:=run_bytes_of_string (P:=P) w src dst e ⟨s.toArray⟩ hs hd he
  have F:(⟨s.toArray⟩:ByteArray).size=s.length:=by simp[ByteArray.size]
  have C:(execOp (bw A D l).eval ⟨some d,.convert src dst x,ty,ps,af,none⟩).run P w = .ok (.value (.slice (some ⟨w.heap.size,0,none⟩) s.length (grownCap w s.length 0 e)))
      (w.drew.alloc (.cells (bytesRow ⟨s.toArray⟩ (grownCap w s.length 0 e)) e ((bytesRow ⟨s.toArray⟩ (grownCap w s.length 0 e)).size,(bytesRow ⟨s.toArray⟩ (grownCap w s.length 0 e)).size+1))):=by
    rw[F]at I
    simp[execOp,bZ hx,str,I]
  unfold Oper.wp
  rw[C]
  refine k _ _ ⟨q,q,q,by simp,fun _ hk _=>heap_alloc_old _ _ hk⟩ ?_ ?_
  · refine⟨_,_,by simp;exact⟨q,q⟩,?_,?_,by simp,?_⟩
    · simpa using grownCap_ge w s.length 0 e
    · exact grownCap_le_maxLen w _ _ _ hl
    intro p H j u E
    simp at H;subst H
    have B:j<s.length:=by have:=(List.getElem?_eq_some_iff.1 E).1;simpa using this
    have K:=World.cell?_alloc_mark w.drew (bytesRow ⟨s.toArray⟩ (grownCap w s.length 0 e)) e ((bytesRow ⟨s.toArray⟩ (grownCap w s.length 0 e)).size,(bytesRow ⟨s.toArray⟩ (grownCap w s.length 0 e)).size+1) j
    have J:(⟨w.heap.size,0,none⟩:Addr).add j=⟨w.heap.size,j,none⟩:=by unfold Addr.add;split <;> simp_all
    rw[J]
    refine K.trans ?_
    simp[B,b8]at E
    simp[bytesRow,Array.getElem?_append,B,E]
  intro b G
  simp[ah]at G
  subst G
  simp
def pairT (P:Program) (t f:TypeId):Bool :=
  match P.underlying t with
  | some (.struct fs) => (fs.toList.map fun x => (x.type, x.offset)) == [(f, 0), (f, 1)] && fs.toList.all (fun x => x.name != "_") && gZ P f && !P.stoodInHeld t && !P.eqGuardType P.depth t
  | _=>false
def lK (p:List UInt8 × List UInt8):Value:=.agg #[str p.1,str p.2]
theorem KF {t f:TypeId} (hp:pairT P t f=true) (hf:P.underlying f=some .string) (p q:List UInt8 × List UInt8) (w:World) (k:Nat):(Op.equalIn (k+2) t (lK p) (lK q)).run P w = .ok (decide (p=q)) w:=by
  unfold pairT at hp
  split at hp
  · rename_i fs I
    simp only[Bool.and_eq_true,Bool.not_eq_true']at hp
    obtain⟨⟨⟨⟨H,A⟩,L⟩,M⟩,T⟩:=hp
    have B:P.fieldsOf t=fs:=by simp[Program.fieldsOf,I]
    have hu':P.underlying t=some (.struct (P.fieldsOf t)):=by rw[B];exact I
    have h:=run_equalIn_struct (P:=P) w (k+1) t #[str p.1,str p.2] #[str q.1,str q.2] hu' M
    unfold lK
    rw[h,B]
    obtain⟨K⟩:=fs
    simp only at H A ⊢
    have h1':=eq_of_beq H
    match K,h1',A with
    | [],h1',_=>simp at h1'
    | [_],h1',_=>simp at h1'
    | _ :: _ :: _ :: _,h1',_=>simp at h1'
    | [a,b],h1',A =>
      simp only[List.map_cons,List.map_nil,List.cons.injEq,Prod.mk.injEq,and_true]at h1'
      obtain⟨⟨N,D⟩,O,E⟩:=h1'
      simp only[List.all_cons,List.all_nil,Bool.and_true,Bool.and_eq_true,bne_iff_ne]at A
      have F:=mB L
      have G:∀(a b:Ly) (w:World),(Op.equalIn (k+1) f (str a) (str b)).run P w = .ok (decide (a=b)) w:=fun a b w=>by
        unfold str
        rw[run_equalIn_string w k f _ _ hf,yh]
      have J:∀(u v:Value) (w:World),(part f #[u,v] 0).run P w = .ok u w:=fun u v w=>by simp[part,F]
      have C:∀(u v:Value) (w:World),(part f #[u,v] 1).run P w = .ok v w:=fun u v w=>by simp[part,F]
      simp only[Op.eqFields,ne_eq,A.1,A.2,not_false_eq_true,if_true,N,D,O,E,Sem.run_bind,J,C,Result.andThen_ok,G]
      have q0':=J;have q1':=C
      obtain⟨C,Q⟩:=p
      obtain⟨R,S⟩:=q
      by_cases h6:C=R <;> by_cases h7:Q=S <;> simp[h6,h7,Sem.run_ite,q0',q1',G]
  cases hp
theorem MS {t f:TypeId} (hp:pairT P t f=true) (op:BinOp) (x y:Operand) (p q:List UInt8 × List UInt8):(eqGuard op t x y (lK p) (lK q)).run P w = .ok () w:=by
  unfold pairT at hp
  split at hp
  · simp only[Bool.and_eq_true,Bool.not_eq_true']at hp
    exact run_eqGuard_agg w op t x y _ _ hp.2
  cases hp
theorem ae4 {x y:Operand} {t f u:TypeId} {p q:List UInt8 × List UInt8} (hp:pairT P t f=true) (hf:P.underlying f=some .string) (hx:ev n l x=some (lK p)) (hy:ev n l y=some (lK q)) :
    cC P ⟨d,.binOp .eql t x y u,ty,ps,af,g⟩ (bw A D l).eval w (.bool (decide (p=q))):=by
  have B:=MS (w:=w) hp .eql x y p q
  have C:(binOp .eql t (lK p) (lK q)).run P w = .ok (.bool (decide (p=q))) w:=by
    rw[lK,lK,run_eql_struct,← lK,← lK,KF hp hf p q w 9998];rfl
  simp[cC,execOp,bZ hx,bZ hy,B,C]
theorem jJ {ops:Array Oper} {Q:Exit→Act→World→Prop} {rest:List Oper} {op:Op} {d:Tmp} {j t:Nat} {o:Oper} {want:Bool} (ho:ops[j]? = some o) (ht:o.dst=some t) (hy:ev n l (.tmp t)=some undef)
    (k:wpList P ops Q rest (bw A D ((d,undef) :: l)) w) :
    wpList P ops Q (⟨some d,op,ty,ps,af,some (j,want)⟩ :: rest) (bw A D l) w:=by
  have h':=bZ (A:=A) (D:=D) hy
  have B:yielded ops (bw A D l).tmps j=none:=by
    simp only[Act.eval]at h'
    unfold yielded
    simp[ho,ht]
    rw[Array.getD_eq_getD_getElem?]at h'
    cases hq:(bw A D l).tmps[t]? with
    | none=>rfl
    | some v=>rw[hq]at h';simp at h';rw[h'];rfl
  unfold wpList;rw[if_neg (by simp[Region.wanted,B])];exact k
end
end Go.Wk
namespace Go.Wk
open Go Go.RowKit
def afe (cs:List Value):Prop:=∀u∈cs,u.oneCell'=true
structure Dt (α:Type) where
  n:Nat
  pos:0<n
  nM:World→(Nat→Prop)→List Value→α→Prop
  len:∀{w Q cs x},nM w Q cs x→cs.length=n
  one:∀{w Q cs x},nM w Q cs x→afe cs
  md:∀{S w w' Q cs x},nM w Q cs x→Md S w w'→(∀b∈S,¬Q b)→nM w' Q cs x
  sub:∀{w Q Q' cs x},nM w Q cs x→(∀b,Q b→b<w.heap.size→Q' b)→nM w Q' cs x
def sj {α:Type} (f:α→Value) (h1:∀x,(f x).oneCell'=true) (ok:α→Prop):Dt α where
  n:=1
  pos:=Nat.zero_lt_one
  nM _ _ cs x:=cs=[f x]∧ok x
  len:=by rintro _ _ _ _ ⟨rfl,_⟩;rfl
  one:=by rintro _ _ _ _ ⟨rfl,_⟩ u hu;simp at hu;subst hu;exact h1 _
  md:=fun h _ _=>h
  sub:=fun h _=>h
def dw:Dt Nat:=sj (fun x=>.int .u64 (x:Int)) (fun _=>rfl) (fun x=>x<18446744073709551616)
def tU32:Dt Nat:=sj (fun x=>.int .u32 (x:Int)) (fun _=>rfl) (fun x=>x<4294967296)
def ez:Dt Nat:=sj (fun x=>.int .i64 (x:Int)) (fun _=>rfl) (fun x=>x<9223372036854775808)
def l7:Dt Int:=sj (fun x=>.int .i64 x) (fun _=>rfl) (fun x=>-9223372036854775808≤x∧x<9223372036854775808)
def eD:Dt UInt8:=sj b8 (fun _=>rfl) (fun _=>True)
def ad5:Dt Bool:=sj (fun x=>.bool x) (fun _=>rfl) (fun _=>True)
def ij:Dt (List UInt8):=sj str (fun _=>rfl) (fun _=>True)
def iP (l:Ly):List Value:=[b8 (l.getD 0 0),b8 (l.getD 1 0),b8 (l.getD 2 0),b8 (l.getD 3 0),b8 (l.getD 4 0),b8 (l.getD 5 0),b8 (l.getD 6 0),b8 (l.getD 7 0),b8 (l.getD 8 0),b8 (l.getD 9 0),b8 (l.getD 10 0),b8 (l.getD 11 0),b8 (l.getD 12 0),b8 (l.getD 13 0),b8 (l.getD 14 0),b8 (l.getD 15 0)]
theorem nJ {l:Ly} (h:l.length=16):iP l=l.map b8:=by
  apply List.ext_getElem
  · simp[iP,h]
  intro i C E
  simp[iP]at C
  simp only[List.getElem_map]
  have A:i<l.length:=by omega
  rcases Nat.lt_or_ge i 8 with D|D
  · rcases Nat.lt_or_ge i 4 with B|B
    · rcases(show i=0∨i=1∨i=2∨i=3 by omega)with rfl|rfl|rfl|rfl <;> simp[iP,List.getD,A]
    rcases(show i=4∨i=5∨i=6∨i=7 by omega)with rfl|rfl|rfl|rfl <;> simp[iP,List.getD,A]
  rcases Nat.lt_or_ge i 12 with B|B
  · rcases(show i=8∨i=9∨i=10∨i=11 by omega)with rfl|rfl|rfl|rfl <;> simp[iP,List.getD,A]
  rcases(show i=12∨i=13∨i=14∨i=15 by omega)with rfl|rfl|rfl|rfl <;> simp[iP,List.getD,A]
def VT:Dt (List UInt8) where
  n:=16
  pos:=by decide
  nM _ _ cs x:=cs=iP x∧x.length=16
  len:=by rintro _ _ _ _ ⟨rfl,_⟩;rfl
  one:=by rintro _ _ _ _ ⟨rfl,h⟩;rw[nJ h];exact wF _
  md:=fun h _ _=>h
  sub:=fun h _=>h
def fu {α β:Type} (A:Dt α) (B:Dt β):Dt (α × β) where
  n:=A.n+B.n
  pos:=lj A.pos (Nat.le_add_right _ _)
  nM w Q cs p:=∃c1 c2,cs=c1 ++ c2∧A.nM w Q c1 p.1∧B.nM w Q c2 p.2
  len:=by rintro _ _ _ _ ⟨c1,c2,rfl,h1,h2⟩;simp[A.len h1,B.len h2]
  one:=by
    rintro _ _ _ _ ⟨c1,c2,rfl,h1,h2⟩ u hu
    rcases List.mem_append.1 hu with h|h
    · exact A.one h1 u h
    · exact B.one h2 u h
  md:=fun⟨c1,c2,h,h1,h2⟩ m hs=>⟨c1,c2,h,A.md h1 m hs,B.md h2 m hs⟩
  sub:=fun⟨c1,c2,h,h1,h2⟩ s=>⟨c1,c2,h,A.sub h1 s,B.sub h2 s⟩
def ri {α β:Type} (f:β→α) (A:Dt α):Dt β where
  n:=A.n
  pos:=A.pos
  nM w Q cs x:=A.nM w Q cs (f x)
  len:=A.len
  one:=A.one
  md:=A.md
  sub:=A.sub
section
variable {α:Type} {T:Dt α} {w w':World} {Q Q':Nat→Prop}
def qm (T:Dt α) (w:World) (Q:Nat→Prop):List Value→List α→Prop
  | cs,[]=>cs=[]
  | cs,x :: xs=>∃c r,cs=c ++ r∧T.nM w Q c x∧qm T w Q r xs
theorem qm.len {cs:List Value} {xs:List α} (h:qm T w Q cs xs):cs.length=xs.length*T.n:=by
  induction xs generalizing cs with
  | nil=>simp only[qm]at h;subst h;simp
  | cons x xs ih =>
    obtain⟨c,r,rfl,A,B⟩:=h
    simp[T.len A,ih B,Nat.succ_mul,Nat.add_comm]
theorem qm.one {cs:List Value} {xs:List α} (h:qm T w Q cs xs):afe cs:=by
  induction xs generalizing cs with
  | nil=>simp only[qm]at h;subst h;intro u A;simp at A
  | cons x xs ih =>
    obtain⟨c,r,rfl,B,C⟩:=h
    intro u A
    rcases List.mem_append.1 A with h|h
    · exact T.one B u h
    · exact ih C u h
theorem qm.md {S:List Nat} {cs:List Value} {xs:List α} (h:qm T w Q cs xs) (m:Md S w w') (hs:∀b∈S,¬Q b):qm T w' Q cs xs:=by
  induction xs generalizing cs with
  | nil=>exact h
  | cons x xs ih=>obtain⟨c,r,e,A,B⟩:=h;exact⟨c,r,e,T.md A m hs,ih B⟩
theorem qm.sub {cs:List Value} {xs:List α} (h:qm T w Q cs xs) (s:∀b,Q b→b<w.heap.size→Q' b):qm T w Q' cs xs:=by
  induction xs generalizing cs with
  | nil=>exact h
  | cons x xs ih=>obtain⟨c,r,e,A,B⟩:=h;exact⟨c,r,e,T.sub A s,ih B⟩
theorem qm.append {cs ds:List Value} {xs ys:List α} (h:qm T w Q cs xs) (k:qm T w Q ds ys):qm T w Q (cs ++ ds) (xs ++ ys):=by
  induction xs generalizing cs with
  | nil=>simp only[qm]at h;subst h;exact k
  | cons x xs ih=>obtain⟨c,r,rfl,A,B⟩:=h;exact⟨c,r ++ ds,by simp,A,ih B⟩
theorem qm.get {cs:List Value} {xs:List α} {i:Nat} {x:α} (h:qm T w Q cs xs) (hi:xs[i]? = some x):∃c,T.nM w Q c x∧∀j u,c[j]? = some u→cs[i*T.n+j]? = some u:=by
  induction xs generalizing cs i with
  | nil=>simp at hi
  | cons y xs ih =>
    obtain⟨c,r,rfl,B,C⟩:=h
    cases i with
    | zero =>
      simp at hi;subst hi
      refine⟨c,B,fun j u A=>?_⟩
      have:=(List.getElem?_eq_some_iff.1 A).1
      rw[Nat.zero_mul,Nat.zero_add,List.getElem?_append_left this];exact A
    | succ i =>
      obtain⟨d,E,D⟩:=ih C (by simpa using hi)
      refine⟨d,E,fun j u A=>?_⟩
      have F:=T.len B
      rw[Nat.succ_mul,List.getElem?_append_right Ok]
      rw[show i*T.n+T.n+j-c.length=i*T.n+j by omega]
      exact D j u A
theorem qm.split {cs:List Value} {xs ys:List α} (h:qm T w Q cs (xs ++ ys)):qm T w Q (cs.take (xs.length*T.n)) xs∧qm T w Q (cs.drop (xs.length*T.n)) ys:=by
  induction xs generalizing cs with
  | nil=>simp[qm];exact h
  | cons x xs ih =>
    obtain⟨c,r,rfl,A,B⟩:=h
    obtain⟨C,D⟩:=ih B
    have E:=T.len A
    have e:(x :: xs).length*T.n=c.length+xs.length*T.n:=by simp[Nat.succ_mul,E,Nat.add_comm]
    rw[e]
    refine⟨⟨c,r.take (xs.length*T.n),?_,A,C⟩,?_⟩
    · rw[List.take_append,List.take_of_length_le (Nat.le_add_right _ _),Nat.add_sub_cancel_left]
    · rw[List.drop_append,List.drop_of_length_le (Nat.le_add_right _ _),Nat.add_sub_cancel_left];exact D
theorem qm.set {cs:List Value} {xs:List α} {i:Nat} {c:List Value} {x:α} (h:qm T w Q cs xs) (hx:T.nM w Q c x) (hi:i<xs.length) :
    qm T w Q (cs.take (i*T.n) ++ c ++ cs.drop (i*T.n+T.n)) (xs.set i x):=by
  have e:xs=xs.take i ++ xs.drop i:=(List.take_append_drop i xs).symm
  have J:(xs.take i).length=i:=by simp;omega
  rw[e]at h
  obtain⟨E,C⟩:=h.split
  rw[J]at E C
  obtain⟨y,B,F⟩:∃y B,xs.drop i=y :: B:=by
    cases D:xs.drop i with
    | nil=>have:=congrArg List.length D;simp at this;omega
    | cons y B=>exact⟨y,B,q⟩
  rw[F]at C
  obtain⟨d,r,D,H,I⟩:=C
  have K:cs.drop (i*T.n+T.n)=r:=by
    rw[← List.drop_drop,D]
    simp[T.len H]
  have G:xs.set i x=xs.take i ++ (x :: B):=by
    rw[List.set_eq_take_append_cons_drop,if_pos hi]
    congr 2
    have:xs.drop (i+1)=(xs.drop i).drop 1:=by simp[Nat.add_comm]
    rw[this,F];rfl
  rw[G,K,List.append_assoc]
  exact E.append ⟨c,r,q,hx,I⟩
def Ls (T:Dt α) (w:World) (Q:Nat→Prop) (v:Value) (xs:List α):Prop :=
  ∃a cap cs,v = .slice a xs.length cap∧xs.length≤cap∧cap≤maxLen∧(a=none→cap=0)∧(∀p,a=some p→xs≠[]→Q p.block)∧(∀p,a=some p→∀j u,cs[j]? = some u→w.cell? (p.add j)=some u)∧qm T w Q cs xs
theorem Ls.nil (T:Dt α) (w:World) (Q:Nat→Prop):Ls T w Q (.slice none 0 0) []:=⟨none,0,[],q,Nat.le_refl _,by simp[maxLen],fun _=>rfl,by simp,by simp,q⟩
theorem Ls.md {S:List Nat} {v:Value} {xs:List α} (h:Ls T w Q v xs) (m:Md S w w') (hs:∀b∈S,¬Q b):Ls T w' Q v xs:=by
  obtain⟨a,A,F,G,H,I,J,C,K,B⟩:=h
  refine⟨a,A,F,G,H,I,J,C,fun p E j u D=>m.cell (K p E j u D) ?_,B.md m hs⟩
  rw[Addr.add_block]
  intro L
  refine hs _ L (C p E ?_)
  rintro rfl
  simp only[qm]at B
  subst B
  simp at D
theorem Ls.o {v:Value} {xs:List α} (h:Ls T w Q v xs) (m:Md [] w w'):Ls T w' Q v xs:=h.md m Oj
instance air {v:Value} {xs:List α}:Tp w w' (Ls T w Q v xs) (Ls T w' Q v xs):=⟨fun m h=>h.o m⟩
theorem Ls.sub {v:Value} {xs:List α} (h:Ls T w Q v xs) (s:∀b,Q b→b<w.heap.size→Q' b):Ls T w Q' v xs:=by
  obtain⟨a,A,F,G,H,I,J,K,B,C⟩:=h
  refine⟨a,A,F,G,H,I,J,fun p D E=>s _ (K p D E) ?_,B,C.sub s⟩
  cases xs with
  | nil=>exact absurd q E
  | cons x xs =>
    obtain⟨c,r,rfl,L,M⟩:=C
    cases c with
    | nil=>have:=T.len L;have:=T.pos;simp at *;omega
    | cons u c=>have:=World.block_lt_of_cell? w _ (B p D 0 u q);rwa [Addr.add_block]at this
theorem Ls.cV {v:Value} {xs:List α} (h:Ls T w Q v xs):GC v xs.length:=by obtain⟨a,A,F,B,C,D,E,_⟩:=h;exact⟨a,A,B,C,D,E⟩
theorem Ls.zi {v:Value} {xs:List α} (h:Ls T w Q v xs):xs.length≤maxLen:=by obtain⟨a,A,B,C,D,E,_⟩:=h;omega
theorem Ls.dN {v:Value} {xs:List α} (h:Ls T w Q v xs):xs.length≤9223372036854775807:=by have:=h.zi;simp only[maxLen]at this;omega
theorem Ls.bN {v:Value} {xs:List α} (h:Ls T w Q v xs):v.oneCell'=true:=by obtain⟨a,A,B,rfl,_⟩:=h;rfl
theorem Ls.by {v:Value} {xs:Ly} (h:Ls eD w Q v xs):By w v xs:=by
  obtain⟨a,A,B,C,D,G,H,I,E,F⟩:=h
  have e:B=xs.map b8:=by
    clear C D I E
    induction xs generalizing B with
    | nil=>exact F
    | cons x xs ih=>obtain⟨c,r,rfl,⟨rfl,_⟩,J⟩:=F;rw[ih _ J];rfl
  subst e
  exact⟨a,A,by simpa using C,by simpa using D,G,H,E⟩
theorem xL {β:Type} {f:β→Value} {h1:∀x,(f x).oneCell'=true} {ok:β→Prop} {xs:List β} (h:∀x∈xs,ok x):qm (sj f h1 ok) w Q (xs.map f) xs:=by
  induction xs with
  | nil=>rfl
  | cons x xs ih=>exact⟨[f x],xs.map f,q,⟨q,h x Oj⟩,ih fun y A=>h y (by simp[A])⟩
theorem yJ {β:Type} {f:β→Value} {h1:∀x,(f x).oneCell'=true} {ok:β→Prop} {cs:List Value} {xs:List β} (h:qm (sj f h1 ok) w Q cs xs):cs=xs.map f∧∀x∈xs,ok x:=by
  induction xs generalizing cs with
  | nil=>exact⟨h,by simp⟩
  | cons x xs ih =>
    obtain⟨c,r,rfl,⟨rfl,C⟩,A⟩:=h
    obtain⟨rfl,B⟩:=ih A
    exact⟨q,by simpa using ⟨C,B⟩⟩
theorem Ls.adu {β:Type} {f:β→Value} {h1:∀x,(f x).oneCell'=true} {ok:β→Prop} {v:Value} {xs:List β} (h:Sl w v (xs.map f)) (ho:∀x∈xs,ok x) (hQ:∀b,ah v=some b→xs≠[]→Q b):Ls (sj f h1 ok) w Q v xs:=by
  obtain⟨a,A,rfl,B,C,D,E⟩:=h
  exact⟨a,A,xs.map f,by simp,by simpa using B,C,D,fun p F G=>hQ _ (by subst F;rfl) G,E,xL ho⟩
theorem Ls.of_by {v:Value} {xs:Ly} (h:By w v xs) (hQ:∀b,ah v=some b→xs≠[]→Q b):Ls eD w Q v xs:=Ls.adu h (fun _ _=>trivial) hQ
def ql (T:Dt α):Dt (List α) where
  n:=1
  pos:=Nat.zero_lt_one
  nM w Q cs xs:=∃v,cs=[v]∧Ls T w Q v xs
  len:=by rintro _ _ _ _ ⟨v,rfl,_⟩;rfl
  one:=by rintro _ _ _ _ ⟨v,rfl,h⟩ u hu;simp at hu;subst hu;exact h.bN
  md:=fun⟨v,e,h⟩ m hs=>⟨v,e,h.md m hs⟩
  sub:=fun⟨v,e,h⟩ s=>⟨v,e,h.sub s⟩
def Pt (T:Dt α) (ty:TypeId) (w:World) (Q:Nat→Prop) (v:Value) (x:α):Prop:=∃b c,v = .pointer (some ⟨b,0,none⟩)∧Q b∧bO w b c ty∧T.nM w Q c x
theorem Pt.md {ty:TypeId} {S:List Nat} {v:Value} {x:α} (h:Pt T ty w Q v x) (m:Md S w w') (hs:∀b∈S,¬Q b):Pt T ty w' Q v x:=by
  obtain⟨b,c,B,A,C,D⟩:=h
  exact⟨b,c,B,A,C.md m fun E=>hs b E A,T.md D m hs⟩
theorem Pt.o {ty:TypeId} {v:Value} {x:α} (h:Pt T ty w Q v x) (m:Md [] w w'):Pt T ty w' Q v x:=h.md m Oj
instance aiu {ty:TypeId} {v:Value} {x:α}:Tp w w' (Pt T ty w Q v x) (Pt T ty w' Q v x):=⟨fun m h=>h.o m⟩
theorem Pt.sub {ty:TypeId} {v:Value} {x:α} (h:Pt T ty w Q v x) (s:∀b,Q b→b<w.heap.size→Q' b):Pt T ty w Q' v x:=by
  obtain⟨b,c,B,C,A,D⟩:=h
  exact⟨b,c,B,s b C A.lt,A,T.sub D s⟩
def tPt (T:Dt α) (ty:TypeId):Dt α where
  n:=1
  pos:=Nat.zero_lt_one
  nM w Q cs x:=∃v,cs=[v]∧Pt T ty w Q v x
  len:=by rintro _ _ _ _ ⟨v,rfl,_⟩;rfl
  one:=by rintro _ _ _ _ ⟨v,rfl,b,c,rfl,_⟩ u hu;simp at hu;subst hu;rfl
  md:=fun⟨v,e,h⟩ m hs=>⟨v,e,h.md m hs⟩
  sub:=fun⟨v,e,h⟩ s=>⟨v,e,h.sub s⟩
def jQ (sz:Nat):Value→Nat→Nat→Value
  | .slice a _ cap,lo,hi=>.slice (if cap=lo then a else a.map (·.add (lo*sz))) (hi-lo) (cap-lo)
  | _,_,_=>undef
theorem Ls.part {v:Value} {xs:List α} (h:Ls T w Q v xs) (lo hi:Nat) (h1:lo≤hi) (h2:hi≤xs.length):Ls T w Q (jQ T.n v lo hi) ((xs.take hi).drop lo):=by
  obtain⟨a,A,R,rfl,S,U,M,N,O,I⟩:=h
  have F:((xs.take hi).drop lo).length=hi-lo:=by simp;omega
  have L:xs=(xs.take hi).take lo ++ (((xs.take hi).drop lo) ++ xs.drop hi):=by rw[← List.append_assoc,List.take_append_drop,List.take_append_drop]
  rw[L]at I
  have J:=I.split.2
  have G:((xs.take hi).take lo).length=lo:=by simp;omega
  rw[G]at J
  have D:=J.split.1
  rw[F]at D
  refine⟨if A=lo then a else a.map (·.add (lo*T.n)),A-lo,_,?_,?_,by omega,?_,?_,?_,D⟩
  · simp only[jQ,F]
  · rw[F];omega
  · intro h
    split at h
    · omega
    cases a with
    | none=>have:=M rfl;omega
    | some p=>simp at h
  · intro p B K
    have C:A≠lo:=by intro P;apply K;apply List.eq_nil_of_length_eq_zero;omega
    rw[if_neg C]at B
    cases a with
    | none=>simp at B
    | some q =>
      simp at B
      subst B
      rw[Addr.add_block]
      exact N q rfl (by rintro rfl;simp at K)
  intro p B j u H
  have E:=(List.getElem?_eq_some_iff.1 H).1
  simp only[List.length_take,List.length_drop]at E
  have C:A≠lo:=by
    intro P
    have:hi-lo=0:=by omega
    rw[this]at E;simp at E
  rw[if_neg C]at B
  cases a with
  | none=>simp at B
  | some q =>
    simp at B
    subst B
    rw[Addr.add_add]
    refine O q rfl _ u ?_
    rw[List.getElem?_take,if_pos Ok,List.getElem?_drop]at H
    exact H
def At (w:World) (v:Value) (k:Nat) (c:List Value):Prop:=∃p l cp,v = .slice (some p) l cp∧∀j u,c[j]? = some u→w.cell? (p.add (k+j))=some u
theorem Ls.get {v:Value} {xs:List α} {i:Nat} {x:α} (h:Ls T w Q v xs) (hi:xs[i]? = some x):∃c,T.nM w Q c x∧At w v (i*T.n) c:=by
  obtain⟨a,A,H,rfl,I,J,B,K,C,D⟩:=h
  obtain⟨c,E,F⟩:=D.get hi
  cases a with
  | none =>
    have:=B q
    have:=(List.getElem?_eq_some_iff.1 hi).1
    omega
  | some p=>exact⟨c,E,p,_,A,q,fun j u G=>C p q _ u (F j u G)⟩
theorem At.o {v:Value} {k:Nat} {c:List Value} (h:At w v k c) (m:Md [] w w'):At w' v k c:=by
  obtain⟨p,l,B,C,D⟩:=h
  exact⟨p,l,B,C,fun j u E=>m.cell (D j u E) Oj⟩
instance aip {v:Value} {k:Nat} {c:List Value}:Tp w w' (At w v k c) (At w' v k c):=⟨fun m h=>h.o m⟩
def Ow (T:Dt α) (e:TypeId) (lo:Nat→Prop) (w:World) (Q:Nat→Prop) (v:Value) (xs:List α):Prop :=
  (∃cs,Own w e T.n v xs.length cs∧qm T w Q cs xs)∧∀b,ah v=some b→lo b∧¬Q b
theorem Ow.nil (T:Dt α) (e:TypeId) (lo:Nat→Prop) (w:World) (Q:Nat→Prop):Ow T e lo w Q (.slice none 0 0) []:=⟨⟨[],Own.nil w e _,q⟩,by simp[ah]⟩
theorem Ow.md {e:TypeId} {lo:Nat→Prop} {S:List Nat} {v:Value} {xs:List α} (h:Ow T e lo w Q v xs) (m:Md S w w') (hv:∀b,ah v=some b→b∉S) (hs:∀b∈S,¬Q b):Ow T e lo w' Q v xs:=by
  obtain⟨⟨A,B,C⟩,D⟩:=h
  exact⟨⟨A,B.md m hv,C.md m hs⟩,D⟩
theorem Ow.o {e:TypeId} {lo:Nat→Prop} {v:Value} {xs:List α} (h:Ow T e lo w Q v xs) (m:Md [] w w'):Ow T e lo w' Q v xs:=h.md m Oj Oj
instance ait {e:TypeId} {lo:Nat→Prop} {v:Value} {xs:List α}:Tp w w' (Ow T e lo w Q v xs) (Ow T e lo w' Q v xs):=⟨fun m h=>h.o m⟩
theorem Ow.lt {e:TypeId} {lo:Nat→Prop} {v:Value} {xs:List α} (h:Ow T e lo w Q v xs):∀b,ah v=some b→b<w.heap.size:=by obtain⟨⟨B,A,C⟩,D⟩:=h;exact A.lt
theorem Ow.sub {e:TypeId} {lo:Nat→Prop} {v:Value} {xs:List α} (h:Ow T e lo w Q v xs) (s:∀b,Q b→b<w.heap.size→Q' b) (t:∀b,Q' b→Q b):Ow T e lo w Q' v xs:=by
  obtain⟨⟨C,D,E⟩,A⟩:=h
  exact⟨⟨C,D,E.sub s⟩,fun b B=>⟨(A b B).1,fun F=>(A b B).2 (t b F)⟩⟩
theorem nT {e:TypeId} {sz m:Nat} {v:Value} {cs:List Value} (h:Own w e sz v m cs):∃a cap,v = .slice a m cap∧m≤cap∧cap≤maxLen∧(a=none→cap=0)∧∀p,a=some p→∀j u,cs[j]? = some u→w.cell? (p.add j)=some u:=by
  rcases h.2 with⟨rfl,rfl⟩|⟨g,cap,A,rfl,F,G,C,B,H,I⟩
  · exact⟨none,0,q,Nat.le_refl _,by simp[maxLen],fun _=>rfl,by simp⟩
  exact⟨some ⟨g,0,none⟩,cap,q,C,B,by simp,fun p D j u E=>by cases D;exact World.ownsRow.cells h (g:=g) q j u E⟩
theorem Ow.ls {e:TypeId} {lo:Nat→Prop} {v:Value} {xs:List α} (h:Ow T e lo w Q v xs) (t:∀b,Q b→Q' b) (u:∀b,lo b→Q' b):Ls T w Q' v xs:=by
  obtain⟨⟨B,C,D⟩,E⟩:=h
  obtain⟨a,A,rfl,F,G,H,I⟩:=nT C
  exact⟨a,A,B,q,F,G,H,fun p K _=>u _ (E _ (by subst K;rfl)).1,I,D.sub fun b J _=>t b J⟩
theorem Ow.get {e:TypeId} {lo:Nat→Prop} {v:Value} {xs:List α} {i:Nat} {x:α} (h:Ow T e lo w Q v xs) (hi:xs[i]? = some x):∃c,T.nM w Q c x∧At w v (i*T.n) c:=by
  obtain⟨⟨I,B,C⟩,_⟩:=h
  obtain⟨a,A,rfl,J,K,D,E⟩:=nT B
  obtain⟨c,F,G⟩:=C.get hi
  cases a with
  | none =>
    have:=D q
    have:=(List.getElem?_eq_some_iff.1 hi).1
    omega
  | some p=>exact⟨c,F,p,_,A,q,fun j u H=>E p q _ u (G j u H)⟩
theorem Ow.read {e:TypeId} {lo:Nat→Prop} {v:Value} {xs:List α} (h:Ow T e lo w Q v xs):Ls T w (fun b=>Q b∨lo b) v xs:=h.ls (fun _=>.inl) (fun _=>.inr)
theorem Ow.cV {e:TypeId} {lo:Nat→Prop} {v:Value} {xs:List α} (h:Ow T e lo w Q v xs):GC v xs.length:=h.read.cV
theorem Ow.bN {e:TypeId} {lo:Nat→Prop} {v:Value} {xs:List α} (h:Ow T e lo w Q v xs):v.oneCell'=true:=h.read.bN
end
def Up (w:World) (Q:Nat→Prop):Prop:=∀b,w.heap.size≤b→Q b
theorem Up.md {S:List Nat} {w w':World} {Q:Nat→Prop} (u:Up w Q) (m:Md S w w'):Up w' Q:=fun b hb=>u b (ly m.size hb)
instance aiw {w w':World} {Q:Nat→Prop}:Tp w w' (Up w Q) (Up w' Q):=⟨fun m h=>h.md m⟩
theorem jh {Q:Nat→Prop} {w w':World} {b:Nat} (u:Up w Q) (h1:w.heap.size≤b) (h2:b<w'.heap.size) (m:Md [] w w') :
    ∃Q':Nat→Prop,(∀x,Q x→x<w.heap.size→Q' x)∧(∀x,Q' x→Q x)∧¬Q' b∧Up w' Q' :=
  ⟨fun x=>Q x∧x≠b,fun x hx hl=>⟨hx,by omega⟩,fun x hx=>hx.1,fun h=>h.2 q,fun x hx=>⟨u x (ly m.size hx),by omega⟩⟩
end Go.Wk
namespace Go.Wk
open Go Go.RowKit
def lim:IntKind→Nat
  | .u8=>256|.u16=>65536|.u32=>4294967296|.u64=>18446744073709551616
  | .i8=>128|.i16=>32768|.i32=>2147483648|.i64=>9223372036854775808
theorem wrapN (k:IntKind) (x:Nat) (h:x<lim k):k.wrap (x:Int)=x:=by
  cases k <;> simp[IntKind.wrap,IntKind.bits,IntKind.signed,lim]at * <;> omega
theorem abb (k:IntKind) (x:Int) (h:k.signed=false):k.wrap x=((x%(lim k:Int)).toNat:Nat):=by
  cases k <;> simp[IntKind.wrap,IntKind.bits,IntKind.signed,lim]at * <;> omega
theorem cC.to {P:Program} {w:World} {o:Oper} {e:Operand→Value} {a b:Value} (h:cC P o e w a) (he:a=b):cC P o e w b:=he ▸ h
section
variable {P:Program} {n:Nat} {A:Fr n} {D:List Deferred} {l:List (Nat × Value)} {w:World}
variable {d:Option Tmp} {ty:TypeId} {ps:String} {af:Array Edge} {g:Option (Nat × Bool)}
variable {x y:Operand} {t u:TypeId} {k j:IntKind} {a b:Nat}
theorem gE (L:Nat) (hL:lim k=L) (hx:ev n l x=some (.int k (a:Int))) (hy:ev n l y=some (.int k (b:Int))) (h:a+b<L) :
    cC P ⟨d,.binOp .add t x y u,ty,ps,af,g⟩ (bw A D l).eval w (.int k ((a+b:Nat):Int)) :=
  (ig hx hy).jd (by rw[← wrapN k (a+b) (hL ▸ h)];rfl)
theorem lO (L:Nat) (hL:lim k=L) (hx:ev n l x=some (.int k (a:Int))) (hy:ev n l y=some (.int k (b:Int))) (h:b≤a∧a<L) :
    cC P ⟨d,.binOp .sub t x y u,ty,ps,af,g⟩ (bw A D l).eval w (.int k ((a-b:Nat):Int)) :=
  (iB hx hy).jd (by rw[← wrapN k (a-b) Ok];congr 1;omega)
theorem mg (L:Nat) (hL:lim k=L) (hx:ev n l x=some (.int k (a:Int))) (hy:ev n l y=some (.int k (b:Int))) (h:a*b<L) :
    cC P ⟨d,.binOp .mul t x y u,ty,ps,af,g⟩ (bw A D l).eval w (.int k ((a*b:Nat):Int)) :=
  (agE hx hy).jd (by rw[← wrapN k (a*b) (hL ▸ h),Int.natCast_mul])
theorem qF (L:Nat) (hL:lim k=L) (hs:k.signed=false) (hx:ev n l x=some (.int k (a:Int))) (hy:ev n l y=some (.int k (b:Int))) :
    cC P ⟨d,.binOp .add t x y u,ty,ps,af,g⟩ (bw A D l).eval w (.int k (((a+b)%L:Nat):Int)) :=
  (ig hx hy).jd (by rw[abb k _ hs,hL,show(a:Int)+b=((a+b:Nat):Int)from rfl,← Int.natCast_emod,Int.toNat_natCast])
theorem Nj (L:Nat) (hL:lim k=L) (hx:ev n l x=some (.int k (a:Int))) (hy:ev n l y=some (.int k (b:Int))) (h:b≠0∧a<L) :
    cC P ⟨d,.binOp .quo t x y u,ty,ps,af,g⟩ (bw A D l).eval w (.int k ((a/b:Nat):Int)) :=
  (agG hx hy Ok).jd (by
    rw[show Int.tdiv (a:Int) b=((a/b:Nat):Int)from rfl]
    exact wrapN k _ (hL ▸ Nat.lt_of_le_of_lt (Nat.div_le_self _ _) h.2))
theorem oE (hx:ev n l x=some (.int k (a:Int))) (hy:ev n l y=some (.int k (b:Int))) (h:b≠0) :
    cC P ⟨d,.binOp .rem t x y u,ty,ps,af,g⟩ (bw A D l).eval w (.int k ((a%b:Nat):Int)) :=
  (aa4 hx hy Ok).jd q
theorem ir (hx:ev n l x=some (.int k (a:Int))) (hy:ev n l y=some (.int k (b:Int))):cC P ⟨d,.binOp .eql t x y u,ty,ps,af,g⟩ (bw A D l).eval w (.bool (decide (a=b))) :=
  (kJ hx hy).BJ (decide_eq_decide.2 Ok)
theorem eN (hx:ev n l x=some (.int k (a:Int))) (hy:ev n l y=some (.int k (b:Int))):cC P ⟨d,.binOp .neq t x y u,ty,ps,af,g⟩ (bw A D l).eval w (.bool (decide (a≠b))) :=
  (Ni hx hy).BJ (decide_eq_decide.2 Ok)
theorem dV (hx:ev n l x=some (.int k (a:Int))) (hy:ev n l y=some (.int k (b:Int))):cC P ⟨d,.binOp .lss t x y u,ty,ps,af,g⟩ (bw A D l).eval w (.bool (decide (a<b))) :=
  (qd hx hy).BJ (decide_eq_decide.2 Ok)
theorem DF (hx:ev n l x=some (.int k (a:Int))) (hy:ev n l y=some (.int k (b:Int))):cC P ⟨d,.binOp .leq t x y u,ty,ps,af,g⟩ (bw A D l).eval w (.bool (decide (a≤b))) :=
  (vB hx hy).BJ (decide_eq_decide.2 Ok)
theorem iY (hx:ev n l x=some (.int k (a:Int))) (hy:ev n l y=some (.int k (b:Int))):cC P ⟨d,.binOp .gtr t x y u,ty,ps,af,g⟩ (bw A D l).eval w (.bool (decide (b<a))) :=
  (tf hx hy).BJ (decide_eq_decide.2 Ok)
theorem DC (hx:ev n l x=some (.int k (a:Int))) (hy:ev n l y=some (.int k (b:Int))):cC P ⟨d,.binOp .geq t x y u,ty,ps,af,g⟩ (bw A D l).eval w (.bool (decide (b≤a))) :=
  (qc hx hy).BJ (decide_eq_decide.2 Ok)
theorem dG {s:TypeId} (L:Nat) (hL:lim k=L) (hs:(P.underlying s).isSome=true) (ht:P.underlying t=some (.int k)) (hx:ev n l x=some (.int j (a:Int))) (h:a<L) :
    cC P ⟨d,.convert s t x,ty,ps,af,g⟩ (bw A D l).eval w (.int k (a:Int)):=(iw hs ht hx).jd (wrapN k a (hL ▸ h))
theorem qG {s:TypeId} (L:Nat) (hL:lim k=L) (hk:k.signed=false) (hs:(P.underlying s).isSome=true) (ht:P.underlying t=some (.int k)) (hx:ev n l x=some (.int j (a:Int))) :
    cC P ⟨d,.convert s t x,ty,ps,af,g⟩ (bw A D l).eval w (.int k ((a%L:Nat):Int)):=(iw hs ht hx).jd (by rw[abb k _ hk,hL,← Int.natCast_emod,Int.toNat_natCast])
theorem ae8 (hx:ev n l x=some (.int k (a:Int))) (hy:ev n l y=some (.int j (b:Int))) {ts:Array TypeId} :
    cC P ⟨d,.call {callee:=.builtin .min,args:=#[x,y],argTypes:=ts},ty,ps,af,g⟩ (bw A D l).eval w (.int k ((min a b:Nat):Int)) :=
  (ad4 hx hy).jd (by split<;>omega)
theorem ae7 {a b:Int} (hx:ev n l x=some (.int k a)) (hy:ev n l y=some (.int j b)) {ts:Array TypeId} :
    cC P ⟨d,.call {callee:=.builtin .max,args:=#[x,y],argTypes:=ts},ty,ps,af,g⟩ (bw A D l).eval w (.int k (if a<b then b else a)):=by
  simp[cC,execOp,bZ hx,bZ hy,resolve,invoke,builtin,Builtin.max_,Builtin.max2]
theorem aa3 (hx:ev n l x=some (.int k (a:Int))) (hy:ev n l y=some (.int j (b:Int))) {ts:Array TypeId} :
    cC P ⟨d,.call {callee:=.builtin .max,args:=#[x,y],argTypes:=ts},ty,ps,af,g⟩ (bw A D l).eval w (.int k ((max a b:Nat):Int)) :=
  (ae7 hx hy).jd (by split<;>omega)
theorem aeB (L:Nat) (hL:lim k=L) (hs:k.signed=false) (s:Nat) (hS:k.bits=s) (hx:ev n l x=some (.int k (a:Int))) (hy:ev n l y=some (.int j (b:Int))) (h:b≤s) :
    cC P ⟨d,.binOp .shl t x y u,ty,ps,af,g⟩ (bw A D l).eval w (.int k ((a*2 ^ b%L:Nat):Int)) :=
  (oZ hx hy Ok).jd (by
    unfold lR
    rw[abb k _ hs,hL,hS,Int.toNat_natCast,Nat.min_eq_left h]
    rw[show(a:Int)*2 ^ b=((a*2 ^ b:Nat):Int)by simp,← Int.natCast_emod,Int.toNat_natCast])
theorem aeC (s:Nat) (hS:k.bits=s) (hx:ev n l x=some (.int k (a:Int))) (hy:ev n l y=some (.int j (b:Int))) (h:b≤s) :
    cC P ⟨d,.binOp .shr t x y u,ty,ps,af,g⟩ (bw A D l).eval w (.int k ((a/2 ^ b:Nat):Int)) :=
  (JY hx hy Ok).jd (by
    unfold ac4
    rw[hS,Int.toNat_natCast,Nat.min_eq_left h]
    simp)
theorem zk (hk:k.signed=false):lim k=2 ^ k.bits:=by cases k<;>simp[IntKind.signed]at hk<;>rfl
theorem WN (hk:k.signed=false) (ha:a<lim k) (hb:b<lim k):bits .xor k (a:Int) (b:Int)=((a ^^^ b:Nat):Int):=by
  have A:=zk hk
  have B:a ^^^ b<lim k:=by rw[A];exact Nat.xor_lt_two_pow (A ▸ ha) (A ▸ hb)
  unfold bits
  simp only[BitVec.ofInt_natCast,BitVec.toNat_xor,BitVec.toNat_ofNat,← A,Nat.mod_eq_of_lt ha,Nat.mod_eq_of_lt hb]
  exact wrapN k _ B
theorem abo (hk:k.signed=false) (ha:a<lim k) (hb:b<lim k):bits .or k (a:Int) (b:Int)=((a ||| b:Nat):Int):=by
  have A:=zk hk
  have B:a ||| b<lim k:=by rw[A];exact Nat.or_lt_two_pow (A ▸ ha) (A ▸ hb)
  unfold bits
  simp only[BitVec.ofInt_natCast,BitVec.toNat_or,BitVec.toNat_ofNat,← A,Nat.mod_eq_of_lt ha,Nat.mod_eq_of_lt hb]
  exact wrapN k _ B
theorem WM (hk:k.signed=false) (ha:a<lim k) (hb:b<lim k):bits .and k (a:Int) (b:Int)=((a &&& b:Nat):Int):=by
  have B:=zk hk
  have A:a &&& b<lim k:=Nat.lt_of_le_of_lt Nat.and_le_left ha
  unfold bits
  simp only[BitVec.ofInt_natCast,BitVec.toNat_and,BitVec.toNat_ofNat,← B,Nat.mod_eq_of_lt ha,Nat.mod_eq_of_lt hb]
  exact wrapN k _ A
theorem Nn (L:Nat) (hL:lim k=L) (hk:k.signed=false) (hx:ev n l x=some (.int k (a:Int))) (hy:ev n l y=some (.int k (b:Int))) (h:a<L∧b<L) :
    cC P ⟨d,.binOp .xor t x y u,ty,ps,af,g⟩ (bw A D l).eval w (.int k ((a ^^^ b:Nat):Int)):=(eI hx hy).jd (WN hk (hL ▸ h.1) (hL ▸ h.2))
theorem agF (L:Nat) (hL:lim k=L) (hk:k.signed=false) (hx:ev n l x=some (.int k (a:Int))) (hy:ev n l y=some (.int k (b:Int))) (h:a<L∧b<L) :
    cC P ⟨d,.binOp .or t x y u,ty,ps,af,g⟩ (bw A D l).eval w (.int k ((a ||| b:Nat):Int)):=(wM hx hy).jd (abo hk (hL ▸ h.1) (hL ▸ h.2))
theorem ae3 (L:Nat) (hL:lim k=L) (hk:k.signed=false) (hx:ev n l x=some (.int k (a:Int))) (hy:ev n l y=some (.int k (b:Int))) (h:a<L∧b<L) :
    cC P ⟨d,.binOp .and t x y u,ty,ps,af,g⟩ (bw A D l).eval w (.int k ((a &&& b:Nat):Int)):=(aay hx hy).jd (WM hk (hL ▸ h.1) (hL ▸ h.2))
theorem aeA (L:Nat) (hL:lim k=L) (s:Nat) (hS:k.bits=s) (hx:ev n l x=some (.int k (a:Int))) (hy:ev n l y=some (.int j (b:Int))) (h:b≤s∧a*2 ^ b<L) :
    cC P ⟨d,.binOp .shl t x y u,ty,ps,af,g⟩ (bw A D l).eval w (.int k ((a*2 ^ b:Nat):Int)) :=
  (oZ hx hy Ok).jd (by
    unfold lR
    rw[hS,Int.toNat_natCast,Nat.min_eq_left h.1,show(a:Int)*2 ^ b=((a*2 ^ b:Nat):Int)by simp]
    exact wrapN k _ (hL ▸ h.2))
theorem aa0 {s:TypeId} {z:Int} (L:Nat) (hL:lim k=L) (hs:(P.underlying s).isSome=true) (ht:P.underlying t=some (.int k)) (hx:ev n l x=some (.int j z)) (h:0≤z∧z<L) :
    cC P ⟨d,.convert s t x,ty,ps,af,g⟩ (bw A D l).eval w (.int k ((z.toNat:Nat):Int)) :=
  (iw hs ht hx).jd (by rw[show z=((z.toNat:Nat):Int)by omega];exact wrapN k _ Ok)
variable {α:Type} {T:Dt α} {Q:Nat→Prop} {v:Value} {xs:List α}
theorem bB {e:TypeId} {m i:Nat} (sz:Nat) (hx:ev n l x=some v) (hy:ev n l y=some (.int k (i:Int))) (hT:P.underlying t=some (.slice e)) (hE:gu P e sz=true) (hS:GC v m) (hi:i<m) :
    cC P ⟨d,.indexAddr t x y,ty,ps,af,g⟩ (bw A D l).eval w (lC v (i*sz)):=by
  have:=rY (P:=P) (A:=A) (D:=D) (w:=w) (d:=d) (ty:=ty) (ps:=ps) (af:=af) (g:=g) sz hx hy hT hE hS Ok
  simpa using this
theorem ck {e:TypeId} {m b' o i:Nat} (sz:Nat) (hx:ev n l x=some (.pointer (some ⟨b',o,none⟩))) (hy:ev n l y=some (.int k (i:Int))) (hT:P.underlying t=some (.array m e)) (hE:gu P e sz=true) (hi:i<m) :
    cC P ⟨d,.indexAddr t x y,ty,ps,af,g⟩ (bw A D l).eval w (.pointer (some ⟨b',o+i*sz,none⟩)):=by
  unfold gu at hE
  split at hE
  · rename_i inf hinf
    have B:inf.size=sz:=by simpa using hE
    simp[cC,execOp,bZ hx,bZ hy,Instr.indexAt,Instr.sureAddr,asIntOf,run_underlying hT,eB hinf,hi,B,Addr.jL]
  cases hE
theorem yI {kk:Nat} {c:List Value} (h:At w v kk c):∃p:Addr,(∀m,lC v m = .pointer (some (p.add m)))∧∀j u,c[j]? = some u→w.cell? (p.add (kk+j))=some u:=by
  obtain⟨p,l,B,rfl,A⟩:=h
  exact⟨p,fun _=>rfl,A⟩
theorem gQ {s:TypeId} {f m off kk:Nat} {c:List Value} (hx:ev n l x=some (lC v m)) (hA:At w v kk c) (hf:bh P s f=some off) :
    cC P ⟨d,.fieldAddr s x f,ty,ps,af,g⟩ (bw A D l).eval w (lC v (m+off)):=by
  obtain⟨p,B,_⟩:=yI hA
  rw[B]at hx ⊢
  unfold bh at hf
  split at hf
  · rename_i fs hfs
    split at hf
    · rename_i fd hfd
      split at hf
      · rename_i inf hinf
        split at hf
        · cases hf
        rename_i hz
        simp only[Option.some.injEq]at hf
        subst hf
        simp[cC,execOp,bZ hx,Instr.fieldAt,Instr.sureAddr,run_underlying hfs,hfd,fieldPlace,eB hinf,hz,Addr.add_add]
      cases hf
    cases hf
  cases hf
theorem cg {m kk:Nat} {c:List Value} {r:Value} (j:Nat) (hx:ev n l x=some (lC v m)) (hm:m=kk+j) (hT:gZ P t=true) (hA:At w v kk c) (hj:c[j]? = some r) :
    cC P ⟨d,.load t x,ty,ps,af,g⟩ (bw A D l).eval w r:=by
  obtain⟨p,C,B⟩:=yI hA
  rw[C]at hx
  exact MZ hx hT (by rw[hm];exact B j r hj)
theorem eV {m kk:Nat} {c:List Value} (cs:List Value) (o:Nat) (hx:ev n l x=some (lC v m)) (hm:m=kk+o) (hT:fA P t cs.length=true) (hA:At w v kk c) (hc:(c.drop o).take cs.length=cs) :
    cC P ⟨d,.load t x,ty,ps,af,g⟩ (bw A D l).eval w (.agg cs.toArray):=by
  obtain⟨p,F,C⟩:=yI hA
  rw[F]at hx
  refine wL hx hT q fun j r B=>?_
  have E:=(List.getElem?_eq_some_iff.1 B).1
  rw[Addr.add_add,hm,Nat.add_assoc]
  refine C _ r ?_
  rw[← hc,List.getElem?_take,if_pos E,List.getElem?_drop]at B
  exact B
theorem bX {ty':TypeId} {b' o:Nat} {c:List Value} (cs:List Value) (hx:ev n l x=some (.pointer (some ⟨b',o,none⟩))) (hT:fA P t cs.length=true) (hB:bO w b' c ty') (hc:(c.drop o).take cs.length=cs) :
    cC P ⟨d,.load t x,ty,ps,af,g⟩ (bw A D l).eval w (.agg cs.toArray):=by
  refine wL hx hT q fun j r B=>?_
  have C:=(List.getElem?_eq_some_iff.1 B).1
  rw[Addr.jL,hB.cell]
  rw[← hc,List.getElem?_take,if_pos C,List.getElem?_drop]at B
  exact B
theorem fe {lo hi:Option Operand} {m e:Nat} (sz L H:Nat) (hT:P.underlying t=some (.slice e)) (hE:gu P e sz=true) (hx:ev n l x=some v)
    (hS:GC v m) (h1:L≤H) (h2:H≤m)
    (hlo:match lo with|none=>L=0|some y=>∃k,ev n l y=some (.int k (L:Int))) (hhi:match hi with|none=>H=m|some y=>∃k,ev n l y=some (.int k (H:Int))) :
    cC P ⟨d,.slice t x lo hi none,ty,ps,af,g⟩ (bw A D l).eval w (jQ sz v L H):=by
  obtain⟨a,C,rfl,G,I,J⟩:=hS
  unfold gu at hE
  split at hE
  · rename_i inf hinf
    have B:inf.size=sz:=by simpa using hE
    have E:H≤C:=by omega
    cases lo with
    | none =>
      simp only at hlo;subst hlo
      cases hi with
      | none =>
        simp only at hhi;subst hhi
        simp[cC,execOp,bZ hx,Instr.sliceAt,Instr.slice,Instr.sliceBounds,run_underlying hT,eB hinf,jQ,B]
      | some y =>
        simp only at hhi;obtain⟨k,hk⟩:=hhi
        simp[cC,execOp,bZ hx,bZ hk,Instr.sliceAt,Instr.slice,Instr.sliceBounds,Instr.sliceBound,asIntOf,run_underlying hT,eB hinf,jQ,B,E]
    | some z =>
      simp only at hlo;obtain⟨j,F⟩:=hlo
      cases hi with
      | none =>
        simp only at hhi;subst hhi
        simp[cC,execOp,bZ hx,bZ F,Instr.sliceAt,Instr.slice,Instr.sliceBounds,Instr.sliceBound,asIntOf,run_underlying hT,eB hinf,jQ,B,h1]
      | some y =>
        simp only at hhi;obtain⟨k,hk⟩:=hhi
        simp[cC,execOp,bZ hx,bZ F,bZ hk,Instr.sliceAt,Instr.slice,Instr.sliceBounds,Instr.sliceBound,asIntOf,run_underlying hT,eB hinf,jQ,B,h1,E]
  cases hE
end
end Go.Wk
namespace Go.Wk
open Go Go.RowKit
theorem wW:∀(us:List Value) (k o:Nat) (cs:List Value),o+k+us.length≤cs.length →
    (us.zipIdx k).foldl (fun(cs:Array Value) (x:Value × Nat)=>cs.setIfInBounds (o+x.2) x.1) cs.toArray=(fo cs (o+k) us).toArray
  | [],k,o,cs,_=>by simp[fo]
  | u :: us,k,o,cs,h=>by
    simp only[List.length_cons]at h
    rw[List.zipIdx_cons,List.foldl_cons]
    simp only[List.setIfInBounds_toArray]
    rw[wW us (k+1) o (cs.set (o+k) u) Yw]
    congr 1
    unfold fo
    have h1:(cs.set (o+k) u).take (o+(k+1))=cs.take (o+k) ++ [u]:=by
      rw[show o+(k+1)=(o+k)+1 by omega,List.take_add_one]
      simp[show o+k<cs.length by omega,List.take_set_of_le]
    have A:(cs.set (o+k) u).drop (o+(k+1)+us.length)=cs.drop (o+k+(us.length+1)):=by
      rw[List.drop_set_of_lt Ok]
      congr 1;omega
    rw[h1,A]
    simp
theorem LJ {v:Value} {us:List Value} (hv:v.cells=us.toArray) (o:Nat) (cs:List Value) (h:o+us.length≤cs.length) :
    v.cells.zipIdx.foldl (fun(cs:Array Value) (x:Value × Nat)=>cs.setIfInBounds (o+x.2) x.1) cs.toArray=(fo cs o us).toArray:=by
  have:=wW us 0 o cs Ok
  rw[hv]
  simpa [← Array.foldl_toList]using this
def mE:List Value→List (List Value)→Prop
  | [],[]=>True
  | v :: vs,u :: us=>v.cells=u.toArray∧mE vs us
  | _,_=>False
def mD (cs:List Value):List (Nat × Nat × Nat)→List (List Value)→List Value
  | (_,o,_) :: ps,u :: us=>mD (fo cs o u) ps us
  | _,_=>cs
def NP:List (Nat × Nat × Nat)→List (List Value)→Prop
  | [],[]=>True
  | (_,_,s) :: ps,u :: us=>u.length=s∧NP ps us
  | _,_=>False
theorem ux {cs us:List Value} {o:Nat} (h:o+us.length≤cs.length):(fo cs o us).length=cs.length:=by simp[fo];omega
theorem uK {place:Nat→Option (Nat × Nat)}:∀(ps:List (Nat × Nat × Nat)) (vs:List Value) (us:List (List Value)) (cs:List Value),mE vs us→NP ps us→(∀p∈ps,place p.1=some (p.2.1,p.2.2)∧p.2.1+p.2.2≤cs.length) →
    Instr.fill place cs.toArray ((ps.map (·.1)).zip vs)=some (mD cs ps us).toArray
  | [],[],[],cs,_,_,_=>by simp[Instr.fill,mD]
  | [],[],_ :: _,_,h,_,_=>by simp[mE]at h
  | [],_ :: _,[],_,h,_,_=>by simp[mE]at h
  | [],_ :: _,_ :: _,_,_,h,_=>by simp[NP]at h
  | _ :: _,_,[],_,_,h,_=>by simp[NP]at h
  | _ :: _,[],_ :: _,_,h,_,_=>by simp[mE]at h
  | (i,o,s) :: ps,v :: vs,u :: us,cs,⟨h1,h2⟩,⟨h3,h4⟩,hp=>by
    obtain⟨h5,h6⟩:=hp (i,o,s) Oj
    simp only at h5 h6
    have hs:v.cells.size=s:=by rw[h1];simpa using h3
    have B:o+u.length≤cs.length:=by omega
    have C:=uK (place:=place) ps vs us (fo cs o u) h2 h4 (fun p A=>by rw[ux B];exact hp p (by simp[A]))
    simp only[List.map_cons,List.zip_cons_cons,Instr.fill,h5]
    rw[if_neg (by simp[hs];omega),LJ h1 o cs B]
    simpa [mD]using C
def aao (pl:List (Nat × Nat)) (m:Nat):List (Nat × Nat × Nat)→Bool
  | []=>true
  | (i,o,s) :: r=>(match pl[i]? with
    | some (o',s')=>Nat.beq o' o && Nat.beq s' s && Nat.ble (o+s) m
    | none=>false) && aao pl m r
theorem CV {pl:List (Nat × Nat)} {m:Nat}:∀{ps:List (Nat × Nat × Nat)},aao pl m ps=true→∀p∈ps,pl[p.1]? = some (p.2.1,p.2.2)∧p.2.1+p.2.2≤m
  | [],_,p,hp=>by cases hp
  | (i,o,s) :: r,h,p,hp=>by
    simp only[aao,Bool.and_eq_true]at h
    rcases List.mem_cons.1 hp with rfl|hp'
    · cases hq:pl[i]? with
      | none=>rw[hq]at h;simp at h
      | some q =>
        obtain⟨o',s'⟩:=q
        rw[hq]at h
        simp only[Bool.and_eq_true]at h
        obtain⟨⟨⟨h1,h2⟩,h3⟩,_⟩:=h
        have e1:=Nat.eq_of_beq_eq_true h1
        have e2:=Nat.eq_of_beq_eq_true h2
        subst e1;subst e2
        exact⟨rfl,lB h3⟩
    · exact CV h.2 p hp'
section
variable {P:Program} {ops:Array Oper} {Q:Exit→Act→World→Prop} {rest:List Oper}
variable {n:Nat} {A:Fr n} {D:List Deferred} {l:List (Nat × Value)} {w:World}
variable {d:Tmp} {op:Op} {ty:TypeId} {ps:String} {af:Array Edge} {g:Option (Nat × Bool)}
theorem QU {t:TypeId} {zs vs:List Value} {us:List (List Value)} {pl:List (Nat × Nat)} {ps:List (Nat × Nat × Nat)} (hz:ea P t=some zs) (hpl:fw P t=some pl) (hc:mE vs us) (hs:NP ps us) (hps:aao pl zs.length ps=true) :
    P.built t ((ps.map (·.1)).zip vs)=some (mD zs ps us).toArray:=by
  have G:=CV hps
  unfold ea at hz
  cases hi:P.info? t with
  | none=>simp[hi]at hz
  | some it =>
    cases hzz:it.zero with
    | none=>simp[hi,hzz]at hz
    | some z =>
      simp only[hi,hzz,Option.some.injEq]at hz
      have D:z.cells=zs.toArray:=by rw[← hz]
      unfold fw at hpl
      unfold Program.built
      cases hu:P.underlying t with
      | none=>simp[hu]at hpl
      | some d =>
        cases d <;> try (simp[hu]at hpl;done)
        case array m e =>
          cases hie:P.info? e with
          | none=>simp[hu,hie]at hpl
          | some ie =>
            simp only[hu,hie,Option.some.injEq]at hpl
            simp only[hi,hzz,hie,D]
            refine uK ps vs us zs hc hs (fun p C=>?_)
            obtain⟨B,E⟩:=G p C
            rw[← hpl,List.getElem?_map]at B
            have H:(List.range m)[p.1]? = some p.1:=by
              cases hq:(List.range m)[p.1]? with
              | none=>rw[hq]at B;simp at B
              | some q=>have:=List.getElem?_eq_some_iff.1 hq;obtain⟨I,F⟩:=this;simp at F;rw[← F]
            rw[H]at B
            simp only[Option.map_some,Option.some.injEq,Prod.mk.injEq]at B
            exact⟨by rw[B.1,B.2],E⟩
        case struct ay =>
          simp only[hu]at hpl
          simp only[hi,hzz,hpl,D]
          refine uK ps vs us zs hc hs (fun p C=>?_)
          obtain⟨B,E⟩:=G p C
          exact⟨by simpa using B,E⟩
theorem bY {t:TypeId} {parts:List (Nat × Operand)} {zs vs cs:List Value} {us:List (List Value)} {pl:List (Nat × Nat)} (ps:List (Nat × Nat × Nat)) {d':Option Tmp} {ps':String} (hz:ea P t=some zs) (hpl:fw P t=some pl) (hpp:parts.map (·.1)=ps.map (·.1)) (hev:evs n l (parts.map (·.2))=some vs)
    (hc:mE vs us) (hs:NP ps us) (hps:aao pl zs.length ps=true) (hcs:mD zs ps us=cs) :
    cC P ⟨d',.build t parts.toArray,ty,ps',af,g⟩ (bw A D l).eval w (.agg cs.toArray):=by
  have E:=lF (A:=A) (D:=D) hev
  have B:parts.map (fun p=>(p.1,(bw A D l).eval p.2))=(ps.map (·.1)).zip vs:=by
    rw[← hpp,← E,List.map_map,List.zip_map']
    rfl
  have C:=QU hz hpl hc hs hps
  rw[← B]at C
  have F:=run_build (P:=P) w t (parts.map (fun p=>(p.1,(bw A D l).eval p.2))).toArray _ (by simpa using C)
  subst hcs
  simp only[cC,execOp,List.map_toArray]
  show Sem.run P (do pure (Next.value (← Instr.build t (parts.map fun x=>(x.1,(bw A D l).eval x.2)).toArray))) w=_
  simp[F]
def rowAt (sz:Nat):Nat→Nat→List (Nat × Nat × Nat)
  | _,0=>[]
  | i,k+1=>(i,i*sz,sz) :: rowAt sz (i+1) k
def ED (sz:Nat):List (List Value)→Prop
  | []=>True
  | u :: us=>u.length=sz∧ED sz us
theorem KC {sz:Nat}:∀(us:List (List Value)) (i:Nat),ED sz us→NP (rowAt sz i us.length) us
  | [],_,_=>trivial
  | _ :: us,i,h=>⟨h.1,KC us (i+1) h.2⟩
theorem CO {sz:Nat} {p:Nat × Nat × Nat}:∀{i k:Nat},p∈rowAt sz i k→p.2.1=p.1*sz∧p.2.2=sz∧p.1<i+k
  | _,0,h=>by cases h
  | i,k+1,h=>by
    rcases List.mem_cons.1 h with rfl|h
    · exact⟨q,q,by simp⟩
    · have:=CO h;omega
theorem xw {sz:Nat}:∀(us:List (List Value)) (i:Nat) (pre cs:List Value),ED sz us→pre.length=i*sz→cs.length=us.length*sz→mD (pre ++ cs) (rowAt sz i us.length) us=pre ++ us.flatten
  | [],i,pre,cs,_,_,h=>by
    have:cs=[]:=List.eq_nil_of_length_eq_zero (by simpa using h)
    subst this;simp[rowAt,mD]
  | u :: us,i,pre,cs,h,hp,hc=>by
    simp only[List.length_cons,rowAt,mD]
    have hc':cs.length=sz+us.length*sz:=by simpa [Nat.succ_mul,Nat.add_comm]using hc
    have e:fo (pre ++ cs) (i*sz) u=(pre ++ u) ++ cs.drop sz:=by
      simp only[fo,← hp,h.1]
      rw[List.take_left,List.drop_append,List.drop_of_length_le (Nat.le_add_right _ _),Nat.add_sub_cancel_left]
      simp
    rw[e,xw us (i+1) (pre ++ u) (cs.drop sz) h.2 (by simp[hp,h.1,Nat.succ_mul]) Yw]
    simp
theorem bg {t e:TypeId} {m sz by':Nat} {parts:List (Nat × Operand)} {vs:List Value} (us:List (List Value)) (ht:P.underlying t=some (.slice e)) (hE:uH P e sz by'=true) (hsz:0<sz) (hm:m*sz≤16777216) (hpp:parts.map (·.1)=(rowAt sz 0 m).map (·.1)) (hev:evs n l (parts.map (·.2))=some vs)
    (hc:mE vs us) (hl:ED sz us) (hlen:us.length=m) (h0:m≠0)
    (k:∀b w',w.heap.size≤b→b<w'.heap.size→Md [] w w'→bO w' b us.flatten e→wpList P ops Q rest (bw A D ((d,.slice (some ⟨b,0,none⟩) m m) :: l)) w') :
    wpList P ops Q (⟨some d,.buildSlice t m parts.toArray,ty,ps,af,none⟩ :: rest) (bw A D l) w:=by
  refine fO q ?_
  obtain⟨i,z,K,R,O,T,S⟩:=pG hE
  have M:=lF (A:=A) (D:=D) hev
  have G:parts.map (fun p=>(p.1,(bw A D l).eval p.2))=((rowAt sz 0 m).map (·.1)).zip vs:=by
    rw[← hpp,← M,List.map_map,List.zip_map']
    rfl
  have B:∀C:List Value,C.length=m*sz→Instr.fill (fun i=>some (i*sz,sz)) C.toArray (((rowAt sz 0 m).map (·.1)).zip vs)=some us.flatten.toArray:=by
    intro C E
    have:=uK (place:=fun i=>some (i*sz,sz)) (rowAt sz 0 m) vs us C hc (by rw[← hlen];exact KC us 0 hl) (fun p N=>by
      have h:=CO N
      refine⟨by rw[h.1,h.2.1],?_⟩
      rw[h.1,h.2.1,E,← Nat.succ_mul]
      exact Nat.mul_le_mul_right _ Ok)
    have H:=xw us 0 [] C hl Oj (by rw[E,hlen])
    simp only[List.nil_append]at H
    rw[hlen]at H
    rw[this,H]
  have J:¬(m*sz=0):=Nat.mul_ne_zero h0 Ok
  have F:(execOp (bw A D l).eval ⟨some d,.buildSlice t m parts.toArray,ty,ps,af,none⟩).run P w = .ok (.value (.slice (some ⟨w.heap.size,0,none⟩) m m)) (w.alloc (.cells us.flatten.toArray e)):=by
    show Sem.run P (do pure (Next.value (← Instr.buildSlice t m ((parts.toArray).map fun x=>(x.1,(bw A D l).eval x.2))))) w=_
    rw[List.map_toArray,G]
    have I:((List.range (m*sz)).map fun x=>(z.cells)[x%z.cells.size]!).length=m*sz:=by simp
    have:=B _ I
    simp only[Instr.buildSlice,Sem.run_bind,run_underlying ht,Result.andThen_ok,eB K,O]
    have L:Array.map (fun x=>z.cells[x%z.cells.size]!) (Array.range (m*sz))=((List.range (m*sz)).map fun x=>(z.cells)[x%z.cells.size]!).toArray:=by
      apply Array.ext'
      simp
    simp only[show ¬(m*sz > 2 ^ 24)from by omega,if_neg J,if_false]
    simp[zeroValue,typeInfo,K,R,newRow]
    rw[L,this]
    simp
  unfold Oper.wp
  rw[F]
  exact k _ _ (Nat.le_refl _) Oj (Md.alloc w _) (bO.new w us.flatten e)
theorem Own.blk {e:TypeId} {sz m:Nat} {v:Value} {cs:List Value} (h:Own w e sz v m cs) (h0:0<m):∃b cap cur,v = .slice (some ⟨b,0,none⟩) m cap∧bO w b cur e∧m≤cap∧cap≤maxLen∧cur.length=cap*sz∧cur.take (m*sz)=cs:=by
  rcases h.2 with⟨rfl,rfl⟩|⟨g,cap,cur,rfl,F,B,C,A,D,E⟩
  · omega
  exact⟨g,cap,cur.toList,q,B,C,A,by simpa using D,E⟩
theorem Own.cK {e:TypeId} {sz m b cap:Nat} {cur:List Value} (hB:bO w b cur e) (h1:m≤cap) (h2:cap≤maxLen) (h3:cur.length=cap*sz):Own w e sz (.slice (some ⟨b,0,none⟩) m cap) m (cur.take (m*sz)):=by
  refine⟨by rw[List.length_take,h3];exact Nat.min_eq_left (Nat.mul_le_mul_right _ h1),.inr ⟨b,cap,cur.toArray,q,Nat.zero_le _,hB,h1,h2,by simpa using h3,by simp⟩⟩
variable {α:Type} {T:Dt α} {R R':Nat→Prop}
def Lz (T:Dt α) (w:World) (Q:Nat→Prop) (v:Value) (xs:List α):Prop :=
  ∃a cap cs,v = .slice a xs.length cap∧xs.length≤cap∧cap≤maxLen∧(a=none→cap=0)∧(∀p,a=some p→∀j u,cs[j]? = some u→w.cell? (p.add j)=some u)∧qm T w Q cs xs
theorem Ls.lz {v:Value} {xs:List α} (h:Ls T w R v xs):Lz T w R v xs:=by
  obtain⟨a,A,B,C,D,E,F,I,G,H⟩:=h
  exact⟨a,A,B,C,D,E,F,G,H⟩
theorem Ow.lz {e:TypeId} {lo:Nat→Prop} {v:Value} {xs:List α} (h:Ow T e lo w R v xs):Lz T w R v xs:=by
  obtain⟨⟨B,C,D⟩,I⟩:=h
  obtain⟨a,A,rfl,E,F,G,H⟩:=nT C
  exact⟨a,A,B,q,E,F,G,H,D⟩
theorem si {x y:Operand} {t e:TypeId} {sz by':Nat} {lo:Nat→Prop} {v u:Value} {xs ys:List α} (hn:T.n=sz) (ht:P.underlying t=some (.slice e)) (hE:uH P e sz by'=true) (hx:ev n l x=some v) (hy:ev n l y=some u)
    (hO:Ow T e lo w R v xs) (hY:Lz T w R u ys) (uR:Up w R) (hlo:∀b,w.heap.size≤b→lo b) (h63:xs.length+ys.length≤9223372036854775807) (hbytes:(xs.length+ys.length)*by'≤140737488355328)
    (k:∀v' w' R'',(∀b,R b→b<w.heap.size→R'' b)→(∀b,R'' b→R b)→Up w' R''→Ow T e lo w' R'' v' (xs ++ ys)→Md (ah v).toList w w'→(∀b∈(ah v).toList,¬R'' b)→(∀b,ah v=some b→b<w.heap.size) →
      (∀b,ah v'=some b→ah v=some b∨w.heap.size≤b)→wpList P ops Q rest (bw A D ((d,v') :: l)) w') :
    wpList P ops Q (⟨some d,.call {callee:=.builtin .append,args:=#[x,y],argTypes:=#[t,t]},ty,ps,af,none⟩ :: rest) (bw A D l) w:=by
  subst hn
  refine fO q ?_
  obtain⟨a,H,I,rfl,Z,f,S,W,L⟩:=hY
  have hO':=hO
  obtain⟨⟨O,U,K⟩,C⟩:=hO'
  obtain⟨v',w',X,V,G,Y,J⟩:=tH (P:=P) (w:=w) (ty':=ty) ht hE T.pos U (a:=a) (k:=ys.length) (c:=H) (news:=I) L.len (fun h=>⟨by have:=S h;omega,S h⟩) W L.one (by simpa [maxLen]using h63) hbytes
  have F:(execOp (bw A D l).eval ⟨some d,.call {callee:=.builtin .append,args:=#[x,y],argTypes:=#[t,t]},ty,ps,af,none⟩).run P w = .ok (.value v') w':=by
    simp[execOp,resolve,invoke,builtin,bZ hx,bZ hy,X]
  unfold Oper.wp
  rw[F]
  have N:∀b,R b→b<w.heap.size→(R b∧ah v'≠some b):=fun b B g=>⟨B,fun E=>by
    rcases J b E with h|h
    · exact(C b h).2 B
    · omega⟩
  have hn:∀b∈(ah v).toList,¬(R b∧ah v'≠some b):=fun b B M=>by
    cases E:ah v with
    | none=>rw[E]at B;simp at B
    | some c=>rw[E]at B;simp at B;subst B;exact(C _ E).2 M.1
  have g1':Own w' e T.n v' (xs ++ ys).length (O ++ I):=by simpa using V
  refine k v' w' (fun b=>R b∧ah v'≠some b) N (fun b B=>B.1) (fun b B=>⟨uR b (ly G.size B),fun E=>by have:=g1'.lt b E;omega⟩) ⟨⟨O ++ I,g1',?_⟩,fun b B=>⟨?_,fun M=>M.2 B⟩⟩ G hn U.lt J
  · exact((K.sub N).md G hn).append ((L.sub N).md G hn)
  rcases J b B with h|h
  · exact(C b h).1
  exact hlo b h
theorem dZ {x y:Operand} {t e:TypeId} {sz by':Nat} {lo:Nat→Prop} {v u:Value} {xs ys:List α} (hn:T.n=sz) (ht:P.underlying t=some (.slice e)) (hE:uH P e sz by'=true) (hx:ev n l x=some v) (hy:ev n l y=some u)
    (hO:Ow T e lo w R v xs) (hY:Ls T w R' u ys) (hR:∀b,R' b→b<w.heap.size→R b) (uR:Up w R) (hlo:∀b,w.heap.size≤b→lo b) (h63:xs.length+ys.length≤9223372036854775807) (hbytes:(xs.length+ys.length)*by'≤140737488355328)
    (k:∀v' w' R'',(∀b,R b→b<w.heap.size→R'' b)→(∀b,R'' b→R b)→Up w' R''→Ow T e lo w' R'' v' (xs ++ ys)→Md (ah v).toList w w'→(∀b∈(ah v).toList,¬R'' b)→(∀b,ah v=some b→b<w.heap.size) →
      (∀b,ah v'=some b→ah v=some b∨w.heap.size≤b)→wpList P ops Q rest (bw A D ((d,v') :: l)) w') :
    wpList P ops Q (⟨some d,.call {callee:=.builtin .append,args:=#[x,y],argTypes:=#[t,t]},ty,ps,af,none⟩ :: rest) (bw A D l) w :=
  si hn ht hE hx hy hO (hY.sub hR).lz uR hlo h63 hbytes k
theorem Ow.into {e:TypeId} {lo:Nat→Prop} {i:Nat} {v:Value} {xs:List α} {c:List Value} {z:α} (hO:Ow T e lo w R v xs) (hz:T.nM w R c z) (hi:i<xs.length) :
    ∃b cap cur,v = .slice (some ⟨b,0,none⟩) xs.length cap∧bO w b cur e∧i*T.n+c.length≤cur.length∧¬R b∧∀w',Md [b] w w'→bO w' b (fo cur (i*T.n) c) e→Ow T e lo w' R v (xs.set i z):=by
  obtain⟨⟨G,P,C⟩,A⟩:=hO
  obtain⟨b,cap,cur,rfl,Q,H,N,I,O⟩:=P.blk Ok
  have D:=T.len hz
  have K:i*T.n+T.n≤xs.length*T.n:=by rw[← Nat.succ_mul];exact Nat.mul_le_mul_right _ hi
  have E:xs.length*T.n≤cur.length:=by rw[I];exact Nat.mul_le_mul_right _ H
  have J:∀F∈[b],¬R F:=fun F B=>by simp at B;subst B;exact(A _ q).2
  refine⟨b,cap,cur,q,Q,by omega,(A _ q).2,fun w' L B=>⟨⟨(fo cur (i*T.n) c).take (xs.length*T.n),by simpa using Own.cK (m:=xs.length) B H N (by rw[ux Ok,I]),?_⟩,A⟩⟩
  have M:(fo cur (i*T.n) c).take (xs.length*T.n)=G.take (i*T.n) ++ c ++ G.drop (i*T.n+T.n):=by
    unfold fo
    rw[D,← O,List.take_append,List.take_of_length_le Yw,List.take_take,Nat.min_eq_left Ok,List.drop_take]
    congr 2
    simp
    omega
  rw[M]
  exact(C.md L J).set (T.md hz L J) hi
theorem NI (cs:List Value) (j:Nat) (u:Value) (h:j<cs.length):cs.set j u=fo cs j [u]:=by
  rw[List.set_eq_take_append_cons_drop,if_pos h];simp[fo]
theorem AG {x y:Operand} {t e:TypeId} {lo:Nat→Prop} {i k:Nat} {v u:Value} {xs:List α} {z:α} (hk:k=i*T.n) (hx:ev n l x=some (lC v k)) (hy:ev n l y=some u) (hT:gZ P t=true)
    (hO:Ow T e lo w R v xs) (hz:T.nM w R [u] z) (hi:i<xs.length)
    (kk:∀w',Md (ah v).toList w w'→(∀b∈(ah v).toList,¬R b)→Ow T e lo w' R v (xs.set i z)→wpList P ops Q rest (bw A D l) w') :
    wpList P ops Q (⟨none,.store t x y,ty,ps,af,none⟩ :: rest) (bw A D l) w:=by
  subst hk
  obtain⟨b,F,G,rfl,K,H,I,J⟩:=hO.into hz hi
  simp only[List.length_singleton]at H
  refine bI (b:=b) (j:=i*T.n) (by rw[hx];simp[lC,Addr.jL]) hy hT (T.one hz u Oj) K Ok fun w' E C=>?_
  rw[NI _ _ _ Ok]at C
  exact kk w' (by simpa [ah]using E) (fun L B=>by simp[ah]at B;subst B;exact I) (J w' E C)
theorem iC {x y:Operand} {t e:TypeId} {lo:Nat→Prop} {i k:Nat} {v:Value} {xs:List α} {c:List Value} {z:α} (hk:k=i*T.n) (hx:ev n l x=some (lC v k)) (hy:ev n l y=some (.agg c.toArray)) (hT:fA P t c.length=true)
    (hO:Ow T e lo w R v xs) (hz:T.nM w R c z) (hi:i<xs.length)
    (kk:∀w',Md (ah v).toList w w'→(∀b∈(ah v).toList,¬R b)→Ow T e lo w' R v (xs.set i z)→wpList P ops Q rest (bw A D l) w') :
    wpList P ops Q (⟨none,.store t x y,ty,ps,af,none⟩ :: rest) (bw A D l) w:=by
  subst hk
  obtain⟨b,E,F,rfl,J,G,H,I⟩:=hO.into hz hi
  refine aX (b:=b) (j:=i*T.n) (by rw[hx];simp[lC,Addr.jL]) hy hT (T.one hz) J G fun w' C K=>?_
  exact kk w' (by simpa [ah]using C) (fun L B=>by simp[ah]at B;subst B;exact H) (I w' C K)
theorem Ls.cK {e:TypeId} {b m:Nat} {cs:List Value} {xs:List α} (hB:bO w b cs e) (hE:qm T w R cs xs) (hm:xs.length=m) (h2:m≤maxLen) (hR:R b):Ls T w R (.slice (some ⟨b,0,none⟩) m m) xs:=by
  subst hm
  exact⟨_,_,cs,q,Nat.le_refl _,h2,by simp,fun p B _=>by cases B;exact hR,fun p B j u C=>by cases B;rw[Addr.jL,Nat.zero_add,hB.cell];exact C,hE⟩
theorem Ow.cK {e:TypeId} {lo:Nat→Prop} {b m:Nat} {cs:List Value} {xs:List α} (hB:bO w b cs e) (hE:qm T w R cs xs) (hm:xs.length=m) (h2:m≤maxLen) (hlo:lo b) (hR:¬R b):Ow T e lo w R (.slice (some ⟨b,0,none⟩) m m) xs:=by
  subst hm
  have B:=hE.len
  have:=Own.cK (sz:=T.n) (m:=xs.length) hB (Nat.le_refl _) h2 B
  rw[← B,List.take_length]at this
  exact⟨⟨cs,this,hE⟩,fun C A=>by simp[ah]at A;subst A;exact⟨hlo,hR⟩⟩
theorem fB {t e:TypeId} {sz by':Nat} (ht:P.underlying t=some (.slice e)) (hE:uH P e sz by'=true)
    (k:∀b w',w.heap.size≤b→b<w'.heap.size→Md [] w w'→bO w' b [] e→wpList P ops Q rest (bw A D ((d,.slice (some ⟨b,0,none⟩) 0 0) :: l)) w') :
    wpList P ops Q (⟨some d,.buildSlice t 0 #[],ty,ps,af,none⟩ :: rest) (bw A D l) w:=by
  refine fO q ?_
  obtain⟨i,z,E,I,H,G,F⟩:=pG hE
  have B:(execOp (bw A D l).eval ⟨some d,.buildSlice t 0 #[],ty,ps,af,none⟩).run P w = .ok (.value (.slice (some ⟨w.heap.size,0,none⟩) 0 0)) (w.alloc (.cells ([]:List Value).toArray e)):=by
    show Sem.run P (do pure (Next.value (← Instr.buildSlice t 0 ((#[]:Array (Nat × Operand)).map fun x=>(x.1,(bw A D l).eval x.2))))) w=_
    have C:(Array.map (fun x=>(default:Value)) (Array.range 0)) = #[]:=by simp[Array.range]
    simp[Instr.buildSlice,run_underlying ht,eB E,Instr.fill,newRow,C]
  unfold Oper.wp
  rw[B]
  exact k _ _ (Nat.le_refl _) Oj (Md.alloc w _) (bO.new w [] e)
theorem SB (zc:List Value) (m:Nat) (h0:0<zc.length):(madeCells zc.toArray (m*zc.length)).toList=(List.replicate m zc).flatten:=by
  induction m with
  | zero=>simp[madeCells]
  | succ m ih =>
    rw[List.replicate_succ',List.flatten_append,← ih]
    simp only[madeCells,List.flatten_cons,List.flatten_nil,List.append_nil]
    apply List.ext_getElem
    · simp[Nat.succ_mul]
    · intro j B C
      simp at B C
      by_cases hj:j<m*zc.length
      · rw[List.getElem_append_left (by simpa using hj)];simp
      · rw[List.getElem_append_right (by simpa using hj)]
        simp only[Array.toList_map,Array.toList_range,List.getElem_map,List.getElem_range,List.length_map,List.length_range]
        have e:j%zc.length=j-m*zc.length:=by
          rw[show j=(j-m*zc.length)+m*zc.length by omega,Nat.add_mul_mod_self_right,Nat.add_sub_cancel]
          exact Nat.mod_eq_of_lt Ok
        have A:j-m*zc.length<zc.length:=by omega
        simp[e,A]
theorem XA {zc:List Value} {z:α} (m:Nat) (h:∀w R,T.nM w R zc z):qm T w R (List.replicate m zc).flatten (List.replicate m z):=by
  induction m with
  | zero=>rfl
  | succ m ih=>exact⟨zc,_,by simp[List.replicate_succ],h _ _,ih⟩
theorem FU {x:Operand} {t e:TypeId} {sz by' m:Nat} {kd:IntKind} {lo:Nat→Prop} {z:α} {zs:List Value} (hn:T.n=sz) (ht:P.underlying t=some (.slice e)) (hE:uH P e sz by'=true) (hz:ea P e=some zs) (hx:ev n l x=some (.int kd (m:Int)))
    (hrep:∀w R,T.nM w R zs z) (uR:Up w R) (hlo:∀b,w.heap.size≤b→lo b) (hm:m≤9223372036854775807∧m*by'≤140737488355328)
    (k:∀v' w' R'',(∀b,R b→b<w.heap.size→R'' b)→(∀b,R'' b→R b)→Up w' R''→Ow T e lo w' R'' v' (List.replicate m z)→Md [] w w'→(∀b,ah v'=some b→w.heap.size≤b)→wpList P ops Q rest (bw A D ((d,v') :: l)) w') :
    wpList P ops Q (⟨some d,.makeSlice t x x,ty,ps,af,none⟩ :: rest) (bw A D l) w:=by
  subst hn
  refine fO q ?_
  obtain⟨i,M,K,G,S,B,V⟩:=pG hE
  have J:M.cells=zs.toArray:=by
    unfold ea at hz
    simp only[K,G,Option.some.injEq]at hz
    rw[← hz]
  have H:zs.length=T.n:=T.len (hrep w R)
  obtain⟨w',O,L,E⟩:=run_make_full (P:=P) w 0 t e i M T.n ht K G S kd kd m (by rw[B];have:=hm.2;rw[Nat.mul_comm]at this;omega) (by simp only[maxLen];exact hm.1) (Nat.zero_le _)
  have F:(execOp (bw A D l).eval ⟨some d,.makeSlice t x x,ty,ps,af,none⟩).run P w = .ok (.value (.slice (some ⟨w.heap.size,0,none⟩) m m)) w':=by
    simp[execOp,bZ hx,O]
  unfold Oper.wp
  rw[F]
  have C:Own w' e T.n (.slice (some ⟨w.heap.size,0,none⟩) m m) (List.replicate m z).length (List.replicate m zs).flatten:=by
    rw[J,← H,SB zs m (by rw[H];exact T.pos)]at L
    rw[← H]
    simpa [Own]using L
  have U:w.heap.size<w'.heap.size:=Own.lt C _ q
  have I:w.heap.size≤w'.heap.size:=E.size
  refine k _ _ (fun b=>R b∧b≠w.heap.size) (fun b B H=>⟨B,by omega⟩) (fun b B=>B.1) (fun b B=>⟨uR b Ok,by omega⟩) ⟨⟨_,C,XA m hrep⟩,fun b B=>?_⟩ ⟨E.os,E.tape,E.output,E.size,fun k hk _=>E.block k hk Oj⟩ (fun b B=>?_)
  · simp[ah]at B;subst B;exact⟨hlo _ (Nat.le_refl _),fun N=>N.2 q⟩
  have hb':w.heap.size=b:=by simpa [ah]using B
  omega
theorem aeM {x y:Operand} {t e:TypeId} {sz by' m c:Nat} {lo:Nat→Prop} {p:Addr} {u:Value} {xs ys:List α} (hn:T.n=sz) (ht:P.underlying t=some (.slice e)) (hE:uH P e sz by'=true) (hx:ev n l x=some (.slice (some p) m c)) (hy:ev n l y=some u)
    (hX:Ls T w R (.slice (some p) m c) xs) (hY:Ls T w R u ys) (uR:Up w R) (hlo:∀b,w.heap.size≤b→lo b) (hm:xs.length=m) (hg:c<m+ys.length) (h63:xs.length+ys.length≤9223372036854775807) (hbytes:(xs.length+ys.length)*by'≤140737488355328)
    (k:∀v' w' R'',(∀b,R b→b<w.heap.size→R'' b)→(∀b,R'' b→R b)→Up w' R''→Ow T e lo w' R'' v' (xs ++ ys)→Md [] w w'→(∀b,ah v'=some b→w.heap.size≤b)→wpList P ops Q rest (bw A D ((d,v') :: l)) w') :
    wpList P ops Q (⟨some d,.call {callee:=.builtin .append,args:=#[x,y],argTypes:=#[t,t]},ty,ps,af,none⟩ :: rest) (bw A D l) w:=by
  subst hn;subst hm
  refine fO rfl ?_
  obtain⟨i,z,g,j,V,B,O⟩:=pG hE
  obtain⟨o,S,F,U,h3,h4,h5,h6,Y,K⟩:=hX
  simp only[Value.slice.injEq]at U
  obtain⟨rfl,_,rfl⟩:=U
  obtain⟨a,L,G,rfl,r,v,W,g6,X,J⟩:=hY
  have Z:∃q,a=some q:=by
    cases a with
    | none=>have:=W rfl;omega
    | some q=>exact⟨q,rfl⟩
  obtain⟨q,rfl⟩:=Z
  have h:=run_append_grow (P:=P) w t ty e i z ht g j p xs.length c F (by rw[V];exact K.len) (Y p rfl) q ys.length L G (by rw[V];exact J.len) (X q rfl) hg Ok (by rw[B];exact growslice_fits hg hbytes)
  have N:=grownCap_ge w (xs.length+ys.length) c e
  have M:=grownCap_le_maxLen w (xs.length+ys.length) c e (by simp only[maxLen];exact h63)
  have I:(execOp (bw A D l).eval ⟨some d,.call {callee:=.builtin .append,args:=#[x,y],argTypes:=#[t,t]},ty,ps,af,none⟩).run P w = .ok (.value (.slice (some ⟨w.heap.size,0,none⟩) (xs.length+ys.length) (grownCap w (xs.length+ys.length) c e)))
        (w.drew.alloc (.cells (F.toArray ++ G.toArray ++ Builtin.zeroCells z.cells (grownCap w (xs.length+ys.length) c e-(xs.length+ys.length))) e)):=by
    simp[execOp,resolve,invoke,builtin,bZ hx,bZ hy,h]
  unfold Oper.wp
  rw[I]
  have C:(F ++ G).length=(xs.length+ys.length)*T.n:=by rw[List.length_append,K.len,J.len,Nat.add_mul]
  have H:Md [] w (w.drew.alloc (.cells (F.toArray ++ G.toArray ++ Builtin.zeroCells z.cells (grownCap w (xs.length+ys.length) c e-(xs.length+ys.length))) e)):=⟨rfl,rfl,rfl,by simp,fun k hk _=>heap_alloc_old w.drew _ hk⟩
  have E:∀b,R b→b<w.heap.size→(R b∧b≠w.heap.size):=fun b B hl=>⟨B,by omega⟩
  refine k _ _ (fun b=>R b∧b≠w.heap.size) E (fun b B=>B.1) (fun b B=>?_) ⟨⟨F ++ G,⟨by simpa using C,.inr ⟨w.heap.size,_,_,by simp,Nat.zero_le _,heap_alloc_new w.drew _,by simpa using N,M,?_,?_⟩⟩,?_⟩,fun b B=>?_⟩ H (fun b B=>?_)
  · have hb':w.heap.size+1≤b:=by simpa using B
    exact⟨uR b Ok,by omega⟩
  · simp only[Array.size_append,List.size_toArray,size_zeroCells,O,K.len,J.len,← Nat.add_mul]
    congr 1
    omega
  · simp only[Array.toList_append,List.append_assoc]
    rw[← List.append_assoc]
    have:(xs ++ ys).length*T.n=(F ++ G).length:=by rw[C];simp
    rw[this]
    exact List.take_left
  · exact((K.sub E).append (J.sub E)).md H Oj
  · simp[ah]at B;subst B;exact⟨hlo _ (Nat.le_refl _),fun f=>f.2 rfl⟩
  have hb':w.heap.size=b:=by simpa [ah]using B
  omega
theorem Ls.wA {β:Type} {f:β→Value} {h1:∀x,(f x).oneCell'=true} {ok:β→Prop} {b o m:Nat} {cs:List Value} {ty':TypeId} {xs:List β} (hB:bO w b cs ty') (hR:R b) (hm:xs.length=m) (h2:m≤maxLen) (hc:(cs.drop o).take m=xs.map f) (ho:∀x∈xs,ok x):Ls (sj f h1 ok) w R (.slice (some ⟨b,o,none⟩) m m) xs:=by
  subst hm
  refine⟨_,_,xs.map f,q,Nat.le_refl _,h2,by simp,fun p B _=>by cases B;exact hR,fun p B j u A=>?_,xL ho⟩
  cases B
  rw[Addr.jL,hB.cell]
  rw[← hc,List.getElem?_take]at A
  split at A
  · rw[List.getElem?_drop]at A;exact A
  cases A
end
end Go.Wk
namespace Go.Wk
open Go Go.RowKit
section
variable {P:Program} {Q:Exit→Act→World→Prop} {n:Nat} {A:Fr n} {D:List Deferred} {l:List (Nat × Value)} {w:World}
def acK {X0:Type} (n:Nat) (D:List Deferred) (inv:X0→List (Nat × Value)) (W:X0→World→Prop) (mu:X0→Nat) (m:Nat) (a:Act) (w:World):Prop :=
  ∃y0:X0,∃B:Fr n,a=bw B D (inv y0)∧W y0 w∧mu y0<m
theorem pQ {X0:Type} {c:Code} (inv:X0→List (Nat × Value)) (W:X0→World→Prop) (mu:X0→Nat) (x0:X0) (h0:Fits n l (inv x0)) (hw:W x0 w)
    (round:∀(x0:X0) (B:Fr n) (w':World),W x0 w'→c.wp P (Exit.then (acK n D inv W mu (mu x0)) Q) (bw B D (inv x0)) w') :
    (Code.loop c).wp P Q (bw A D l) w:=by
  refine ja (X:=X0) (fun p=>inv p) (fun p w=>W p w) (fun p=>mu p) x0 h0 hw (fun p B w' h=>wp_mono (round p B w' h) ?_)
  intro e I J h
  cases e with
  | normal=>obtain⟨H,C,E,F,G⟩:=h;exact⟨H,C,E,F,G⟩
  | _=>exact h
theorem pR {X0:Type} {inv:X0→List (Nat × Value)} {W:X0→World→Prop} {mu:X0→Nat} {m:Nat} (x0:X0) (hm:mu x0<m) (hf:Fits n l (inv x0)) (hw:W x0 w) :
    acK n D inv W mu m (bw A D l) w:=⟨x0,_,(dz (A:=A) (D:=D) hf).symm,hw,hm⟩
def acL {X0 X1:Type} (n:Nat) (D:List Deferred) (inv:X0→X1→List (Nat × Value)) (W:X0→X1→World→Prop) (mu:X0→X1→Nat) (m:Nat) (a:Act) (w:World):Prop :=
  ∃y0:X0,∃y1:X1,∃B:Fr n,a=bw B D (inv y0 y1)∧W y0 y1 w∧mu y0 y1<m
theorem qV {X0 X1:Type} {c:Code} (inv:X0→X1→List (Nat × Value)) (W:X0→X1→World→Prop) (mu:X0→X1→Nat) (x0:X0) (x1:X1) (h0:Fits n l (inv x0 x1)) (hw:W x0 x1 w)
    (round:∀(x0:X0) (x1:X1) (B:Fr n) (w':World),W x0 x1 w'→c.wp P (Exit.then (acL n D inv W mu (mu x0 x1)) Q) (bw B D (inv x0 x1)) w') :
    (Code.loop c).wp P Q (bw A D l) w:=by
  refine ja (X:=X0 × X1) (fun p=>inv p.1 p.2) (fun p w=>W p.1 p.2 w) (fun p=>mu p.1 p.2) (x0,x1) h0 hw (fun p B w' h=>wp_mono (round (p.1) (p.2) B w' h) ?_)
  intro e J K h
  cases e with
  | normal=>obtain⟨H,I,C,E,F,G⟩:=h;exact⟨(H,I),C,E,F,G⟩
  | _=>exact h
theorem o7 {X0 X1:Type} {inv:X0→X1→List (Nat × Value)} {W:X0→X1→World→Prop} {mu:X0→X1→Nat} {m:Nat} (x0:X0) (x1:X1) (hm:mu x0 x1<m) (hf:Fits n l (inv x0 x1)) (hw:W x0 x1 w) :
    acL n D inv W mu m (bw A D l) w:=⟨x0,x1,_,(dz (A:=A) (D:=D) hf).symm,hw,hm⟩
def acM {X0 X1 X2:Type} (n:Nat) (D:List Deferred) (inv:X0→X1→X2→List (Nat × Value)) (W:X0→X1→X2→World→Prop) (mu:X0→X1→X2→Nat) (m:Nat) (a:Act) (w:World):Prop :=
  ∃y0:X0,∃y1:X1,∃y2:X2,∃B:Fr n,a=bw B D (inv y0 y1 y2)∧W y0 y1 y2 w∧mu y0 y1 y2<m
theorem jH {X0 X1 X2:Type} {c:Code} (inv:X0→X1→X2→List (Nat × Value)) (W:X0→X1→X2→World→Prop) (mu:X0→X1→X2→Nat) (x0:X0) (x1:X1) (x2:X2) (h0:Fits n l (inv x0 x1 x2)) (hw:W x0 x1 x2 w)
    (round:∀(x0:X0) (x1:X1) (x2:X2) (B:Fr n) (w':World),W x0 x1 x2 w'→c.wp P (Exit.then (acM n D inv W mu (mu x0 x1 x2)) Q) (bw B D (inv x0 x1 x2)) w') :
    (Code.loop c).wp P Q (bw A D l) w:=by
  refine ja (X:=X0 × X1 × X2) (fun p=>inv p.1 p.2.1 p.2.2) (fun p w=>W p.1 p.2.1 p.2.2 w) (fun p=>mu p.1 p.2.1 p.2.2) (x0,x1,x2) h0 hw (fun p B w' h=>wp_mono (round (p.1) (p.2.1) (p.2.2) B w' h) ?_)
  intro e K L h
  cases e with
  | normal=>obtain⟨H,I,J,C,E,F,G⟩:=h;exact⟨(H,I,J),C,E,F,G⟩
  | _=>exact h
theorem ic {X0 X1 X2:Type} {inv:X0→X1→X2→List (Nat × Value)} {W:X0→X1→X2→World→Prop} {mu:X0→X1→X2→Nat} {m:Nat} (x0:X0) (x1:X1) (x2:X2) (hm:mu x0 x1 x2<m) (hf:Fits n l (inv x0 x1 x2)) (hw:W x0 x1 x2 w) :
    acM n D inv W mu m (bw A D l) w:=⟨x0,x1,x2,_,(dz (A:=A) (D:=D) hf).symm,hw,hm⟩
def acN {X0 X1 X2 X3:Type} (n:Nat) (D:List Deferred) (inv:X0→X1→X2→X3→List (Nat × Value)) (W:X0→X1→X2→X3→World→Prop) (mu:X0→X1→X2→X3→Nat) (m:Nat) (a:Act) (w:World):Prop :=
  ∃y0:X0,∃y1:X1,∃y2:X2,∃y3:X3,∃B:Fr n,a=bw B D (inv y0 y1 y2 y3)∧W y0 y1 y2 y3 w∧mu y0 y1 y2 y3<m
theorem PC {X0 X1 X2 X3:Type} {c:Code} (inv:X0→X1→X2→X3→List (Nat × Value)) (W:X0→X1→X2→X3→World→Prop) (mu:X0→X1→X2→X3→Nat) (x0:X0) (x1:X1) (x2:X2) (x3:X3) (h0:Fits n l (inv x0 x1 x2 x3)) (hw:W x0 x1 x2 x3 w)
    (round:∀(x0:X0) (x1:X1) (x2:X2) (x3:X3) (B:Fr n) (w':World),W x0 x1 x2 x3 w'→c.wp P (Exit.then (acN n D inv W mu (mu x0 x1 x2 x3)) Q) (bw B D (inv x0 x1 x2 x3)) w') :
    (Code.loop c).wp P Q (bw A D l) w:=by
  refine ja (X:=X0 × X1 × X2 × X3) (fun p=>inv p.1 p.2.1 p.2.2.1 p.2.2.2) (fun p w=>W p.1 p.2.1 p.2.2.1 p.2.2.2 w) (fun p=>mu p.1 p.2.1 p.2.2.1 p.2.2.2) (x0,x1,x2,x3) h0 hw (fun p B w' h=>wp_mono (round (p.1) (p.2.1) (p.2.2.1) (p.2.2.2) B w' h) ?_)
  intro e L M h
  cases e with
  | normal=>obtain⟨H,I,J,K,C,E,F,G⟩:=h;exact⟨(H,I,J,K),C,E,F,G⟩
  | _=>exact h
theorem rO {X0 X1 X2 X3:Type} {inv:X0→X1→X2→X3→List (Nat × Value)} {W:X0→X1→X2→X3→World→Prop} {mu:X0→X1→X2→X3→Nat} {m:Nat} (x0:X0) (x1:X1) (x2:X2) (x3:X3) (hm:mu x0 x1 x2 x3<m) (hf:Fits n l (inv x0 x1 x2 x3)) (hw:W x0 x1 x2 x3 w) :
    acN n D inv W mu m (bw A D l) w:=⟨x0,x1,x2,x3,_,(dz (A:=A) (D:=D) hf).symm,hw,hm⟩
def acO {X0 X1 X2 X3 X4:Type} (n:Nat) (D:List Deferred) (inv:X0→X1→X2→X3→X4→List (Nat × Value)) (W:X0→X1→X2→X3→X4→World→Prop) (mu:X0→X1→X2→X3→X4→Nat) (m:Nat) (a:Act) (w:World):Prop :=
  ∃y0:X0,∃y1:X1,∃y2:X2,∃y3:X3,∃y4:X4,∃B:Fr n,a=bw B D (inv y0 y1 y2 y3 y4)∧W y0 y1 y2 y3 y4 w∧mu y0 y1 y2 y3 y4<m
theorem PD {X0 X1 X2 X3 X4:Type} {c:Code} (inv:X0→X1→X2→X3→X4→List (Nat × Value)) (W:X0→X1→X2→X3→X4→World→Prop) (mu:X0→X1→X2→X3→X4→Nat) (x0:X0) (x1:X1) (x2:X2) (x3:X3) (x4:X4) (h0:Fits n l (inv x0 x1 x2 x3 x4)) (hw:W x0 x1 x2 x3 x4 w)
    (round:∀(x0:X0) (x1:X1) (x2:X2) (x3:X3) (x4:X4) (B:Fr n) (w':World),W x0 x1 x2 x3 x4 w'→c.wp P (Exit.then (acO n D inv W mu (mu x0 x1 x2 x3 x4)) Q) (bw B D (inv x0 x1 x2 x3 x4)) w') :
    (Code.loop c).wp P Q (bw A D l) w:=by
  refine ja (X:=X0 × X1 × X2 × X3 × X4) (fun p=>inv p.1 p.2.1 p.2.2.1 p.2.2.2.1 p.2.2.2.2) (fun p w=>W p.1 p.2.1 p.2.2.1 p.2.2.2.1 p.2.2.2.2 w) (fun p=>mu p.1 p.2.1 p.2.2.1 p.2.2.2.1 p.2.2.2.2) (x0,x1,x2,x3,x4) h0 hw (fun p B w' h=>wp_mono (round (p.1) (p.2.1) (p.2.2.1) (p.2.2.2.1) (p.2.2.2.2) B w' h) ?_)
  intro e M N h
  cases e with
  | normal=>obtain⟨H,I,J,K,L,C,E,F,G⟩:=h;exact⟨(H,I,J,K,L),C,E,F,G⟩
  | _=>exact h
theorem IY {X0 X1 X2 X3 X4:Type} {inv:X0→X1→X2→X3→X4→List (Nat × Value)} {W:X0→X1→X2→X3→X4→World→Prop} {mu:X0→X1→X2→X3→X4→Nat} {m:Nat} (x0:X0) (x1:X1) (x2:X2) (x3:X3) (x4:X4) (hm:mu x0 x1 x2 x3 x4<m) (hf:Fits n l (inv x0 x1 x2 x3 x4)) (hw:W x0 x1 x2 x3 x4 w) :
    acO n D inv W mu m (bw A D l) w:=⟨x0,x1,x2,x3,x4,_,(dz (A:=A) (D:=D) hf).symm,hw,hm⟩
def acP {X0 X1 X2 X3 X4 X5:Type} (n:Nat) (D:List Deferred) (inv:X0→X1→X2→X3→X4→X5→List (Nat × Value)) (W:X0→X1→X2→X3→X4→X5→World→Prop) (mu:X0→X1→X2→X3→X4→X5→Nat) (m:Nat) (a:Act) (w:World):Prop :=
  ∃y0:X0,∃y1:X1,∃y2:X2,∃y3:X3,∃y4:X4,∃y5:X5,∃B:Fr n,a=bw B D (inv y0 y1 y2 y3 y4 y5)∧W y0 y1 y2 y3 y4 y5 w∧mu y0 y1 y2 y3 y4 y5<m
theorem agr {X0 X1 X2 X3 X4 X5:Type} {c:Code} (inv:X0→X1→X2→X3→X4→X5→List (Nat × Value)) (W:X0→X1→X2→X3→X4→X5→World→Prop) (mu:X0→X1→X2→X3→X4→X5→Nat) (x0:X0) (x1:X1) (x2:X2) (x3:X3) (x4:X4) (x5:X5) (h0:Fits n l (inv x0 x1 x2 x3 x4 x5)) (hw:W x0 x1 x2 x3 x4 x5 w)
    (round:∀(x0:X0) (x1:X1) (x2:X2) (x3:X3) (x4:X4) (x5:X5) (B:Fr n) (w':World),W x0 x1 x2 x3 x4 x5 w'→c.wp P (Exit.then (acP n D inv W mu (mu x0 x1 x2 x3 x4 x5)) Q) (bw B D (inv x0 x1 x2 x3 x4 x5)) w') :
    (Code.loop c).wp P Q (bw A D l) w:=by
  refine ja (X:=X0 × X1 × X2 × X3 × X4 × X5) (fun p=>inv p.1 p.2.1 p.2.2.1 p.2.2.2.1 p.2.2.2.2.1 p.2.2.2.2.2) (fun p w=>W p.1 p.2.1 p.2.2.1 p.2.2.2.1 p.2.2.2.2.1 p.2.2.2.2.2 w) (fun p=>mu p.1 p.2.1 p.2.2.1 p.2.2.2.1 p.2.2.2.2.1 p.2.2.2.2.2) (x0,x1,x2,x3,x4,x5) h0 hw (fun p B w' h=>wp_mono (round (p.1) (p.2.1) (p.2.2.1) (p.2.2.2.1) (p.2.2.2.2.1) (p.2.2.2.2.2) B w' h) ?_)
  intro e N O h
  cases e with
  | normal=>obtain⟨H,I,J,K,L,M,C,E,F,G⟩:=h;exact⟨(H,I,J,K,L,M),C,E,F,G⟩
  | _=>exact h
theorem adt {X0 X1 X2 X3 X4 X5:Type} {inv:X0→X1→X2→X3→X4→X5→List (Nat × Value)} {W:X0→X1→X2→X3→X4→X5→World→Prop} {mu:X0→X1→X2→X3→X4→X5→Nat} {m:Nat} (x0:X0) (x1:X1) (x2:X2) (x3:X3) (x4:X4) (x5:X5) (hm:mu x0 x1 x2 x3 x4 x5<m) (hf:Fits n l (inv x0 x1 x2 x3 x4 x5)) (hw:W x0 x1 x2 x3 x4 x5 w) :
    acP n D inv W mu m (bw A D l) w:=⟨x0,x1,x2,x3,x4,x5,_,(dz (A:=A) (D:=D) hf).symm,hw,hm⟩
def acQ {X0 X1 X2 X3 X4 X5 X6:Type} (n:Nat) (D:List Deferred) (inv:X0→X1→X2→X3→X4→X5→X6→List (Nat × Value)) (W:X0→X1→X2→X3→X4→X5→X6→World→Prop) (mu:X0→X1→X2→X3→X4→X5→X6→Nat) (m:Nat) (a:Act) (w:World):Prop :=
  ∃y0:X0,∃y1:X1,∃y2:X2,∃y3:X3,∃y4:X4,∃y5:X5,∃y6:X6,∃B:Fr n,a=bw B D (inv y0 y1 y2 y3 y4 y5 y6)∧W y0 y1 y2 y3 y4 y5 y6 w∧mu y0 y1 y2 y3 y4 y5 y6<m
theorem ags {X0 X1 X2 X3 X4 X5 X6:Type} {c:Code} (inv:X0→X1→X2→X3→X4→X5→X6→List (Nat × Value)) (W:X0→X1→X2→X3→X4→X5→X6→World→Prop) (mu:X0→X1→X2→X3→X4→X5→X6→Nat) (x0:X0) (x1:X1) (x2:X2) (x3:X3) (x4:X4) (x5:X5) (x6:X6) (h0:Fits n l (inv x0 x1 x2 x3 x4 x5 x6)) (hw:W x0 x1 x2 x3 x4 x5 x6 w)
    (round:∀(x0:X0) (x1:X1) (x2:X2) (x3:X3) (x4:X4) (x5:X5) (x6:X6) (B:Fr n) (w':World),W x0 x1 x2 x3 x4 x5 x6 w'→c.wp P (Exit.then (acQ n D inv W mu (mu x0 x1 x2 x3 x4 x5 x6)) Q) (bw B D (inv x0 x1 x2 x3 x4 x5 x6)) w') :
    (Code.loop c).wp P Q (bw A D l) w:=by
  refine ja (X:=X0 × X1 × X2 × X3 × X4 × X5 × X6) (fun p=>inv p.1 p.2.1 p.2.2.1 p.2.2.2.1 p.2.2.2.2.1 p.2.2.2.2.2.1 p.2.2.2.2.2.2) (fun p w=>W p.1 p.2.1 p.2.2.1 p.2.2.2.1 p.2.2.2.2.1 p.2.2.2.2.2.1 p.2.2.2.2.2.2 w) (fun p=>mu p.1 p.2.1 p.2.2.1 p.2.2.2.1 p.2.2.2.2.1 p.2.2.2.2.2.1 p.2.2.2.2.2.2) (x0,x1,x2,x3,x4,x5,x6) h0 hw (fun p B w' h=>wp_mono (round (p.1) (p.2.1) (p.2.2.1) (p.2.2.2.1) (p.2.2.2.2.1) (p.2.2.2.2.2.1) (p.2.2.2.2.2.2) B w' h) ?_)
  intro e O R h
  cases e with
  | normal=>obtain⟨H,I,J,K,L,M,N,C,E,F,G⟩:=h;exact⟨(H,I,J,K,L,M,N),C,E,F,G⟩
  | _=>exact h
theorem agw {X0 X1 X2 X3 X4 X5 X6:Type} {inv:X0→X1→X2→X3→X4→X5→X6→List (Nat × Value)} {W:X0→X1→X2→X3→X4→X5→X6→World→Prop} {mu:X0→X1→X2→X3→X4→X5→X6→Nat} {m:Nat} (x0:X0) (x1:X1) (x2:X2) (x3:X3) (x4:X4) (x5:X5) (x6:X6) (hm:mu x0 x1 x2 x3 x4 x5 x6<m) (hf:Fits n l (inv x0 x1 x2 x3 x4 x5 x6)) (hw:W x0 x1 x2 x3 x4 x5 x6 w) :
    acQ n D inv W mu m (bw A D l) w:=⟨x0,x1,x2,x3,x4,x5,x6,_,(dz (A:=A) (D:=D) hf).symm,hw,hm⟩
def wS (P:Program) (w:World) (n:Nat) (l:List (Nat × Value)):List ResultVar→List Value→Prop
  | [],[]=>True
  | .tmp t :: r,v :: vs=>ev n l (.tmp t)=some v∧wS P w n l r vs
  | .cell t ty :: r,v :: vs=>(∃p,ev n l (.tmp t)=some (.pointer (some p))∧(loadVar ty p).run P w = .ok v w)∧wS P w n l r vs
  | _,_=>False
theorem pn {fn:Func} {rs:List ResultVar} {vs:List Value} (hr:fn.results=rs.toArray) (h:wS P w n l rs vs) :
    (results fn (bw A D l).tmps).run P w = .ok (if h:vs.length=1 then vs[0]else .tuple vs.toArray) w:=by
  have F:∀(rs:List ResultVar) (vs:List Value),wS P w n l rs vs→(rs.mapM (fun x:ResultVar=>(match x with
      | .tmp t=>pure ((bw A D l).tmps.getD t undef)
      | .cell a t=>do loadVar t (← asAddr ((bw A D l).tmps.getD a undef)):Sem Value))).run P w = .ok vs w:=by
    intro rs
    induction rs with
    | nil=>intro vs h;cases vs with
      | nil=>simp
      | cons v vs=>simp[wS]at h
    | cons r rs ih =>
      intro vs h
      cases vs with
      | nil=>cases r <;> simp[wS]at h
      | cons v vs =>
        cases r with
        | tmp t =>
          obtain⟨B,C⟩:=h
          have E:=nI (A:=A) (D:=D) B
          simp only[List.mapM_cons,Sem.run_bind,Sem.run_pure,Result.andThen_ok,ih vs C,E]
        | cell t ty =>
          obtain⟨⟨p,B,H⟩,C⟩:=h
          have E:=nI (A:=A) (D:=D) B
          have I:(asAddr (.pointer (some p))).run P w = .ok p w:=by simp[asAddr]
          simp only[List.mapM_cons,Sem.run_bind,Sem.run_pure,Result.andThen_ok,ih vs C,E,I,H]
  have:=F rs vs h
  unfold results
  rw[hr]
  simp only[List.mapM_toArray,Sem.run_bind,Sem.run_map]
  rw[show(fun x:ResultVar=>(match x with
      | .tmp t=>pure ((bw A D l).tmps.getD t undef)
      | .cell a t=>do loadVar t (← asAddr ((bw A D l).tmps.getD a undef)):Sem Value))=_ from rfl]at this
  refine Eq.trans (congrArg (fun r:Result (List Value)=>(r.andThen fun a G=>Result.ok a.toArray G).andThen fun a G=>Sem.run P (pure (if h:a.size=1 then a[0]else Value.tuple a)) G) this) ?_
  simp
theorem dB {fn:Func} {R:Ending→World→Prop} {e:Exit} {rs:List ResultVar} {vs:List Value} (he:qS e) (hr:fn.results=rs.toArray) (h:wS P w n l rs vs) (hl:Nat.beq vs.length 1=false) (hR:R (.returned (.tuple vs.toArray)) w):bodyPost P fn R e (bw A [] l) w :=
  bp he fD (pn (A:=A) (D:=[]) hr h) (by rw[dif_neg (by intro hh;rw[hh]at hl;cases hl)];exact hR)
theorem cu {fn:Func} {R:Ending→World→Prop} {e:Exit} {rs:List ResultVar} {v:Value} (he:qS e) (hr:fn.results=rs.toArray) (h:wS P w n l rs [v]) (hR:R (.returned v) w):bodyPost P fn R e (bw A [] l) w :=
  bp he fD (pn (A:=A) (D:=[]) hr h) hR
theorem cJ {t ty':TypeId} {b:Nat} {cs:List Value} (hT:fA P t cs.length=true) (hB:bO w b cs ty'):(loadVar t ⟨b,0,none⟩).run P w = .ok (.agg cs.toArray) w:=ny hT hB
theorem II {t ty':TypeId} {b:Nat} {u:Value} {cs:List Value} (hT:gZ P t=true) (hB:bO w b cs ty') (hc:cs[0]? = some u):(loadVar t ⟨b,0,none⟩).run P w = .ok u w:=by
  have:w.cell? ⟨b,0,none⟩=some u:=by rw[hB.cell];exact hc
  simp[loadVar,mB hT,this]
end
end Go.Wk
namespace Go.Wk
open Go Go.RowKit
def FJ (v:Value):List PanicEntry:=[{v,recovered:=false}]
def HN (P:Program) (t:TypeId):Bool:=match P.underlying t with|some (.interface _)=>true|_=>false
def zw (P:Program) (t:TypeId):Bool:=match P.underlying t with|some (.interface _)=>false|some _=>true|none=>false
theorem wZ {P:Program} {t:TypeId} (h:zw P t=true):∃X,P.underlying t=some X∧∀Y,X≠.interface Y:=by
  unfold zw at h
  split at h
  · cases h
  · rename_i X h1 h2;exact⟨X,h2,fun Y e=>h1 Y e⟩
  cases h
theorem yZ {P:Program} {t:TypeId} (h:HN P t=true):∃X,P.underlying t=some (.interface X):=by
  unfold HN at h
  split at h
  · exact⟨_,by assumption⟩
  cases h
section
variable {P:Program} {ops:Array Oper} {Q:Exit→Act→World→Prop} {rest:List Oper}
variable {n:Nat} {A:Fr n} {D:List Deferred} {l:List (Nat × Value)} {w:World}
variable {d:Tmp} {op:Op} {ty:TypeId} {ps:String} {af:Array Edge} {g:Option (Nat × Bool)}
theorem door {vs:List Value} {m:Nat} (hn:m=n) (hle:Nat.ble vs.length n=true) :
    ∃B:Fr n,bw B [] (r8 0 vs)={tmps:=vs.toArray ++ Array.replicate (m-vs.toArray.size) undef,defers:=[]}:=by
  have hle':vs.length≤n:=lB hle
  have D:(vs.toArray ++ Array.replicate (m-vs.toArray.size) undef).size=n:=by simp[hn];omega
  refine⟨⟨_,D⟩,CU ?_⟩
  intro p G
  obtain⟨j,E,F⟩:=zu G
  obtain⟨A,C⟩:=List.getElem?_eq_some_iff.1 F
  simp only[E,Nat.zero_add,Array.getD]
  rw[dif_pos Yw]
  show(vs.toArray ++ _)[j]'_=_
  rw[Array.getElem_append_left (by simpa using A)]
  simpa using C
theorem adP {f:FuncId} {fn:Func} {c:Code} {vs:List Value} {R:Ending→World→Prop} (hf:P.funcs[f]? = some fn) (hb:fn.body=some c) (hn:fn.ntmps=n) (hle:Nat.ble vs.length n=true)
    (h:∀B:Fr n,c.wp P (bodyPostD P fn R) (bw B [] (r8 0 vs)) w):Calls P f vs.toArray w R:=by
  refine calls_of_wp_defers hf hb ?_
  obtain⟨B,A⟩:=door hn hle
  rw[← A];exact h B
theorem adQ {f:FuncId} {fn:Func} {c:Code} {vs:List Value} {u:FrameMode} {R:Ending→FrameMode→World→Prop} (hf:P.funcs[f]? = some fn) (hb:fn.body=some c) (hn:fn.ntmps=n) (hle:Nat.ble vs.length n=true)
    (h:∀(B:Fr n) (c₀:Go.Frame) (cs:List Go.Frame),c₀.mode=u→c.wpS P (bodyPostS P fn c₀ cs R) (bw B [] (r8 0 vs)) (c₀ :: cs) w):CallsD P f vs.toArray u w R:=by
  refine callsD_of_wpS hf hb fun c₀ cs C=>?_
  obtain⟨B,A⟩:=door hn hle
  rw[← A];exact h B c₀ cs C
theorem lp {f:FuncId} {xs:List Operand} {vs:List Value} {d':Option Tmp} (hx:evs n l xs=some vs) :
    cC P ⟨d',.makeFunc (.func f) #[] xs.toArray,ty,ps,af,g⟩ (bw A D l).eval w (.func (.func f) #[] vs.toArray):=by
  have B:=lF (A:=A) (D:=D) hx
  simp[cC,execOp,Instr.makeFunc,B]
theorem TL (dd:Deferred) (v:Option Tmp) (x:Value):({bw A D l with defers:=dd :: (bw A D l).defers}.put v x)=match v with|some t=>bw A (dd :: D) ((t,x) :: l)|none=>bw A (dd :: D) l:=by
  have B:∀l:List (Nat × Value),({bw A D l with defers:=dd :: (bw A D l).defers}:Act)=bw A (dd :: D) l:=by
    intro l
    rw[fD]
    induction l with
    | nil=>rfl
    | cons p r ih=>simp only[bw,Act.put]at ih ⊢;simp only[← ih]
  rw[B]
  cases v <;> rfl
theorem aaO {f:FuncId} {c:Operand} {ts:Array TypeId} {cs:List Value} {d':Option Tmp} (hc:ev n l c=some (.func (.func f) #[] cs.toArray))
    (k:wpList P ops Q rest (match d' with|some t=>bw A (⟨.fn (.func f) cs.toArray,#[]⟩ :: D) ((t,undef) :: l)|none=>bw A (⟨.fn (.func f) cs.toArray,#[]⟩ :: D) l) w) :
    wpList P ops Q (⟨d',.defer {callee:=.value c,args:=#[],argTypes:=ts},ty,ps,af,none⟩ :: rest) (bw A D l) w:=by
  refine fO q ?_
  unfold Oper.wp
  have B:(execOp (bw A D l).eval ⟨d',.defer {callee:=.value c,args:=#[],argTypes:=ts},ty,ps,af,none⟩).run P w = .ok (.defer ⟨.fn (.func f) cs.toArray,#[]⟩) w:=by
    simp[execOp,resolve,bZ hc,Deferred.ofValue]
  rw[B]
  show wpList P ops Q rest ({bw A D l with defers:=_ :: (bw A D l).defers}.put d' undef) w
  rw[TL]
  cases d' <;> exact k
theorem Vu {f:FuncId} {c:Operand} {xs:List Operand} {ts:Array TypeId} {vs cs:List Value} {R:Ending→World→Prop} {d':Option Tmp} (hc:ev n l c=some (.func (.func f) #[] cs.toArray)) (hf:cM P f=true) (ha:evs n l xs=some vs) (hr:Calls P f (vs ++ cs).toArray w R)
    (k:∀e w',R e w'→(∃v,e = .returned v∧wpList P ops Q rest ((bw A D l).put d' v) w')∨∃ch,e = .panicked ch∧Q (.panic ch) (bw A D l) w') :
    wpList P ops Q (⟨d',.call {callee:=.value c,args:=xs.toArray,argTypes:=ts},ty,ps,af,none⟩ :: rest) (bw A D l) w:=by
  refine fO q ?_
  unfold Oper.wp
  have E:=lF (A:=A) (D:=D) ha
  have B:(execOp (bw A D l).eval ⟨d',.call {callee:=.value c,args:=xs.toArray,argTypes:=ts},ty,ps,af,none⟩).run P w = .ok (.enter f (vs ++ cs).toArray) w:=by
    simp only[execOp,resolve,bZ hc,Deferred.ofValue,List.map_toArray,E]
    simp[invoke,nO hf]
  rw[B]
  refine hr.mono fun e w' C=>?_
  rcases k e w' C with⟨v,rfl,hk⟩|⟨ch,rfl,hk⟩
  · exact hk
  exact hk
theorem iZ {f:FuncId} {xs:List Operand} {ts:Array TypeId} {vs:List Value} {R:Ending→World→Prop} (hf:cM P f=true) (ha:evs n l xs=some vs) (hr:Calls P f vs.toArray w R)
    (k:∀e w',R e w'→(∃v,e = .returned v∧wpList P ops Q rest (bw A D ((d,v) :: l)) w')∨∃ch,e = .panicked ch∧Q (.panic ch) (bw A D l) w') :
    wpList P ops Q (⟨some d,.call {callee:=.value (.func f),args:=xs.toArray,argTypes:=ts},ty,ps,af,none⟩ :: rest) (bw A D l) w:=by
  refine fO q ?_
  unfold Oper.wp
  rw[vR hf ha]
  refine hr.mono fun e w' B=>?_
  rcases k e w' B with⟨v,rfl,hk⟩|⟨ch,rfl,hk⟩
  · exact hk
  exact hk
theorem me {x:Operand} {t:TypeId} {v:Value} {d':Option Tmp} (hT:zw P t=true) (hx:ev n l x=some v) :
    cC P ⟨d',.makeInterface t x,ty,ps,af,g⟩ (bw A D l).eval w (.iface t v):=by
  obtain⟨X,hT,B⟩:=wZ hT
  cases X <;> simp_all [cC,execOp,bZ hx,Instr.makeInterface,run_underlying hT]
theorem oI {x:Operand} {t:TypeId} {v:Value} {d':Option Tmp} (hx:ev n l x=some (.iface t v)) (k:Q (.panic (FJ (.iface t v))) (bw A D l) w) :
    wpList P ops Q (⟨d',.panic x,ty,ps,af,none⟩ :: rest) (bw A D l) w:=by
  refine fO q ?_
  unfold Oper.wp
  have B:(execOp (bw A D l).eval ⟨d',.panic x,ty,ps,af,none⟩).run P w = .halt (.panic (.iface t v)) w:=by
    simp[execOp,bZ hx,Instr.panic,goPanic]
  rw[B];exact k
theorem gq {fn:Func} {R:Ending→World→Prop} {ch:List PanicEntry} (h:R (.panicked ch) w):bodyPost P fn R (.panic ch) (bw A [] l) w:=⟨fD,h⟩
theorem abv {t s:TypeId} {v:Value} {X} (w:World) (dd:Nat) (hT:P.underlying t=some (.interface X)):(Op.equalIn (dd+1) t (.iface s v) .nilIface).run P w = .ok false w:=by
  simp only[Op.equalIn,Sem.run_bind,run_underlying hT,Result.andThen_ok,Sem.run_pure]
theorem abu {t:TypeId} {X} (w:World) (dd:Nat) (hT:P.underlying t=some (.interface X)):(Op.equalIn (dd+1) t .nilIface .nilIface).run P w = .ok true w:=by
  simp only[Op.equalIn,Sem.run_bind,run_underlying hT,Result.andThen_ok,Sem.run_pure]
theorem acr {x:Operand} {t u s:TypeId} {v:Value} (hx:ev n l x=some (.iface s v)) (hT:HN P t=true) :
    cC P ⟨some d,.binOp .neq t x (.const .nilIface) u,ty,ps,af,g⟩ (bw A D l).eval w (.bool true):=by
  obtain⟨X,hT⟩:=yZ hT
  have C:(bw A D l).eval (.const .nilIface) = .nilIface:=rfl
  have E:(eqGuard .neq t x (.const .nilIface) (.iface s v) .nilIface).run P w = .ok () w:=by unfold eqGuard;simp
  have B:(binOp .neq t (.iface s v) .nilIface).run P w = .ok (.bool true) w:=by
    simp only[binOp,Op.equal,Op.maxDepth,Sem.run_bind,abv w 9999 hT,Result.andThen_ok,Sem.run_pure,Bool.not_false]
  simp[cC,execOp,bZ hx,C,E,B]
theorem acs {x:Operand} {t u:TypeId} (hx:ev n l x=some .nilIface) (hT:HN P t=true) :
    cC P ⟨some d,.binOp .neq t x (.const .nilIface) u,ty,ps,af,g⟩ (bw A D l).eval w (.bool false):=by
  obtain⟨X,hT⟩:=yZ hT
  have C:(bw A D l).eval (.const .nilIface) = .nilIface:=rfl
  have E:(eqGuard .neq t x (.const .nilIface) .nilIface .nilIface).run P w = .ok () w:=by unfold eqGuard;simp
  have B:(binOp .neq t .nilIface .nilIface).run P w = .ok (.bool false) w:=by
    simp only[binOp,Op.equal,Op.maxDepth,Sem.run_bind,abu w 9999 hT,Result.andThen_ok,Sem.run_pure,Bool.not_true]
  simp[cC,execOp,bZ hx,C,E,B]
end
section
variable {P:Program} {ops:Array Oper} {QS:Exit→Act→List Go.Frame→World→Prop} {cs:List Go.Frame} {rest:List Nat}
variable {n:Nat} {A:Fr n} {D:List Deferred} {l:List (Nat × Value)} {w:World}
theorem aaN {i d:Nat} {o:Oper} (v:Value) (ho:ops[i]? = some o) (hg:o.guard=none) (hd:o.dst=some d) (hr:cC P o (bw A D l).eval w v) (k:wpOpsS P ops QS rest (bw A D ((d,v) :: l)) cs w) :
    wpOpsS P ops QS (i :: rest) (bw A D l) cs w:=by
  have B:Region.wanted o (yielded ops (bw A D l).tmps)=true:=by simp[Region.wanted,hg]
  unfold cC at hr
  simp only[wpOpsS,ho,B,if_true,hr,Oper.upon,hd]
  exact k
theorem aeL {i d:Nat} {o:Oper} {ts:Array TypeId} (ho:ops[i]? = some o) (hg:o.guard=none) (hd:o.dst=some d) (hop:o.op = .call {callee:=.builtin .recover,args:=#[],argTypes:=ts}) {v:Value} {older:List PanicEntry} {c:Go.Frame} {cs':List Go.Frame} (hcs:cs=c :: cs')
    (hm:c.mode = .panicking ({v,recovered:=false} :: older)) (k:wpOpsS P ops QS rest (bw A D ((d,v) :: l)) ({c with mode:=.panicking ({v,recovered:=true} :: older)} :: cs') w) :
    wpOpsS P ops QS (i :: rest) (bw A D l) cs w:=by
  have E:Region.wanted o (yielded ops (bw A D l).tmps)=true:=by simp[Region.wanted,hg]
  have C:(execOp (bw A D l).eval o).run P w = .ok .recover w:=by
    simp[execOp,hop,resolve,invoke,builtin]
  subst hcs
  have B:recoverD (c :: cs')=some (v,{c with mode:=.panicking ({v,recovered:=true} :: older)} :: cs'):=by simp[recoverD,hm]
  simp only[wpOpsS,ho,E,if_true,C,B,hd]
  exact k
theorem ac7 {i d:Nat} {o:Oper} {ts:Array TypeId} (ho:ops[i]? = some o) (hg:o.guard=none) (hd:o.dst=some d) (hop:o.op = .call {callee:=.builtin .recover,args:=#[],argTypes:=ts}) {c:Go.Frame} {cs':List Go.Frame} (hcs:cs=c :: cs')
    (hm:c.mode = .returning) (k:wpOpsS P ops QS rest (bw A D ((d,.nilIface) :: l)) cs w) :
    wpOpsS P ops QS (i :: rest) (bw A D l) cs w:=by
  have E:Region.wanted o (yielded ops (bw A D l).tmps)=true:=by simp[Region.wanted,hg]
  have C:(execOp (bw A D l).eval o).run P w = .ok .recover w:=by
    simp[execOp,hop,resolve,invoke,builtin]
  subst hcs
  have B:recoverD (c :: cs')=none:=by simp[recoverD,hm]
  simp only[wpOpsS,ho,E,if_true,C,B,hd]
  exact k
theorem aaM (k:QS .normal (bw A D l) cs w):wpOpsS P ops QS [] (bw A D l) cs w:=k
end
section
variable {P:Program} {n:Nat} {A:Fr n} {l:List (Nat × Value)} {w:World}
theorem agJ {fn:Func} {c₀:Go.Frame} {cs:List Go.Frame} {R:Ending→FrameMode→World→Prop} {u':FrameMode} {e:Exit} (he:qS e) (hr:fn.results = #[]) (hR:R (.returned (.tuple #[])) u' w) :
    bodyPostS P fn c₀ cs R e (bw A [] l) ({c₀ with mode:=u'} :: cs) w:=by
  have h:=pn (P:=P) (w:=w) (A:=A) (D:=[]) (l:=l) (fn:=fn) (rs:=[]) (vs:=[]) hr trivial
  cases e with
  | normal=>exact⟨fD,u',q,_,h,hR⟩
  | ret=>exact⟨fD,u',q,_,h,hR⟩
  | _=>exact he.elim
theorem agK {fn:Func} {c₀:Go.Frame} {cs:List Go.Frame} {R:Ending→FrameMode→World→Prop} {u:FrameMode} {e:Exit} (hc:c₀.mode=u) (he:qS e) (hr:fn.results = #[]) (hR:R (.returned (.tuple #[])) u w) :
    bodyPostS P fn c₀ cs R e (bw A [] l) (c₀ :: cs) w:=by
  have h:({c₀ with mode:=u}:Go.Frame)=c₀:=by subst hc;rfl
  have:=agJ (P:=P) (A:=A) (l:=l) (c₀:=c₀) (cs:=cs) (u':=u) he hr hR
  rwa [h]at this
theorem leave1 {fn:Func} {R:Ending→World→Prop} {t ty:Nat} {d:Deferred} {u:FrameMode} {f:FuncId} {cs:List Value} (hu:u≠.run) (hd:d=⟨.fn (.func f) cs.toArray,#[]⟩) (hf:cM P f=true) (hr:fn.results = #[.cell t ty]) {p:Addr} (ht:ev n l (.tmp t)=some (.pointer (some p)))
    (h:CallsD P f cs.toArray u w fun e u' w'=>e = .returned (.tuple #[])∧settle u' = .returning∧∃v,(loadVar ty p).run P w' = .ok v w'∧R (.returned v) w') :
    Leaves P fn (bw A [d] l).tmps R [d] u w:=by
  subst hd
  refine leaves_cons hu (f:=f) (args:=cs.toArray) (by simp[invoke,nO hf]) (h.mono ?_)
  rintro e u' w' ⟨rfl,C,v,D,B⟩
  show Leaves P fn _ R [] (settle u') w'
  rw[C]
  exact⟨v,pn (A:=A) (rs:=[.cell t ty]) (vs:=[v]) hr ⟨⟨p,ht,D⟩,tV⟩,B⟩
end
section
variable {P:Program} {n:Nat} {A:Fr n} {D:List Deferred} {l:List (Nat × Value)} {w:World} {d:Option Tmp} {ty:TypeId} {ps:String} {af:Array Edge} {g:Option (Nat × Bool)}
theorem UE {x:Operand} {t a:TypeId} {v:Value} (hT:zw P a=true) (hx:ev n l x=some (.iface a v)) :
    cC P ⟨d,.typeAssert x t a true,ty,ps,af,g⟩ (bw A D l).eval w (.tuple #[v,.bool true]):=by
  obtain⟨X,hT,B⟩:=wZ hT
  cases X <;> simp_all [cC,execOp,bZ hx,Instr.typeAssert,run_underlying hT]
end
end Go.Wk
namespace Go.Wk
open Go Go.RowKit
def digit (c:UInt8):Bool:=decide (48≤c.toNat∧c.toNat≤57)
def iN (c:UInt8):Bool:=decide ((65≤c.toNat∧c.toNat≤90)∨(48≤c.toNat∧c.toNat≤57)∨c.toNat=95)
def eP (s:Ly):Bool:=decide (1≤s.length) && decide (s.length≤64) && !digit (s.getD 0 0) && s.all iN
theorem GF {f:UInt8→Bool} {s:Ly} (h:∀j,j<s.length→f (s.getD j 0)=true):s.all f=true:=by
  rw[List.all_eq_true]
  intro x B
  obtain⟨j,A,rfl⟩:=List.mem_iff_getElem.1 B
  have:=h j A
  simpa [List.getD,A]using this
theorem Yi {f:UInt8→Bool} {s:Ly} (h:s.all f=true) {j:Nat} (hj:j<s.length):f (s.getD j 0)=true:=by
  rw[List.all_eq_true]at h
  have:=h (s[j]'hj) (List.getElem_mem hj)
  simpa [List.getD,hj]using this
theorem PL {s:Ly} (h1:1≤s.length) (h2:s.length≤64) (h3:digit (s.getD 0 0)=false) (h4:∀j,j<s.length→iN (s.getD j 0)=true):eP s=true:=by
  unfold eP;rw[decide_eq_true h1,decide_eq_true h2,h3,GF h4];rfl
theorem fM {s:Ly} (h:eP s=true):1≤s.length∧s.length≤64:=by
  simp only[eP,Bool.and_eq_true,decide_eq_true_eq]at h;exact⟨h.1.1.1,h.1.1.2⟩
theorem gO {s:Ly} (h:eP s=true):¬(48≤(s.getD 0 0).toNat∧(s.getD 0 0).toNat≤57):=by
  simp only[eP,Bool.and_eq_true,Bool.not_eq_true']at h
  have:=h.1.2
  unfold digit at this
  exact dF this
theorem jR {s:Ly} (h:eP s=true) (j:Nat) (hj:j<s.length):(65≤(s.getD j 0).toNat∧(s.getD j 0).toNat≤90)∨(48≤(s.getD j 0).toNat∧(s.getD j 0).toNat≤57)∨(s.getD j 0).toNat=95:=by
  simp only[eP,Bool.and_eq_true]at h
  exact dT (Yi h.2 hj)
abbrev VX:=List UInt8 × List UInt8
def right (p:VX):Bool:=eP p.1 && decide (p.2.length≤256)
def gT (s:Ly):Int :=
  if Lib.indexByte s 61<0 then 20 else if eP (s.take (Lib.indexByte s 61).toNat)=false then 20 else if 256<(s.drop ((Lib.indexByte s 61).toNat+1)).length then 21 else 0
def oH (s:Ly):VX:=if gT s=0 then(s.take (Lib.indexByte s 61).toNat,s.drop ((Lib.indexByte s 61).toNat+1))else([],[])
theorem uU {s:Ly} {c:UInt8} (h:0≤Lib.indexByte s c):(Lib.indexByte s c).toNat<s.length∧s[(Lib.indexByte s c).toNat]? = some c:=by
  obtain⟨o,A⟩:=Int.eq_ofNat_of_zero_le h
  have:=(Lib.indexByte_some A).1
  rw[A]
  exact⟨(List.getElem?_eq_some_iff.1 this).1,this⟩
theorem nW {s:Ly} (h:gT s≠0):oH s=([],[]):=by unfold oH;rw[if_neg h]
theorem YR {s:Ly} (h1:1≤s.length) (h:∀j,j<s.length→iN (s.getD j 0)=true∧(j=0→digit (s.getD j 0)=false)):decide ((s.length:Int)≤64)=eP s:=by
  have B:=(h 0 Ok).2 q
  have A:=GF fun j C=>(h j C).1
  unfold eP
  rw[decide_eq_true h1,B,A,Bool.true_and,Bool.not_false,Bool.and_true,Bool.and_true]
  exact decide_eq_decide.2 Ok
theorem agp {l:Ly} {c:UInt8} {i:Nat} (hi:i<l.length) (hc:l.getD i 0=c) (h:∀j,j<i→l.getD j 0≠c):Lib.indexByte l c=i:=by
  induction l generalizing i with
  | nil=>simp at hi
  | cons x r ih =>
    cases i with
    | zero=>simp[List.getD]at hc;subst hc;simp[Lib.indexByte]
    | succ i =>
      have A:(x == c)=false:=by
        have:=h 0 Ok
        simpa [List.getD]using this
      have:=ih (i:=i) (by simpa using hi) (by simpa [List.getD]using hc) (fun j B=>by have:=h (j+1) Ok;simpa [List.getD]using this)
      simp only[Lib.indexByte,A,this]
      have e:((i:Int) == -1)=false:=by rw[beq_eq_false_iff_ne];omega
      simp[e]
theorem abC {l:Ly} {c:UInt8} (h:∀j,j<l.length→l.getD j 0≠c):Lib.indexByte l c<0:=by
  refine Int.lt_of_not_ge fun A=>?_
  obtain⟨B,C⟩:=uU (s:=l) (c:=c) A
  exact h _ B (by simp[List.getD,C])
section
variable {P:Program} {n:Nat} {A:Fr n} {D:List Deferred} {l:List (Nat × Value)} {w:World}
variable {d:Option Tmp} {ty:TypeId} {ps:String} {af:Array Edge} {g:Option (Nat × Bool)}
theorem acn {f:FuncId} {xs:List Operand} {ts:Array TypeId} {vs:List Value} {v:Value} (ha:evs n l xs=some vs) (hr:(callFunc f vs.toArray).run P w = .ok (.value v) w) :
    cC P ⟨d,.call {callee:=.value (.func f),args:=xs.toArray,argTypes:=ts},ty,ps,af,g⟩ (bw A D l).eval w v:=by
  have B:=lF (A:=A) (D:=D) ha
  simp only[cC,execOp,resolve,Act.eval,Deferred.ofValue,List.map_toArray,B]
  simp[invoke,hr]
theorem ac0 {v:Value} {s:Ly} (hB:By w v s) (c:UInt8):(Extern.BytealgIndexByte.indexByte #[v,b8 c]).run P w = .ok (.int .i64 (Lib.indexByte s c)) w:=by
  obtain⟨a,A,rfl,J,M,K,H⟩:=hB
  have D:Lib.bytesOf (s.map fun x=>(x.toNat:Int))=s:=by
    simp[Lib.bytesOf,Function.comp_def]
  cases s with
  | nil =>
    cases a with
    | none =>
      change Sem.run P (do
        let b ← Extern.Bytes.bytesOf (.slice none 0 A)
        let c ← Extern.Bytes.asByte (b8 c)
        match (List.range b.size).find? fun i=>b[i]! == c with
        | some i=>pure (goInt i)
        | none=>pure (goInt (-1))) w=_
      simp[Extern.Bytes.bytesOf,Extern.Bytes.asByte,b8,Lib.indexByte,goInt]
    | some p =>
      change Sem.run P (do
        let b ← Extern.Bytes.bytesOf (.slice (some p) 0 A)
        let c ← Extern.Bytes.asByte (b8 c)
        match (List.range b.size).find? fun i=>b[i]! == c with
        | some i=>pure (goInt i)
        | none=>pure (goInt (-1))) w=_
      simp[Extern.Bytes.bytesOf,Extern.Bytes.asByte,b8,Lib.indexByte,Extern.Bytes.loadBytes,goInt]
  | cons x r =>
    cases a with
    | none=>have:=K rfl;simp at J;omega
    | some p =>
      have C:=H p rfl 0 (b8 x) rfl
      obtain⟨F,G,B⟩:=p
      have E:B=none:=by
        cases B with
        | none=>rfl
        | some q =>
          unfold World.cell? at C
          simp only[Addr.add]at C
          split at C <;> (simp at C;done)
      subst E
      have:=Lib.run_indexByteSlice (P:=P) w F G (x :: r).length A ((x :: r).map fun x=>(x.toNat:Int)) Oj (fun i I=>by
        have:=H _ rfl i (b8 ((x :: r).getD i 0)) (by simpa using OX (x :: r) i I)
        have L:(⟨F,G,none⟩:Addr).add i=⟨F,G+i,none⟩:=by unfold Addr.add;split <;> simp_all
        rw[L]at this
        rw[this,b8]
        rw[List.getD_eq_getElem?_getD,List.getD_eq_getElem?_getD,List.getElem?_map,List.getElem?_eq_getElem I];rfl) c.toNat
      rw[D]at this
      simpa [b8]using this
end
end Go.Wk
namespace Go.Wk
open Go Go.RowKit
def gU:List UInt8→Int
  | []=>0
  | b :: r=>(b.toNat:Int)+256*gU r
theorem qw (l:Ly):0≤gU l:=by
  induction l with
  | nil=>simp[gU]
  | cons b r ih=>simp only[gU];omega
theorem YK (l:Ly):gU l<256 ^ l.length:=by
  induction l with
  | nil=>simp[gU]
  | cons b r ih =>
    simp only[gU,List.length_cons,Int.pow_succ]
    have:=b.toNat_lt
    omega
theorem rI {l:Ly} {k:Nat} (h:l.length≤k):gU l<256 ^ k:=by
  refine Int.lt_of_lt_of_le (YK l) ?_
  have B:256 ^ l.length≤256 ^ k:=Nat.pow_le_pow_right Ok h
  have A:=Int.ofNat_le.2 B
  rw[Int.natCast_pow,Int.natCast_pow]at A
  exact A
def szB (n:Int):Bool:=decide (n=1∨n=2∨n=4∨n=8)
theorem ac3 (v:Int) (c:UInt8) (h0:0≤v) (h1:v<72057594037927936) :
    bits .or .u64 (lR .u64 v 8) (IntKind.u64.wrap (c.toNat:Int))=(c.toNat:Int)+256*v:=by
  obtain⟨m,rfl⟩:=Int.eq_ofNat_of_zero_le h0
  have E:=c.toNat_lt
  have A:lR .u64 (m:Int) 8=((m*256:Nat):Int):=by
    unfold lR
    have:min (8:Int).toNat IntKind.u64.bits=8:=by decide
    rw[this,wrap_u64 Ok Ok]
    omega
  have B:IntKind.u64.wrap (c.toNat:Int)=(c.toNat:Int):=wrap_u64 Ok Ok
  rw[A,B]
  unfold bits
  simp only[BitVec.ofInt_natCast]
  have D:IntKind.u64.bits=64:=rfl
  have C:(BitVec.ofNat IntKind.u64.bits (m*256) ||| BitVec.ofNat IntKind.u64.bits c.toNat).toNat=c.toNat+256*m:=by
    rw[BitVec.toNat_or,BitVec.toNat_ofNat,BitVec.toNat_ofNat,D,Nat.mod_eq_of_lt Ok,Nat.mod_eq_of_lt Ok]
    have:=Nat.two_pow_add_eq_or_of_lt (i:=8) (show c.toNat<2 ^ 8 by omega) m
    rw[show m*256=2 ^ 8*m by omega,← this]
    omega
  rw[C,wrap_u64 Ok Ok]
  omega
theorem MG (l:Ly) (at' i k:Nat) (h:at'+i<l.length):gU (((l.drop (at'+i)).take (k+1)))=((l.getD (at'+i) 0).toNat:Int)+256*gU ((l.drop (at'+(i+1))).take k):=by
  have:l.drop (at'+i)=l.getD (at'+i) 0 :: l.drop (at'+(i+1)):=by
    rw[List.drop_eq_getElem_cons h]
    simp[List.getD,h,Nat.add_assoc]
  rw[this]
  rfl
theorem RJ {l:Ly} (a n:Int) (k:Nat) (hn:n=1∨n=2∨n=4∨n=8) (ha:0≤a) (hl:a+n≤l.length) (hk:(k:Int)<n) :
    bits .or .u64 (lR .u64 (gU ((l.drop (a.toNat+(n.toNat-k))).take k)) 8) (IntKind.u64.wrap ((l.getD (a+(n-1-k)).toNat 0).toNat:Int)) =
      gU ((l.drop (a.toNat+(n.toNat-(k+1)))).take (k+1)):=by
  have A:=qw ((l.drop (a.toNat+(n.toNat-k))).take k)
  have B:gU ((l.drop (a.toNat+(n.toNat-k))).take k)<256 ^ 7:=rI Yw
  rw[ac3 _ _ A (by simpa using B),MG l a.toNat (n.toNat-(k+1)) k Ok]
  rw[show(a+(n-1-k)).toNat=a.toNat+(n.toNat-(k+1))by omega,show n.toNat-(k+1)+1=n.toNat-k by omega]
def qZ (x k:Int):Int:=bits .or .u32 (lR .u32 x k) (ac4 .u32 x (32-k))
def xo (x k:Int):Int:=bits .or .u64 (lR .u64 x k) (ac4 .u64 x (64-k))
theorem tr (k:Int) (m:Nat) (h0:0≤k) (h1:k<2 ^ m) (hm:m≤63):bits .and .u64 (IntKind.u64.wrap k) ((2 ^ m-1:Nat):Int)=k:=by
  obtain⟨x,rfl⟩:=Int.eq_ofNat_of_zero_le h0
  have D:x<2 ^ m:=by
    have:((x:Nat):Int)<((2 ^ m:Nat):Int):=by rw[Int.natCast_pow];exact h1
    exact Int.ofNat_lt.1 this
  have C:2 ^ m≤2 ^ 63:=Nat.pow_le_pow_right Ok hm
  have A:(x:Int)<18446744073709551616:=by
    have:x<2 ^ 63:=by omega
    omega
  rw[wrap_u64 Ok A]
  unfold bits
  simp only[BitVec.ofInt_natCast]
  have B:IntKind.u64.bits=64:=rfl
  rw[BitVec.toNat_and,BitVec.toNat_ofNat,BitVec.toNat_ofNat,B,Nat.mod_eq_of_lt (show x<2 ^ 64 by omega),Nat.mod_eq_of_lt (show 2 ^ m-1<2 ^ 64 by omega),Nat.and_two_pow_sub_one_eq_mod,Nat.mod_eq_of_lt D]
  exact wrap_u64 Ok A
theorem afg {k:Int} (h0:0≤k) (h1:k<32):bits .and .u64 (IntKind.u64.wrap k) 31=k:=tr k 5 h0 (by simpa using h1) Ok
theorem afh {k:Int} (h0:0≤k) (h1:k<64):bits .and .u64 (IntKind.u64.wrap k) 63=k:=tr k 6 h0 (by simpa using h1) Ok
structure T3 where
  x:Int
  y:Int
  z:Int
def T3.cells (t:T3):List Value:=[.int .u32 t.x,.int .u32 t.y,.int .u32 t.z]
def uf (l:Ly) (i:Nat):Int:=gU [l.getD i 0,l.getD (i+1) 0,l.getD (i+2) 0,l.getD (i+3) 0]
def rz (x:Int):Int:=IntKind.u32.wrap x
def kV (t:T3) (l:Ly):T3:=⟨rz (t.x+rz (uf l 0)),rz (t.y+rz (uf l 4)),rz (t.z+rz (uf l 8))⟩
def tK (a b:Int):Int:=bits .xor .u32 a b
def agv (t:T3) (a b c:Int):T3 :=
  let x:=tK (rz (t.x-t.z)) (qZ t.z a)
  let z:=rz (t.z+t.y)
  let y:=tK (rz (t.y-x)) (qZ x b)
  let x:=rz (x+z)
  let z:=tK (rz (z-y)) (qZ y c)
  ⟨x,rz (y+x),z⟩
def mix (t:T3):T3:=agv (agv t 4 6 8) 16 19 4
def last (t:T3):T3 :=
  let z:=rz (tK t.z t.y-qZ t.y 14)
  let x:=rz (tK t.x z-qZ z 11)
  let y:=rz (tK t.y x-qZ x 25)
  let z:=rz (tK z y-qZ y 16)
  let x:=rz (tK x z-qZ z 4)
  let y:=rz (tK y x-qZ x 14)
  let z:=rz (tK z y-qZ y 24)
  ⟨x,y,z⟩
def pack (t:T3):Int:=bits .or .u64 (lR .u64 (IntKind.u64.wrap t.z) 32) (IntKind.u64.wrap t.y)
def Py:Nat→T3→List UInt8→Int
  | 0,t,l=>if l=[]then pack t else pack (last (kV t l))
  | k+1,t,l=>if 12<l.length then Py k (mix (kV t l)) (l.drop 12)else if l=[]then pack t else pack (last (kV t l))
theorem YM:∀(k j:Nat) (t:T3) (l:Ly),l.length≤k→l.length≤j→Py k t l=Py j t l:=by
  intro k
  induction k with
  | zero =>
    intro j t l B C
    have A:l=[]:=List.eq_nil_of_length_eq_zero Ok
    subst A
    cases j <;> simp[Py]
  | succ k ih =>
    intro j t l B C
    cases j with
    | zero =>
      have A:l=[]:=List.eq_nil_of_length_eq_zero Ok
      subst A
      simp[Py]
    | succ j =>
      simp only[Py]
      split
      · exact ih j _ _ Yw Yw
      · rfl
def lk (t:T3) (l:Ly):Int:=Py l.length t l
theorem P6 (t:T3) (l:Ly) (h:12<l.length):lk t l=lk (mix (kV t l)) (l.drop 12):=by
  unfold lk
  obtain⟨k,hk⟩:∃k,l.length=k+1:=⟨l.length-1,by omega⟩
  rw[hk]
  simp only[Py,if_pos h]
  exact YM _ _ _ _ Yw Oj
theorem aej (t:T3):lk t []=pack t:=by simp[lk,Py]
theorem Pz (t:T3) (l:Ly) (h:l≠[]) (h2:l.length≤12):lk t l=pack (last (kV t l)):=by
  unfold lk
  obtain⟨k,hk⟩:∃k,l.length=k+1:=⟨l.length-1,by have:=List.length_pos_iff.2 h;omega⟩
  rw[hk]
  simp only[Py,if_neg (show ¬12<l.length by omega),if_neg h]
def MI (l:Ly):T3:=⟨rz (3735928559+rz l.length),rz (3735928559+rz l.length),rz (3735928559+rz l.length)⟩
def lookup (l:Ly):Int:=lk (MI l) l
theorem zh (l:Ly) (i:Nat) (h:i+4≤l.length):gU ((l.drop i).take 4)=uf l i:=by
  unfold uf
  congr 1
  apply List.ext_getElem
  · simp;omega
  intro j B A
  simp at A
  have:j=0∨j=1∨j=2∨j=3:=by omega
  rcases this with rfl|rfl|rfl|rfl <;> simp[List.getD] <;> rw[List.getElem?_eq_getElem Ok] <;> rfl
theorem UU (v:Int) (c:UInt8) (h0:0≤v) (h1:v<16777216) :
    bits .or .u32 (lR .u32 v 8) (IntKind.u32.wrap (c.toNat:Int))=(c.toNat:Int)+256*v:=by
  obtain⟨m,rfl⟩:=Int.eq_ofNat_of_zero_le h0
  have E:=c.toNat_lt
  have A:lR .u32 (m:Int) 8=((m*256:Nat):Int):=by
    unfold lR
    have:min (8:Int).toNat IntKind.u32.bits=8:=by decide
    rw[this,wrap_u32 Ok Ok]
    omega
  have B:IntKind.u32.wrap (c.toNat:Int)=(c.toNat:Int):=wrap_u32 Ok Ok
  rw[A,B]
  unfold bits
  simp only[BitVec.ofInt_natCast]
  have D:IntKind.u32.bits=32:=rfl
  have C:(BitVec.ofNat IntKind.u32.bits (m*256) ||| BitVec.ofNat IntKind.u32.bits c.toNat).toNat=c.toNat+256*m:=by
    rw[BitVec.toNat_or,BitVec.toNat_ofNat,BitVec.toNat_ofNat,D,Nat.mod_eq_of_lt Ok,Nat.mod_eq_of_lt Ok]
    have:=Nat.two_pow_add_eq_or_of_lt (i:=8) (show c.toNat<2 ^ 8 by omega) m
    rw[show m*256=2 ^ 8*m by omega,← this]
    omega
  rw[C,wrap_u32 Ok Ok]
  omega
theorem ac2 (v:Int) (h0:0≤v) (h1:v<16777216):lR .u32 v 8=256*v:=by
  unfold lR
  have:min (8:Int).toNat IntKind.u32.bits=8:=by decide
  rw[this,wrap_u32 Ok Ok]
  omega
def uV (l:Ly) (i k:Nat):Int:=gU ([l.getD i 0,l.getD (i+1) 0,l.getD (i+2) 0,l.getD (i+3) 0].drop (4-k))
theorem zf (l:Ly) (i k:Nat) (hk:k<4):uV l i (k+1)=((l.getD (i+(3-k)) 0).toNat:Int)+256*uV l i k:=by
  have:k=0∨k=1∨k=2∨k=3:=by omega
  rcases this with rfl|rfl|rfl|rfl <;> rfl
theorem IC (l:Ly) (i k:Nat) (hk:k<4):0≤uV l i k∧uV l i k<16777216:=by
  refine⟨qw _,?_⟩
  have:=rI (l:=[l.getD i 0,l.getD (i+1) 0,l.getD (i+2) 0,l.getD (i+3) 0].drop (4-k)) (k:=3) Yw
  exact this
theorem vY (l:Ly) (i:Nat):0≤uf l i∧uf l i<4294967296 :=
  ⟨qw _,rI (k:=4) Oj⟩
theorem acH (l:Ly) (i:Nat):rz (uf l i)=uf l i:=wrap_u32 (vY l i).1 (vY l i).2
theorem yR (l:Ly) (i:Nat) (h:l.length≤i):l.getD i 0=0:=by simp[List.getD,List.getElem?_eq_none h]
theorem wi {l l':Ly} {i j:Nat} (h:∀k,k<4→l.getD (i+k) 0=l'.getD (j+k) 0):uf l i=uf l' j:=by
  unfold uf
  have A:=h 0 Ok;have B:=h 1 Ok;have C:=h 2 Ok;have D:=h 3 Ok
  simp only[Nat.add_zero]at A
  rw[A,B,C,D]
def qX (m:Nat) (l:Ly):List UInt8:=l ++ List.replicate (m-l.length) 0
theorem zL (m:Nat) (l:Ly) (i:Nat):(qX m l).getD i 0=l.getD i 0:=by
  unfold qX
  by_cases h:i<l.length
  · simp[List.getD,List.getElem?_append_left h]
  rw[yR l i Ok]
  simp only[List.getD]
  rw[List.getElem?_append_right Ok,List.getElem?_replicate]
  split <;> rfl
theorem pZ (m:Nat) (l:Ly) (h:l.length≤m):(qX m l).length=m:=by simp[qX];omega
theorem abH (m:Nat) (l:Ly) (i:Nat):uf (qX m l) i=uf l i:=wi fun k _=>zL m l (i+k)
theorem QO (t:T3) (m:Nat) (l:Ly):kV t (qX m l)=kV t l:=by simp only[kV,abH]
theorem IE (l:Ly) (d i:Nat):uf (l.drop d) i=uf l (d+i):=wi fun k _=>by simp[List.getD,Nat.add_assoc]
theorem wj (l:Ly) (m i:Nat) (h:i+4≤m):uf (l.take m) i=uf l i:=wi fun k hk=>by simp only[List.getD];rw[List.getElem?_take,if_pos Ok]
theorem L9 (t:T3) (l:Ly) (m:Nat) (h:12≤m):kV t (l.take m)=kV t l:=by
  simp only[kV]
  rw[wj l m 0 Ok,wj l m 4 Ok,wj l m 8 Ok]
theorem AE {m:Nat} {l:Ly} (h:l.length≤m):fo ((List.replicate m 0).map b8) 0 ((l.map b8).take m)=(qX m l).map b8:=by
  have e:(l.map b8).take m=l.map b8:=List.take_of_length_le (by simpa using h)
  rw[e]
  simp[fo,qX]
theorem acI (l:Ly) (a:Int) (k:Nat) (ha:0≤a) (hk:k<4) (_h:a+(3-k)<l.length) :
    bits .or .u32 (lR .u32 (uV l a.toNat k) 8) (IntKind.u32.wrap ((l.getD (a+(3-k)).toNat 0).toNat:Int))=uV l a.toNat (k+1):=by
  obtain⟨A,B⟩:=IC l a.toNat k hk
  rw[UU _ _ A B,zf l _ _ hk,show(a+(3-k)).toNat=a.toNat+(3-k)by omega]
theorem aaZ (l:Ly) (a:Int) (k:Nat) (ha:0≤a) (hk:k<4) (h:l.length≤a+(3-k)):lR .u32 (uV l a.toNat k) 8=uV l a.toNat (k+1):=by
  obtain⟨A,B⟩:=IC l a.toNat k hk
  rw[ac2 _ A B,zf l _ _ hk,yR l _ Ok]
  simp
theorem DJ (t:T3) (l:Ly) (k:Nat):(⟨rz (t.x+uf l (k:Int).toNat),rz (t.y+uf l (k+4:Int).toNat),rz (t.z+uf l (k+8:Int).toNat)⟩:T3)=kV t (l.drop k):=by
  simp only[kV,acH,IE]
  rw[show(k:Int).toNat=k+0 by omega,show(k+4:Int).toNat=k+4 by omega,show(k+8:Int).toNat=k+8 by omega]
structure S4 where
  p:Int
  q:Int
  r:Int
  s:Int
def S4.cells (v:S4) (n:Int) (rest:Value):List Value:=[.int .u64 v.p,.int .u64 v.q,.int .u64 v.r,.int .u64 v.s,.int .i64 n,rest]
def S4.arr (v:S4):List Value:=[.int .u64 v.p,.int .u64 v.q,.int .u64 v.r,.int .u64 v.s]
theorem S4.sA (v:S4):v.arr.length=4:=rfl
theorem S4.EI (v:S4):∀u∈v.arr,u.oneCell'=true:=by intro u A;simp[S4.arr]at A;rcases A with rfl|rfl|rfl|rfl<;>rfl
def w64 (x:Int):Int:=IntKind.u64.wrap x
def kF (a b:Int):Int:=bits .xor .u64 a b
def aaI (v:S4):S4 :=
  let p:=w64 (v.p+v.q)
  let q:=kF (xo v.q 13) p
  let p:=xo p 32
  let r:=w64 (v.r+v.s)
  let s:=kF (xo v.s 16) r
  let p:=w64 (p+s)
  let s:=kF (xo s 21) p
  let r:=w64 (r+q)
  let q:=kF (xo q 17) r
  ⟨p,q,xo r 32,s⟩
def er:Nat→S4→S4
  | 0,v=>v
  | k+1,v=>aaI (er k v)
def S4.xp (v:S4) (m:Int):S4:=⟨kF v.p m,v.q,v.r,v.s⟩
def S4.xr (v:S4) (m:Int):S4:=⟨v.p,v.q,kF v.r m,v.s⟩
def S4.xs (v:S4) (m:Int):S4:=⟨v.p,v.q,v.r,kF v.s m⟩
def S4.all (v:S4):Int:=kF (kF (kF v.p v.q) v.r) v.s
def nP (v:S4) (m:Int):S4:=(er 2 (v.xs m)).xp m
theorem aeH (v:S4) (m n:Int) (rest:Value):(v.cells n rest).set 0 (.int .u64 (kF v.p m))=(v.xp m).cells n rest:=rfl
theorem aeI (v:S4) (m n:Int) (rest:Value):(v.cells n rest).set 2 (.int .u64 (kF v.r m))=(v.xr m).cells n rest:=rfl
theorem aeJ (v:S4) (m n:Int) (rest:Value):(v.cells n rest).set 3 (.int .u64 (kF v.s m))=(v.xs m).cells n rest:=rfl
theorem WI (v:S4) (m:Int):v.arr.set 0 (.int .u64 (kF v.p m))=(v.xp m).arr:=rfl
theorem adE (v:S4) (m:Int):v.arr.set 2 (.int .u64 (kF v.r m))=(v.xr m).arr:=rfl
theorem WJ (v:S4) (m:Int):v.arr.set 3 (.int .u64 (kF v.s m))=(v.xs m).arr:=rfl
def pu (key:Ly):S4 :=
  ⟨kF (gU ((key.drop 0).take 8)) 8317987319222330741,kF (gU ((key.drop 8).take 8)) 7237128888997146477,
   kF (gU ((key.drop 0).take 8)) 7816392313619706465,kF (gU ((key.drop 8).take 8)) 8387220255154660723⟩
def EF:Nat→S4→List UInt8→S4 × List UInt8
  | 0,v,l=>(v,l)
  | k+1,v,l=>if 8≤l.length then EF k (nP v (gU (l.take 8))) (l.drop 8)else(v,l)
theorem QM:∀(k j:Nat) (v:S4) (l:Ly),l.length≤k→l.length≤j→EF k v l=EF j v l:=by
  intro k
  induction k with
  | zero =>
    intro j v l B C
    have A:l=[]:=List.eq_nil_of_length_eq_zero Ok
    subst A
    cases j <;> simp[EF]
  | succ k ih =>
    intro j v l B C
    cases j with
    | zero =>
      have A:l=[]:=List.eq_nil_of_length_eq_zero Ok
      subst A
      simp[EF]
    | succ j =>
      simp only[EF]
      split
      · exact ih j _ _ Yw Yw
      · rfl
def jD (v:S4) (l:Ly):S4 × List UInt8:=EF l.length v l
theorem rZ (v:S4) (l:Ly) (h:8≤l.length):jD v l=jD (nP v (gU (l.take 8))) (l.drop 8):=by
  unfold jD
  obtain⟨k,hk⟩:∃k,l.length=k+1:=⟨l.length-1,by omega⟩
  rw[hk]
  simp only[EF,if_pos h]
  exact QM _ _ _ _ Yw Oj
theorem pq (v:S4) (l:Ly) (h:l.length<8):jD v l=(v,l):=by
  unfold jD
  cases hk:l.length with
  | zero=>rfl
  | succ k=>simp only[EF];rw[if_neg Ok]
theorem NJ:∀(k:Nat) (v:S4) (l:Ly),l.length≤k→(jD v l).2.length<8:=by
  intro k
  induction k with
  | zero =>
    intro v l h
    rw[pq v l Ok]
    simp;omega
  | succ k ih =>
    intro v l h
    by_cases h8:8≤l.length
    · rw[rZ v l h8];exact ih _ _ Yw
    · rw[pq v l Ok];simp;omega
def jE (r:Ly) (n:Int):List UInt8:=(qX 8 r).set 7 (UInt8.ofNat n.toNat)
def AA (v:S4) (r:Ly) (n:Int):Int :=
  (er 4 ((nP v (gU (((jE r n).drop 0).take 8))).xr 255)).all
def sip (key l:Ly):Int:=AA (jD (pu key) l).1 (jD (pu key) l).2 l.length
theorem abn (n:Int) (h:0≤n):Value.int .u8 (IntKind.u8.wrap n)=b8 (UInt8.ofNat n.toNat):=by
  unfold b8
  rw[KX]
  congr 1
  simp
  omega
theorem ahJ (a b:Nat) (h:a<8):(if(b:Int)<8-(a:Int)then(b:Int)else 8-(a:Int))=((min (8-a) b:Nat):Int):=by split<;>omega
theorem BB (r:Ly) (n:Int) (hn:0≤n):((qX 8 r).map b8).set 7 (.int .u8 (IntKind.u8.wrap n))=(jE r n).map b8:=by
  rw[abn n hn,jE,List.map_set]
theorem sd (r:Ly) (n:Int) (h:r.length≤8):(jE r n).length=8:=by rw[jE,List.length_set,pZ 8 r h]
theorem VY (v:S4) (rl l:Ly) (_h:rl.length<8) (h8:rl.length+min (8-rl.length) l.length=8) :
    jD v (rl ++ l)=jD (nP v (gU (((rl ++ l.take (min (8-rl.length) l.length)).drop 0).take 8))) ([] ++ l.drop (min (8-rl.length) l.length)):=by
  generalize hk:min (8-rl.length) l.length=k at *
  have e:rl ++ l=(rl ++ l.take k) ++ l.drop k:=by simp
  have A:(rl ++ l.take k).length=8:=by simp;omega
  rw[rZ v (rl ++ l) Yw,e,List.take_append_of_le_length Ok,List.drop_append_of_le_length Ok,List.take_of_length_le Ok,List.drop_of_length_le Ok]
  simp only[List.drop_zero]
  rw[List.take_of_length_le (show(rl ++ l.take k).length≤8 by omega)]
theorem VZ (v:S4) (rl l:Ly) (k:Nat):jD v (rl ++ l)=jD v ((rl ++ l.take k) ++ l.drop k):=by simp
def td (l:Ly) (i:Nat):Int:=uf l i+4294967296*uf l (i+4)
theorem aeh (l:Ly) (i:Nat):0≤td l i∧td l i<18446744073709551616:=by
  obtain⟨A,B⟩:=vY l i
  obtain⟨C,D⟩:=vY l (i+4)
  unfold td
  omega
theorem Qg (a b k:Nat) (hk:k<64) (ha:a<2 ^ k) (hb:b*2 ^ k<2 ^ 64) :
    bits .or .u64 (a:Int) ((b*2 ^ k:Nat):Int)=((a+b*2 ^ k:Nat):Int):=by
  have D:2 ^ k≤2 ^ 64:=Nat.pow_le_pow_right Ok Ok
  unfold bits
  simp only[BitVec.ofInt_natCast]
  have hb':IntKind.u64.bits=64:=rfl
  rw[BitVec.toNat_or,BitVec.toNat_ofNat,BitVec.toNat_ofNat,hb',Nat.mod_eq_of_lt Ok,Nat.mod_eq_of_lt hb]
  have:=Nat.two_pow_add_eq_or_of_lt (i:=k) ha b
  rw[Nat.or_comm,show b*2 ^ k=2 ^ k*b from Nat.mul_comm _ _,← this]
  have A:a+2 ^ k*b<2 ^ 64:=by
    obtain⟨c,B⟩:∃c,2 ^ 64=2 ^ k*c:=⟨2 ^ (64-k),by rw[← Nat.pow_add];congr 1;omega⟩
    have C:b<c:=by
      rw[B,Nat.mul_comm]at hb
      exact Nat.lt_of_mul_lt_mul_left hb
    calc a+2 ^ k*b<2 ^ k+2 ^ k*b:=by omega
      _=2 ^ k*(b+1):=by rw[Nat.mul_add];omega
      _≤2 ^ k*c:=Nat.mul_le_mul_left _ C
      _=2 ^ 64:=B.symm
  rw[Nat.add_comm (2 ^ k*b) a]
  exact wrap_u64 Ok (by have:=Int.ofNat_lt.2 A;simpa using this)
theorem KH (a:Nat) (k:Nat) (hk:k≤64) (h:a*2 ^ k<2 ^ 64):lR .u64 (a:Int) (k:Int)=((a*2 ^ k:Nat):Int):=by
  unfold lR
  have:min (k:Int).toNat IntKind.u64.bits=k:=by
    have:IntKind.u64.bits=64:=rfl
    rw[this];omega
  rw[this]
  have e:(a:Int)*2 ^ k=((a*2 ^ k:Nat):Int):=by rw[Int.natCast_mul,Int.natCast_pow];rfl
  rw[e]
  exact wrap_u64 Ok (by have:=Int.ofNat_lt.2 h;simpa using this)
theorem WU (l:Ly) (a:Int) (ha:0≤a) :
    bits .or .u64 (IntKind.u64.wrap (uf l a.toNat)) (lR .u64 (IntKind.u64.wrap (uf l (a+4).toNat)) 32)=td l a.toNat:=by
  obtain⟨A,E⟩:=vY l a.toNat
  obtain⟨B,F⟩:=vY l (a+4).toNat
  rw[wrap_u64 A Ok,wrap_u64 B Ok]
  obtain⟨x,C⟩:=Int.eq_ofNat_of_zero_le A
  obtain⟨y,D⟩:=Int.eq_ofNat_of_zero_le B
  unfold td
  rw[show a.toNat+4=(a+4).toNat by omega,C,D]
  rw[C]at E;rw[D]at F
  have e:=KH y 32 Ok Ok
  rw[show((32:Nat):Int)=32 from rfl]at e
  rw[e,Qg x y 32 Ok Ok Ok]
  omega
theorem uW (l:Ly) (i:Nat):td l i=gU [l.getD i 0,l.getD (i+1) 0,l.getD (i+2) 0,l.getD (i+3) 0,l.getD (i+4) 0,l.getD (i+5) 0,l.getD (i+6) 0,l.getD (i+7) 0]:=by
  simp only[td,uf,gU,Nat.add_assoc,Nat.reduceAdd]
  omega
theorem NS (l:Ly) (i:Nat) (h:i+8≤l.length):(l.drop i).take 8=[l.getD i 0,l.getD (i+1) 0,l.getD (i+2) 0,l.getD (i+3) 0,l.getD (i+4) 0,l.getD (i+5) 0,l.getD (i+6) 0,l.getD (i+7) 0]:=by
  apply List.ext_getElem
  · simp;omega
  intro j B A
  simp at A
  have:j=0∨j=1∨j=2∨j=3∨j=4∨j=5∨j=6∨j=7:=by omega
  rcases this with rfl|rfl|rfl|rfl|rfl|rfl|rfl|rfl <;> simp[List.getD] <;> rw[List.getElem?_eq_getElem Ok] <;> rfl
theorem uY (l:Ly) (i:Nat) (h:i+8≤l.length):gU ((l.drop i).take 8)=td l (i:Int).toNat:=by
  rw[NS l i h,show(i:Int).toNat=i from rfl,uW]
theorem KI (key:Ly) (h:key.length=16):(pu key).arr =
    [.int .u64 (bits .xor .u64 (td key (0:Int).toNat) 8317987319222330741),.int .u64 (bits .xor .u64 (td key (8:Int).toNat) 7237128888997146477),
     .int .u64 (bits .xor .u64 (td key (0:Int).toNat) 7816392313619706465),.int .u64 (bits .xor .u64 (td key (8:Int).toNat) 8387220255154660723)]:=by
  have A:=uY key 0 Ok
  have B:=uY key 8 Ok
  rw[show((0:Nat):Int)=0 from rfl]at A
  rw[show((8:Nat):Int)=8 from rfl]at B
  simp only[pu,S4.arr,A,B,kF]
theorem KJ (r:Ly) (n:Nat) (h:r.length<8):gU (((jE r n).drop 0).take 8)=bits .or .u64 (td r 0) (lR .u64 (IntKind.u64.wrap ((n:Int).tmod 256)) 56):=by
  have R:=sd r n Ok
  have G:=uY (jE r n) 0 Ok
  rw[G,show((0:Nat):Int).toNat=0 from rfl]
  have B:∀i,i<7→(jE r n).getD i 0=r.getD i 0:=by
    intro i Q
    rw[← zL 8 r i]
    simp only[jE,List.getD]
    rw[List.getElem?_set_ne Ok]
  have H:(jE r n).getD 7 0=UInt8.ofNat n:=by
    simp only[jE,List.getD]
    rw[List.getElem?_set_self (by rw[pZ 8 r Ok];omega)]
    simp
  have C:r.getD 7 0=0:=yR r 7 Ok
  have F:td (jE r n) 0=td r 0+72057594037927936*((n%256:Nat):Int):=by
    rw[uW,uW]
    simp only[gU,Nat.zero_add]
    rw[B 0 Ok,B 1 Ok,B 2 Ok,B 3 Ok,B 4 Ok,B 5 Ok,B 6 Ok,H,C]
    have:((UInt8.ofNat n).toNat:Int)=((n%256:Nat):Int):=by simp
    have D:((0:UInt8).toNat:Int)=0:=rfl
    rw[this,D]
    omega
  have A:0≤td r 0∧td r 0<72057594037927936:=by
    refine⟨(aeh r 0).1,?_⟩
    rw[uW]
    simp only[gU,Nat.zero_add,C]
    have J:=(r.getD 0 0).toNat_lt;have K:=(r.getD 1 0).toNat_lt;have L:=(r.getD 2 0).toNat_lt;have M:=(r.getD 3 0).toNat_lt
    have N:=(r.getD 4 0).toNat_lt;have O:=(r.getD 5 0).toNat_lt;have P:=(r.getD 6 0).toNat_lt
    have D:((0:UInt8).toNat:Int)=0:=rfl
    simp only[D]
    omega
  obtain⟨x,E⟩:=Int.eq_ofNat_of_zero_le A.1
  have I:(n:Int).tmod 256=((n%256:Nat):Int):=by rw[Int.tmod_eq_emod_of_nonneg Ok];omega
  rw[F,I,E,wrap_u64 Ok Ok]
  rw[E]at A
  have e:=KH (n%256) 56 Ok Ok
  rw[show((56:Nat):Int)=56 from rfl]at e
  rw[e,Qg x (n%256) 56 Ok Ok Ok]
  omega
theorem YJ (l:Ly) (d i:Nat):td (l.drop d) i=td l (d+i):=by simp only[td,IE,Nat.add_assoc]
theorem aaE (l:Ly) (v:S4) (k:Nat) (hk:k≤l.length) (h8:l.length<k+8) :
    bits .xor .u64 (bits .xor .u64 (bits .xor .u64 (er 4 (((er 2 (v.xs (bits .or .u64 (td l (k:Int).toNat) (lR .u64 (IntKind.u64.wrap ((l.length:Int).tmod 256)) 56)))).xp (bits .or .u64 (td l (k:Int).toNat) (lR .u64 (IntKind.u64.wrap ((l.length:Int).tmod 256)) 56))).xr 255)).p
        (er 4 (((er 2 (v.xs (bits .or .u64 (td l (k:Int).toNat) (lR .u64 (IntKind.u64.wrap ((l.length:Int).tmod 256)) 56)))).xp (bits .or .u64 (td l (k:Int).toNat) (lR .u64 (IntKind.u64.wrap ((l.length:Int).tmod 256)) 56))).xr 255)).q)
        (er 4 (((er 2 (v.xs (bits .or .u64 (td l (k:Int).toNat) (lR .u64 (IntKind.u64.wrap ((l.length:Int).tmod 256)) 56)))).xp (bits .or .u64 (td l (k:Int).toNat) (lR .u64 (IntKind.u64.wrap ((l.length:Int).tmod 256)) 56))).xr 255)).r)
        (er 4 (((er 2 (v.xs (bits .or .u64 (td l (k:Int).toNat) (lR .u64 (IntKind.u64.wrap ((l.length:Int).tmod 256)) 56)))).xp (bits .or .u64 (td l (k:Int).toNat) (lR .u64 (IntKind.u64.wrap ((l.length:Int).tmod 256)) 56))).xr 255)).s=AA v (l.drop k) l.length:=by
  have e:td l (k:Int).toNat=td (l.drop k) 0:=by rw[YJ];rfl
  rw[e,← KJ (l.drop k) l.length Yw]
  unfold AA nP
  generalize gU (((jE (l.drop k) (l.length:Int)).drop 0).take 8)=m
  generalize er 4 (((er 2 (v.xs m)).xp m).xr 255)=u
  rfl
end Go.Wk
namespace Go.Wk
open Go Go.RowKit Go.ChangeShapes Go.WideShapes Go.ChangeAt Go.Deep
section
variable {H:Type} {enc:TypeId × Value→H} {P:Program} {w:World} {t e:TypeId} {v:Value} {d:DataW H} {ps:List MemPlace}
def Rows (w:World) (v:Value) (vs:List Value) (ls:List (List UInt8)):Prop:=Sl w v vs∧vs.length=ls.length∧∀(i:Nat) (u:Value) (l:Ly),vs[i]? = some u→ls[i]? = some l→By w u l
end
end Go.Wk
namespace Go.Wk
open Go Go.RowKit
section
variable {P:Program} {ops:Array Oper} {md:Region.Mode} {C:World→Prop} {Q:Exit→Act→World→Prop} {E:Array Bool→Act→World→Prop}
def uy (P:Program) (md:Region.Mode) (ops:Array Oper) (C:World→Prop) (E:Array Bool→Act→World→Prop):Nat→Array Bool→Act→World→Prop
  | 0,listed,a,w=>E listed a w
  | f+1,listed,a,w=>Region.ready md ops listed≠[]∧∀i∈Region.ready md ops listed,opC P ops C i (uy P md ops C E f (listed.setIfInBounds i true)) a w
theorem qO {t:Nat} (hE:∀listed a w,E listed a w→wpAny P md ops Q t listed a w):∀(f:Nat) (listed:Array Bool) (a:Act) (w:World),uy P md ops C E f listed a w→wpAny P md ops Q (f+t) listed a w
  | 0,listed,a,w,h=>by rw[Nat.zero_add];exact hE _ _ _ h
  | f+1,listed,a,w,h=>by
    rw[show f+1+t=(f+t)+1 by omega]
    refine⟨fun h0=>absurd h0 h.1,fun i hi=>?_⟩
    have h1:=h.2 i hi
    unfold opC at h1
    unfold wpOp
    split
    · rename_i ho;rw[ho]at h1;exact qO hE f _ a w h1
    · rename_i o ho
      rw[ho]at h1
      simp only at h1
      split
      · rename_i hw;rw[if_pos hw]at h1;exact .inl (NY (fun a' w' hx=>qO hE f _ a' w' hx.2) h1)
      · rename_i hw;rw[if_neg hw]at h1;exact qO hE f _ _ w h1
def Closed (md:Region.Mode) (ops:Array Oper) (listed:Array Bool):Prop:=∀k ok,ops[k]? = some ok→listed.getD k false=true→∀e∈ok.after,Region.binds md e=true→listed.getD e.on false=true
theorem Closed.set {listed:Array Bool} {i:Nat} (h:Closed md ops listed) (hi:i∈Region.ready md ops listed):Closed md ops (listed.setIfInBounds i true):=by
  intro k I hk G e F E
  have B:listed.getD e.on false=true→(listed.setIfInBounds i true).getD e.on false=true:=fun D=>by
    by_cases hei:e.on=i
    · rw[hei]at D ⊢
      rcases Nat.lt_or_ge i listed.size with C|C
      · simp[C]
      · simp[Array.getElem?_eq_none C]at D
    · rw[getD_set_ne false (Ne.symm hei)];exact D
  by_cases hki:k=i
  · subst hki
    obtain⟨_,o,H,A⟩:=mem_ready.1 hi
    rw[hk]at H
    cases H
    exact B (A e F E)
  rw[getD_set_ne false (Ne.symm hki)]at G
  exact B (h k I hk G e F E)
def uw (md:Region.Mode) (ops:Array Oper) (i:Nat):Nat→Nat→Bool
  | 0,_=>false
  | f+1,j=>match ops[j]? with
    | some o=>o.after.any fun e=>Region.binds md e && (Nat.beq e.on i || uw md ops i f e.on)
    | none=>false
theorem zT {i:Nat} {listed:Array Bool} (hC:Closed md ops listed):∀(f j:Nat) (oj:Oper),ops[j]? = some oj→uw md ops i f j=true→(∀e∈oj.after,Region.binds md e=true→listed.getD e.on false=true)→listed.getD i false=true
  | 0,j,oj,_,h,_=>by simp[uw]at h
  | f+1,j,oj,hj,h,hall=>by
    simp only[uw,hj,Array.any_eq_true,Bool.and_eq_true,Bool.or_eq_true]at h
    obtain⟨k,hk,hb,h2⟩:=h
    have hm:oj.after[k]∈oj.after:=Array.getElem_mem hk
    have h3:=hall _ hm hb
    rcases h2 with h2|h2
    · rw[← Nat.eq_of_beq_eq_true h2];exact h3
    · cases ho:ops[oj.after[k].on]? with
      | none=>cases f<;>simp[uw,ho]at h2
      | some ok=>exact zT hC f _ ok ho h2 (hC _ ok ho h3)
def Behind (md:Region.Mode) (ops:Array Oper) (tl:List Nat) (i:Nat):Prop:=∀j∈tl,uw md ops i ops.size j=true
theorem vJ {tl:List Nat} {i:Nat} {oi:Oper} {v:Value} (hi:ops[i]? = some oi) (hsel:∀(j:Nat) (o:Oper) cs b,ops[j]? = some o→o.op≠.select cs b)
    (hT:Behind md ops tl i) (hE:∀listed a w,E listed a w→∀j∈Region.ready md ops listed,j∈tl) :
    ∀(f:Nat) (listed:Array Bool) (a:Act) (w:World),
      (∀j oj,ops[j]? = some oj→j≠i→listed.getD j true=false→(∀e∈oj.after,Region.binds md e=true→e.on≠i)→oi.apart ops oj=true) →
      Closed md ops listed→i∈Region.ready md ops listed→C w→Qv P ops C oi v a →
      uy P md ops C E f (listed.setIfInBounds i true) (a.put oi.dst v) w→uy P md ops C E (f+1) listed a w:=by
  intro f
  induction f with
  | zero =>
    intro listed a w _ K I S T H
    refine⟨fun h=>(by rw[h]at I;cases I),fun j L=>?_⟩
    by_cases hji:j=i
    · subst hji;exact T.opC hi S H
    · have U:=hE _ _ _ H j (ready_mono L hji)
      obtain⟨_,oj,D,A⟩:=mem_ready.1 L
      have F:=zT K _ j oj D (hT j U) A
      have M:=(mem_ready.1 I).1
      exfalso
      rcases Nat.lt_or_ge i listed.size with J|J
      · simp[J]at M F;rw[M]at F;cases F
      · simp[Array.getElem?_eq_none J]at F
  | succ f ih =>
    intro listed a w B K I S T H
    refine⟨fun h=>(by rw[h]at I;cases I),fun j L=>?_⟩
    by_cases hji:j=i
    · subst hji;exact T.opC hi S H
    · have U:=H.2 j (ready_mono L hji)
      obtain⟨G,oj,D,A⟩:=mem_ready.1 L
      have O:∀e∈oj.after,Region.binds md e=true→e.on≠i:=fun e g W X=>by
        have F:=A e g W
        have M:=(mem_ready.1 I).1
        rw[X]at F
        rcases Nat.lt_or_ge i listed.size with J|J
        · simp[J]at M F;rw[M]at F;cases F
        · simp[Array.getElem?_eq_none J]at F
      have N:=B j oj D hji G O
      obtain⟨_,_,c⟩:=Oper.apart_spec N
      have hfree':∀k R,ops[k]? = some R→k≠i→(listed.setIfInBounds j true).getD k true=false →
          (∀e∈R.after,Region.binds md e=true→e.on≠i)→oi.apart ops R=true:=fun k R hk Y Q Z=>by
        refine B k R hk Y ?_ Z
        by_cases hjk:j=k
        · subst hjk;exact G
        · rw[getD_set_ne true hjk]at Q;exact Q
      refine Qf D N (fun cs b=>hsel j oj cs b D) (fun b u l W V d=>?_) S U
      refine ih (listed.setIfInBounds j true) _ l hfree' (K.set L) (ready_mono I (Ne.symm hji)) V ((T.same W).keep (fun cs b=>hsel i oi cs b hi) c) ?_
      rw[Array.setIfInBounds_comm _ _ hji]
      exact d
theorem pA {C':World→Prop} (hC:∀x,C' x→C x):∀(f:Nat) (listed:Array Bool) (a:Act) (w:World),uy P md ops C' E f listed a w→uy P md ops C E f listed a w
  | 0,_,_,_,h=>h
  | f+1,listed,a,w,h=>⟨h.1,fun i hi=>by
      have h1:=h.2 i hi
      unfold opC at *
      split
      · rename_i ho;rw[ho]at h1;exact pA hC f _ a w h1
      · rename_i o ho
        rw[ho]at h1
        simp only at h1
        split
        · rename_i hw;rw[if_pos hw]at h1;exact sW (fun a' w' hx=>⟨hC _ hx.1,pA hC f _ a' w' hx.2⟩) h1
        · rename_i hw;rw[if_neg hw]at h1;exact pA hC f _ _ w h1⟩
def OE (md:Region.Mode) (ops:Array Oper) (tl:List Nat) (i:Nat):Bool:=tl.all fun j=>uw md ops i ops.size j
theorem EJ {tl:List Nat} {i:Nat} (h:OE md ops tl i=true):Behind md ops tl i:=fun j hj=>List.all_eq_true.1 h j hj
def chainB (md:Region.Mode) (ops:Array Oper):List Nat→Array Bool→Bool
  | [],listed=>(Region.ready md ops listed).isEmpty
  | j :: r,listed=>(ops[j]?).isSome && decide (Region.ready md ops listed=[j]) && chainB md ops r (listed.setIfInBounds j true)
def py (l:List Oper):List Nat→List Oper
  | []=>[]
  | j :: r=>match l[j]? with
    | some o=>o :: py l r
    | none=>py l r
theorem vM:∀(tl:List Nat) (listed:Array Bool) (a:Act) (w:World),chainB md ops tl listed=true→wpList P ops Q (py ops.toList tl) a w→wpAny P md ops Q tl.length listed a w
 | [],listed,a,w,hB,h=>⟨by simpa [chainB]using hB,h⟩
 | j :: r,listed,a,w,hB,h=>by
  simp only[chainB,Bool.and_eq_true,decide_eq_true_eq]at hB
  obtain⟨⟨h0,h1⟩,h2⟩:=hB
  obtain⟨o,ho⟩:=Option.isSome_iff_exists.1 h0
  have hol:ops.toList[j]? = some o:=by simpa using ho
  simp only[py,hol]at h
  refine⟨fun B=>(by rw[h1]at B;cases B),fun i C=>?_⟩
  rw[h1]at C
  have A:i=j:=by simpa using C
  subst A
  unfold wpOp
  unfold wpList at h
  simp only[ho]
  split at h
  ·rename_i hw
   rw[if_pos hw]
   exact h.imp (fun E=>Oper.wp_mono (fun D G F=>vM r _ D G h2 F) E) id
  ·rename_i hw
   rw[if_neg hw]
   exact vM r _ _ w h2 h
def PF (md:Region.Mode) (ops:Array Oper) (tl:List Nat):List (Nat × Bool)→Array Bool→Bool
  | [],listed=>chainB md ops tl listed
  | (i,q) :: r,listed=>(ops[i]?).isSome && (if q then(Region.ready md ops listed).contains i && Region.free md ops listed i && OE md ops tl i else decide (Region.ready md ops listed=[i])) && PF md ops tl r (listed.setIfInBounds i true)
theorem GN {tl:List Nat} {listed:Array Bool} (h:chainB md ops tl listed=true):∀j∈Region.ready md ops listed,j∈tl:=by
  intro j A
  cases tl with
  | nil=>simp only[chainB,List.isEmpty_iff]at h;rw[h]at A;cases A
  | cons k r =>
    simp only[chainB,Bool.and_eq_true,decide_eq_true_eq]at h
    rw[h.1.2]at A
    simp at A
    simp[A]
theorem kO {tl:List Nat} (hs:Region.noSelect ops=true):∀{C:World→Prop} (ord:List (Nat × Bool)) (listed:Array Bool) (a:Act) (w:World),Closed md ops listed→C w→PF md ops tl ord listed=true →
    fF P ops C (fun a w=>wpList P ops Q (py ops.toList tl) a w) (rW ops.toList ord) a w →
    uy P md ops C (fun listed a w=>chainB md ops tl listed=true∧wpList P ops Q (py ops.toList tl) a w) ord.length listed a w
  | _,[],listed,a,w,_,_,hB,h=>⟨hB,h⟩
  | _,(i,q) :: r,listed,a,w,hcl,hC,hB,h=>by
    simp only[PF,Bool.and_eq_true]at hB
    obtain⟨⟨h0,h1⟩,h2⟩:=hB
    obtain⟨o,ho⟩:=Option.isSome_iff_exists.1 h0
    have hol:ops.toList[i]? = some o:=by simpa using ho
    simp only[rW,hol]at h
    cases q with
    | true =>
      simp only[if_true,Bool.and_eq_true]at h1
      simp only[fF]at h
      have B:i∈Region.ready md ops listed:=by simpa using h1.1.1
      have F:=EJ h1.2
      split at h
      · rename_i hw
        obtain⟨v,K,hk⟩:=h
        exact vJ ho (Region.noSelect_spec hs) F (fun _ _ _ A=>GN A.1) r.length listed a w (Region.free_spec ho h1.1.2) hcl B hC (.inl ⟨hw,K⟩) (kO hs r _ _ _ (hcl.set B) hC h2 hk)
      · rename_i hw
        exact vJ ho (Region.noSelect_spec hs) F (fun _ _ _ A=>GN A.1) r.length listed a w (Region.free_spec ho h1.1.2) hcl B hC (.inr ⟨by simpa using hw,rfl⟩) (kO hs r _ _ _ (hcl.set B) hC h2 h)
    | false =>
      simp only[Bool.false_eq_true,if_false,decide_eq_true_eq]at h1
      simp only[fF]at h
      refine⟨fun E=>(by rw[h1]at E;cases E),fun j G=>?_⟩
      rw[h1]at G
      have D:j=i:=by simpa using G
      subst D
      have hcl':=hcl.set (i:=j) (by rw[h1];simp)
      unfold opC
      simp only[ho]
      split at h
      · rename_i hw
        rw[if_pos hw]
        exact sW (fun M N A=>⟨A.1,by obtain⟨L,H,I,J⟩:=A.2;exact pA I _ _ _ _ (kO hs r _ _ _ hcl' H h2 J)⟩) h
      · rename_i hw
        rw[if_neg hw]
        exact kO hs r _ _ _ hcl' hC h2 h
def YP (md:Region.Mode) (ops:Array Oper) (ord:List (Nat × Bool)) (tl:List Nat):Bool:=Region.noSelect ops && decide (ord.length+tl.length=ops.size) && PF md ops tl ord (Array.replicate ops.size false)
theorem cT {id:Nat} {lo:List Oper} {a:Act} {w:World} (ord:List (Nat × Bool)) (tl:List Nat) (C:World→Prop) (hm:P.follows .mixedOrders=true) (hB:YP .any lo.toArray ord tl=true)
    (h:∀w',Md [] w w'→C w'∧fF P lo.toArray C (fun a w=>wpList P lo.toArray Q (py lo tl) a w) (rW lo ord) a w'):(Code.region id lo.toArray true).wp P Q a w:=by
  simp only[YP,Bool.and_eq_true,decide_eq_true_eq]at hB
  obtain⟨⟨G,H⟩,I⟩:=hB
  obtain⟨J,hk⟩:=h _ (Md.drew w)
  refine wp_region_any hm ?_
  have:=kO (md:=.any) (C:=C) (Q:=Q) (tl:=tl) G ord _ a _ (fun k K hk D=>by simp[Array.getD_eq_getD_getElem?,Array.getElem?_replicate]at D;split at D<;>simp at D) J I (by simpa using hk)
  have B:=qO (Q:=Q) (t:=tl.length) (E:=fun A a w=>chainB .any lo.toArray tl A=true∧wpList P lo.toArray Q (py lo.toArray.toList tl) a w) (fun A a w F=>vM tl A a w F.1 F.2) _ _ _ _ this
  rwa [H]at B
end
end Go.Wk
