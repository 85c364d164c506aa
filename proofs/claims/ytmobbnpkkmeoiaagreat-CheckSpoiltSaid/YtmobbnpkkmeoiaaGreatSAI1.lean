/- Part 1 of what the walk of a law stands on: Base, Ops, Steps, Draws, Strings, FieldP, HashP, Rep, Nums, Puts, Loops, Opens, Tails, More, LeP. No statement is proved here. -/
import Derived.WalkKit
import Derived.WalkSpells
import Derived.WalkLawsBesides
import Derived.Deep.Quiet
import Derived.StillTail
import Derived.KernelRfl
import Derived.Deep.LoopGhost
import Derived.Laws.IdiomStrings
import Derived.Laws.StructEq
import Derived.Laws.Externs
import Derived.Lib.BytesEntry
import Derived.Lib.IndexLaws
import Derived.ProofKit
import Derived.OpenShut
import Derived.ShutString
import Derived.Deep.Slices
import Derived.Sort.Grow
import Derived.Lib.SliceRun
import Derived.Recover
import Derived.Lib.SmallJoins
set_option linter.unusedVariables false
set_option linter.unusedSimpArgs false
namespace Go.Wk
open Go Go.RowKit
theorem q {α:Sort _} {a:α}:a=a:=rfl
theorem dT {p:Prop} [Decidable p] (h:decide p=true):p:=of_decide_eq_true h
theorem dF {p:Prop} [Decidable p] (h:decide p=false):¬p:=of_decide_eq_false h
theorem lB {a b:Nat} (h:Nat.ble a b=true):a≤b:=Nat.le_of_ble_eq_true h
theorem lj {a b c:Nat} (h:a<b) (k:b≤c):a<c:=Nat.lt_of_lt_of_le h k
theorem ly {a b c:Nat} (h:a≤b) (k:b≤c):a≤c:=Nat.le_trans h k
theorem tV:True:=True.intro
theorem Oq {p:Prop} (h:p:=by simp):p:=h
theorem Oh {p:Prop} (h:p:=by omega):p:=h
theorem Om {p:Prop} (h:p:=by decide):p:=h
theorem Ym {p:Prop} (h:p:=by kernel_rfl):p:=h
theorem Vx {p:Prop} (h:p:=by assumption):p:=h
theorem Vw {p:Prop} (h:p:=by simp;omega):p:=h
theorem Wy {p:Prop} (h:p:=by(simp<;>omega)):p:=h
theorem Lw {p:Prop} (h:p:=by simp only;omega):p:=h
theorem Mm {p:Prop} (h:p:=by simp[List.length_take,List.length_drop];omega):p:=h
theorem Nv {p:Prop} (h:p:=by intro h;simp at h;omega):p:=h
theorem AB {b:Bool} (h:(!b)=true):b=false:=by cases b<;>simp_all
theorem AA {b:Bool} (h:(!b)=false):b=true:=by cases b<;>simp_all
def look:List (Nat × Value)→Nat→Option Value
  | [],_=>none
  | (k,v) :: r,t=>cond (Nat.beq k t) (some v) (look r t)
structure Fr (n:Nat) where
  tmps:Array Value
  size:tmps.size=n
def b9 {n:Nat} (A:Fr n) (D:List Deferred):List (Nat × Value)→Act
  | []=>⟨A.tmps,D⟩
  | (k,v) :: r=>(b9 A D r).put (some k) v
def ev (n:Nat) (l:List (Nat × Value)):Operand→Option Value
  | .tmp t=>cond (Nat.ble n t) none (look l t)
  | .const v=>some v
  | .global g=>some (.pointer (some ⟨g,0,none⟩))
  | .func f=>some (.func (.func f) #[] #[])
section
variable {n:Nat} {A:Fr n} {D:List Deferred} {l:List (Nat × Value)}
theorem yT:(b9 A D l).tmps.size=n:=by
  induction l with
  | nil=>exact A.size
  | cons p r ih=>simp[b9,Act.put,ih]
theorem gU:(b9 A D l).defers=D:=by
  induction l with
  | nil=>rfl
  | cons p r ih=>simp[b9,Act.put,ih]
theorem ZO {t:Nat} {v:Value} (ht:t<n) (h:look l t=some v):(b9 A D l).tmps.getD t undef=v:=by
  induction l with
  | nil=>simp[look]at h
  | cons p r ih =>
    obtain⟨k,u⟩:=p
    simp only[look]at h
    have E:(b9 A D r).tmps.size=n:=yT
    by_cases hk:k=t
    · subst hk
      simp at h
      subst h
      simp[b9,Act.put,Array.getD,E,ht]
    · have:Nat.beq k t=false:=Bool.eq_false_iff.2 fun B=>hk (Nat.eq_of_beq_eq_true B)
      simp only[this,cond_false]at h
      have C:=ih h
      rw[← C]
      show((b9 A D r).tmps.setIfInBounds k u).getD t undef=_
      simp[hk]
theorem cF {x:Operand} {v:Value} (h:ev n l x=some v):(b9 A D l).eval x=v:=by
  cases x with
  | tmp t =>
    simp only[ev]at h
    cases ht:Nat.ble n t with
    | true=>simp[ht]at h
    | false =>
      simp only[ht,cond_false]at h
      have:t<n:=Nat.lt_of_not_le fun B=>by rw[Nat.ble_eq_true_of_le B]at ht;cases ht
      exact ZO this h
  | const u=>simp only[ev,Option.some.injEq]at h;exact h
  | global g=>simp only[ev,Option.some.injEq]at h;exact h
  | func f=>simp only[ev,Option.some.injEq]at h;exact h
def evs (n:Nat) (l:List (Nat × Value)):List Operand→Option (List Value)
  | []=>some []
  | x :: r=>match ev n l x,evs n l r with
    | some v,some vs=>some (v :: vs)
    | _,_=>none
theorem nB {xs:List Operand} {vs:List Value} (h:evs n l xs=some vs):xs.map (b9 A D l).eval=vs:=by
  induction xs generalizing vs with
  | nil=>simpa [evs]using h
  | cons x r ih =>
    simp only[evs]at h
    split at h
    · rename_i v us h1 h2
      simp at h;subst h
      simp[cF h1,ih h2]
    · cases h
def Fits (n:Nat) (l:List (Nat × Value)):List (Nat × Value)→Prop
  | []=>True
  | (t,v) :: r=>ev n l (.tmp t)=some v∧Fits n l r
theorem QC (a:Act) (t:Nat) (v:Value) (h:a.tmps.getD t undef=v):a.put (some t) v=a:=by
  cases a with
  | mk tm ds =>
    simp only[Act.put]
    congr 1
    apply Array.ext
    · simp
    · intro i A B
      rw[Array.getElem_setIfInBounds]
      split
      · rename_i e;subst e;subst h;simp at A;simp[Array.getD,A]
      · rfl
theorem ae5 (a:Act) (h:a.defers=D):(⟨a.tmps,D⟩:Act)=a:=by cases a;subst h;rfl
theorem ga {l1:List (Nat × Value)} (h:Fits n l l1):b9 (⟨(b9 A D l).tmps,yT⟩:Fr n) D l1=b9 A D l:=by
  induction l1 with
  | nil=>exact ae5 _ gU
  | cons p r ih =>
    obtain⟨t,v⟩:=p
    simp only[Fits]at h
    simp only[b9]
    rw[ih h.2]
    exact QC _ _ _ (by have:=cF (A:=A) (D:=D) h.1;simpa [Act.eval]using this)
end
structure Md (S:List Nat) (w w':World):Prop where
  os:w'.os=w.os
  tape:w'.tape=w.tape
  output:w'.output=w.output
  size:w.heap.size≤w'.heap.size
  block:∀k,k<w.heap.size→k∉S→w'.heap[k]? = w.heap[k]?
class Tp (w w':World) (A:Prop) (B:outParam Prop):Prop where t:Md [] w w'→A→B
theorem k2 {w w':World} {A B A' B':Prop} [Tp w w' A A'] [Tp w w' B B'] (m:Md [] w w') (a:A) (b:B):A'∧B':=⟨Tp.t m a,Tp.t m b⟩
theorem k3 {w w':World} {A B C A' B' C':Prop} [Tp w w' A A'] [Tp w w' B B'] [Tp w w' C C'] (m:Md [] w w') (a:A) (b:B) (c:C):A'∧B'∧C':=⟨Tp.t m a,Tp.t m b,Tp.t m c⟩
theorem k4 {w w':World} {A B C D A' B' C' D':Prop} [Tp w w' A A'] [Tp w w' B B'] [Tp w w' C C'] [Tp w w' D D'] (m:Md [] w w') (a:A) (b:B) (c:C) (d:D):A'∧B'∧C'∧D':=⟨Tp.t m a,Tp.t m b,Tp.t m c,Tp.t m d⟩
theorem k5 {w w':World} {A B C D E A' B' C' D' E':Prop} [Tp w w' A A'] [Tp w w' B B'] [Tp w w' C C'] [Tp w w' D D'] [Tp w w' E E'] (m:Md [] w w') (a:A) (b:B) (c:C) (d:D) (e:E):A'∧B'∧C'∧D'∧E':=⟨Tp.t m a,Tp.t m b,Tp.t m c,Tp.t m d,Tp.t m e⟩
theorem k6 {w w':World} {A B C D E F A' B' C' D' E' F':Prop} [Tp w w' A A'] [Tp w w' B B'] [Tp w w' C C'] [Tp w w' D D'] [Tp w w' E E'] [Tp w w' F F'] (m:Md [] w w') (a:A) (b:B) (c:C) (d:D) (e:E) (f:F):A'∧B'∧C'∧D'∧E'∧F':=⟨Tp.t m a,Tp.t m b,Tp.t m c,Tp.t m d,Tp.t m e,Tp.t m f⟩
theorem k7 {w w':World} {A B C D E F G A' B' C' D' E' F' G':Prop} [Tp w w' A A'] [Tp w w' B B'] [Tp w w' C C'] [Tp w w' D D'] [Tp w w' E E'] [Tp w w' F F'] [Tp w w' G G'] (m:Md [] w w') (a:A) (b:B) (c:C) (d:D) (e:E) (f:F) (g:G):A'∧B'∧C'∧D'∧E'∧F'∧G':=⟨Tp.t m a,Tp.t m b,Tp.t m c,Tp.t m d,Tp.t m e,Tp.t m f,Tp.t m g⟩
theorem k8 {w w':World} {A B C D E F G H A' B' C' D' E' F' G' H':Prop} [Tp w w' A A'] [Tp w w' B B'] [Tp w w' C C'] [Tp w w' D D'] [Tp w w' E E'] [Tp w w' F F'] [Tp w w' G G'] [Tp w w' H H'] (m:Md [] w w') (a:A) (b:B) (c:C) (d:D) (e:E) (f:F) (g:G) (h:H):A'∧B'∧C'∧D'∧E'∧F'∧G'∧H':=⟨Tp.t m a,Tp.t m b,Tp.t m c,Tp.t m d,Tp.t m e,Tp.t m f,Tp.t m g,Tp.t m h⟩
theorem Md.refl (S:List Nat) (w:World):Md S w w:=⟨q,q,q,Nat.le_refl _,fun _ _ _=>rfl⟩
theorem Md.trans {S:List Nat} {a b c:World} (h:Md S a b) (k:Md S b c):Md S a c :=
  ⟨k.os.trans h.os,k.tape.trans h.tape,k.output.trans h.output,ly h.size k.size,fun i hi hs=>(k.block i (lj hi h.size) hs).trans (h.block i hi hs)⟩
theorem Md.mono {S T:List Nat} {a b:World} (h:Md S a b) (hs:∀k,k∈S→k<a.heap.size→k∈T):Md T a b :=
  ⟨h.os,h.tape,h.output,h.size,fun i hi ht=>h.block i hi fun hm=>ht (hs i hm hi)⟩
theorem Md.step {S T:List Nat} {a b c:World} (h:Md S a b) (k:Md T b c) (hT:∀i,i∈T→i∈S∨a.heap.size≤i):Md S a c :=
  ⟨k.os.trans h.os,k.tape.trans h.tape,k.output.trans h.output,ly h.size k.size,fun i hi hs =>
    (k.block i (lj hi h.size) fun hm=>(hT i hm).elim hs fun h'=>by omega).trans (h.block i hi hs)⟩
theorem Md.k {S:List Nat} {a b c:World} (h:Md S a b) (k:Md [] b c):Md S a c:=h.step k Oq
instance amg {S:List Nat} {a b c:World}:Tp b c (Md S a b) (Md S a c):=⟨fun m h=>h.k m⟩
theorem Md.fW {S:List Nat} {a b c:World} {i:Nat} (h:Md S a b) (k:Md [i] b c) (hi:a.heap.size≤i):Md S a c :=
  h.step k (by intro j hj;simp at hj;subst hj;exact .inr hi)
theorem Md.jd {S:List Nat} {a b c:World} {i:Nat} (h:Md S a b) (k:Md [i] b c) (hi:i∈S):Md S a c :=
  h.step k (by intro j hj;simp at hj;subst hj;exact .inl hi)
theorem Md.below {w w':World} (h:Md [] w w'):Below w.heap.size w w':=⟨h.os,h.tape,h.output,h.size,fun k hk=>h.block k hk Oq⟩
theorem Md.drew (w:World):Md [] w {w with drawn:=w.drawn+1}:=⟨q,q,q,Nat.le_refl _,fun _ _ _=>rfl⟩
theorem Md.alloc (w:World) (o:Obj):Md [] w (w.alloc o):=⟨q,q,q,by simp,fun _ hk _=>heap_alloc_old w o hk⟩
theorem Md.setCell (w:World) (a:Addr) (u:Value):Md [a.block] w (w.setCell a u) :=
  ⟨q,q,q,by simp[World.setCell],fun k _ hs=>Below.heap_setCell w a u k (by simpa using hs)⟩
theorem Md.grown {w w':World} {r:Option Nat} (h:w.grownBy w' r):Md r.toList w w' :=
  ⟨h.os,h.tape,h.output,h.size,fun k hk hs=>h.block k hk (by rintro rfl;simp at hs)⟩
theorem Md.cell {S:List Nat} {w w':World} {p:Addr} {u:Value} (h:Md S w w') (hc:w.cell? p=some u) (hs:p.block∉S):w'.cell? p=some u :=
  (World.cell?_of_block (h.block p.block (World.block_lt_of_cell? w p hc) hs)).trans hc
def cg (w:World) (b:Nat) (cs:List Value) (ty:TypeId):Prop:=w.heap[b]? = some (.cells cs.toArray ty (0,0))
section
variable {w w':World} {b:Nat} {cs:List Value} {ty:TypeId}
theorem cg.lt (h:cg w b cs ty):b<w.heap.size:=(Array.getElem?_eq_some_iff.1 h).1
theorem cg.md {S:List Nat} (h:cg w b cs ty) (m:Md S w w') (hs:b∉S):cg w' b cs ty:=(m.block b h.lt hs).trans h
theorem cg.o (h:cg w b cs ty) (m:Md [] w w'):cg w' b cs ty:=h.md m Oq
instance alS:Tp w w' (cg w b cs ty) (cg w' b cs ty):=⟨fun m h=>h.o m⟩
theorem cg.tC {i:Nat} (h:cg w b cs ty) (m:Md [i] w w') (hi:b≠i):cg w' b cs ty:=h.md m (by simpa using hi)
theorem cg.cell (h:cg w b cs ty) (j:Nat):w.cell? ⟨b,j,none⟩=cs[j]?:=by
  unfold cg at h
  simp[World.cell?,h]
theorem cg.frozen (h:cg w b cs ty) (j:Nat):w.frozen? ⟨b,j,none⟩=false:=by
  unfold cg at h
  simp[World.frozen?,h]
theorem cg.set (h:cg w b cs ty) (j:Nat) (u:Value):cg (w.setCell ⟨b,j,none⟩ u) b (cs.set j u) ty:=by
  have A:=h.lt
  unfold cg at h ⊢
  simp only[World.setCell,Array.getElem?_modify,h]
  simp
theorem cg.new (w:World) (cs:List Value) (ty:TypeId):cg (w.alloc (.cells cs.toArray ty)) w.heap.size cs ty:=heap_alloc_new w _
end
def Sl (w:World) (v:Value) (l:List Value):Prop :=
  ∃a cap,v = .slice a l.length cap∧l.length≤cap∧cap≤maxLen∧(a=none→cap=0)∧∀p,a=some p→∀j u,l[j]? = some u→w.cell? (p.add j)=some u
def b8 (x:UInt8):Value:=.int .u8 (x.toNat:Int)
def By (w:World) (v:Value) (l:List UInt8):Prop:=Sl w v (l.map b8)
def oH:Value→Nat→Value
  | .slice (some p) _ _,i=>.pointer (some (p.add i))
  | _,_=>undef
def p6:Value→Nat→Nat→Value
  | .slice a _ cap,lo,hi=>.slice (if cap=lo then a else a.map (·.add lo)) (hi-lo) (cap-lo)
  | _,_,_=>undef
theorem Addr.add_block (p:Addr) (j:Nat):(p.add j).block=p.block:=by unfold Addr.add;split<;>rfl
theorem Addr.add_add (p:Addr) (i j:Nat):(p.add i).add j=p.add (i+j):=by
  unfold Addr.add
  by_cases hi:i=0 <;> by_cases hj:j=0 <;> simp[hi,hj]
  omega
theorem Addr.nW (b o j:Nat):(⟨b,o,none⟩:Addr).add j=⟨b,o+j,none⟩:=by unfold Addr.add;split<;>simp_all
section
variable {w w':World} {v:Value} {l:List Value}
theorem Sl.nil (w:World):Sl w (.slice none 0 0) []:=⟨none,0,q,Nat.le_refl _,by simp[maxLen],fun _=>rfl,by simp⟩
theorem Sl.DV (h:Sl w v l):l.length≤maxLen:=by obtain⟨a,A,_,B,C,_⟩:=h;omega
theorem Sl.o (h:Sl w v l) (m:Md [] w w'):Sl w' v l:=by
  obtain⟨a,A,B,C,D,E,F⟩:=h
  exact⟨a,A,B,C,D,E,fun p G j u H=>m.cell (F p G j u H) Oq⟩
instance amj:Tp w w' (Sl w v l) (Sl w' v l):=⟨fun m h=>h.o m⟩
def ah:Value→Option Nat
  | .slice (some p) _ _=>some p.block
  | _=>none
theorem SS:(∀{c:Prop} {h:Decidable c} (_:c) {α:Type} {t e:α},(if c then t else e)=t)∧(∀{c:Prop} {h:Decidable c} (_:¬c) {α:Type} {t e:α},(if c then t else e)=e)∧(∀{α:Type} {a b:α},(some a).getD b=a)∧(∀{α:Type} {a b:α},(some a=some b)=(a=b))∧((false=true)=False)∧((true=false)=False)∧(∀{h:Decidable True},@decide True h=true)∧(∀{h:Decidable False},@decide False h=false)∧((¬True)=False)∧((¬False)=True) :=
  ⟨fun h=>if_pos h,fun h=>if_neg h,q,by simp,by simp,by simp,by simp,by simp,by simp,by simp⟩
theorem LL:(∀{α:Type} {a:α} {l:List α},(a :: l).length=l.length+1)∧(∀{α:Type},([]:List α).length=0)∧(∀{α:Type} {a b:List α},(a ++ b).length=a.length+b.length)∧(∀{α:Type} {n:Nat} {a:α},(List.replicate n a).length=n)∧(∀(n:Nat),0+n=n) :=
  ⟨q,q,by simp,by simp,by simp⟩
def zr (n:Nat) (v:Value):List Value:=List.replicate n v
def ml (n:Nat):List (Nat × Bool):=(List.range n).map fun i=>(i,true)
abbrev Ly:=List UInt8
abbrev vS (b:Nat) (x y z:Value):List Nat:=b :: (ah x).toList ++ ((ah y).toList ++ ((ah z).toList))
def XK (v:Value) (m:Nat):Prop:=∃a cap,v = .slice a m cap∧m≤cap∧cap≤maxLen∧(a=none→cap=0)
theorem Sl.eJ (h:Sl w v l):XK v l.length:=by obtain⟨a,A,B,C,D,E,_⟩:=h;exact⟨a,A,B,C,D,E⟩
def Apart {α:Type} (v:Value) (l:List α) (S:List Nat):Prop:=∀b,ah v=some b→l≠[]→b∉S
theorem Sl.lt {b:Nat} (h:Sl w v l) (hb:ah v=some b) (hl:l≠[]):b<w.heap.size:=by
  obtain⟨a,A,B,D,E,F,C⟩:=h
  cases l with
  | nil=>exact absurd q hl
  | cons u r =>
    subst B
    cases a with
    | none=>simp[ah]at hb
    | some p =>
      have:=World.block_lt_of_cell? w _ (C p q 0 u q)
      rw[Addr.add_block]at this
      simp[ah]at hb
      omega
theorem Apart.aix {S:List Nat} (h:Sl w v l) (hS:∀i∈S,w.heap.size≤i):Apart v l S:=fun b hb hl hm=>by
  have:=h.lt hb hl
  have:=hS b hm
  omega
theorem GJ {lo hi b:Nat} (h:ah (p6 v lo hi)=some b):ah v=some b:=by
  cases v with
  | slice a len cap =>
    cases a with
    | none=>simp only[p6]at h;split at h <;> simp[ah]at h
    | some p =>
      simp only[p6]at h
      split at h
      · exact h
      · simp only[Option.map_some,ah,Addr.add_block]at h;exact h
  | _=>simp[p6,undef,ah]at h
theorem Apart.sub {α:Type} {l:List α} {S:List Nat} (h:Apart v l S) (lo hi:Nat):Apart (p6 v lo hi) ((l.take hi).drop lo) S:=fun b hb hl=>h b (GJ hb) (by rintro rfl;simp at hl)
theorem Sl.md {S:List Nat} (h:Sl w v l) (m:Md S w w') (hs:Apart v l S):Sl w' v l:=by
  obtain⟨a,A,B,E,F,G,H⟩:=h
  refine⟨a,A,B,E,F,G,fun p C j u D=>m.cell (H p C j u D) ?_⟩
  subst B;subst C
  rw[Addr.add_block]
  exact hs _ q (by rintro rfl;simp at D)
theorem Sl.e5 {b:Nat} {cs:List Value} {ty:TypeId} (h:cg w b cs ty) (hm:cs.length≤maxLen):Sl w (.slice (some ⟨b,0,none⟩) cs.length cs.length) cs :=
  ⟨_,_,q,Nat.le_refl _,hm,by simp,fun p hp j u hu=>by cases hp;rw[Addr.nW,Nat.zero_add,h.cell];exact hu⟩
theorem Sl.sI {base:Nat} {e:TypeId} (h:w.ownsRow base e 1 v l.length l):Sl w v l:=by
  rcases h.2 with⟨rfl,C⟩|⟨g,A,B,rfl,H,I,E,D,J,K⟩
  · have:l=[]:=List.eq_nil_of_length_eq_zero C
    subst this
    exact Sl.nil w
  exact⟨_,A,q,E,D,by simp,fun p F j u G=>by cases F;exact h.cells (g:=g) q j u G⟩
theorem Sl.sub (h:Sl w v l) (lo hi:Nat) (h1:lo≤hi) (h2:hi≤l.length):Sl w (p6 v lo hi) ((l.take hi).drop lo):=by
  obtain⟨a,A,rfl,G,H,E,F⟩:=h
  refine⟨if A=lo then a else a.map (·.add lo),A-lo,?_,?_,by omega,?_,?_⟩
  · simp only[p6];congr 1;simp;omega
  · simp;omega
  · intro h
    split at h
    · omega
    cases a with
    | none=>have:=E rfl;omega
    | some p=>simp at h
  intro p B j u C
  have I:j<hi-lo:=by
    have:=(List.getElem?_eq_some_iff.1 C).1
    simp at this
    omega
  have D:A≠lo:=by omega
  rw[if_neg D]at B
  cases a with
  | none=>simp at B
  | some q =>
    simp at B
    subst B
    rw[Addr.add_add]
    refine F q rfl (lo+j) u ?_
    rw[List.getElem?_drop,List.getElem?_take]at C
    rw[if_pos Oh]at C
    exact C
end
theorem By.sub {w:World} {v:Value} {l:Ly} (h:By w v l) (lo hi:Nat) (h1:lo≤hi) (h2:hi≤l.length):By w (p6 v lo hi) ((l.take hi).drop lo):=by
  have:=Sl.sub h lo hi h1 (by simpa using h2)
  unfold By
  rwa [List.map_drop,List.map_take]
theorem By.eJ {w:World} {v:Value} {l:Ly} (h:By w v l):XK v l.length:=by have:=Sl.eJ h;simpa using this
theorem By.o {w w':World} {v:Value} {l:Ly} (h:By w v l) (m:Md [] w w'):By w' v l:=Sl.o h m
instance ame {w w':World} {v:Value} {l:Ly}:Tp w w' (By w v l) (By w' v l):=⟨fun m h=>h.o m⟩
theorem By.md {S:List Nat} {w w':World} {v:Value} {l:Ly} (h:By w v l) (m:Md S w w') (hs:Apart v l S):By w' v l:=Sl.md h m (fun b hb hl=>hs b hb (by rintro rfl;simp at hl))
theorem Apart.afC {w:World} {v:Value} {l:Ly} {S:List Nat} (h:By w v l) (hS:∀i∈S,w.heap.size≤i):Apart v l S:=fun b hb hl=>Apart.aix h hS b hb (by simpa using hl)
theorem By.e5 {w:World} {b:Nat} {l:Ly} {ty:TypeId} {m:Nat} (h:cg w b (l.map b8) ty) (hl:l.length=m) (hm:m≤maxLen):By w (.slice (some ⟨b,0,none⟩) m m) l:=by
  have:=Sl.e5 h (by simpa [hl]using hm)
  simpa [By,hl]using this
theorem By.DV {w:World} {v:Value} {l:Ly} (h:By w v l):l.length≤maxLen:=by have:=Sl.DV h;simpa using this
theorem VF (l:Ly) (i:Nat) (h:i<l.length):(l.map b8)[i]? = some (b8 (l.getD i 0)):=by
  simp[List.getD,h]
theorem By.head {w:World} {v:Value} {l:Ly} (h:By w v l) (k:Nat) (hk:k≤l.length):By w (p6 v 0 k) (l.take k):=by simpa using h.sub 0 k (Nat.zero_le _) hk
theorem By.tail {w:World} {v:Value} {l:Ly} (h:By w v l) (k:Nat) (hk:k≤l.length):By w (p6 v k l.length) (l.drop k):=by simpa using h.sub k l.length hk (Nat.le_refl _)
theorem Apart.tail {α:Type} {v:Value} {l:List α} {S:List Nat} (h:Apart v l S) (k:Nat):Apart (p6 v k l.length) (l.drop k) S:=by simpa using h.sub k l.length
def jF (P:Program) (t:TypeId):Bool :=
  match P.underlying t with
  | some (.struct _)|some (.array _ _)|none=>false
  | some _=>Nat.beq (P.cellsOf t) 1
def gZ (P:Program) (t:TypeId) (n:Nat):Bool :=
  match P.underlying t with
  | some (.struct _)|some (.array _ _)=>match P.info? t with
    | some i=>Nat.beq i.size n
    | none=>false
  | _=>false
def bg (P:Program) (s:TypeId) (f:Nat):Option Nat :=
  match P.underlying s with
  | some (.struct fs)=>match fs[f]? with
    | some fd=>match P.info? fd.type with
      | some i=>if i.size=0 then none else some fd.offset
      | none=>none
    | none=>none
  | _=>none
def fP (P:Program) (t:TypeId):Option (List Value) :=
  match P.info? t with
  | some i=>match i.zero with
    | some z=>some z.cells.toList
    | none=>none
  | none=>none
def iO (P:Program) (e:TypeId) (n:Nat):Bool :=
  match P.info? e with
  | some i=>Nat.beq i.size n
  | none=>false
theorem DL {P:Program} {t:TypeId} (h:jF P t=true):∃d i,P.underlying t=some d∧P.info? t=some i∧i.size=1∧(d matches .struct _|.array _ _)=false:=by
  unfold jF at h
  split at h
  · cases h
  · cases h
  · cases h
  rename_i d h1 h2 hd
  refine⟨d,?_⟩
  cases hi:P.info? t with
  | none=>simp[Program.cellsOf,hi]at h
  | some i =>
    refine⟨i,hd,q,by simpa [Program.cellsOf,hi]using h,?_⟩
    cases d <;> simp_all
theorem qy {P:Program} {t:TypeId} {n:Nat} (h:gZ P t n=true):∃d i,P.underlying t=some d∧P.info? t=some i∧i.size=n∧(d matches .struct _|.array _ _)=true:=by
  unfold gZ at h
  split at h
  · rename_i d hd
    split at h
    · rename_i i hi;exact⟨_,i,hd,hi,by simpa using h,q⟩
    cases h
  · rename_i d hd
    split at h
    · rename_i i hi;exact⟨_,i,hd,hi,by simpa using h,q⟩
    cases h
  cases h
theorem oA {P:Program} {t:TypeId} (h:jF P t=true) (w:World):(isAgg t).run P w = .ok false w:=by
  obtain⟨d,i,A,B,C,D⟩:=DL h
  simp only[isAgg,Sem.run_bind,run_underlying A,Result.andThen_ok]
  cases d <;> simp_all
theorem wi {P:Program} {t:TypeId} {n:Nat} (h:gZ P t n=true) (w:World):(isAgg t).run P w = .ok true w:=by
  obtain⟨d,i,A,B,C,D⟩:=qy h
  simp only[isAgg,Sem.run_bind,run_underlying A,Result.andThen_ok]
  cases d <;> simp_all
theorem fZ {P:Program} {t:TypeId} {i:TypeInfo} (h:P.info? t=some i) (w:World):(sizeOf t).run P w = .ok i.size w:=by
  simp[sizeOf,typeInfo,h]
end Go.Wk
namespace Go.Wk
open Go Go.RowKit
def dS (P:Program) (o:Oper) (e:Operand→Value) (w:World) (v:Value):Prop:=(execOp e o).run P w = .ok (.value v) w
section
variable {P:Program} {n:Nat} {A:Fr n} {D:List Deferred} {l:List (Nat × Value)} {w:World}
variable {d:Option Tmp} {ty:TypeId} {ps:String} {af:Array Edge} {g:Option (Nat × Bool)}
theorem bf {x:Operand} {v:Value} (h:ev n l x=some v):dS P ⟨d,.move x,ty,ps,af,g⟩ (b9 A D l).eval w v:=by
  simp[dS,execOp,cF h]
theorem eI {x:Operand} {v:Value} (h:ev n l x=some v):dS P ⟨d,.assign x,ty,ps,af,g⟩ (b9 A D l).eval w v:=by
  simp[dS,execOp,cF h]
theorem bF {c x y:Operand} {b:Bool} {v:Value} (hc:ev n l c=some (.bool b)) (hb:b=true) (h:ev n l x=some v) :
    dS P ⟨d,.pick c x y,ty,ps,af,g⟩ (b9 A D l).eval w v:=by
  subst hb;simp[dS,execOp,cF h,cF hc,asBool]
theorem aY {c x y:Operand} {b:Bool} {v:Value} (hc:ev n l c=some (.bool b)) (hb:b=false) (h:ev n l y=some v) :
    dS P ⟨d,.pick c x y,ty,ps,af,g⟩ (b9 A D l).eval w v:=by
  subst hb;simp[dS,execOp,cF h,cF hc,asBool]
theorem jC {x:Operand} {i:Nat} {vs:Array Value} {v:Value} (h:ev n l x=some (.tuple vs)) (hv:vs[i]? = some v) :
    dS P ⟨d,.extract x i,ty,ps,af,g⟩ (b9 A D l).eval w v:=by
  simp[dS,execOp,cF h,Instr.extract,hv]
theorem jw {x:Operand} {t:TypeId} {b:Bool} (h:ev n l x=some (.bool b)) :
    dS P ⟨d,.unOp .not t x,ty,ps,af,g⟩ (b9 A D l).eval w (.bool !b):=by
  simp[dS,execOp,cF h,Op.unary]
theorem dr {x:Operand} {p:Addr} (h:ev n l x=some (.pointer (some p))) :
    dS P ⟨d,.nilCheck x,ty,ps,af,g⟩ (b9 A D l).eval w (.pointer (some p)):=by
  simp[dS,execOp,cF h]
theorem oN {op:BinOp} {x y:Operand} {t u:TypeId} {k j:IntKind} {a b:Int} {r:Value} (hx:ev n l x=some (.int k a)) (hy:ev n l y=some (.int j b))
    (hr:(binOp op t (.int k a) (.int j b)).run P w = .ok r w):dS P ⟨d,.binOp op t x y u,ty,ps,af,g⟩ (b9 A D l).eval w r:=by
  have B:(eqGuard op t x y (.int k a) (.int j b)).run P w = .ok () w:=by unfold eqGuard;cases op <;> simp
  simp[dS,execOp,cF hx,cF hy,B,hr]
theorem jm {x y:Operand} {t u:TypeId} {k:IntKind} {a b:Int} (hx:ev n l x=some (.int k a)) (hy:ev n l y=some (.int k b)) :
    dS P ⟨d,.binOp .add t x y u,ty,ps,af,g⟩ (b9 A D l).eval w (.int k (k.wrap (a+b))):=oN hx hy (by simp[binOp,Op.intArith])
theorem jA {x y:Operand} {t u:TypeId} {k:IntKind} {a b:Int} (hx:ev n l x=some (.int k a)) (hy:ev n l y=some (.int k b)) :
    dS P ⟨d,.binOp .sub t x y u,ty,ps,af,g⟩ (b9 A D l).eval w (.int k (k.wrap (a-b))):=oN hx hy (by simp[binOp,Op.intArith])
theorem akx {x y:Operand} {t u:TypeId} {k:IntKind} {a b:Int} (hx:ev n l x=some (.int k a)) (hy:ev n l y=some (.int k b)) :
    dS P ⟨d,.binOp .mul t x y u,ty,ps,af,g⟩ (b9 A D l).eval w (.int k (k.wrap (a*b))):=oN hx hy (by simp[binOp,Op.intArith])
theorem akz {x y:Operand} {t u:TypeId} {k:IntKind} {a b:Int} (hx:ev n l x=some (.int k a)) (hy:ev n l y=some (.int k b)) (h0:b≠0) :
    dS P ⟨d,.binOp .quo t x y u,ty,ps,af,g⟩ (b9 A D l).eval w (.int k (k.wrap (a.tdiv b))):=oN hx hy (by simp[binOp,Op.intDiv,h0])
theorem adH {x y:Operand} {t u:TypeId} {k:IntKind} {a b:Int} (hx:ev n l x=some (.int k a)) (hy:ev n l y=some (.int k b)) (h0:b≠0) :
    dS P ⟨d,.binOp .rem t x y u,ty,ps,af,g⟩ (b9 A D l).eval w (.int k (a.tmod b)):=oN hx hy (by simp[binOp,Op.intDiv,h0])
theorem adD {x y:Operand} {t u:TypeId} {k:IntKind} {a b:Int} (hx:ev n l x=some (.int k a)) (hy:ev n l y=some (.int k b)) :
    dS P ⟨d,.binOp .and t x y u,ty,ps,af,g⟩ (b9 A D l).eval w (.int k (bits .and k a b)):=oN hx hy (by simp[binOp];rfl)
theorem yY {x y:Operand} {t u:TypeId} {k:IntKind} {a b:Int} (hx:ev n l x=some (.int k a)) (hy:ev n l y=some (.int k b)) :
    dS P ⟨d,.binOp .or t x y u,ty,ps,af,g⟩ (b9 A D l).eval w (.int k (bits .or k a b)):=oN hx hy (by simp[binOp];rfl)
theorem gg {x y:Operand} {t u:TypeId} {k:IntKind} {a b:Int} (hx:ev n l x=some (.int k a)) (hy:ev n l y=some (.int k b)) :
    dS P ⟨d,.binOp .xor t x y u,ty,ps,af,g⟩ (b9 A D l).eval w (.int k (bits .xor k a b)):=oN hx hy (by simp[binOp];rfl)
theorem QD {x y:Operand} {t u:TypeId} {k:IntKind} {a b:Int} (hx:ev n l x=some (.int k a)) (hy:ev n l y=some (.int k b)) :
    dS P ⟨d,.binOp .andNot t x y u,ty,ps,af,g⟩ (b9 A D l).eval w (.int k (bits .andNot k a b)):=oN hx hy (by simp[binOp];rfl)
def nN (k:IntKind) (a b:Int):Int:=k.wrap (a*2 ^ min b.toNat k.bits)
def agw (k:IntKind) (a b:Int):Int:=a/2 ^ min b.toNat k.bits
theorem qN {x y:Operand} {t u:TypeId} {k j:IntKind} {a b:Int} (hx:ev n l x=some (.int k a)) (hy:ev n l y=some (.int j b)) (h0:0≤b) :
    dS P ⟨d,.binOp .shl t x y u,ty,ps,af,g⟩ (b9 A D l).eval w (.int k (nN k a b)):=oN hx hy (by simp only[binOp];rw[shift_shl_any k j a b h0];rfl)
theorem QE {x y:Operand} {t u:TypeId} {k j:IntKind} {a b:Int} (hx:ev n l x=some (.int k a)) (hy:ev n l y=some (.int j b)) (h0:0≤b) :
    dS P ⟨d,.binOp .shr t x y u,ty,ps,af,g⟩ (b9 A D l).eval w (.int k (agw k a b)):=oN hx hy (by simp only[binOp];rw[shift_shr_any k j a b h0];rfl)
theorem nj {x y:Operand} {t u:TypeId} {k:IntKind} {a b:Int} (hx:ev n l x=some (.int k a)) (hy:ev n l y=some (.int k b)) :
    dS P ⟨d,.binOp .eql t x y u,ty,ps,af,g⟩ (b9 A D l).eval w (.bool (decide (a=b))):=oN hx hy (by simp[binOp,Op.intCmp];rw[Bool.eq_iff_iff];simp)
theorem aad {x y:Operand} {t u:TypeId} {k:IntKind} {a b:Int} (hx:ev n l x=some (.int k a)) (hy:ev n l y=some (.int k b)) :
    dS P ⟨d,.binOp .neq t x y u,ty,ps,af,g⟩ (b9 A D l).eval w (.bool (decide (a≠b))):=oN hx hy (by simp[binOp,Op.intCmp];rw[Bool.eq_iff_iff];simp)
theorem sd {x y:Operand} {t u:TypeId} {k:IntKind} {a b:Int} (hx:ev n l x=some (.int k a)) (hy:ev n l y=some (.int k b)) :
    dS P ⟨d,.binOp .lss t x y u,ty,ps,af,g⟩ (b9 A D l).eval w (.bool (decide (a<b))):=oN hx hy (by simp[binOp,Op.intCmp])
theorem xR {x y:Operand} {t u:TypeId} {k:IntKind} {a b:Int} (hx:ev n l x=some (.int k a)) (hy:ev n l y=some (.int k b)) :
    dS P ⟨d,.binOp .leq t x y u,ty,ps,af,g⟩ (b9 A D l).eval w (.bool (decide (a≤b))):=oN hx hy (by simp[binOp,Op.intCmp])
theorem wN {x y:Operand} {t u:TypeId} {k:IntKind} {a b:Int} (hx:ev n l x=some (.int k a)) (hy:ev n l y=some (.int k b)) :
    dS P ⟨d,.binOp .gtr t x y u,ty,ps,af,g⟩ (b9 A D l).eval w (.bool (decide (b<a))):=oN hx hy (by simp[binOp,Op.intCmp])
theorem rY {x y:Operand} {t u:TypeId} {k:IntKind} {a b:Int} (hx:ev n l x=some (.int k a)) (hy:ev n l y=some (.int k b)) :
    dS P ⟨d,.binOp .geq t x y u,ty,ps,af,g⟩ (b9 A D l).eval w (.bool (decide (b≤a))):=oN hx hy (by simp[binOp,Op.intCmp])
theorem wrap_i64 {x:Int} (h0:-9223372036854775808≤x) (h1:x≤9223372036854775807):IntKind.i64.wrap x=x:=by
  simp[IntKind.wrap,IntKind.bits,IntKind.signed];omega
theorem wrap_u64 {x:Int} (h0:0≤x) (h1:x<18446744073709551616):IntKind.u64.wrap x=x:=by
  simp[IntKind.wrap,IntKind.bits,IntKind.signed];omega
theorem wrap_u32 {x:Int} (h0:0≤x) (h1:x<4294967296):IntKind.u32.wrap x=x:=by
  simp[IntKind.wrap,IntKind.bits,IntKind.signed];omega
theorem NA (x:Int):IntKind.u64.wrap x=x%18446744073709551616:=by simp[IntKind.wrap,IntKind.bits,IntKind.signed]
theorem Rw (x:Int):IntKind.u8.wrap x=x%256:=by simp[IntKind.wrap,IntKind.bits,IntKind.signed]
theorem gh {x y:Operand} {t u:TypeId} {a b:Int} (hx:ev n l x=some (.int .i64 a)) (hy:ev n l y=some (.int .i64 b)) (h:-9223372036854775808≤a+b∧a+b≤9223372036854775807) :
    dS P ⟨d,.binOp .add t x y u,ty,ps,af,g⟩ (b9 A D l).eval w (.int .i64 (a+b)):=by have:=jm (P:=P) (A:=A) (D:=D) (w:=w) (d:=d) (t:=t) (u:=u) (ty:=ty) (ps:=ps) (af:=af) (g:=g) hx hy;rwa [wrap_i64 h.1 h.2]at this
theorem lV {x y:Operand} {t u:TypeId} {a b:Int} (hx:ev n l x=some (.int .i64 a)) (hy:ev n l y=some (.int .i64 b)) (h:-9223372036854775808≤a-b∧a-b≤9223372036854775807) :
    dS P ⟨d,.binOp .sub t x y u,ty,ps,af,g⟩ (b9 A D l).eval w (.int .i64 (a-b)):=by have:=jA (P:=P) (A:=A) (D:=D) (w:=w) (d:=d) (t:=t) (u:=u) (ty:=ty) (ps:=ps) (af:=af) (g:=g) hx hy;rwa [wrap_i64 h.1 h.2]at this
theorem j7 {x:Operand} {s t:TypeId} {k j:IntKind} {a:Int} (hs:(P.underlying s).isSome=true) (ht:P.underlying t=some (.int k)) (hx:ev n l x=some (.int j a)) :
    dS P ⟨d,.convert s t x,ty,ps,af,g⟩ (b9 A D l).eval w (.int k (k.wrap a)):=by
  obtain⟨C,B⟩:=Option.isSome_iff_exists.1 hs
  simp[dS,execOp,cF hx,convert,run_underlying B,run_underlying ht,Conv.intToInt]
theorem ahv {x y:Operand} {ts:Array TypeId} {k j:IntKind} {a b:Int} (hx:ev n l x=some (.int k a)) (hy:ev n l y=some (.int j b)) :
    dS P ⟨d,.call {callee:=.builtin .min,args:=#[x,y],argTypes:=ts},ty,ps,af,g⟩ (b9 A D l).eval w (.int k (if b<a then b else a)):=by
  simp[dS,execOp,cF hx,cF hy,resolve,invoke,builtin,Builtin.min_,Builtin.min2]
theorem jK {x:Operand} {v:Value} {m:Nat} {t e:TypeId} (hx:ev n l x=some v) (hT:P.underlying t=some (.slice e)) (hS:XK v m) :
    dS P ⟨d,.call {callee:=.builtin .len,args:=#[x],argTypes:=#[t]},ty,ps,af,g⟩ (b9 A D l).eval w (.int .i64 m):=by
  obtain⟨a,B,rfl,_⟩:=hS
  simp[dS,execOp,cF hx,resolve,invoke,builtin,Builtin.len_,run_underlying hT,goInt]
theorem rZ {x y:Operand} {v:Value} {m:Nat} {t e:TypeId} {k:IntKind} {i:Int} (sz:Nat) (hx:ev n l x=some v) (hy:ev n l y=some (.int k i)) (hT:P.underlying t=some (.slice e)) (hE:iO P e sz=true)
    (hS:XK v m) (hi:0≤i∧i<m):dS P ⟨d,.indexAddr t x y,ty,ps,af,g⟩ (b9 A D l).eval w (oH v (i.toNat*sz)):=by
  obtain⟨a,C,rfl,F,G,E⟩:=hS
  unfold iO at hE
  split at hE
  · rename_i inf hinf
    have B:inf.size=sz:=by simpa using hE
    cases a with
    | none=>have:=E rfl;omega
    | some p=>simp[dS,execOp,cF hx,cF hy,Instr.indexAt,asIntOf,run_underlying hT,fZ hinf,hi.1,hi.2,B,oH]
  cases hE
theorem ML {x y:Operand} {v:Value} {m:Nat} {t e:TypeId} {k:IntKind} {i:Int} (hx:ev n l x=some v) (hy:ev n l y=some (.int k i)) (hT:P.underlying t=some (.slice e)) (hE:iO P e 1=true)
    (hS:XK v m) (hi:0≤i∧i<m):dS P ⟨d,.indexAddr t x y,ty,ps,af,g⟩ (b9 A D l).eval w (oH v i.toNat):=by
  have:=rZ (P:=P) (A:=A) (D:=D) (w:=w) (d:=d) (ty:=ty) (ps:=ps) (af:=af) (g:=g) 1 hx hy hT hE hS hi
  simpa using this
theorem pF {x:Operand} {lo hi:Option Operand} {v:Value} {m:Nat} {t e:TypeId} (L H:Nat) (hT:P.underlying t=some (.slice e)) (hE:iO P e 1=true) (hx:ev n l x=some v)
    (hS:XK v m) (h1:L≤H) (h2:H≤m)
    (hlo:match lo with|none=>L=0|some y=>∃k,ev n l y=some (.int k L)) (hhi:match hi with|none=>H=m|some y=>∃k,ev n l y=some (.int k H)) :
    dS P ⟨d,.slice t x lo hi none,ty,ps,af,g⟩ (b9 A D l).eval w (p6 v L H):=by
  obtain⟨a,C,rfl,G,I,J⟩:=hS
  unfold iO at hE
  split at hE
  · rename_i inf hinf
    have B:inf.size=1:=by simpa using hE
    have E:H≤C:=by omega
    cases lo with
    | none =>
      simp only at hlo;subst hlo
      cases hi with
      | none =>
        simp only at hhi;subst hhi
        simp[dS,execOp,cF hx,Instr.sliceAt,Instr.slice,Instr.sliceBounds,run_underlying hT,fZ hinf,p6,B]
      | some y =>
        simp only at hhi;obtain⟨k,hk⟩:=hhi
        simp[dS,execOp,cF hx,cF hk,Instr.sliceAt,Instr.slice,Instr.sliceBounds,Instr.sliceBound,asIntOf,run_underlying hT,fZ hinf,p6,B,E]
    | some z =>
      simp only at hlo;obtain⟨j,F⟩:=hlo
      cases hi with
      | none =>
        simp only at hhi;subst hhi
        simp[dS,execOp,cF hx,cF F,Instr.sliceAt,Instr.slice,Instr.sliceBounds,Instr.sliceBound,asIntOf,run_underlying hT,fZ hinf,p6,B,h1]
      | some y =>
        simp only at hhi;obtain⟨k,hk⟩:=hhi
        simp[dS,execOp,cF hx,cF F,cF hk,Instr.sliceAt,Instr.slice,Instr.sliceBounds,Instr.sliceBound,asIntOf,run_underlying hT,fZ hinf,p6,B,h1,E]
  cases hE
theorem ir {x:Operand} {p:Addr} {t e:TypeId} {m:Nat} (hT:P.underlying t=some (.array m e)) (hE:iO P e 1=true) (hx:ev n l x=some (.pointer (some p))) (_hm:m≠0) :
    dS P ⟨d,.slice t x none none none,ty,ps,af,g⟩ (b9 A D l).eval w (.slice (some p) m m):=by
  unfold iO at hE
  split at hE
  · rename_i inf hinf
    simp[dS,execOp,cF hx,Instr.sliceAt,Instr.sureAddr,Instr.sliceBounds,run_underlying hT,fZ hinf,Addr.add]
  cases hE
theorem SX {x:Operand} {t:TypeId} {p:Addr} {u:Value} (hx:ev n l x=some (.pointer (some p))) (hT:jF P t=true) (hc:w.cell? p=some u) :
    dS P ⟨d,.load t x,ty,ps,af,g⟩ (b9 A D l).eval w u:=by
  simp[dS,execOp,cF hx,Instr.loadAt,Instr.sureAddr,loadVar,oA hT,hc]
theorem aC {x:Operand} {t ty':TypeId} {b j:Nat} {cs:List Value} {u:Value} (hx:ev n l x=some (.pointer (some ⟨b,j,none⟩))) (hT:jF P t=true) (hB:cg w b cs ty') (hj:cs[j]? = some u) :
    dS P ⟨d,.load t x,ty,ps,af,g⟩ (b9 A D l).eval w u:=SX hx hT (by rw[hB.cell];exact hj)
theorem adF {x:Operand} {t:TypeId} {i:Nat} {v u:Value} {l':List Value} (hx:ev n l x=some (oH v i)) (hT:jF P t=true) (hS:Sl w v l') (hj:l'[i]? = some u) :
    dS P ⟨d,.load t x,ty,ps,af,g⟩ (b9 A D l).eval w u:=by
  obtain⟨a,B,rfl,F,G,C,E⟩:=hS
  have H:=(List.getElem?_eq_some_iff.1 hj).1
  cases a with
  | none=>have:=C rfl;omega
  | some p=>exact SX (p:=p.add i) hx hT (E p q i u hj)
theorem MN {x:Operand} {t:TypeId} {i:Nat} {v:Value} {l':Ly} (hx:ev n l x=some (oH v i)) (hT:jF P t=true) (hS:By w v l') (hj:i<l'.length) :
    dS P ⟨d,.load t x,ty,ps,af,g⟩ (b9 A D l).eval w (b8 (l'.getD i 0)):=adF hx hT hS (VF l' i hj)
theorem yX {x:Operand} {t:TypeId} {p:Addr} {m:Nat} {cs:List Value} (hx:ev n l x=some (.pointer (some p))) (hT:gZ P t m=true) (hm:cs.length=m) (hc:∀j u,cs[j]? = some u→w.cell? (p.add j)=some u) :
    dS P ⟨d,.load t x,ty,ps,af,g⟩ (b9 A D l).eval w (.agg cs.toArray):=by
  obtain⟨G,F,H,B,C,I⟩:=qy hT
  have E:=run_loadCells_list (P:=P) (w:=w) p cs hc
  simp[dS,execOp,cF hx,Instr.loadAt,Instr.sureAddr,loadVar,wi hT,fZ B,C,← hm,E]
theorem oq {x:Operand} {t ty':TypeId} {b:Nat} {cs:List Value} (hx:ev n l x=some (.pointer (some ⟨b,0,none⟩))) (hT:gZ P t cs.length=true) (hB:cg w b cs ty') :
    dS P ⟨d,.load t x,ty,ps,af,g⟩ (b9 A D l).eval w (.agg cs.toArray) :=
  yX hx hT q fun j u hj=>by rw[Addr.nW,Nat.zero_add,hB.cell];exact hj
theorem aM {x:Operand} {s:TypeId} {f b o off:Nat} (hx:ev n l x=some (.pointer (some ⟨b,o,none⟩))) (hf:bg P s f=some off) :
    dS P ⟨d,.fieldAddr s x f,ty,ps,af,g⟩ (b9 A D l).eval w (.pointer (some ⟨b,o+off,none⟩)):=by
  unfold bg at hf
  split at hf
  · rename_i fs hfs
    split at hf
    · rename_i fd hfd
      split at hf
      · rename_i inf hinf
        split at hf
        · cases hf
        rename_i hz
        simp only[Option.some.injEq]at hf
        subst hf
        simp[dS,execOp,cF hx,Instr.fieldAt,Instr.sureAddr,run_underlying hfs,hfd,fieldPlace,fZ hinf,hz,Addr.nW]
      cases hf
    cases hf
  cases hf
theorem By.sI {e:TypeId} {v:Value} {l':Ly} (h:w.ownsRow 0 e 1 v l'.length (l'.map b8)):By w v l':=Sl.sI (e:=e) (base:=0) (by simpa using h)
theorem gF {x y:Operand} {t e:TypeId} {m b o:Nat} {k:IntKind} {i:Int} (hx:ev n l x=some (.pointer (some ⟨b,o,none⟩))) (hy:ev n l y=some (.int k i)) (hT:P.underlying t=some (.array m e)) (hE:iO P e 1=true)
    (hi:0≤i∧i<m):dS P ⟨d,.indexAddr t x y,ty,ps,af,g⟩ (b9 A D l).eval w (.pointer (some ⟨b,o+i.toNat,none⟩)):=by
  unfold iO at hE
  split at hE
  · rename_i inf hinf
    have B:inf.size=1:=by simpa using hE
    simp[dS,execOp,cF hx,cF hy,Instr.indexAt,Instr.sureAddr,asIntOf,run_underlying hT,fZ hinf,hi.1,hi.2,B,Addr.nW]
  cases hE
theorem dS.kr {o:Oper} {e:Operand→Value} {k:IntKind} {a b:Int} (h:dS P o e w (.int k a)) (he:a=b):dS P o e w (.int k b):=he ▸ h
theorem dS.HO {o:Oper} {e:Operand→Value} {a b:Bool} (h:dS P o e w (.bool a)) (he:a=b):dS P o e w (.bool b):=he ▸ h
theorem dS.cast {o:Oper} {e:Operand→Value} {a b:Value} (h:dS P o e w a) (he:a=b):dS P o e w b:=he ▸ h
end
end Go.Wk
namespace Go.Wk
open Go Go.RowKit
section
variable {P:Program} {n:Nat} {A:Fr n} {D:List Deferred} {l:List (Nat × Value)} {w:World} {ops:Array Oper} {rest:List Oper} {Q:Exit→Act→World→Prop}
variable {d:Tmp} {op:Op} {ty:TypeId} {ps:String} {af:Array Edge}
theorem iC {o:Oper} {a:Act} (hg:o.guard=none) (h:o.wp P a w (wpList P ops Q rest) Q):wpList P ops Q (o :: rest) a w:=by
  unfold wpList;rw[if_pos (by simp[Region.wanted,hg])];exact .inl h
theorem KA {o:Oper} {a:Act} {v:Value} {K:Act→World→Prop} (hr:dS P o a.eval w v) (h:K (a.put o.dst v) w):o.wp P a w K Q:=by
  unfold Oper.wp;unfold dS at hr;rw[hr];exact h
theorem st (v:Value) (hr:dS P ⟨some d,op,ty,ps,af,none⟩ (b9 A D l).eval w v) (k:wpList P ops Q rest (b9 A D ((d,v) :: l)) w) :
    wpList P ops Q (⟨some d,op,ty,ps,af,none⟩ :: rest) (b9 A D l) w:=iC q (KA hr k)
theorem o7 {j t:Nat} {o:Oper} {b:Bool} (ho:ops[j]? = some o) (ht:o.dst=some t) (h:ev n l (.tmp t)=some (.bool b)):yielded ops (b9 A D l).tmps j=some b:=by
  have h':=cF (A:=A) (D:=D) h
  have F:(b9 A D l).tmps.size=n:=yT
  have E:t<n:=by
    simp only[ev]at h
    cases hb:Nat.ble n t with
    | true=>simp[hb]at h
    | false=>exact Nat.lt_of_not_le fun C=>by rw[Nat.ble_eq_true_of_le C]at hb;cases hb
  simp only[Act.eval,Array.getD,F,E,dite_true]at h'
  have B:(b9 A D l).tmps[t]? = some (.bool b):=by
    rw[Array.getElem?_eq_getElem Oh];exact congrArg some h'
  simp[yielded,ho,ht,B]
theorem aed {j t:Nat} {o:Oper} {b want:Bool} (v:Value) (ho:ops[j]? = some o) (ht:o.dst=some t) (hy:ev n l (.tmp t)=some (.bool b)) (hb:b=want)
    (hr:dS P ⟨some d,op,ty,ps,af,some (j,want)⟩ (b9 A D l).eval w v) (k:wpList P ops Q rest (b9 A D ((d,v) :: l)) w) :
    wpList P ops Q (⟨some d,op,ty,ps,af,some (j,want)⟩ :: rest) (b9 A D l) w:=by
  unfold wpList;rw[if_pos (by simp[Region.wanted,o7 ho ht hy,hb])];exact .inl (KA hr k)
theorem ag0 {j t:Nat} {o:Oper} {b want:Bool} (ho:ops[j]? = some o) (ht:o.dst=some t) (hy:ev n l (.tmp t)=some (.bool b)) (hb:b = !want)
    (k:wpList P ops Q rest (b9 A D ((d,undef) :: l)) w) :
    wpList P ops Q (⟨some d,op,ty,ps,af,some (j,want)⟩ :: rest) (b9 A D l) w:=by
  unfold wpList;rw[if_neg (by subst hb;simp[Region.wanted,o7 ho ht hy])];exact k
theorem dQ {t:Nat} {b:Bool} (_:ev n l (.tmp t)=some (.bool b)) (h1:b=true→wpList P ops Q rest (b9 A D l) w) (h0:b=false→wpList P ops Q rest (b9 A D l) w):wpList P ops Q rest (b9 A D l) w:=by cases b<;>simp_all
theorem aI {a:Act} (h:Q .normal a w):wpList P ops Q [] a w:=h
theorem aQ {id:Nat} {lo:List Oper} {a:Act} (h:wpList P lo.toArray Q lo a w):(Code.region id lo.toArray false).wp P Q a w:=wp_region_lit h
theorem aP {x y:Code} {a:Act} (h:x.wp P (Exit.then (fun a w=>y.wp P Q a w) Q) a w):(Code.seq x y).wp P Q a w:=wp_seq h
theorem au {K:Act→World→Prop} {a:Act} (h:K a w):Exit.then K Q .normal a w:=h
theorem bh {a:Act} (h:Q .normal a w):Code.skip.wp P Q a w:=wp_skip h
theorem iP {a:Act} (h:Q .ret a w):Code.ret.wp P Q a w:=wp_ret h
theorem dY {id:Nat} {a:Act} (h:Q (.exit id) a w):(Code.exit id).wp P Q a w:=wp_exit h
theorem bG {id:Nat} {c:Code} {a:Act} (h:c.wp P (Exit.inBlock id Q) a w):(Code.block id c).wp P Q a w:=wp_block h
theorem bU {K:Act→World→Prop} {id:Nat} {a:Act} (h:Q (.exit id) a w):Exit.then K Q (.exit id) a w:=h
theorem eT {id:Nat} {a:Act} (h:Q .normal a w):Exit.inBlock id Q (.exit id) a w:=by simpa [Exit.inBlock]using h
theorem aes {id id':Nat} {a:Act} (hne:Nat.beq id' id=false) (h:Q (.exit id') a w):Exit.inBlock id Q (.exit id') a w:=by
  have:id'≠id:=fun h=>by subst h;simp at hne
  simpa [Exit.inBlock,this]using h
theorem bX {id:Nat} {a:Act} (h:Q .normal a w):Exit.inBlock id Q .normal a w:=h
theorem aS {K:Act→World→Prop} {a:Act} (h:Q .ret a w):Exit.then K Q .ret a w:=h
theorem bE {id:Nat} {a:Act} (h:Q .ret a w):Exit.inBlock id Q .ret a w:=h
theorem cu {c:Operand} {x y:Code} {b:Bool} (hc:ev n l c=some (.bool b)) (h1:b=true→x.wp P Q (b9 A D l) w) (h0:b=false→y.wp P Q (b9 A D l) w) :
    (Code.cond c x y).wp P Q (b9 A D l) w:=wp_cond_split (cF hc) h1 h0
theorem iF {c:Operand} {x y:Code} {b:Bool} (hc:ev n l c=some (.bool b)) (hb:b=true) (h:x.wp P Q (b9 A D l) w):(Code.cond c x y).wp P Q (b9 A D l) w :=
  cu hc (fun _=>h) (fun h0=>by rw[hb]at h0;cases h0)
theorem kC {c:Operand} {x y:Code} {b:Bool} (hc:ev n l c=some (.bool b)) (hb:b=false) (h:y.wp P Q (b9 A D l) w):(Code.cond c x y).wp P Q (b9 A D l) w :=
  cu hc (fun h0=>by rw[hb]at h0;cases h0) (fun _=>h)
def NE {X:Type} (n:Nat) (D:List Deferred) (inv:X→List (Nat × Value)) (W:X→World→Prop) (mu:X→Nat) (x:X) (a:Act) (w:World):Prop :=
  ∃(x':X) (B:Fr n),a=b9 B D (inv x')∧W x' w∧mu x'<mu x
theorem kQ {X:Type} {c:Code} (inv:X→List (Nat × Value)) (W:X→World→Prop) (mu:X→Nat) (x0:X) (h0:Fits n l (inv x0)) (hw:W x0 w)
    (round:∀(x:X) (B:Fr n) (w':World),W x w'→c.wp P (Exit.then (NE n D inv W mu x) Q) (b9 B D (inv x)) w') :
    (Code.loop c).wp P Q (b9 A D l) w:=by
  refine wp_loop_ghost (fun m a w'=>∃(x:X) (B:Fr n),a=b9 B D (inv x)∧W x w'∧mu x=m) (mu x0) ⟨x0,_,(ga (A:=A) (D:=D) h0).symm,hw,q⟩ ?_
  rintro m a w' ⟨x,B,rfl,I,rfl⟩
  refine wp_mono (round x B w' I) ?_
  intro e J K h
  cases e with
  | normal=>obtain⟨C,E,F,G,H⟩:=h;exact⟨mu C,H,C,E,F,G,q⟩
  | _=>exact h
theorem next {X:Type} {inv:X→List (Nat × Value)} {W:X→World→Prop} {mu:X→Nat} {x:X} (x':X) (hm:mu x'<mu x) (hf:Fits n l (inv x')) (hw:W x' w) :
    NE n D inv W mu x (b9 A D l) w:=⟨x',_,(ga (A:=A) (D:=D) hf).symm,hw,hm⟩
def ea (P:Program) (f:FuncId):Bool :=
  match P.funcs[f]? with
  | some fn => !(fn.name == "runtime.NumGoroutine") && fn.body.isSome
  | none=>false
theorem pG {f:FuncId} (hf:ea P f=true) (args:Array Value):(callFunc f args).run P w = .ok (.enter f args) w:=by
  unfold ea at hf
  split at hf
  · rename_i fn hfn
    simp only[Bool.and_eq_true,Bool.not_eq_true']at hf
    have A : ¬ fn.name = "runtime.NumGoroutine" := by have := hf.1; simpa using this
    have B:¬fn.body=none:=by intro C;rw[C]at hf;simp at hf
    simp[callFunc,hfn,A,B]
  · cases hf
theorem yj {f:FuncId} {xs:List Operand} {ts:Array TypeId} {vs:List Value} {d':Option Tmp} {g:Option (Nat × Bool)} (hf:ea P f=true) (ha:evs n l xs=some vs) :
    (execOp (b9 A D l).eval ⟨d',.call {callee:=.value (.func f),args:=xs.toArray,argTypes:=ts},ty,ps,af,g⟩).run P w = .ok (.enter f vs.toArray) w:=by
  have B:=nB (A:=A) (D:=D) ha
  simp only[execOp,resolve,Act.eval,Deferred.ofValue,List.map_toArray,B]
  simp[invoke,pG hf]
theorem ax {f:FuncId} {xs:List Operand} {ts:Array TypeId} {vs:List Value} {R:Ending→World→Prop} (hf:ea P f=true) (ha:evs n l xs=some vs) (hc:Calls P f vs.toArray w R)
    (k:∀e w',R e w'→∃v,e = .returned v∧wpList P ops Q rest (b9 A D ((d,v) :: l)) w') :
    wpList P ops Q (⟨some d,.call {callee:=.value (.func f),args:=xs.toArray,argTypes:=ts},ty,ps,af,none⟩ :: rest) (b9 A D l) w:=by
  refine iC q ?_
  unfold Oper.wp
  rw[yj hf ha]
  refine hc.mono fun e w' B=>?_
  obtain⟨v,rfl,hk⟩:=k e w' B
  exact hk
theorem gL {f:FuncId} {xs:List Operand} {ts:Array TypeId} {vs:List Value} {R:Ending→World→Prop} {j t:Nat} {o:Oper} {b want:Bool} (ho:ops[j]? = some o) (ht:o.dst=some t) (hy:ev n l (.tmp t)=some (.bool b)) (hb:b=want)
    (hf:ea P f=true) (ha:evs n l xs=some vs) (hc:Calls P f vs.toArray w R)
    (k:∀e w',R e w'→∃v,e = .returned v∧wpList P ops Q rest (b9 A D ((d,v) :: l)) w') :
    wpList P ops Q (⟨some d,.call {callee:=.value (.func f),args:=xs.toArray,argTypes:=ts},ty,ps,af,some (j,want)⟩ :: rest) (b9 A D l) w:=by
  unfold wpList;rw[if_pos (by simp[Region.wanted,o7 ho ht hy,hb])]
  refine .inl ?_
  unfold Oper.wp
  rw[yj hf ha]
  refine hc.mono fun e w' B=>?_
  obtain⟨v,rfl,hk⟩:=k e w' B
  exact hk
def tY:Nat→List Value→List (Nat × Value)
  | _,[]=>[]
  | i,v :: r=>(i,v) :: tY (i+1) r
theorem JC {B:Fr n} {l1:List (Nat × Value)} (h:∀p∈l1,B.tmps.getD p.1 undef=p.2):b9 B D l1=⟨B.tmps,D⟩:=by
  induction l1 with
  | nil=>rfl
  | cons p r ih =>
    simp only[b9]
    rw[ih fun q A=>h q (by simp[A])]
    exact QC _ _ _ (h p Oq)
theorem EG {vs:List Value} {i:Nat} {p:Nat × Value} (h:p∈tY i vs):∃j,p.1=i+j∧vs[j]? = some p.2:=by
  induction vs generalizing i with
  | nil=>simp[tY]at h
  | cons v r ih =>
    simp only[tY,List.mem_cons]at h
    rcases h with rfl|h
    · exact⟨0,q,q⟩
    · obtain⟨j,B,A⟩:=ih h
      exact⟨j+1,by omega,by simpa using A⟩
theorem enter {f:FuncId} {fn:Func} {c:Code} {vs:List Value} {R:Ending→World→Prop} (hf:P.funcs[f]? = some fn) (hb:fn.body=some c) (hn:fn.ntmps=n) (hle:Nat.ble vs.length n=true)
    (h:∀B:Fr n,c.wp P (bodyPost P fn R) (b9 B [] (tY 0 vs)) w):Calls P f vs.toArray w R:=by
  refine calls_of_wp hf hb ?_
  have hle':vs.length≤n:=lB hle
  have D:(vs.toArray ++ Array.replicate (fn.ntmps-vs.toArray.size) undef).size=n:=by simp[hn];omega
  have:=h ⟨_,D⟩
  rwa [JC]at this
  intro p H
  obtain⟨j,E,F⟩:=EG H
  have G:=(List.getElem?_eq_some_iff.1 F)
  obtain⟨A,C⟩:=G
  simp only[E,Nat.zero_add,Array.getD]
  rw[dif_pos Vw]
  show(vs.toArray ++ _)[j]'_=_
  rw[Array.getElem_append_left (by simpa using A)]
  simpa using C
def tu:Exit→Prop
  | .ret|.normal=>True
  | _=>False
theorem bp {fn:Func} {R:Ending→World→Prop} {e:Exit} {v:Value} {a:Act} (he:tu e) (hd:a.defers=[]) (hr:(results fn a.tmps).run P w = .ok v w) (h:R (.returned v) w):bodyPost P fn R e a w:=by
  cases e <;> simp only[tu]at he <;> exact⟨hd,v,hr,h⟩
theorem pB {t:Nat} {v:Value} (h:ev n l (.tmp t)=some v):(b9 A D l).tmps.getD t undef=v:=cF (A:=A) (D:=D) h
theorem CU {t:Nat} {v:Value} (h:ev n l (.tmp t)=some v):(b9 A D l).tmps[t]?.getD undef=v:=by simpa using pB (A:=A) (D:=D) h
theorem aak {fn:Func} {R:Ending→World→Prop} {e:Exit} (he:tu e) (hr:fn.results = #[]) (h:R (.returned (.tuple #[])) w):bodyPost P fn R e (b9 A [] l) w :=
  bp he gU (results_none hr _ _ _) h
theorem jq {fn:Func} {R:Ending→World→Prop} {e:Exit} {t:Nat} {v:Value} (he:tu e) (hr:fn.results = #[.tmp t]) (hv:ev n l (.tmp t)=some v) (h:R (.returned v) w):bodyPost P fn R e (b9 A [] l) w :=
  bp he gU (results_tmp hr _ _ _) (by rw[pB hv];exact h)
theorem alF {fn:Func} {R:Ending→World→Prop} {e:Exit} {t u:Nat} {v v':Value} (he:tu e) (hr:fn.results = #[.tmp t,.tmp u]) (hv:ev n l (.tmp t)=some v) (hv':ev n l (.tmp u)=some v')
    (h:R (.returned (.tuple #[v,v'])) w):bodyPost P fn R e (b9 A [] l) w :=
  bp he gU (results_tmp2 hr _ _ _) (by rw[pB hv,pB hv'];exact h)
theorem ak1 {fn:Func} {R:Ending→World→Prop} {e:Exit} {t u x:Nat} {v v' v'':Value} (he:tu e) (hr:fn.results = #[.tmp t,.tmp u,.tmp x]) (hv:ev n l (.tmp t)=some v) (hv':ev n l (.tmp u)=some v') (hv'':ev n l (.tmp x)=some v'')
    (h:R (.returned (.tuple #[v,v',v''])) w):bodyPost P fn R e (b9 A [] l) w :=
  bp he gU (results_tmp3 hr _ _ _) (by rw[pB hv,pB hv',pB hv''];exact h)
theorem pz {t ty':TypeId} {b:Nat} {cs:List Value} (hT:gZ P t cs.length=true) (hB:cg w b cs ty'):(loadVar t ⟨b,0,none⟩).run P w = .ok (.agg cs.toArray) w:=by
  obtain⟨F,E,G,A,B,H⟩:=qy hT
  have D:=run_loadCells_list (P:=P) (w:=w) ⟨b,0,none⟩ cs fun j u C=>by rw[Addr.nW,Nat.zero_add,hB.cell];exact C
  simp[loadVar,wi hT,fZ A,B,D]
theorem ak4 {fn:Func} {R:Ending→World→Prop} {e:Exit} {t:Nat} {tt ty':TypeId} {b:Nat} {cs:List Value} (he:tu e) (hr:fn.results = #[.cell t tt]) (hv:ev n l (.tmp t)=some (.pointer (some ⟨b,0,none⟩)))
    (hT:gZ P tt cs.length=true) (hB:cg w b cs ty') (h:R (.returned (.agg cs.toArray)) w):bodyPost P fn R e (b9 A [] l) w :=
  bp he gU (by simp[results,hr,CU hv,asAddr,pz hT hB]) h
theorem XA {fn:Func} {R:Ending→World→Prop} {e:Exit} {t u:Nat} {tt ty':TypeId} {b:Nat} {cs:List Value} {v:Value} (he:tu e) (hr:fn.results = #[.cell t tt,.tmp u]) (hv:ev n l (.tmp t)=some (.pointer (some ⟨b,0,none⟩)))
    (hT:gZ P tt cs.length=true) (hB:cg w b cs ty') (hv':ev n l (.tmp u)=some v) (h:R (.returned (.tuple #[.agg cs.toArray,v])) w):bodyPost P fn R e (b9 A [] l) w :=
  bp he gU (by simp[results,hr,CU hv,CU hv',asAddr,pz hT hB]) h
theorem bK {x y:Operand} {t ty':TypeId} {b j:Nat} {cs:List Value} {u:Value} (hx:ev n l x=some (.pointer (some ⟨b,j,none⟩))) (hy:ev n l y=some u) (hT:jF P t=true) (hu:u.oneCell'=true)
    (hB:cg w b cs ty') (hj:j<cs.length) (k:∀w',Md [b] w w'→cg w' b (cs.set j u) ty'→wpList P ops Q rest (b9 A D l) w') :
    wpList P ops Q (⟨none,.store t x y,ty,ps,af,none⟩ :: rest) (b9 A D l) w:=by
  refine iC q ?_
  obtain⟨I,H,J,E,F,K⟩:=DL hT
  have G:u.cells = #[u]:=by cases u <;> simp_all [Value.cells,Value.oneCell']
  have B:w.cell? ⟨b,j,none⟩=some cs[j]:=by rw[hB.cell];simp[hj]
  have C:(execOp (b9 A D l).eval ⟨none,.store t x y,ty,ps,af,none⟩).run P w = .ok .skip (w.setCell ⟨b,j,none⟩ u):=by
    simp[execOp,cF hx,cF hy,Instr.storeAt,Instr.sureAddr,storeVar,fZ E,F,G,storeCells,Addr.add,run_store P w _ u _ hu,B,hB.frozen]
  unfold Oper.wp
  rw[C]
  exact k _ (Md.setCell w ⟨b,j,none⟩ u) (hB.set j u)
def iu (cs:List Value) (j:Nat) (us:List Value):List Value:=cs.take j ++ us ++ cs.drop (j+us.length)
theorem cg.setRow {b:Nat} {cs us:List Value} {ty':TypeId} (hB:cg w b cs ty'):cg (w.setRow b us.toArray) b us ty':=setRow_heap w b _ _ ty' _ hB
theorem Md.setRow (w:World) (b:Nat) (us:Array Value):Md [b] w (w.setRow b us):=⟨q,q,q,by simp,fun k _ hs=>setRow_other w b k us (by simpa using hs)⟩
theorem aT {x y:Operand} {t ty':TypeId} {b j:Nat} {cs us:List Value} (hx:ev n l x=some (.pointer (some ⟨b,j,none⟩))) (hy:ev n l y=some (.agg us.toArray)) (hT:gZ P t us.length=true)
    (hu:∀u∈us,u.oneCell'=true) (hB:cg w b cs ty') (hj:j+us.length≤cs.length) (k:∀w',Md [b] w w'→cg w' b (iu cs j us) ty'→wpList P ops Q rest (b9 A D l) w') :
    wpList P ops Q (⟨none,.store t x y,ty,ps,af,none⟩ :: rest) (b9 A D l) w:=by
  refine iC q ?_
  obtain⟨H,G,I,E,F,J⟩:=qy hT
  have C:=run_storeCells_at P b j ty' us 0 cs.toArray w hB (by simpa using hj) hu
  have B:(execOp (b9 A D l).eval ⟨none,.store t x y,ty,ps,af,none⟩).run P w = .ok .skip (w.setRow b (iu cs j us).toArray):=by
    simp[execOp,cF hx,cF hy,Instr.storeAt,Instr.sureAddr,storeVar,fZ E,F,Value.cells,C,iu]
  unfold Oper.wp
  rw[B]
  exact k _ (Md.setRow w b _) hB.setRow
theorem iN {x y:Operand} {t ty':TypeId} {b:Nat} {cs us:List Value} (hx:ev n l x=some (.pointer (some ⟨b,0,none⟩))) (hy:ev n l y=some (.agg us.toArray)) (hT:gZ P t us.length=true)
    (hu:∀u∈us,u.oneCell'=true) (hB:cg w b cs ty') (hj:us.length=cs.length) (k:∀w',Md [b] w w'→cg w' b us ty'→wpList P ops Q rest (b9 A D l) w') :
    wpList P ops Q (⟨none,.store t x y,ty,ps,af,none⟩ :: rest) (b9 A D l) w :=
  aT hx hy hT hu hB (by omega) fun w' hm hb => k w' hm (by have : iu cs 0 us = us := by simp [iu, hj]
                                                           rwa [this]at hb)
theorem cw {t:TypeId} {cs:List Value} (hz:fP P t=some cs)
    (k:∀b w',w.heap.size≤b→b<w'.heap.size→Md [] w w'→cg w' b cs t→wpList P ops Q rest (b9 A D ((d,.pointer (some ⟨b,0,none⟩)) :: l)) w') :
    wpList P ops Q (⟨some d,.alloc t,ty,ps,af,none⟩ :: rest) (b9 A D l) w:=by
  refine iC q ?_
  unfold fP at hz
  split at hz
  · rename_i i hi
    split at hz
    · rename_i z hzz
      simp only[Option.some.injEq]at hz
      have B:(execOp (b9 A D l).eval ⟨some d,.alloc t,ty,ps,af,none⟩).run P w = .ok (.value (.pointer (some ⟨w.heap.size,0,none⟩))) (w.alloc (.cells cs.toArray t)):=by
        subst hz
        simp[execOp,Instr.alloc,zeroValue,typeInfo,hi,hzz,newVar,newRow]
      unfold Oper.wp
      rw[B]
      exact k _ _ (Nat.le_refl _) Oq (Md.alloc w _) (cg.new w cs t)
    cases hz
  cases hz
theorem gO {t:TypeId} {x:Operand} {v:Value} {cs:List Value} (hx:ev n l x=some v) (hv:v.cells=cs.toArray)
    (k:∀b w',w.heap.size≤b→b<w'.heap.size→Md [] w w'→cg w' b cs t→wpList P ops Q rest (b9 A D ((d,.pointer (some ⟨b,0,none⟩)) :: l)) w') :
    wpList P ops Q (⟨some d,.box t x,ty,ps,af,none⟩ :: rest) (b9 A D l) w:=by
  refine iC q ?_
  have B:(execOp (b9 A D l).eval ⟨some d,.box t x,ty,ps,af,none⟩).run P w = .ok (.value (.pointer (some ⟨w.heap.size,0,none⟩))) (w.alloc (.cells cs.toArray t)):=by
    simp[execOp,Instr.box,newVar,newRow,cF hx,hv]
  unfold Oper.wp
  rw[B]
  exact k _ _ (Nat.le_refl _) Oq (Md.alloc w _) (cg.new w cs t)
theorem fU {v:Value} (h:v.oneCell'=true):v.cells = #[v]:=by cases v<;>simp_all [Value.cells,Value.oneCell']
theorem Sl.bZ {v:Value} {l':List Value} (h:Sl w v l'):v.oneCell'=true:=by obtain⟨a,c,rfl,_⟩:=h;rfl
def sU (cs:List Value):List (Nat × Value)→List Value
  | []=>cs
  | (i,v) :: r=>sU (cs.set i v) r
def qW:List Value→Prop
  | []=>True
  | v :: r=>v.oneCell'=true∧qW r
def xV:List (Nat × Nat)→List Value→List (Nat × Value)
  | (_,o) :: r,v :: vs=>(o,v) :: xV r vs
  | _,_=>[]
theorem wY {place:Nat→Option (Nat × Nat)}:∀(ps:List (Nat × Nat)) (vs:List Value) (cs:List Value),ps.length=vs.length→(∀p∈ps,place p.1=some (p.2,1)∧p.2<cs.length)→qW vs →
    Instr.fill place cs.toArray ((ps.map (·.1)).zip vs)=some (sU cs (xV ps vs)).toArray
  | [],[],cs,_,_,_=>by simp[Instr.fill,xV,sU]
  | (i,o) :: ps,v :: vs,cs,hl,hp,h1=>by
    have hv:=fU h1.1
    obtain⟨h2,h3⟩:=hp (i,o) Oq
    have ih:=wY (place:=place) ps vs (cs.set o v) (by simpa using hl) (fun p hp'=>by have:=hp p (by simp[hp']);simpa using this) h1.2
    simp only at h2 h3
    have hb:¬(cs.length<o+1):=by omega
    simp only[List.map_cons,List.zip_cons_cons,Instr.fill,h2,hv]
    simp[xV,sU,ih,hb]
  | [],_ :: _,_,hl,_,_=>by simp at hl
  | _ :: _,[],_,hl,_,_=>by simp at hl
def gY (P:Program) (t:TypeId):Option (List (Nat × Nat)) :=
  match P.underlying t with
  | some (.array m e)=>match P.info? e with
    | some ie=>some ((List.range m).map fun i=>(i*ie.size,ie.size))
    | none=>none
  | some (.struct aj)=>aj.toList.mapM (fun f=>(P.info? f.type).map fun i=>(f.offset,i.size))
  | _=>none
def ad8 (pl:List (Nat × Nat)) (m:Nat):List (Nat × Nat)→Bool
  | []=>true
  | (i,o) :: r=>(match pl[i]? with
    | some (o',s)=>Nat.beq o' o && Nat.beq s 1 && Nat.ble (o+1) m
    | none=>false) && ad8 pl m r
theorem JG {pl:List (Nat × Nat)} {m:Nat}:∀{ps:List (Nat × Nat)},ad8 pl m ps=true→∀p∈ps,pl[p.1]? = some (p.2,1)∧p.2<m
  | [],_,p,hp=>by cases hp
  | (i,o) :: r,h,p,hp=>by
    simp only[ad8,Bool.and_eq_true]at h
    rcases List.mem_cons.1 hp with rfl|hp'
    · cases hq:pl[i]? with
      | none=>rw[hq]at h;simp at h
      | some q =>
        obtain⟨o',s⟩:=q
        rw[hq]at h
        simp only[Bool.and_eq_true]at h
        obtain⟨⟨⟨h1,h2⟩,h3⟩,_⟩:=h
        have e1:=Nat.eq_of_beq_eq_true h1
        have e2:=Nat.eq_of_beq_eq_true h2
        subst e1;subst e2
        exact⟨rfl,lB h3⟩
    · exact JG h.2 p hp'
theorem XV {t:TypeId} {zs vs:List Value} {pl ps:List (Nat × Nat)} (hz:fP P t=some zs) (hpl:gY P t=some pl) (hl:ps.length=vs.length) (hps:ad8 pl zs.length ps=true) (h1:qW vs) :
    P.built t ((ps.map (·.1)).zip vs)=some (sU zs (xV ps vs)).toArray:=by
  have F:=JG hps
  unfold fP at hz
  cases hi:P.info? t with
  | none=>simp[hi]at hz
  | some it =>
    cases hzz:it.zero with
    | none=>simp[hi,hzz]at hz
    | some z =>
      simp only[hi,hzz,Option.some.injEq]at hz
      have C:z.cells=zs.toArray:=by rw[← hz]
      unfold gY at hpl
      unfold Program.built
      cases hu:P.underlying t with
      | none=>simp[hu]at hpl
      | some d =>
        cases d <;> try (simp[hu]at hpl;done)
        case array m e =>
          cases hie:P.info? e with
          | none=>simp[hu,hie]at hpl
          | some ie =>
            simp only[hu,hie,Option.some.injEq]at hpl
            simp only[hi,hzz,hie,C]
            refine wY ps vs zs hl (fun p B=>?_) h1
            obtain⟨A,D⟩:=F p B
            rw[← hpl,List.getElem?_map]at A
            have G:(List.range m)[p.1]? = some p.1:=by
              cases hq:(List.range m)[p.1]? with
              | none=>rw[hq]at A;simp at A
              | some q=>have:=List.getElem?_eq_some_iff.1 hq;obtain⟨H,E⟩:=this;simp at E;rw[← E]
            rw[G]at A
            simp only[Option.map_some,Option.some.injEq,Prod.mk.injEq]at A
            exact⟨by rw[A.1,A.2],D⟩
        case struct aj =>
          simp only[hu]at hpl
          simp only[hi,hzz,hpl,C]
          refine wY ps vs zs hl (fun p B=>?_) h1
          obtain⟨A,D⟩:=F p B
          exact⟨by simpa using A,D⟩
theorem nJ {t:TypeId} {parts:List (Nat × Operand)} {zs vs cs:List Value} {pl ps:List (Nat × Nat)} {d':Option Tmp} {ps':String} {g:Option (Nat × Bool)} (hz:fP P t=some zs) (hpl:gY P t=some pl) (hpp:parts.map (·.1)=ps.map (·.1)) (hev:evs n l (parts.map (·.2))=some vs)
    (h1:qW vs) (hl:ps.length=vs.length) (hps:ad8 pl zs.length ps=true) (hcs:sU zs (xV ps vs)=cs) :
    dS P ⟨d',.build t parts.toArray,ty,ps',af,g⟩ (b9 A D l).eval w (.agg cs.toArray):=by
  have E:=nB (A:=A) (D:=D) hev
  have B:parts.map (fun p=>(p.1,(b9 A D l).eval p.2))=(ps.map (·.1)).zip vs:=by
    rw[← hpp,← E,List.map_map,List.zip_map']
    rfl
  have C:=XV hz hpl hl hps h1
  rw[← B]at C
  have F:=run_build (P:=P) w t (parts.map (fun p=>(p.1,(b9 A D l).eval p.2))).toArray _ (by simpa using C)
  subst hcs
  simp only[dS,execOp,List.map_toArray]
  show Sem.run P (do pure (Next.value (← Instr.build t (parts.map fun x=>(x.1,(b9 A D l).eval x.2)).toArray))) w=_
  simp[F]
variable {C:World→Prop} {QQ:Act→Prop}
theorem AE {id:Nat} {lo:List Oper} {a:Act} (C:World→Prop) (hm:P.follows .mixedOrders=true) (hB:Region.lexB .any lo.toArray=true) (hC:C {w with drawn:=w.drawn+1})
    (h:wpQuiet P lo.toArray C (fun a'=>∀w',C w'→Q .normal a' w') lo a):(Code.region id lo.toArray true).wp P Q a w :=
  wp_region_quiet hm hB hC (by simpa using h)
theorem agc {o:Oper} {a:Act} (hg:o.guard=none) (h:o.quiet P a C (wpQuiet P ops C QQ rest)):wpQuiet P ops C QQ (o :: rest) a:=by
  unfold wpQuiet;rw[if_pos (by simp[Region.wanted,hg])];exact h
theorem MJ {o:Oper} {a:Act} {K:Act→Prop} (v:Value) (hr:∀w',C w'→dS P o a.eval w' v) (h:K (a.put o.dst v)):o.quiet P a C K :=
  ⟨v,fun w' hw=>by have:=hr w' hw;unfold dS at this;unfold Oper.quietAt;rw[this];exact⟨q,q⟩,h⟩
theorem qz (v:Value) (hr:∀w',C w'→dS P ⟨some d,op,ty,ps,af,none⟩ (b9 A D l).eval w' v) (k:wpQuiet P ops C QQ rest (b9 A D ((d,v) :: l))) :
    wpQuiet P ops C QQ (⟨some d,op,ty,ps,af,none⟩ :: rest) (b9 A D l):=agc q (MJ v hr k)
theorem WX {a:Act} (h:QQ a):wpQuiet P ops C QQ [] a:=h
variable {QS:Act→Prop}
theorem agq {o:Oper} {a:Act} (hg:o.guard=none) (h:o.still P a w (wpStill P ops w QS rest)):wpStill P ops w QS (o :: rest) a:=by
  unfold wpStill;rw[if_pos (by simp[Region.wanted,hg])];exact h
theorem s (v:Value) (hr:dS P ⟨some d,op,ty,ps,af,none⟩ (b9 A D l).eval w v) (k:wpStill P ops w QS rest (b9 A D ((d,v) :: l))) :
    wpStill P ops w QS (⟨some d,op,ty,ps,af,none⟩ :: rest) (b9 A D l):=agq q (by unfold dS at hr;unfold Oper.still;rw[hr];exact⟨q,k⟩)
def xW (P:Program) (e:TypeId) (sz by':Nat):Bool :=
  match P.info? e with
  | some i=>match i.zero with
    | some z=>Nat.beq i.size sz && Nat.beq i.bytes by' && Nat.beq z.cells.size sz
    | none=>false
  | none=>false
theorem r6 {e:TypeId} {sz by':Nat} (h:xW P e sz by'=true):∃i z,P.info? e=some i∧i.zero=some z∧i.size=sz∧i.bytes=by'∧z.cells.size=sz:=by
  unfold xW at h
  split at h
  · rename_i i hi
    split at h
    · rename_i z hz
      simp only[Bool.and_eq_true]at h
      exact⟨i,z,hi,hz,Nat.eq_of_beq_eq_true h.1.1,Nat.eq_of_beq_eq_true h.1.2,Nat.eq_of_beq_eq_true h.2⟩
    cases h
  cases h
def Own (w:World) (e:TypeId) (sz:Nat) (v:Value) (n:Nat) (xs:List Value):Prop:=w.ownsRow 0 e sz v n xs
theorem Own.nil (w:World) (e:TypeId) (sz:Nat):Own w e sz (.slice none 0 0) 0 []:=World.ownsRow_nil w 0 e sz
theorem Own.md {S:List Nat} {w':World} {e:TypeId} {sz m:Nat} {v:Value} {xs:List Value} (h:Own w e sz v m xs) (hm:Md S w w') (hs:∀b,ah v=some b→b∉S):Own w' e sz v m xs:=by
  refine⟨h.1,?_⟩
  rcases h.2 with F|⟨g,C,D,rfl,E,A,B⟩
  · exact .inl F
  refine .inr ⟨g,C,D,q,E,?_,B⟩
  rw[hm.block g (Array.getElem?_eq_some_iff.1 A).1 (hs g q)]
  exact A
theorem Own.o {w':World} {e:TypeId} {sz m:Nat} {v:Value} {xs:List Value} (h:Own w e sz v m xs) (hm:Md [] w w'):Own w' e sz v m xs:=h.md hm Oq
instance alT {w':World} {e:TypeId} {sz m:Nat} {v:Value} {xs:List Value}:Tp w w' (Own w e sz v m xs) (Own w' e sz v m xs):=⟨fun m h=>h.o m⟩
theorem Own.lt {e:TypeId} {sz m:Nat} {v:Value} {xs:List Value} (h:Own w e sz v m xs):∀b,ah v=some b→b<w.heap.size:=fun b hb=>(World.ownsRow.lt h b (by cases v<;>simp_all [ah,Value.ownBlock];rename_i a _ _;cases a<;>simp_all)).2
theorem Own.ne {e ty':TypeId} {sz m b:Nat} {v:Value} {xs cs:List Value} (h:Own w e sz v m xs) (hB:cg w b cs ty') (hne:Nat.beq e ty'=false):∀b',ah v=some b'→b'≠b:=by
  rintro b' A rfl
  rcases h.2 with⟨rfl,_⟩|⟨g,B,C,rfl,_,D,_⟩
  · simp[ah]at A
  simp[ah]at A
  subst A
  unfold cg at hB
  rw[D]at hB
  simp at hB
  rw[hB.2]at hne
  simp at hne
theorem vZ {t ty' e:TypeId} {sz by':Nat} (ht:P.underlying t=some (.slice e)) (hE:xW P e sz by'=true) (hsz:0<sz) {v:Value} {m:Nat} {xs:List Value} (hO:Own w e sz v m xs)
    {a:Option Addr} {k c:Nat} {news:List Value} (hl:news.length=k*sz) (ha:a=none→k=0∧c=0) (hnews:∀p,a=some p→∀j u,news[j]? = some u→w.cell? (p.add j)=some u) (h1:∀u∈news,u.oneCell'=true)
    (h63:m+k≤maxLen) (hbytes:(m+k)*by'≤140737488355328) :
    ∃v' w',(Builtin.append_ #[t,t] ty' #[v,.slice a k c]).run P w = .ok v' w'∧Own w' e sz v' (m+k) (xs ++ news)∧Md (ah v).toList w w'∧(v' = .slice none 0 0↔v = .slice none 0 0∧k=0) ∧
      (∀b,ah v'=some b→ah v=some b∨w.heap.size≤b):=by
  obtain⟨i,z,H,M,Q,F,N⟩:=r6 hE
  have K:v.ownBlock=ah v:=by
    rcases hO.2 with⟨rfl,_⟩|⟨g,C,D,rfl,_⟩ <;> rfl
  cases a with
  | none =>
    obtain⟨rfl,rfl⟩:=ha q
    have:news=[]:=List.eq_nil_of_length_eq_zero (by simpa using hl)
    subst this
    exact⟨v,w,run_append_owned_none w 0 t ty' e i sz ht H v m xs hO,by simpa using hO,Md.refl _ _,by simp,fun b F=>.inl F⟩
  | some p =>
    obtain⟨v',w',I,R,S,O⟩:=run_append_own (P:=P) w 0 t ty' e i z sz by' ht H M Q F N hsz v m xs hO p k c news hl (hnews p q) h1 h63 hbytes (Nat.zero_le _)
    refine⟨v',w',I,R,by rw[← K];exact Md.grown S,O,?_⟩
    intro b A
    subst Q;subst F
    rcases hO.2 with⟨rfl,rfl⟩|⟨g,C,D,rfl,T,V,W,U,J,L⟩
    · by_cases hk:k=0
      · have:=O.2 ⟨q,hk⟩
        rw[this]at A;simp[ah]at A
      · have X:xs=[]:=List.eq_nil_of_length_eq_zero (by simpa using hO.1)
        simp only[maxLen]at h63
        have B:=run_append_nil (P:=P) w t ty' e i z ht H M p k c news hl (hnews p q) Oh Oh (by have F:=hbytes;simp only[Nat.zero_add]at F;omega)
        rw[I]at B
        simp only[Result.ok.injEq]at B
        rw[B.1]at A;simp[ah]at A
        exact .inr Oh
    · by_cases hroom:m+k≤C
      · have G:m*i.size+news.length≤D.size:=by rw[hl,J,← Nat.add_mul];exact Nat.mul_le_mul_right _ hroom
        have B:=run_append_room (P:=P) w t ty' e i ht H g m C D V p k c news hl (hnews p q) h1 hroom G
        rw[I]at B
        simp only[Result.ok.injEq]at B
        rw[B.1]at A;simp[ah]at A
        exact .inl (by simp[ah,A])
      · have E:∀j u,xs[j]? = some u→w.cell? ((⟨g,0,none⟩:Addr).add j)=some u:=World.ownsRow.cells hO (g:=g) q
        simp only[maxLen]at h63
        have B:=run_append_grow (P:=P) w t ty' e i z ht H M ⟨g,0,none⟩ m C xs hO.1 E p k c news hl (hnews p q) Oh Oh (growslice_fits Oh hbytes)
        rw[I]at B
        simp only[Result.ok.injEq]at B
        rw[B.1]at A;simp[ah]at A
        exact .inr Oh
theorem aay {x y:Operand} {t e:TypeId} {by':Nat} {v u:Value} {xs ys:List Value} (ht:P.underlying t=some (.slice e)) (hE:xW P e 1 by'=true) (hx:ev n l x=some v) (hy:ev n l y=some u)
    (hO:Own w e 1 v xs.length xs) (hS:Sl w u ys) (h1:∀u∈ys,u.oneCell'=true) (h63:xs.length+ys.length≤maxLen) (hbytes:(xs.length+ys.length)*by'≤140737488355328)
    (k:∀v' w',Own w' e 1 v' (xs ++ ys).length (xs ++ ys)→Md (ah v).toList w w'→(v' = .slice none 0 0↔v = .slice none 0 0∧ys.length=0)→(∀b,ah v'=some b→ah v=some b∨w.heap.size≤b) →
      wpList P ops Q rest (b9 A D ((d,v') :: l)) w') :
    wpList P ops Q (⟨some d,.call {callee:=.builtin .append,args:=#[x,y],argTypes:=#[t,t]},ty,ps,af,none⟩ :: rest) (b9 A D l) w:=by
  refine iC q ?_
  obtain⟨a,C,rfl,L,M,F,G⟩:=hS
  obtain⟨v',w',K,H,I,J,E⟩:=vZ (P:=P) (w:=w) (ty':=ty) ht hE Oh hO (a:=a) (k:=ys.length) (c:=C) (news:=ys) Oq (fun h=>⟨by have:=F h;omega,F h⟩) G h1 h63 hbytes
  have B:(execOp (b9 A D l).eval ⟨some d,.call {callee:=.builtin .append,args:=#[x,y],argTypes:=#[t,t]},ty,ps,af,none⟩).run P w = .ok (.value v') w':=by
    simp[execOp,resolve,invoke,builtin,cF hx,cF hy,K]
  unfold Oper.wp
  rw[B]
  exact k v' w' (by simpa using H) I J E
theorem AY {x y:Operand} {t t' e ty':TypeId} {g o dLen dCap:Nat} {u:Value} {cs ys:List Value} (ht:P.underlying t=some (.slice e)) (hE:iO P e 1=true) (hx:ev n l x=some (.slice (some ⟨g,o,none⟩) dLen dCap)) (hy:ev n l y=some u)
    (hB:cg w g cs ty') (hS:Sl w u ys) (h1:∀u∈ys,u.oneCell'=true) (hfit:o+min ys.length dLen≤cs.length)
    (k:∀w',Md [g] w w'→cg w' g (iu cs o (ys.take dLen)) ty'→wpList P ops Q rest (b9 A D ((d,.int .i64 (min ys.length dLen:Nat)) :: l)) w') :
    wpList P ops Q (⟨some d,.call {callee:=.builtin .copy,args:=#[x,y],argTypes:=#[t,t']},ty,ps,af,none⟩ :: rest) (b9 A D l) w:=by
  refine iC q ?_
  obtain⟨a,F,rfl,N,O,J,K⟩:=hS
  unfold iO at hE
  split at hE
  case h_2=>cases hE
  rename_i inf hinf
  have H:inf.size=1:=by simpa using hE
  have B:(ys.take dLen).length=min ys.length dLen:=by simp[Nat.min_comm]
  have C:(execOp (b9 A D l).eval ⟨some d,.call {callee:=.builtin .copy,args:=#[x,y],argTypes:=#[t,t']},ty,ps,af,none⟩).run P w =
      .ok (.value (.int .i64 (min ys.length dLen:Nat))) (w.setRow g (iu cs o (ys.take dLen)).toArray):=by
    cases a with
    | none =>
      have R:=J q
      have I:ys=[]:=List.eq_nil_of_length_eq_zero Oh
      subst I
      have G:iu cs o []=cs:=by simp[iu]
      simp only[List.take_nil,G]
      have:w.setRow g cs.toArray=w:=setRow_self w g _ ty' _ hB
      rw[this]
      simp[execOp,resolve,invoke,builtin,cF hx,cF hy,Builtin.copy_,run_underlying ht,Builtin.lenOf,Builtin.firstCells,fZ hinf,storeCells,goInt]
    | some p =>
      have L:=run_copy_row (P:=P) w t t' ty e g o dLen dCap p ys.length F cs.toArray ty' (ys.take dLen) ht (by simp[hinf,H]) hB B
        (fun j u E=>K p q j u (by rw[List.getElem?_take]at E;split at E;exact E;cases E)) (by rw[B];simpa using hfit) (fun u M=>h1 u (List.mem_of_mem_take M))
      simp[execOp,resolve,invoke,builtin,cF hx,cF hy,L,iu,goInt,Nat.min_comm]
  unfold Oper.wp
  rw[C]
  exact k _ (Md.setRow w g _) hB.setRow
theorem fu {x:Operand} {k:IntKind} {a b:Int} (h:ev n l x=some (.int k a)) (e:a=b):ev n l x=some (.int k b):=by rw[h,e]
theorem zP {x:Operand} {a b:Bool} (h:ev n l x=some (.bool a)) (e:a=b):ev n l x=some (.bool b):=by rw[h,e]
theorem zV {k:IntKind} {a b:Int} (e:a=b):Ending.returned (.int k a) = .returned (.int k b):=by rw[e]
theorem py {a b:Bool} (e:a=b):Ending.returned (.bool a) = .returned (.bool b):=by rw[e]
theorem alG {a b:Value} (e:a=b):Ending.returned a = .returned b:=by rw[e]
theorem By.gd {v:Value} {l':Ly} (h:By w v l'):l'.length≤9223372036854775807:=by have:=h.DV;simp only[maxLen]at this;omega
theorem Own.tC {w':World} {e ty':TypeId} {sz m b:Nat} {v:Value} {xs cs:List Value} (h:Own w e sz v m xs) (hB:cg w b cs ty') (hne:Nat.beq e ty'=false) (hm:Md [b] w w'):Own w' e sz v m xs :=
  h.md hm fun b' hb'=>by simpa using h.ne hB hne b' hb'
theorem cg.mdO {w':World} {e ty':TypeId} {sz m b:Nat} {v:Value} {xs cs:List Value} (hB:cg w b cs ty') (h:Own w e sz v m xs) (hne:Nat.beq e ty'=false) (hm:Md (ah v).toList w w'):cg w' b cs ty' :=
  hB.md hm fun hb=>by
    cases hv:ah v with
    | none=>rw[hv]at hb;simp at hb
    | some b'=>rw[hv]at hb;simp at hb;exact h.ne hB hne b' hv hb.symm
theorem Md.ez {w1 w':World} {S:List Nat} {v:Value} (M:Md S w1 w) (hm:Md (ah v).toList w w') (hv:∀b,ah v=some b→b∈S∨w1.heap.size≤b):Md S w1 w' :=
  M.step hm fun i hi=>by
    cases h:ah v with
    | none=>rw[h]at hi;simp at hi
    | some b=>rw[h]at hi;simp at hi;subst hi;exact hv i h
theorem yR (l':Ly):∀u∈l'.map b8,u.oneCell'=true:=by intro u A;obtain⟨x,_,rfl⟩:=List.mem_map.1 A;rfl
theorem ah2 {α:Type} {b c:Nat} {o:Nat} {len cap:Nat} {l':List α} (h:b≠c):Apart (.slice (some ⟨b,o,none⟩) len cap) l' [c]:=by intro B A _;simp[ah]at A;subst A;simpa using h
theorem NK {v:Value} {l':Ly} {b:Nat} (h:By w v l') (hb:w.heap.size≤b):Apart v l' [b]:=Apart.afC h (by intro i hi;simp at hi;subst hi;exact hb)
theorem TP {x y:Operand} {t e:TypeId} {v u:Value} {xs ys:Ly} (ht:P.underlying t=some (.slice e)) (hE:xW P e 1 1=true) (hx:ev n l x=some v) (hy:ev n l y=some u)
    (hO:Own w e 1 v xs.length (xs.map b8)) (hS:By w u ys) (hbytes:xs.length+ys.length≤140737488355328)
    (k:∀v' w',Own w' e 1 v' (xs ++ ys).length ((xs ++ ys).map b8)→Md (ah v).toList w w'→(v' = .slice none 0 0↔v = .slice none 0 0∧ys.length=0)→(∀b,ah v'=some b→ah v=some b∨w.heap.size≤b) →
      wpList P ops Q rest (b9 A D ((d,v') :: l)) w') :
    wpList P ops Q (⟨some d,.call {callee:=.builtin .append,args:=#[x,y],argTypes:=#[t,t]},ty,ps,af,none⟩ :: rest) (b9 A D l) w :=
  aay (xs:=xs.map b8) (ys:=ys.map b8) ht hE hx hy (by simpa using hO) hS (yR _) (by simp[maxLen];omega) Vw fun v' w' h1 h2 h3 h4=>k v' w' (by simpa using h1) h2 (by simpa using h3) h4
theorem Own.akK {e:TypeId} {m:Nat} {v:Value} {xs:List Value} (h:Own w e 1 v m xs):Own w e 1 (p6 v 0 0) 0 []:=by
  rcases h.2 with⟨rfl,rfl⟩|⟨g,A,B,rfl,C,E,G,D,F,H⟩
  · exact Own.nil w e 1
  refine⟨by simp,.inr ⟨g,A,B,?_,C,E,Nat.zero_le _,D,F,by simp⟩⟩
  simp[p6,Addr.add]
theorem Rf {v:Value} {b:Nat} (h:ah (p6 v 0 0)=some b):ah v=some b:=GJ h
theorem abI {place:Nat→Option (Nat × Nat)} {ps:List (Nat × Nat)} {vs cs:List Value} (hl:ps.length=vs.length) (hp:∀p∈ps,place p.1=some (p.2,1)∧p.2<cs.length) (h1:qW vs) :
    Instr.fill place cs.toArray ((ps.map (·.1)).zip vs)=some (sU cs (xV ps vs)).toArray:=wY ps vs cs hl hp h1
def GW:Nat→Nat→List (Nat × Nat)
  | _,0=>[]
  | i,k+1=>(i,i) :: GW (i+1) k
theorem ace (i k:Nat):(GW i k).length=k:=by induction k generalizing i with|zero=>rfl|succ k ih=>simp[GW,ih]
theorem PF {p:Nat × Nat}:∀{i k:Nat},p∈GW i k→p.1=p.2∧p.2<i+k
  | _,0,h=>by cases h
  | i,k+1,h=>by
    rcases List.mem_cons.1 h with rfl|h
    · exact⟨q,by simp⟩
    · have:=PF h;omega
theorem XE:∀(vs:List Value) (pre cs:List Value),cs.length=vs.length→sU (pre ++ cs) (xV (GW pre.length vs.length) vs)=pre ++ vs
  | [],pre,cs,h=>by
    have:cs=[]:=List.eq_nil_of_length_eq_zero (by simpa using h)
    subst this;rfl
  | v :: vs,pre,c :: cs,h=>by
    simp only[List.length_cons,GW,xV,sU]
    have e:(pre ++ c :: cs).set pre.length v=(pre ++ [v]) ++ cs:=by simp
    rw[e]
    have:=XE vs (pre ++ [v]) cs (by simpa using h)
    simp only[List.length_append,List.length_cons,List.length_nil,Nat.zero_add]at this
    rw[this]
    simp
  | _ :: _,_,[],h=>by simp at h
theorem ri {t e:TypeId} {m by':Nat} {parts:List (Nat × Operand)} {vs:List Value} (ht:P.underlying t=some (.slice e)) (hE:xW P e 1 by'=true) (hm:m≤16777216) (hpp:parts.map (·.1)=(GW 0 m).map (·.1)) (hev:evs n l (parts.map (·.2))=some vs)
    (hlen:vs.length=m) (h1:qW vs) (h0:m≠0)
    (k:∀b w',w.heap.size≤b→b<w'.heap.size→Md [] w w'→cg w' b vs e→wpList P ops Q rest (b9 A D ((d,.slice (some ⟨b,0,none⟩) m m) :: l)) w') :
    wpList P ops Q (⟨some d,.buildSlice t m parts.toArray,ty,ps,af,none⟩ :: rest) (b9 A D l) w:=by
  refine iC rfl ?_
  obtain⟨i,z,M,V,U,W,E⟩:=r6 hE
  have R:=nB (A:=A) (D:=D) hev
  have G:parts.map (fun p=>(p.1,(b9 A D l).eval p.2))=((GW 0 m).map (·.1)).zip vs:=by
    rw[← hpp,← R,List.map_map,List.zip_map']
    rfl
  have C:∀cs:List Value,cs.length=m→Instr.fill (fun i=>some (i*1,1)) cs.toArray (((GW 0 m).map (·.1)).zip vs)=some vs.toArray:=by
    intro cs O
    have:=abI (place:=fun i=>some (i*1,1)) (ps:=GW 0 m) (vs:=vs) (cs:=cs) (by rw[ace,hlen]) (fun p T=>by have:=PF T;simp only[Nat.mul_one];exact⟨by rw[this.1],by omega⟩) h1
    have I:=XE vs [] cs Oh
    simp only[List.nil_append,List.length_nil]at I
    rw[hlen]at I
    rw[this,I]
  have F:(execOp (b9 A D l).eval ⟨some d,.buildSlice t m parts.toArray,ty,ps,af,none⟩).run P w = .ok (.value (.slice (some ⟨w.heap.size,0,none⟩) m m)) (w.alloc (.cells vs.toArray e)):=by
    have K:∃B,z.cells = #[B]:=by
      cases hzc:z.cells with
      | mk q=>rw[hzc]at E;simp at E;match q,E with|[B],_=>exact⟨B,rfl⟩
    obtain⟨B,L⟩:=K
    have H:(if m=0 then(#[]:Array Value)else #[B]).size≤1:=by split <;> simp
    have S:¬(16777216<m):=by omega
    show Sem.run P (do pure (Next.value (← Instr.buildSlice t m ((parts.toArray).map fun x=>(x.1,(b9 A D l).eval x.2))))) w=_
    rw[List.map_toArray,G]
    have J:((List.range m).map fun x=>(#[B]:Array Value)[x%1]!).length=m:=by simp
    have:=C _ J
    simp only[Nat.mul_one]at this
    simp only[Instr.buildSlice,Sem.run_bind,run_underlying ht,Result.andThen_ok,fZ M,U,Nat.mul_one]
    simp[show ¬(16777216<m)by omega,h0,zeroValue,typeInfo,M,V,L,newRow]
    have N:Array.map (fun x=>([B]:List Value)[x%1]?.getD default) (Array.range m)=((List.range m).map fun x=>(#[B]:Array Value)[x%1]!).toArray:=by
      apply Array.ext'
      simp
    rw[N,this]
    simp
  unfold Oper.wp
  rw[F]
  exact k _ _ (Nat.le_refl _) Oq (Md.alloc w _) (cg.new w vs e)
end
end Go.Wk
namespace Go.Wk
open Go Go.RowKit
section
variable {P:Program} {ops:Array Oper} {md:Region.Mode} {C:World→Prop} {Q:Exit→Act→World→Prop}
def QF:Exit→Act→World→Prop:=fun _ _ _=>False
def opC (P:Program) (ops:Array Oper) (C:World→Prop) (i:Nat) (K:Act→World→Prop) (a:Act) (w:World):Prop :=
  match ops[i]? with
  | none=>K a w
  | some o=>if Region.wanted o (yielded ops a.tmps)then o.wp P a w (fun a' w'=>C w'∧K a' w') QF else K (a.put o.dst undef) w
def mC (P:Program) (md:Region.Mode) (ops:Array Oper) (C:World→Prop) (Q:Act→World→Prop):Nat→Array Bool→Act→World→Prop
  | 0,listed,a,w=>Region.ready md ops listed=[]∧Q a w
  | f+1,listed,a,w=>(Region.ready md ops listed=[]→Q a w)∧∀i∈Region.ready md ops listed,opC P ops C i (mC P md ops C Q f (listed.setIfInBounds i true)) a w
theorem GL {o:Oper} {a:Act} {w:World} {K K':Act→World→Prop} (h:∀a w,K a w→K' a w) (hh:o.wp P a w K QF):o.wp P a w K' Q:=by
  unfold Oper.wp at *
  generalize (execOp a.eval o).run P w=r at *
  cases r with
  | ok x w' =>
    cases x <;> simp only[Oper.upon]at hh ⊢
    case value v=>exact h _ _ hh
    case skip=>exact h _ _ hh
    case defer d=>exact h _ _ hh
    case enter f args =>
      refine hh.mono fun e B A=>?_
      cases e with
      | returned v=>exact h _ _ A
      | panicked c=>exact A.elim
      | outgrown=>obtain⟨_,_,A⟩:=A;exact A.elim
    case row r args=>exact hh.mono fun v B A=>h _ _ A
  | halt x w' =>
    cases x <;> simp only[Oper.upon]at hh ⊢
    exact hh.elim
theorem vF {o:Oper} {a:Act} {w:World} {K K':Act→World→Prop} (h:∀a w,K a w→K' a w) (hh:o.wp P a w K QF):o.wp P a w K' QF:=GL (Q:=QF) h hh
theorem qm {QN:Act→World→Prop} (hQ:∀a w,QN a w→Q .normal a w):∀(f:Nat) (listed:Array Bool) (a:Act) (w:World),mC P md ops C QN f listed a w→wpAny P md ops Q f listed a w
  | 0,_,_,_,h=>⟨h.1,hQ _ _ h.2⟩
  | f+1,listed,a,w,h=>⟨fun h0=>hQ _ _ (h.1 h0),fun i hi=>by
      have h1:=h.2 i hi
      unfold opC at h1
      unfold wpOp
      split
      · rename_i ho;rw[ho]at h1;exact qm hQ f _ a w h1
      · rename_i o ho
        rw[ho]at h1
        simp only at h1
        split
        · rename_i hw;rw[if_pos hw]at h1;exact .inl (GL (fun a' w' hx=>qm hQ f _ a' w' hx.2) h1)
        · rename_i hw;rw[if_neg hw]at h1;exact qm hQ f _ _ w h1⟩
def Qv (P:Program) (ops:Array Oper) (C:World→Prop) (o:Oper) (v:Value) (a:Act):Prop :=
  (Region.wanted o (yielded ops a.tmps)=true∧∀w,C w→(execOp a.eval o).run P w = .ok (.value v) w)∨(Region.wanted o (yielded ops a.tmps)=false∧v=undef)
theorem Qv.opC {i:Nat} {o:Oper} {v:Value} {a:Act} {w:World} {K:Act→World→Prop} (hi:ops[i]? = some o) (hC:C w) (hy:Qv P ops C o v a) (h:K (a.put o.dst v) w):Wk.opC P ops C i K a w:=by
  unfold Wk.opC
  simp only[hi]
  rcases hy with⟨A,B⟩|⟨A,rfl⟩
  · rw[if_pos A];unfold Oper.wp;rw[B w hC];exact⟨hC,h⟩
  rw[if_neg (by rw[A];simp)];exact h
theorem Qv.keep {oi:Oper} {v:Value} {a:Act} {d:Option Tmp} {u:Value} (hs:∀cs b,oi.op≠.select cs b) (h:∀d',d=some d'→d'∉oi.looksAt ops) (hy:Qv P ops C oi v a):Qv P ops C oi v (a.put d u):=by
  unfold Qv at *
  rw[execOp_put oi hs a d u h,wanted_put oi a d u h]
  exact hy
theorem MB {j:Nat} {oi oj:Oper} {v:Value} {a:Act} {w:World} {K K':Act→World→Prop} (hj:ops[j]? = some oj) (hap:oi.apart ops oj=true) (hsj:∀cs b,oj.op≠.select cs b)
    (hK:∀(b:Act) u w',b.tmps=a.tmps→C w'→K ((b.put oj.dst u).put oi.dst v) w'→K' (b.put oj.dst u) w') (hw:C w)
    (h:opC P ops C j K (a.put oi.dst v) w):opC P ops C j K' a w:=by
  obtain⟨E,D,F⟩:=Oper.apart_spec hap
  unfold opC at *
  simp only[hj]at *
  rw[wanted_put oj a oi.dst v E]at h
  split
  · rename_i hwt
    rw[if_pos hwt]at h
    unfold Oper.wp at *
    rw[execOp_put oj hsj a oi.dst v E]at h
    generalize hr:(execOp a.eval oj).run P w=r at *
    cases r with
    | ok x w' =>
      cases x <;> simp only[Oper.upon]at h ⊢
      case value u=>exact⟨h.1,hK a u w' q h.1 (by rw[← Act.put_comm a v u D];exact h.2)⟩
      case skip=>exact⟨h.1,hK a undef w' q h.1 (by rw[← Act.put_comm a v undef D];exact h.2)⟩
      case defer d =>
        have e:({a.put oi.dst v with defers:=d :: (a.put oi.dst v).defers}:Act)=({a with defers:=d :: a.defers}:Act).put oi.dst v:=by cases oi.dst <;> rfl
        refine⟨h.1,hK {a with defers:=d :: a.defers} undef w' q h.1 ?_⟩
        rw[← Act.put_comm _ v undef D,← e]
        exact h.2
      case enter f args =>
        refine h.mono fun e B A=>?_
        cases e with
        | returned u=>exact⟨A.1,hK a u B q A.1 (by rw[← Act.put_comm a v u D];exact A.2)⟩
        | panicked c=>exact A
        | outgrown=>exact A
      case row r args=>exact h.mono fun u B A=>⟨A.1,hK a u B q A.1 (by rw[← Act.put_comm a v u D];exact A.2)⟩
    | halt x w' =>
      cases x <;> simp only[Oper.upon]at h ⊢
      exact h
  rename_i hwt
  rw[if_neg hwt]at h
  exact hK a undef w q hw (by rw[← Act.put_comm a v undef D];exact h)
theorem Qv.same {oi:Oper} {v:Value} {a b:Act} (ht:b.tmps=a.tmps) (hy:Qv P ops C oi v a):Qv P ops C oi v b:=by
  have B:b.eval=a.eval:=by funext x;cases x <;> simp[Act.eval,ht]
  unfold Qv at *
  rw[B,ht]
  exact hy
theorem tc {QN:Act→World→Prop} {i:Nat} {oi:Oper} {v:Value} (hi:ops[i]? = some oi) (hsel:∀(j:Nat) (o:Oper) cs b,ops[j]? = some o→o.op≠.select cs b) :
    ∀(f:Nat) (listed:Array Bool) (a:Act) (w:World),
      (∀j oj,ops[j]? = some oj→j≠i→listed.getD j true=false→(∀e∈oj.after,Region.binds md e=true→e.on≠i)→oi.apart ops oj=true) →
      i∈Region.ready md ops listed→C w→Qv P ops C oi v a →
      mC P md ops C QN f (listed.setIfInBounds i true) (a.put oi.dst v) w→mC P md ops C QN (f+1) listed a w:=by
  intro f
  induction f with
  | zero =>
    intro listed a w _ E M O H
    refine⟨fun h=>(by rw[h]at E;cases E),fun j N=>?_⟩
    by_cases hji:j=i
    · subst hji;exact O.opC hi M H
    · have:=ready_mono N hji
      rw[H.1]at this
      cases this
  | succ f ih =>
    intro listed a w A E M O H
    refine⟨fun h=>(by rw[h]at E;cases E),fun j N=>?_⟩
    by_cases hji:j=i
    · subst hji;exact O.opC hi M H
    · have X:=H.2 j (ready_mono N hji)
      obtain⟨B,oj,D,G⟩:=mem_ready.1 N
      have J:∀e∈oj.after,Region.binds md e=true→e.on≠i:=fun e c S T=>by
        have F:=G e c S
        have W:=(mem_ready.1 E).1
        rw[T]at F
        rcases Nat.lt_or_ge i listed.size with Q|Q
        · simp[Q]at W F;rw[W]at F;cases F
        · simp[Array.getElem?_eq_none Q]at F
      have I:=A j oj D hji B J
      obtain⟨_,_,Y⟩:=Oper.apart_spec I
      have hfree':∀k L,ops[k]? = some L→k≠i→(listed.setIfInBounds j true).getD k true=false →
          (∀e∈L.after,Region.binds md e=true→e.on≠i)→oi.apart ops L=true:=fun k L hk U K V=>by
        refine A k L hk U ?_ V
        by_cases hjk:j=k
        · subst hjk;exact B
        · rw[getD_set_ne true hjk]at K;exact K
      refine MB D I (fun cs b=>hsel j oj cs b D) (fun b u d S R Z=>?_) M X
      refine ih (listed.setIfInBounds j true) _ d hfree' (ready_mono E (Ne.symm hji)) R ((O.same S).keep (fun cs b=>hsel i oi cs b hi) Y) ?_
      rw[Array.setIfInBounds_comm _ _ hji]
      exact Z
def uJ (l:List Oper):List (Nat × Bool)→List (Bool × Oper)
  | []=>[]
  | (i,q) :: r=>match l[i]? with
    | some o=>(q,o) :: uJ l r
    | none=>uJ l r
def iq (P:Program) (ops:Array Oper) (C:World→Prop) (QN:Act→World→Prop):List (Bool × Oper)→Act→World→Prop
  | [],a,w=>QN a w
  | (true,o) :: r,a,w=>if Region.wanted o (yielded ops a.tmps)then ∃v,(∀w',C w'→(execOp a.eval o).run P w' = .ok (.value v) w')∧iq P ops C QN r (a.put o.dst v) w else iq P ops C QN r (a.put o.dst undef) w
  | (false,o) :: r,a,w=>if Region.wanted o (yielded ops a.tmps)then o.wp P a w (fun a' w'=>C w'∧∃C':World→Prop,C' w'∧(∀x,C' x→C x)∧iq P ops C' QN r a' w') QF else iq P ops C QN r (a.put o.dst undef) w
theorem qU {C':World→Prop} {QN:Act→World→Prop} (hC:∀x,C' x→C x):∀(f:Nat) (listed:Array Bool) (a:Act) (w:World),mC P md ops C' QN f listed a w→mC P md ops C QN f listed a w
  | 0,_,_,_,h=>h
  | f+1,listed,a,w,h=>⟨h.1,fun i hi=>by
      have h1:=h.2 i hi
      unfold opC at *
      split
      · rename_i ho;rw[ho]at h1;exact qU hC f _ a w h1
      · rename_i o ho
        rw[ho]at h1
        simp only at h1
        split
        · rename_i hw;rw[if_pos hw]at h1;exact vF (fun a' w' hx=>⟨hC _ hx.1,qU hC f _ a' w' hx.2⟩) h1
        · rename_i hw;rw[if_neg hw]at h1;exact qU hC f _ _ w h1⟩
def acy (md:Region.Mode) (ops:Array Oper):List (Nat × Bool)→Array Bool→Bool
  | [],listed=>(Region.ready md ops listed).isEmpty
  | (i,q) :: r,listed=>(ops[i]?).isSome && (if q then(Region.ready md ops listed).contains i && Region.free md ops listed i else decide (Region.ready md ops listed=[i])) && acy md ops r (listed.setIfInBounds i true)
theorem mK {QN:Act→World→Prop} (hs:Region.noSelect ops=true):∀{C:World→Prop} (ord:List (Nat × Bool)) (listed:Array Bool) (a:Act) (w:World),C w→acy md ops ord listed=true →
    iq P ops C QN (uJ ops.toList ord) a w→mC P md ops C QN ord.length listed a w
  | _,[],listed,a,w,_,hB,h=>⟨by simpa [acy]using hB,h⟩
  | _,(i,q) :: r,listed,a,w,hC,hB,h=>by
    simp only[acy,Bool.and_eq_true]at hB
    obtain⟨⟨h0,h1⟩,h2⟩:=hB
    obtain⟨o,ho⟩:=Option.isSome_iff_exists.1 h0
    have hol:ops.toList[i]? = some o:=by simpa using ho
    simp only[uJ,hol]at h
    cases q with
    | true =>
      simp only[if_true,Bool.and_eq_true]at h1
      simp only[iq]at h
      have E:i∈Region.ready md ops listed:=by simpa using h1.1
      split at h
      · rename_i hw
        obtain⟨v,J,hk⟩:=h
        exact tc ho (Region.noSelect_spec hs) r.length listed a w (Region.free_spec ho h1.2) E hC (.inl ⟨hw,J⟩) (mK hs r _ _ _ hC h2 hk)
      · rename_i hw
        exact tc ho (Region.noSelect_spec hs) r.length listed a w (Region.free_spec ho h1.2) E hC (.inr ⟨by simpa using hw,rfl⟩) (mK hs r _ _ _ hC h2 h)
    | false =>
      simp only[Bool.false_eq_true,if_false,decide_eq_true_eq]at h1
      simp only[iq]at h
      refine⟨fun B=>(by rw[h1]at B;cases B),fun j D=>?_⟩
      rw[h1]at D
      have A:j=i:=by simpa using D
      subst A
      unfold opC
      simp only[ho]
      split at h
      · rename_i hw
        rw[if_pos hw]
        exact vF (fun L M F=>⟨F.1,by obtain⟨K,G,H,I⟩:=F.2;exact qU H _ _ _ _ (mK hs r _ _ _ G h2 I)⟩) h
      · rename_i hw
        rw[if_neg hw]
        exact mK hs r _ _ _ hC h2 h
def ahi (md:Region.Mode) (ops:Array Oper) (ord:List (Nat × Bool)):Bool:=Region.noSelect ops && decide (ord.length=ops.size) && acy md ops ord (Array.replicate ops.size false)
theorem HN {id:Nat} {lo:List Oper} {a:Act} {w:World} (ord:List (Nat × Bool)) (C:World→Prop) (hm:P.follows .mixedOrders=true) (hB:ahi .any lo.toArray ord=true)
    (h:∀w',Md [] w w'→C w'∧iq P lo.toArray C (fun a w=>Q .normal a w) (uJ lo ord) a w'):(Code.region id lo.toArray true).wp P Q a w:=by
  simp only[ahi,Bool.and_eq_true,decide_eq_true_eq]at hB
  obtain⟨⟨A,B⟩,D⟩:=hB
  obtain⟨E,hk⟩:=h _ (Md.drew w)
  refine wp_region_any hm (qm (C:=C) (QN:=fun a w=>Q .normal a w) (fun _ _ F=>F) _ _ _ _ ?_)
  have:=mK (md:=.any) (C:=C) (QN:=fun a w=>Q .normal a w) A ord _ a _ E D hk
  rwa [B]at this
variable {n:Nat} {A:Fr n} {D:List Deferred} {l:List (Nat × Value)} {w:World} {QN:Act→World→Prop} {rest:List (Bool × Oper)}
variable {d:Tmp} {op:Op} {ty:TypeId} {ps:String} {af:Array Edge}
theorem m (v:Value) (hr:∀w',C w'→dS P ⟨some d,op,ty,ps,af,none⟩ (b9 A D l).eval w' v) (k:iq P ops C QN rest (b9 A D ((d,v) :: l)) w) :
    iq P ops C QN ((true,⟨some d,op,ty,ps,af,none⟩) :: rest) (b9 A D l) w:=by
  unfold iq;rw[if_pos (by simp[Region.wanted])];exact⟨v,hr,k⟩
theorem jR {j t:Nat} {o:Oper} {b want:Bool} (v:Value) (ho:ops[j]? = some o) (ht:o.dst=some t) (hy:ev n l (.tmp t)=some (.bool b)) (hb:b=want)
    (hr:∀w',C w'→dS P ⟨some d,op,ty,ps,af,some (j,want)⟩ (b9 A D l).eval w' v) (k:iq P ops C QN rest (b9 A D ((d,v) :: l)) w) :
    iq P ops C QN ((true,⟨some d,op,ty,ps,af,some (j,want)⟩) :: rest) (b9 A D l) w:=by
  unfold iq;rw[if_pos (by simp[Region.wanted,o7 ho ht hy,hb])];exact⟨v,hr,k⟩
theorem aR {q:Bool} {j t:Nat} {o:Oper} {b want:Bool} (ho:ops[j]? = some o) (ht:o.dst=some t) (hy:ev n l (.tmp t)=some (.bool b)) (hb:b = !want)
    (k:iq P ops C QN rest (b9 A D ((d,undef) :: l)) w) :
    iq P ops C QN ((q,⟨some d,op,ty,ps,af,some (j,want)⟩) :: rest) (b9 A D l) w:=by
  cases q <;> unfold iq <;> rw[if_neg (by subst hb;simp[Region.wanted,o7 ho ht hy])] <;> exact k
theorem mB {t:Nat} {b:Bool} {ol:List (Bool × Oper)} (_:ev n l (.tmp t)=some (.bool b)) (h1:b=true→iq P ops C QN ol (b9 A D l) w) (h0:b=false→iq P ops C QN ol (b9 A D l) w):iq P ops C QN ol (b9 A D l) w:=by cases b<;>simp_all
theorem ej {a:Act} (h:QN a w):iq P ops C QN [] a w:=h
theorem m_c {o:Oper} {a:Act} (h:wpList P ops (fun e a' w'=>e = .normal∧C w'∧∃C':World→Prop,C' w'∧(∀x,C' x→C x)∧iq P ops C' QN rest a' w') [o] a w) (hw:Region.wanted o (yielded ops a.tmps)=true):iq P ops C QN ((false,o) :: rest) a w:=by
  unfold iq;rw[if_pos hw]
  unfold wpList at h
  rw[if_pos hw]at h
  rcases h with h|h
  · unfold Oper.wp at *
    generalize (execOp a.eval o).run P w=r at *
    cases r with
    | ok x w' =>
      cases x <;> simp only[Oper.upon]at h ⊢
      case value v=>exact(show _∧_ from h).2
      case skip=>exact(show _∧_ from h).2
      case defer d=>exact(show _∧_ from h).2
      case enter f args =>
        refine h.mono fun e B A=>?_
        cases e with
        | returned v=>exact(show _∧_ from A).2
        | panicked c=>exact absurd A.1 Oq
        | outgrown=>obtain⟨_,_,A⟩:=A;exact absurd A.1 Oq
      case row r args=>exact h.mono fun v B A=>(show _∧_ from A).2
    | halt x w' =>
      cases x <;> simp only[Oper.upon]at h ⊢
      exact absurd h.1 Oq
  obtain⟨_,_,_,A⟩:=h;exact absurd A.1 Oq
theorem akb {Q1 Q2:Exit→Act→World→Prop} (hq:∀e a w,Q1 e a w→Q2 e a w) {a:Act} {o:Oper} (h:wpList P ops Q1 [o] a w):wpList P ops Q2 [o] a w:=by
  unfold wpList at *
  split
  · rename_i hw
    rw[if_pos hw]at h
    rcases h with h|h
    · refine .inl ?_
      unfold Oper.wp at *
      generalize (execOp a.eval o).run P w=r at *
      cases r with
      | ok x w' =>
        cases x <;> simp only[Oper.upon]at h ⊢
        case value v=>exact hq _ _ _ h
        case skip=>exact hq _ _ _ h
        case defer d=>exact hq _ _ _ h
        case enter f args =>
          refine h.mono fun e B A=>?_
          cases e with
          | returned v=>exact hq _ _ _ A
          | panicked c=>exact hq _ _ _ A
          | outgrown=>obtain⟨C,D,A⟩:=A;exact⟨C,D,hq _ _ _ A⟩
        case row r args=>exact h.mono fun v B A=>hq _ _ _ A
      | halt x w' =>
        cases x <;> simp only[Oper.upon]at h ⊢
        exact hq _ _ _ h
    obtain⟨C,D,E,A⟩:=h;exact .inr ⟨C,D,E,hq _ _ _ A⟩
  rename_i hw
  rw[if_neg hw]at h
  exact hq _ _ _ h
theorem mF {o:Oper} {a:Act} (h:wpList P ops (fun e a' w'=>e = .normal∧C w'∧iq P ops C QN rest a' w') [o] a w) (hw:Region.wanted o (yielded ops a.tmps)=true):iq P ops C QN ((false,o) :: rest) a w :=
  m_c (akb (fun _ _ _ hx=>⟨hx.1,hx.2.1,C,hx.2.1,fun _ h=>h,hx.2.2⟩) h) hw
theorem uD {j t:Nat} {o o':Oper} {b want:Bool} (ho:ops[j]? = some o') (ht:o'.dst=some t) (hy:ev n l (.tmp t)=some (.bool b)) (hb:b=want) (hg:o.guard=some (j,want))
    (h:wpList P ops (fun e a' w'=>e = .normal∧C w'∧iq P ops C QN rest a' w') [o] (b9 A D l) w):iq P ops C QN ((false,o) :: rest) (b9 A D l) w :=
  mF h (by simp[Region.wanted,hg,o7 ho ht hy,hb])
end
end Go.Wk
namespace Go.Wk
open Go Go.RowKit
def str (s:Ly):Value:=.string ⟨s.toArray⟩
section
variable {P:Program} {n:Nat} {A:Fr n} {D:List Deferred} {l:List (Nat × Value)} {w:World}
variable {d:Option Tmp} {ty:TypeId} {ps:String} {af:Array Edge} {g:Option (Nat × Bool)}
theorem uL {x:Operand} {s:Ly} {t:TypeId} (hx:ev n l x=some (str s)) (hT:P.underlying t=some .string) :
    dS P ⟨d,.call {callee:=.builtin .len,args:=#[x],argTypes:=#[t]},ty,ps,af,g⟩ (b9 A D l).eval w (.int .i64 s.length):=by
  have B:(⟨s.toArray⟩:ByteArray).size=s.length:=by simp[ByteArray.size]
  simp[dS,execOp,cF hx,resolve,invoke,builtin,Builtin.len_,run_underlying hT,goInt,str,B]
theorem ai5 {x y:Operand} {s:Ly} {t:TypeId} {k:IntKind} {i:Int} (hx:ev n l x=some (str s)) (hy:ev n l y=some (.int k i)) (hT:P.underlying t=some .string) (hi:0≤i∧i<s.length) :
    dS P ⟨d,.index t x y,ty,ps,af,g⟩ (b9 A D l).eval w (b8 (s.getD i.toNat 0)):=by
  have h:=run_index_string (P:=P) w t ⟨s.toArray⟩ k i hT
  have B:(⟨s.toArray⟩:ByteArray).size=s.length:=by simp[ByteArray.size]
  rw[dif_pos (by rw[B];exact hi)]at h
  have C:((⟨s.toArray⟩:ByteArray)[i.toNat]'(by rw[B];omega))=s.getD i.toNat 0:=by
    show s.toArray[i.toNat]'_=_
    have:i.toNat<s.length:=by omega
    simp[List.getD,this]
  rw[C]at h
  simp[dS,execOp,cF hx,cF hy,str,b8,h]
theorem xQ {x y:Operand} {s:Ly} {t:TypeId} {k:IntKind} {i:Nat} (hx:ev n l x=some (str s)) (hy:ev n l y=some (.int k (i:Int))) (hT:P.underlying t=some .string) (hi:i<s.length) :
    dS P ⟨d,.index t x y,ty,ps,af,g⟩ (b9 A D l).eval w (b8 (s.getD i 0)):=by
  have:=ai5 (P:=P) (A:=A) (D:=D) (w:=w) (d:=d) (ty:=ty) (ps:=ps) (af:=af) (g:=g) hx hy hT Oh
  simpa using this
theorem MO {op:BinOp} {x y:Operand} {t u:TypeId} {a b:Ly} {r:Value} (hx:ev n l x=some (str a)) (hy:ev n l y=some (str b)) (hop:∀v,(eqGuard op t x y (str a) v).run P w = .ok () w)
    (hr:(binOp op t (str a) (str b)).run P w = .ok r w):dS P ⟨d,.binOp op t x y u,ty,ps,af,g⟩ (b9 A D l).eval w r:=by
  simp[dS,execOp,cF hx,cF hy,hop,hr]
theorem zf (op:BinOp) (t:TypeId) (x y:Operand) (a:Ly) (v:Value):(eqGuard op t x y (str a) v).run P w = .ok () w:=by unfold eqGuard str;cases op<;>simp
theorem XH (a b:Ly):((⟨a.toArray⟩:ByteArray).toList == (⟨b.toArray⟩:ByteArray).toList)=decide (a=b):=by
  rw[ByteArray.toList_eq,ByteArray.toList_eq]
  rw[Bool.eq_iff_iff];simp
theorem adC {x y:Operand} {t u:TypeId} {a b:Ly} (hx:ev n l x=some (str a)) (hy:ev n l y=some (str b)) (hl:a.length+b.length≤9223372036854775807) :
    dS P ⟨d,.binOp .add t x y u,ty,ps,af,g⟩ (b9 A D l).eval w (str (a ++ b)):=by
  refine MO hx hy (zf _ _ _ _ _) ?_
  have h:=run_string_add_sum (P:=P) (w:=w) ⟨a.toArray⟩ ⟨b.toArray⟩ (by simpa [ByteArray.size]using hl)
  simp only[binOp,str]
  rw[h]
  congr 2
theorem SV {x y:Operand} {t u:TypeId} {a b:Ly} (hx:ev n l x=some (str a)) (hy:ev n l y=some (str b)) :
    dS P ⟨d,.binOp .eql t x y u,ty,ps,af,g⟩ (b9 A D l).eval w (.bool (decide (a=b))) :=
  MO hx hy (zf _ _ _ _ _) (by simp only[binOp,str,Op.stringOp,XH,Sem.run_pure])
theorem ai6 {x y:Operand} {t u:TypeId} {a b:Ly} (hx:ev n l x=some (str a)) (hy:ev n l y=some (str b)) :
    dS P ⟨d,.binOp .lss t x y u,ty,ps,af,g⟩ (b9 A D l).eval w (.bool (Op.bytesLess a b)) :=
  MO hx hy (zf _ _ _ _ _) (by simp only[binOp,str,Op.stringOp,Sem.run_pure,ByteArray.toList_eq])
theorem rX {x:Operand} {v:Value} {s:Ly} {src dst e:TypeId} (hs:P.underlying src=some (.slice e)) (he:P.underlying e=some (.int .u8)) (hd:P.underlying dst=some .string) (hx:ev n l x=some v) (hB:By w v s) :
    dS P ⟨d,.convert src dst x,ty,ps,af,g⟩ (b9 A D l).eval w (str s):=by
  obtain⟨a,B,rfl,J,K,F,G⟩:=hB
  have E:(convert src dst (.slice a (s.map b8).length B)).run P w = .ok (str s) w:=by
    cases a with
    | none =>
      have L:=F q
      have I:(s.map b8).length=0:=by omega
      have C:s=[]:=by simpa using I
      subst C
      have:=run_convert_bytes_string (P:=P) w src dst e none 0 B hs he hd
      simp only[List.map_nil,List.length_nil]
      rw[this]
      rfl
    | some p =>
      have:=run_convert_bytes_back (P:=P) w src dst e p B s hs he hd (fun j H=>G p q j _ (by simp[b8,H]))
      simpa [str]using this
  simp only[List.length_map]at E hx
  simp[dS,execOp,cF hx,E]
theorem OB (w:World) (a:Addr) (k:Nat) (p:Addr):(w.freeze a k).cell? p=w.cell? p:=by
  unfold World.freeze
  split
  · rfl
  unfold World.cell?
  simp only[Array.getElem?_modify]
  by_cases h:a.block=p.block
  · rw[if_pos h]
    cases w.heap[p.block]? with
    | none=>rfl
    | some o=>cases o <;> rfl
  rw[if_neg h]
theorem Md.freeze (w:World) (a:Addr) (k:Nat):Md [a.block] w (w.freeze a k):=by
  unfold World.freeze
  split
  · exact⟨q,q,q,Nat.le_refl _,fun _ _ _=>rfl⟩
  refine⟨q,q,q,by simp,fun j _ A=>?_⟩
  simp only[Array.getElem?_modify]
  rw[if_neg (by rintro rfl;simp at A)]
theorem XF {ops:Array Oper} {Q:Exit→Act→World→Prop} {rest:List Oper} {d:Tmp} {x:Operand} {s:Ly} {t e:TypeId} {b m c:Nat} {ty':TypeId} (ht:P.underlying t=some (.slice e)) (he:P.underlying e=some (.int .u8))
    (hx:ev n l x=some (.slice (some ⟨b,0,none⟩) m c)) (hB:cg w b (s.map b8) ty') (hY:By w (.slice (some ⟨b,0,none⟩) m c) s)
    (k:∀w',Md [b] w w'→By w' (.slice (some ⟨b,0,none⟩) m c) s→wpList P ops Q rest (b9 A D ((d,.slice (some ⟨b,0,none⟩) m c) :: l)) w') :
    wpList P ops Q (⟨some d,.convert t t x,ty,ps,af,none⟩ :: rest) (b9 A D l) w:=by
  refine iC q ?_
  have E:w.shape? b=some (ty',(s.map b8).toArray.size):=by
    unfold cg at hB
    simp[World.shape?,hB]
  have B:(execOp (b9 A D l).eval ⟨some d,.convert t t x,ty,ps,af,none⟩).run P w = .ok (.value (.slice (some ⟨b,0,none⟩) m c)) (w.freeze ⟨b,(s.map b8).toArray.size,none⟩ 1):=by
    simp[execOp,cF hx,convert,run_underlying ht,run_underlying he,markStringish,E]
  unfold Oper.wp
  rw[B]
  refine k _ (Md.freeze w ⟨b,_,none⟩ _) ?_
  obtain⟨a,C,F,G,H,I,J⟩:=hY
  exact⟨a,C,F,G,H,I,fun p L j u K=>by rw[OB];exact J p L j u K⟩
theorem oz {ops:Array Oper} {Q:Exit→Act→World→Prop} {rest:List Oper} {d:Tmp} {x:Operand} {s:Ly} {src dst e:TypeId} (hs:P.underlying src=some .string) (hd:P.underlying dst=some (.slice e)) (he:P.underlying e=some (.int .u8))
    (hx:ev n l x=some (str s)) (hl:s.length≤maxLen)
    (k:∀v w',Md [] w w'→By w' v s→(∀b,ah v=some b→w.heap.size≤b∧b<w'.heap.size)→wpList P ops Q rest (b9 A D ((d,v) :: l)) w') :
    wpList P ops Q (⟨some d,.convert src dst x,ty,ps,af,none⟩ :: rest) (b9 A D l) w:=by
  refine iC q ?_
  have I:=run_bytes_of_string (P:=P) w src dst e ⟨s.toArray⟩ hs hd he
  have F:(⟨s.toArray⟩:ByteArray).size=s.length:=by simp[ByteArray.size]
  have C:(execOp (b9 A D l).eval ⟨some d,.convert src dst x,ty,ps,af,none⟩).run P w = .ok (.value (.slice (some ⟨w.heap.size,0,none⟩) s.length (grownCap w s.length 0 e)))
      (w.drew.alloc (.cells (bytesRow ⟨s.toArray⟩ (grownCap w s.length 0 e)) e ((bytesRow ⟨s.toArray⟩ (grownCap w s.length 0 e)).size,(bytesRow ⟨s.toArray⟩ (grownCap w s.length 0 e)).size+1))):=by
    rw[F]at I
    simp[execOp,cF hx,str,I]
  unfold Oper.wp
  rw[C]
  refine k _ _ ⟨q,q,q,by simp,fun _ hk _=>heap_alloc_old _ _ hk⟩ ?_ ?_
  · refine⟨_,_,by simp;exact⟨q,q⟩,?_,?_,by simp,?_⟩
    · simpa using grownCap_ge w s.length 0 e
    · exact grownCap_le_maxLen w _ _ _ hl
    intro p H j u E
    simp at H;subst H
    have B:j<s.length:=by have:=(List.getElem?_eq_some_iff.1 E).1;simpa using this
    have K:=World.cell?_alloc_mark w.drew (bytesRow ⟨s.toArray⟩ (grownCap w s.length 0 e)) e ((bytesRow ⟨s.toArray⟩ (grownCap w s.length 0 e)).size,(bytesRow ⟨s.toArray⟩ (grownCap w s.length 0 e)).size+1) j
    have J:(⟨w.heap.size,0,none⟩:Addr).add j=⟨w.heap.size,j,none⟩:=by unfold Addr.add;split <;> simp_all
    rw[J]
    refine K.trans ?_
    simp[B,b8]at E
    simp[bytesRow,Array.getElem?_append,B,E]
  intro b G
  simp[ah]at G
  subst G
  simp
def pairT (P:Program) (t f:TypeId):Bool :=
  match P.underlying t with
  | some (.struct fs) => (fs.toList.map fun x => (x.type, x.offset)) == [(f, 0), (f, 1)] && fs.toList.all (fun x => x.name != "_") && jF P f && !P.stoodInHeld t && !P.eqGuardType P.depth t
  | _=>false
def qJ (p:List UInt8 × List UInt8):Value:=.agg #[str p.1,str p.2]
theorem QM {t f:TypeId} (hp:pairT P t f=true) (hf:P.underlying f=some .string) (p q:List UInt8 × List UInt8) (w:World) (k:Nat):(Op.equalIn (k+2) t (qJ p) (qJ q)).run P w = .ok (decide (p=q)) w:=by
  unfold pairT at hp
  split at hp
  · rename_i fs I
    simp only[Bool.and_eq_true,Bool.not_eq_true']at hp
    obtain⟨⟨⟨⟨H,A⟩,L⟩,M⟩,T⟩:=hp
    have B:P.fieldsOf t=fs:=by simp[Program.fieldsOf,I]
    have hu':P.underlying t=some (.struct (P.fieldsOf t)):=by rw[B];exact I
    have h:=run_equalIn_struct (P:=P) w (k+1) t #[str p.1,str p.2] #[str q.1,str q.2] hu' M
    unfold qJ
    rw[h,B]
    obtain⟨K⟩:=fs
    simp only at H A ⊢
    have h1':=eq_of_beq H
    match K,h1',A with
    | [],h1',_=>simp at h1'
    | [_],h1',_=>simp at h1'
    | _ :: _ :: _ :: _,h1',_=>simp at h1'
    | [a,b],h1',A =>
      simp only[List.map_cons,List.map_nil,List.cons.injEq,Prod.mk.injEq,and_true]at h1'
      obtain⟨⟨N,D⟩,O,E⟩:=h1'
      simp only[List.all_cons,List.all_nil,Bool.and_true,Bool.and_eq_true,bne_iff_ne]at A
      have F:=oA L
      have G:∀(a b:Ly) (w:World),(Op.equalIn (k+1) f (str a) (str b)).run P w = .ok (decide (a=b)) w:=fun a b w=>by
        unfold str
        rw[run_equalIn_string w k f _ _ hf,XH]
      have J:∀(u v:Value) (w:World),(part f #[u,v] 0).run P w = .ok u w:=fun u v w=>by simp[part,F]
      have C:∀(u v:Value) (w:World),(part f #[u,v] 1).run P w = .ok v w:=fun u v w=>by simp[part,F]
      simp only[Op.eqFields,ne_eq,A.1,A.2,not_false_eq_true,if_true,N,D,O,E,Sem.run_bind,J,C,Result.andThen_ok,G]
      have q0':=J;have q1':=C
      obtain⟨C,Q⟩:=p
      obtain⟨R,S⟩:=q
      by_cases h6:C=R <;> by_cases h7:Q=S <;> simp[h6,h7,Sem.run_ite,q0',q1',G]
  cases hp
theorem SK {t f:TypeId} (hp:pairT P t f=true) (op:BinOp) (x y:Operand) (p q:List UInt8 × List UInt8):(eqGuard op t x y (qJ p) (qJ q)).run P w = .ok () w:=by
  unfold pairT at hp
  split at hp
  · simp only[Bool.and_eq_true,Bool.not_eq_true']at hp
    exact run_eqGuard_agg w op t x y _ _ hp.2
  cases hp
theorem ai4 {x y:Operand} {t f u:TypeId} {p q:List UInt8 × List UInt8} (hp:pairT P t f=true) (hf:P.underlying f=some .string) (hx:ev n l x=some (qJ p)) (hy:ev n l y=some (qJ q)) :
    dS P ⟨d,.binOp .eql t x y u,ty,ps,af,g⟩ (b9 A D l).eval w (.bool (decide (p=q))):=by
  have B:=SK (w:=w) hp .eql x y p q
  have C:(binOp .eql t (qJ p) (qJ q)).run P w = .ok (.bool (decide (p=q))) w:=by
    rw[qJ,qJ,run_eql_struct,← qJ,← qJ,QM hp hf p q w 9998];rfl
  simp[dS,execOp,cF hx,cF hy,B,C]
theorem l7 {ops:Array Oper} {Q:Exit→Act→World→Prop} {rest:List Oper} {op:Op} {d:Tmp} {j t:Nat} {o:Oper} {want:Bool} (ho:ops[j]? = some o) (ht:o.dst=some t) (hy:ev n l (.tmp t)=some undef)
    (k:wpList P ops Q rest (b9 A D ((d,undef) :: l)) w) :
    wpList P ops Q (⟨some d,op,ty,ps,af,some (j,want)⟩ :: rest) (b9 A D l) w:=by
  have h':=cF (A:=A) (D:=D) hy
  have B:yielded ops (b9 A D l).tmps j=none:=by
    simp only[Act.eval]at h'
    unfold yielded
    simp[ho,ht]
    rw[Array.getD_eq_getD_getElem?]at h'
    cases hq:(b9 A D l).tmps[t]? with
    | none=>rfl
    | some v=>rw[hq]at h';simp at h';rw[h'];rfl
  unfold wpList;rw[if_neg (by simp[Region.wanted,B])];exact k
end
end Go.Wk
namespace Go.Wk
open Go Go.RowKit
def digit (c:UInt8):Bool:=decide (48≤c.toNat∧c.toNat≤57)
def jI (c:UInt8):Bool:=decide ((65≤c.toNat∧c.toNat≤90)∨(48≤c.toNat∧c.toNat≤57)∨c.toNat=95)
def fH (s:Ly):Bool:=decide (1≤s.length) && decide (s.length≤64) && !digit (s.getD 0 0) && s.all jI
theorem NJ {f:UInt8→Bool} {s:Ly} (h:∀j,j<s.length→f (s.getD j 0)=true):s.all f=true:=by
  rw[List.all_eq_true]
  intro x B
  obtain⟨j,A,rfl⟩:=List.mem_iff_getElem.1 B
  have:=h j A
  simpa [List.getD,A]using this
theorem abS {f:UInt8→Bool} {s:Ly} (h:s.all f=true) {j:Nat} (hj:j<s.length):f (s.getD j 0)=true:=by
  rw[List.all_eq_true]at h
  have:=h (s[j]'hj) (List.getElem_mem hj)
  simpa [List.getD,hj]using this
theorem WB {s:Ly} (h1:1≤s.length) (h2:s.length≤64) (h3:digit (s.getD 0 0)=false) (h4:∀j,j<s.length→jI (s.getD j 0)=true):fH s=true:=by
  unfold fH;rw[decide_eq_true h1,decide_eq_true h2,h3,NJ h4];rfl
theorem iy {s:Ly} (h:fH s=true):1≤s.length∧s.length≤64:=by
  simp only[fH,Bool.and_eq_true,decide_eq_true_eq]at h;exact⟨h.1.1.1,h.1.1.2⟩
theorem ac1 {s:Ly} (h:fH s=true) {c:UInt8} (hc:c∈s):jI c=true:=by
  simp only[fH,Bool.and_eq_true]at h
  exact List.all_eq_true.1 h.2 c hc
theorem iZ {s:Ly} (h:fH s=true):¬(48≤(s.getD 0 0).toNat∧(s.getD 0 0).toNat≤57):=by
  simp only[fH,Bool.and_eq_true,Bool.not_eq_true']at h
  have:=h.1.2
  unfold digit at this
  exact dF this
theorem lH {s:Ly} (h:fH s=true) (j:Nat) (hj:j<s.length):(65≤(s.getD j 0).toNat∧(s.getD j 0).toNat≤90)∨(48≤(s.getD j 0).toNat∧(s.getD j 0).toNat≤57)∨(s.getD j 0).toNat=95:=by
  simp only[fH,Bool.and_eq_true]at h
  exact dT (abS h.2 hj)
abbrev zu:=List UInt8 × List UInt8
def whole (p:zu):List UInt8:=p.1 ++ [61] ++ p.2
def right (p:zu):Bool:=fH p.1 && decide (p.2.length≤256)
def aci (p:zu):Int:=if fH p.1=false then 1 else if 256<p.2.length then 21 else 0
def jU (s:Ly):Int :=
  if Lib.indexByte s 61<0 then 20 else if fH (s.take (Lib.indexByte s 61).toNat)=false then 20 else if 256<(s.drop ((Lib.indexByte s 61).toNat+1)).length then 21 else 0
def qZ (s:Ly):zu:=if jU s=0 then(s.take (Lib.indexByte s 61).toNat,s.drop ((Lib.indexByte s 61).toNat+1))else([],[])
theorem mY (p:zu):(aci p=0)↔right p=true:=by
  unfold aci right
  cases fH p.1 <;> simp
theorem Le {s:Ly} {c:UInt8} (h:0≤Lib.indexByte s c):(Lib.indexByte s c).toNat<s.length∧s[(Lib.indexByte s c).toNat]? = some c:=by
  obtain⟨o,A⟩:=Int.eq_ofNat_of_zero_le h
  have:=(Lib.indexByte_some A).1
  rw[A]
  exact⟨(List.getElem?_eq_some_iff.1 this).1,this⟩
theorem Lb {a b:Ly} {c:UInt8} (h:c∉a):Lib.indexByte (a ++ c :: b) c=a.length:=by
  induction a with
  | nil=>simp[Lib.indexByte]
  | cons x r ih =>
    have B:x≠c:=fun A=>h (by simp[A])
    have C:c∉r:=fun A=>h (by simp[A])
    have D:(x == c)=false:=by simp[B]
    simp only[List.cons_append,Lib.indexByte,D,ih C]
    have:((r.length:Int) == -1)=false:=by rw[beq_eq_false_iff_ne];omega
    simp[this]
theorem oO {p:zu} (h:aci p=0):jU (whole p)=0∧qZ (whole p)=p:=by
  obtain⟨a,b⟩:=p
  have A:=(mY _).1 h
  simp only[right,Bool.and_eq_true,decide_eq_true_eq]at A
  have G:(61:UInt8)∉a:=fun F=>by
    have:=ac1 A.1 F
    revert this;decide
  have E:Lib.indexByte (whole (a,b)) 61=a.length:=by
    unfold whole;simp only[List.append_assoc,List.singleton_append];exact Lb G
  have B:(whole (a,b)).take a.length=a:=by simp[whole]
  have C:(whole (a,b)).drop (a.length+1)=b:=by
    unfold whole
    rw[List.drop_append_of_le_length Oq]
    simp
  have D:jU (whole (a,b))=0:=by
    unfold jU
    rw[E,if_neg Oh,Int.toNat_natCast,B,C,if_neg (by simp[A.1]),if_neg Oh]
  refine⟨D,?_⟩
  unfold qZ
  rw[if_pos D,E,Int.toNat_natCast,B,C]
theorem ze {s:Ly} (h:jU s≠0):qZ s=([],[]):=by unfold qZ;rw[if_neg h]
theorem ac2 {s:Ly} (h1:1≤s.length) (h:∀j,j<s.length→jI (s.getD j 0)=true∧(j=0→digit (s.getD j 0)=false)):decide ((s.length:Int)≤64)=fH s:=by
  have B:=(h 0 Oh).2 q
  have A:=NJ fun j C=>(h j C).1
  unfold fH
  rw[decide_eq_true h1,B,A,Bool.true_and,Bool.not_false,Bool.and_true,Bool.and_true]
  exact decide_eq_decide.2 Oh
section
variable {P:Program} {n:Nat} {A:Fr n} {D:List Deferred} {l:List (Nat × Value)} {w:World}
variable {d:Option Tmp} {ty:TypeId} {ps:String} {af:Array Edge} {g:Option (Nat × Bool)}
theorem agd {f:FuncId} {xs:List Operand} {ts:Array TypeId} {vs:List Value} {v:Value} (ha:evs n l xs=some vs) (hr:(callFunc f vs.toArray).run P w = .ok (.value v) w) :
    dS P ⟨d,.call {callee:=.value (.func f),args:=xs.toArray,argTypes:=ts},ty,ps,af,g⟩ (b9 A D l).eval w v:=by
  have B:=nB (A:=A) (D:=D) ha
  simp only[dS,execOp,resolve,Act.eval,Deferred.ofValue,List.map_toArray,B]
  simp[invoke,hr]
theorem agp {v:Value} {s:Ly} (hB:By w v s) (c:UInt8):(Extern.BytealgIndexByte.indexByte #[v,b8 c]).run P w = .ok (.int .i64 (Lib.indexByte s c)) w:=by
  obtain⟨a,A,rfl,J,M,K,H⟩:=hB
  have D:Lib.bytesOf (s.map fun x=>(x.toNat:Int))=s:=by
    simp[Lib.bytesOf,Function.comp_def]
  cases s with
  | nil =>
    cases a with
    | none =>
      change Sem.run P (do
        let b ← Extern.Bytes.bytesOf (.slice none 0 A)
        let c ← Extern.Bytes.asByte (b8 c)
        match (List.range b.size).find? fun i=>b[i]! == c with
        | some i=>pure (goInt i)
        | none=>pure (goInt (-1))) w=_
      simp[Extern.Bytes.bytesOf,Extern.Bytes.asByte,b8,Lib.indexByte,goInt]
    | some p =>
      change Sem.run P (do
        let b ← Extern.Bytes.bytesOf (.slice (some p) 0 A)
        let c ← Extern.Bytes.asByte (b8 c)
        match (List.range b.size).find? fun i=>b[i]! == c with
        | some i=>pure (goInt i)
        | none=>pure (goInt (-1))) w=_
      simp[Extern.Bytes.bytesOf,Extern.Bytes.asByte,b8,Lib.indexByte,Extern.Bytes.loadBytes,goInt]
  | cons x r =>
    cases a with
    | none=>have:=K rfl;simp at J;omega
    | some p =>
      have C:=H p rfl 0 (b8 x) rfl
      obtain⟨F,G,B⟩:=p
      have E:B=none:=by
        cases B with
        | none=>rfl
        | some q =>
          unfold World.cell? at C
          simp only[Addr.add]at C
          split at C <;> (simp at C;done)
      subst E
      have:=Lib.run_indexByteSlice (P:=P) w F G (x :: r).length A ((x :: r).map fun x=>(x.toNat:Int)) Oq (fun i I=>by
        have:=H _ rfl i (b8 ((x :: r).getD i 0)) (by simpa using VF (x :: r) i I)
        have L:(⟨F,G,none⟩:Addr).add i=⟨F,G+i,none⟩:=by unfold Addr.add;split <;> simp_all
        rw[L]at this
        rw[this,b8]
        rw[List.getD_eq_getElem?_getD,List.getD_eq_getElem?_getD,List.getElem?_map,List.getElem?_eq_getElem I];rfl) c.toNat
      rw[D]at this
      simpa [b8]using this
end
end Go.Wk
namespace Go.Wk
open Go Go.RowKit
def je:List UInt8→Int
  | []=>0
  | b :: r=>(b.toNat:Int)+256*je r
theorem sF (l:Ly):0≤je l:=by
  induction l with
  | nil=>simp[je]
  | cons b r ih=>simp only[je];omega
theorem acn (l:Ly):je l<256 ^ l.length:=by
  induction l with
  | nil=>simp[je]
  | cons b r ih =>
    simp only[je,List.length_cons,Int.pow_succ]
    have:=b.toNat_lt
    omega
theorem uy {l:Ly} {k:Nat} (h:l.length≤k):je l<256 ^ k:=by
  refine Int.lt_of_lt_of_le (acn l) ?_
  have B:256 ^ l.length≤256 ^ k:=Nat.pow_le_pow_right Oh h
  have A:=Int.ofNat_le.2 B
  rw[Int.natCast_pow,Int.natCast_pow]at A
  exact A
def szB (n:Int):Bool:=decide (n=1∨n=2∨n=4∨n=8)
theorem agv (v:Int) (c:UInt8) (h0:0≤v) (h1:v<72057594037927936) :
    bits .or .u64 (nN .u64 v 8) (IntKind.u64.wrap (c.toNat:Int))=(c.toNat:Int)+256*v:=by
  obtain⟨m,rfl⟩:=Int.eq_ofNat_of_zero_le h0
  have E:=c.toNat_lt
  have A:nN .u64 (m:Int) 8=((m*256:Nat):Int):=by
    unfold nN
    have:min (8:Int).toNat IntKind.u64.bits=8:=by decide
    rw[this,wrap_u64 Oh Oh]
    omega
  have B:IntKind.u64.wrap (c.toNat:Int)=(c.toNat:Int):=wrap_u64 Oh Oh
  rw[A,B]
  unfold bits
  simp only[BitVec.ofInt_natCast]
  have D:IntKind.u64.bits=64:=rfl
  have C:(BitVec.ofNat IntKind.u64.bits (m*256) ||| BitVec.ofNat IntKind.u64.bits c.toNat).toNat=c.toNat+256*m:=by
    rw[BitVec.toNat_or,BitVec.toNat_ofNat,BitVec.toNat_ofNat,D,Nat.mod_eq_of_lt Oh,Nat.mod_eq_of_lt Oh]
    have:=Nat.two_pow_add_eq_or_of_lt (i:=8) (show c.toNat<2 ^ 8 by omega) m
    rw[show m*256=2 ^ 8*m by omega,← this]
    omega
  rw[C,wrap_u64 Oh Oh]
  omega
theorem SC (l:Ly) (at' i k:Nat) (h:at'+i<l.length):je (((l.drop (at'+i)).take (k+1)))=((l.getD (at'+i) 0).toNat:Int)+256*je ((l.drop (at'+(i+1))).take k):=by
  have:l.drop (at'+i)=l.getD (at'+i) 0 :: l.drop (at'+(i+1)):=by
    rw[List.drop_eq_getElem_cons h]
    simp[List.getD,h,Nat.add_assoc]
  rw[this]
  rfl
theorem YO {l:Ly} (a n:Int) (k:Nat) (hn:n=1∨n=2∨n=4∨n=8) (ha:0≤a) (hl:a+n≤l.length) (hk:(k:Int)<n) :
    bits .or .u64 (nN .u64 (je ((l.drop (a.toNat+(n.toNat-k))).take k)) 8) (IntKind.u64.wrap ((l.getD (a+(n-1-k)).toNat 0).toNat:Int)) =
      je ((l.drop (a.toNat+(n.toNat-(k+1)))).take (k+1)):=by
  have A:=sF ((l.drop (a.toNat+(n.toNat-k))).take k)
  have B:je ((l.drop (a.toNat+(n.toNat-k))).take k)<256 ^ 7:=uy Vw
  rw[agv _ _ A (by simpa using B),SC l a.toNat (n.toNat-(k+1)) k Oh]
  rw[show(a+(n-1-k)).toNat=a.toNat+(n.toNat-(k+1))by omega,show n.toNat-(k+1)+1=n.toNat-k by omega]
def tF (x k:Int):Int:=bits .or .u32 (nN .u32 x k) (agw .u32 x (32-k))
def zL (x k:Int):Int:=bits .or .u64 (nN .u64 x k) (agw .u64 x (64-k))
theorem vP (k:Int) (m:Nat) (h0:0≤k) (h1:k<2 ^ m) (hm:m≤63):bits .and .u64 (IntKind.u64.wrap k) ((2 ^ m-1:Nat):Int)=k:=by
  obtain⟨x,rfl⟩:=Int.eq_ofNat_of_zero_le h0
  have D:x<2 ^ m:=by
    have:((x:Nat):Int)<((2 ^ m:Nat):Int):=by rw[Int.natCast_pow];exact h1
    exact Int.ofNat_lt.1 this
  have C:2 ^ m≤2 ^ 63:=Nat.pow_le_pow_right Oh hm
  have A:(x:Int)<18446744073709551616:=by
    have:x<2 ^ 63:=by omega
    omega
  rw[wrap_u64 Oh A]
  unfold bits
  simp only[BitVec.ofInt_natCast]
  have B:IntKind.u64.bits=64:=rfl
  rw[BitVec.toNat_and,BitVec.toNat_ofNat,BitVec.toNat_ofNat,B,Nat.mod_eq_of_lt (show x<2 ^ 64 by omega),Nat.mod_eq_of_lt (show 2 ^ m-1<2 ^ 64 by omega),Nat.and_two_pow_sub_one_eq_mod,Nat.mod_eq_of_lt D]
  exact wrap_u64 Oh A
theorem ajc {k:Int} (h0:0≤k) (h1:k<32):bits .and .u64 (IntKind.u64.wrap k) 31=k:=vP k 5 h0 (by simpa using h1) Oh
theorem ajd {k:Int} (h0:0≤k) (h1:k<64):bits .and .u64 (IntKind.u64.wrap k) 63=k:=vP k 6 h0 (by simpa using h1) Oh
structure T3 where
  x:Int
  y:Int
  z:Int
def T3.cells (t:T3):List Value:=[.int .u32 t.x,.int .u32 t.y,.int .u32 t.z]
def wL (l:Ly) (i:Nat):Int:=je [l.getD i 0,l.getD (i+1) 0,l.getD (i+2) 0,l.getD (i+3) 0]
def tO (x:Int):Int:=IntKind.u32.wrap x
def mV (t:T3) (l:Ly):T3:=⟨tO (t.x+tO (wL l 0)),tO (t.y+tO (wL l 4)),tO (t.z+tO (wL l 8))⟩
def wm (a b:Int):Int:=bits .xor .u32 a b
def akg (t:T3) (a b c:Int):T3 :=
  let x:=wm (tO (t.x-t.z)) (tF t.z a)
  let z:=tO (t.z+t.y)
  let y:=wm (tO (t.y-x)) (tF x b)
  let x:=tO (x+z)
  let z:=wm (tO (z-y)) (tF y c)
  ⟨x,tO (y+x),z⟩
def mix (t:T3):T3:=akg (akg t 4 6 8) 16 19 4
def last (t:T3):T3 :=
  let z:=tO (wm t.z t.y-tF t.y 14)
  let x:=tO (wm t.x z-tF z 11)
  let y:=tO (wm t.y x-tF x 25)
  let z:=tO (wm z y-tF y 16)
  let x:=tO (wm x z-tF z 4)
  let y:=tO (wm y x-tF x 14)
  let z:=tO (wm z y-tF y 24)
  ⟨x,y,z⟩
def pack (t:T3):Int:=bits .or .u64 (nN .u64 (IntKind.u64.wrap t.z) 32) (IntKind.u64.wrap t.y)
def ng:Nat→T3→List UInt8→Int
  | 0,t,l=>if l=[]then pack t else pack (last (mV t l))
  | k+1,t,l=>if 12<l.length then ng k (mix (mV t l)) (l.drop 12)else if l=[]then pack t else pack (last (mV t l))
theorem acp:∀(k j:Nat) (t:T3) (l:Ly),l.length≤k→l.length≤j→ng k t l=ng j t l:=by
  intro k
  induction k with
  | zero =>
    intro j t l B C
    have A:l=[]:=List.eq_nil_of_length_eq_zero Oh
    subst A
    cases j <;> simp[ng]
  | succ k ih =>
    intro j t l B C
    cases j with
    | zero =>
      have A:l=[]:=List.eq_nil_of_length_eq_zero Oh
      subst A
      simp[ng]
    | succ j =>
      simp only[ng]
      split
      · exact ih j _ _ Vw Vw
      · rfl
def lk (t:T3) (l:Ly):Int:=ng l.length t l
theorem VS (t:T3) (l:Ly) (h:12<l.length):lk t l=lk (mix (mV t l)) (l.drop 12):=by
  unfold lk
  obtain⟨k,hk⟩:∃k,l.length=k+1:=⟨l.length-1,by omega⟩
  rw[hk]
  simp only[ng,if_pos h]
  exact acp _ _ _ _ Vw Oq
theorem ain (t:T3):lk t []=pack t:=by simp[lk,ng]
theorem VQ (t:T3) (l:Ly) (h:l≠[]) (h2:l.length≤12):lk t l=pack (last (mV t l)):=by
  unfold lk
  obtain⟨k,hk⟩:∃k,l.length=k+1:=⟨l.length-1,by have:=List.length_pos_iff.2 h;omega⟩
  rw[hk]
  simp only[ng,if_neg (show ¬12<l.length by omega),if_neg h]
def SE (l:Ly):T3:=⟨tO (3735928559+tO l.length),tO (3735928559+tO l.length),tO (3735928559+tO l.length)⟩
def lookup (l:Ly):Int:=lk (SE l) l
theorem DU (l:Ly) (i:Nat) (h:i+4≤l.length):je ((l.drop i).take 4)=wL l i:=by
  unfold wL
  congr 1
  apply List.ext_getElem
  · simp;omega
  intro j B A
  simp at A
  have:j=0∨j=1∨j=2∨j=3:=by omega
  rcases this with rfl|rfl|rfl|rfl <;> simp[List.getD] <;> rw[List.getElem?_eq_getElem Oh] <;> rfl
theorem aas (v:Int) (c:UInt8) (h0:0≤v) (h1:v<16777216) :
    bits .or .u32 (nN .u32 v 8) (IntKind.u32.wrap (c.toNat:Int))=(c.toNat:Int)+256*v:=by
  obtain⟨m,rfl⟩:=Int.eq_ofNat_of_zero_le h0
  have E:=c.toNat_lt
  have A:nN .u32 (m:Int) 8=((m*256:Nat):Int):=by
    unfold nN
    have:min (8:Int).toNat IntKind.u32.bits=8:=by decide
    rw[this,wrap_u32 Oh Oh]
    omega
  have B:IntKind.u32.wrap (c.toNat:Int)=(c.toNat:Int):=wrap_u32 Oh Oh
  rw[A,B]
  unfold bits
  simp only[BitVec.ofInt_natCast]
  have D:IntKind.u32.bits=32:=rfl
  have C:(BitVec.ofNat IntKind.u32.bits (m*256) ||| BitVec.ofNat IntKind.u32.bits c.toNat).toNat=c.toNat+256*m:=by
    rw[BitVec.toNat_or,BitVec.toNat_ofNat,BitVec.toNat_ofNat,D,Nat.mod_eq_of_lt Oh,Nat.mod_eq_of_lt Oh]
    have:=Nat.two_pow_add_eq_or_of_lt (i:=8) (show c.toNat<2 ^ 8 by omega) m
    rw[show m*256=2 ^ 8*m by omega,← this]
    omega
  rw[C,wrap_u32 Oh Oh]
  omega
theorem agu (v:Int) (h0:0≤v) (h1:v<16777216):nN .u32 v 8=256*v:=by
  unfold nN
  have:min (8:Int).toNat IntKind.u32.bits=8:=by decide
  rw[this,wrap_u32 Oh Oh]
  omega
def xj (l:Ly) (i k:Nat):Int:=je ([l.getD i 0,l.getD (i+1) 0,l.getD (i+2) 0,l.getD (i+3) 0].drop (4-k))
theorem DT (l:Ly) (i k:Nat) (hk:k<4):xj l i (k+1)=((l.getD (i+(3-k)) 0).toNat:Int)+256*xj l i k:=by
  have:k=0∨k=1∨k=2∨k=3:=by omega
  rcases this with rfl|rfl|rfl|rfl <;> rfl
theorem OY (l:Ly) (i k:Nat) (hk:k<4):0≤xj l i k∧xj l i k<16777216:=by
  refine⟨sF _,?_⟩
  have:=uy (l:=[l.getD i 0,l.getD (i+1) 0,l.getD (i+2) 0,l.getD (i+3) 0].drop (4-k)) (k:=3) Vw
  exact this
theorem yF (l:Ly) (i:Nat):0≤wL l i∧wL l i<4294967296 :=
  ⟨sF _,uy (k:=4) Oq⟩
theorem agD (l:Ly) (i:Nat):tO (wL l i)=wL l i:=wrap_u32 (yF l i).1 (yF l i).2
theorem CV (l:Ly) (i:Nat) (h:l.length≤i):l.getD i 0=0:=by simp[List.getD,List.getElem?_eq_none h]
theorem yG {l l':Ly} {i j:Nat} (h:∀k,k<4→l.getD (i+k) 0=l'.getD (j+k) 0):wL l i=wL l' j:=by
  unfold wL
  have A:=h 0 Oh;have B:=h 1 Oh;have C:=h 2 Oh;have D:=h 3 Oh
  simp only[Nat.add_zero]at A
  rw[A,B,C,D]
def tE (m:Nat) (l:Ly):List UInt8:=l ++ List.replicate (m-l.length) 0
theorem FG (m:Nat) (l:Ly) (i:Nat):(tE m l).getD i 0=l.getD i 0:=by
  unfold tE
  by_cases h:i<l.length
  · simp[List.getD,List.getElem?_append_left h]
  rw[CV l i Oh]
  simp only[List.getD]
  rw[List.getElem?_append_right Oh,List.getElem?_replicate]
  split <;> rfl
theorem rW (m:Nat) (l:Ly) (h:l.length≤m):(tE m l).length=m:=by simp[tE];omega
theorem af4 (m:Nat) (l:Ly) (i:Nat):wL (tE m l) i=wL l i:=yG fun k _=>FG m l (i+k)
theorem XM (t:T3) (m:Nat) (l:Ly):mV t (tE m l)=mV t l:=by simp only[mV,af4]
theorem OZ (l:Ly) (d i:Nat):wL (l.drop d) i=wL l (d+i):=yG fun k _=>by simp[List.getD,Nat.add_assoc]
theorem yH (l:Ly) (m i:Nat) (h:i+4≤m):wL (l.take m) i=wL l i:=yG fun k hk=>by simp only[List.getD];rw[List.getElem?_take,if_pos Oh]
theorem RA (t:T3) (l:Ly) (m:Nat) (h:12≤m):mV t (l.take m)=mV t l:=by
  simp only[mV]
  rw[yH l m 0 Oh,yH l m 4 Oh,yH l m 8 Oh]
theorem GB {m:Nat} {l:Ly} (h:l.length≤m):iu ((List.replicate m 0).map b8) 0 ((l.map b8).take m)=(tE m l).map b8:=by
  have e:(l.map b8).take m=l.map b8:=List.take_of_length_le (by simpa using h)
  rw[e]
  simp[iu,tE]
theorem agF (l:Ly) (a:Int) (k:Nat) (ha:0≤a) (hk:k<4) (_h:a+(3-k)<l.length) :
    bits .or .u32 (nN .u32 (xj l a.toNat k) 8) (IntKind.u32.wrap ((l.getD (a+(3-k)).toNat 0).toNat:Int))=xj l a.toNat (k+1):=by
  obtain⟨A,B⟩:=OY l a.toNat k hk
  rw[aas _ _ A B,DT l _ _ hk,show(a+(3-k)).toNat=a.toNat+(3-k)by omega]
theorem aep (l:Ly) (a:Int) (k:Nat) (ha:0≤a) (hk:k<4) (h:l.length≤a+(3-k)):nN .u32 (xj l a.toNat k) 8=xj l a.toNat (k+1):=by
  obtain⟨A,B⟩:=OY l a.toNat k hk
  rw[agu _ A B,DT l _ _ hk,CV l _ Oh]
  simp
theorem JL (t:T3) (l:Ly) (k:Nat):(⟨tO (t.x+wL l (k:Int).toNat),tO (t.y+wL l (k+4:Int).toNat),tO (t.z+wL l (k+8:Int).toNat)⟩:T3)=mV t (l.drop k):=by
  simp only[mV,agD,OZ]
  rw[show(k:Int).toNat=k+0 by omega,show(k+4:Int).toNat=k+4 by omega,show(k+8:Int).toNat=k+8 by omega]
structure S4 where
  p:Int
  q:Int
  r:Int
  s:Int
def S4.cells (v:S4) (n:Int) (rest:Value):List Value:=[.int .u64 v.p,.int .u64 v.q,.int .u64 v.r,.int .u64 v.s,.int .i64 n,rest]
def S4.arr (v:S4):List Value:=[.int .u64 v.p,.int .u64 v.q,.int .u64 v.r,.int .u64 v.s]
theorem S4.uZ (v:S4):v.arr.length=4:=rfl
theorem S4.KH (v:S4):∀u∈v.arr,u.oneCell'=true:=by intro u A;simp[S4.arr]at A;rcases A with rfl|rfl|rfl|rfl<;>rfl
def w64 (x:Int):Int:=IntKind.u64.wrap x
def mA (a b:Int):Int:=bits .xor .u64 a b
def adX (v:S4):S4 :=
  let p:=w64 (v.p+v.q)
  let q:=mA (zL v.q 13) p
  let p:=zL p 32
  let r:=w64 (v.r+v.s)
  let s:=mA (zL v.s 16) r
  let p:=w64 (p+s)
  let s:=mA (zL s 21) p
  let r:=w64 (r+q)
  let q:=mA (zL q 17) r
  ⟨p,q,zL r 32,s⟩
def fI:Nat→S4→S4
  | 0,v=>v
  | k+1,v=>adX (fI k v)
def S4.xp (v:S4) (m:Int):S4:=⟨mA v.p m,v.q,v.r,v.s⟩
def S4.xr (v:S4) (m:Int):S4:=⟨v.p,v.q,mA v.r m,v.s⟩
def S4.xs (v:S4) (m:Int):S4:=⟨v.p,v.q,v.r,mA v.s m⟩
def S4.all (v:S4):Int:=mA (mA (mA v.p v.q) v.r) v.s
def pH (v:S4) (m:Int):S4:=(fI 2 (v.xs m)).xp m
theorem aiF (v:S4) (m n:Int) (rest:Value):(v.cells n rest).set 0 (.int .u64 (mA v.p m))=(v.xp m).cells n rest:=rfl
theorem aiG (v:S4) (m n:Int) (rest:Value):(v.cells n rest).set 2 (.int .u64 (mA v.r m))=(v.xr m).cells n rest:=rfl
theorem aiH (v:S4) (m n:Int) (rest:Value):(v.cells n rest).set 3 (.int .u64 (mA v.s m))=(v.xs m).cells n rest:=rfl
theorem aaX (v:S4) (m:Int):v.arr.set 0 (.int .u64 (mA v.p m))=(v.xp m).arr:=rfl
theorem ah6 (v:S4) (m:Int):v.arr.set 2 (.int .u64 (mA v.r m))=(v.xr m).arr:=rfl
theorem aaY (v:S4) (m:Int):v.arr.set 3 (.int .u64 (mA v.s m))=(v.xs m).arr:=rfl
def qR (key:Ly):S4 :=
  ⟨mA (je ((key.drop 0).take 8)) 8317987319222330741,mA (je ((key.drop 8).take 8)) 7237128888997146477,
   mA (je ((key.drop 0).take 8)) 7816392313619706465,mA (je ((key.drop 8).take 8)) 8387220255154660723⟩
def KC:Nat→S4→List UInt8→S4 × List UInt8
  | 0,v,l=>(v,l)
  | k+1,v,l=>if 8≤l.length then KC k (pH v (je (l.take 8))) (l.drop 8)else(v,l)
theorem XL:∀(k j:Nat) (v:S4) (l:Ly),l.length≤k→l.length≤j→KC k v l=KC j v l:=by
  intro k
  induction k with
  | zero =>
    intro j v l B C
    have A:l=[]:=List.eq_nil_of_length_eq_zero Oh
    subst A
    cases j <;> simp[KC]
  | succ k ih =>
    intro j v l B C
    cases j with
    | zero =>
      have A:l=[]:=List.eq_nil_of_length_eq_zero Oh
      subst A
      simp[KC]
    | succ j =>
      simp only[KC]
      split
      · exact ih j _ _ Vw Vw
      · rfl
def kV (v:S4) (l:Ly):S4 × List UInt8:=KC l.length v l
theorem uN (v:S4) (l:Ly) (h:8≤l.length):kV v l=kV (pH v (je (l.take 8))) (l.drop 8):=by
  unfold kV
  obtain⟨k,hk⟩:∃k,l.length=k+1:=⟨l.length-1,by omega⟩
  rw[hk]
  simp only[KC,if_pos h]
  exact XL _ _ _ _ Vw Oq
theorem qQ (v:S4) (l:Ly) (h:l.length<8):kV v l=(v,l):=by
  unfold kV
  cases hk:l.length with
  | zero=>rfl
  | succ k=>simp only[KC];rw[if_neg Oh]
theorem TK:∀(k:Nat) (v:S4) (l:Ly),l.length≤k→(kV v l).2.length<8:=by
  intro k
  induction k with
  | zero =>
    intro v l h
    rw[qQ v l Oh]
    simp;omega
  | succ k ih =>
    intro v l h
    by_cases h8:8≤l.length
    · rw[uN v l h8];exact ih _ _ Vw
    · rw[qQ v l Oh];simp;omega
def kW (r:Ly) (n:Int):List UInt8:=(tE 8 r).set 7 (UInt8.ofNat n.toNat)
def FZ (v:S4) (r:Ly) (n:Int):Int :=
  (fI 4 ((pH v (je (((kW r n).drop 0).take 8))).xr 255)).all
def sip (key l:Ly):Int:=FZ (kV (qR key) l).1 (kV (qR key) l).2 l.length
theorem aeE (n:Int) (h:0≤n):Value.int .u8 (IntKind.u8.wrap n)=b8 (UInt8.ofNat n.toNat):=by
  unfold b8
  rw[Rw]
  congr 1
  simp
  omega
theorem al5 (a b:Nat) (h:a<8):(if(b:Int)<8-(a:Int)then(b:Int)else 8-(a:Int))=((min (8-a) b:Nat):Int):=by split<;>omega
theorem HA (r:Ly) (n:Int) (hn:0≤n):((tE 8 r).map b8).set 7 (.int .u8 (IntKind.u8.wrap n))=(kW r n).map b8:=by
  rw[aeE n hn,kW,List.map_set]
theorem uO (r:Ly) (n:Int) (h:r.length≤8):(kW r n).length=8:=by rw[kW,List.length_set,rW 8 r h]
theorem aaR (v:S4) (rl l:Ly) (_h:rl.length<8) (h8:rl.length+min (8-rl.length) l.length=8) :
    kV v (rl ++ l)=kV (pH v (je (((rl ++ l.take (min (8-rl.length) l.length)).drop 0).take 8))) ([] ++ l.drop (min (8-rl.length) l.length)):=by
  generalize hk:min (8-rl.length) l.length=k at *
  have e:rl ++ l=(rl ++ l.take k) ++ l.drop k:=by simp
  have A:(rl ++ l.take k).length=8:=by simp;omega
  rw[uN v (rl ++ l) Vw,e,List.take_append_of_le_length Oh,List.drop_append_of_le_length Oh,List.take_of_length_le Oh,List.drop_of_length_le Oh]
  simp only[List.drop_zero]
  rw[List.take_of_length_le (show(rl ++ l.take k).length≤8 by omega)]
theorem aaS (v:S4) (rl l:Ly) (k:Nat):kV v (rl ++ l)=kV v ((rl ++ l.take k) ++ l.drop k):=by simp
def vL (l:Ly) (i:Nat):Int:=wL l i+4294967296*wL l (i+4)
theorem ail (l:Ly) (i:Nat):0≤vL l i∧vL l i<18446744073709551616:=by
  obtain⟨A,B⟩:=yF l i
  obtain⟨C,D⟩:=yF l (i+4)
  unfold vL
  omega
theorem WN (a b k:Nat) (hk:k<64) (ha:a<2 ^ k) (hb:b*2 ^ k<2 ^ 64) :
    bits .or .u64 (a:Int) ((b*2 ^ k:Nat):Int)=((a+b*2 ^ k:Nat):Int):=by
  have D:2 ^ k≤2 ^ 64:=Nat.pow_le_pow_right Oh Oh
  unfold bits
  simp only[BitVec.ofInt_natCast]
  have hb':IntKind.u64.bits=64:=rfl
  rw[BitVec.toNat_or,BitVec.toNat_ofNat,BitVec.toNat_ofNat,hb',Nat.mod_eq_of_lt Oh,Nat.mod_eq_of_lt hb]
  have:=Nat.two_pow_add_eq_or_of_lt (i:=k) ha b
  rw[Nat.or_comm,show b*2 ^ k=2 ^ k*b from Nat.mul_comm _ _,← this]
  have A:a+2 ^ k*b<2 ^ 64:=by
    obtain⟨c,B⟩:∃c,2 ^ 64=2 ^ k*c:=⟨2 ^ (64-k),by rw[← Nat.pow_add];congr 1;omega⟩
    have C:b<c:=by
      rw[B,Nat.mul_comm]at hb
      exact Nat.lt_of_mul_lt_mul_left hb
    calc a+2 ^ k*b<2 ^ k+2 ^ k*b:=by omega
      _=2 ^ k*(b+1):=by rw[Nat.mul_add];omega
      _≤2 ^ k*c:=Nat.mul_le_mul_left _ C
      _=2 ^ 64:=B.symm
  rw[Nat.add_comm (2 ^ k*b) a]
  exact wrap_u64 Oh (by have:=Int.ofNat_lt.2 A;simpa using this)
theorem QU (a:Nat) (k:Nat) (hk:k≤64) (h:a*2 ^ k<2 ^ 64):nN .u64 (a:Int) (k:Int)=((a*2 ^ k:Nat):Int):=by
  unfold nN
  have:min (k:Int).toNat IntKind.u64.bits=k:=by
    have:IntKind.u64.bits=64:=rfl
    rw[this];omega
  rw[this]
  have e:(a:Int)*2 ^ k=((a*2 ^ k:Nat):Int):=by rw[Int.natCast_mul,Int.natCast_pow];rfl
  rw[e]
  exact wrap_u64 Oh (by have:=Int.ofNat_lt.2 h;simpa using this)
theorem ab0 (l:Ly) (a:Int) (ha:0≤a) :
    bits .or .u64 (IntKind.u64.wrap (wL l a.toNat)) (nN .u64 (IntKind.u64.wrap (wL l (a+4).toNat)) 32)=vL l a.toNat:=by
  obtain⟨A,E⟩:=yF l a.toNat
  obtain⟨B,F⟩:=yF l (a+4).toNat
  rw[wrap_u64 A Oh,wrap_u64 B Oh]
  obtain⟨x,C⟩:=Int.eq_ofNat_of_zero_le A
  obtain⟨y,D⟩:=Int.eq_ofNat_of_zero_le B
  unfold vL
  rw[show a.toNat+4=(a+4).toNat by omega,C,D]
  rw[C]at E;rw[D]at F
  have e:=QU y 32 Oh Oh
  rw[show((32:Nat):Int)=32 from rfl]at e
  rw[e,WN x y 32 Oh Oh Oh]
  omega
theorem xk (l:Ly) (i:Nat):vL l i=je [l.getD i 0,l.getD (i+1) 0,l.getD (i+2) 0,l.getD (i+3) 0,l.getD (i+4) 0,l.getD (i+5) 0,l.getD (i+6) 0,l.getD (i+7) 0]:=by
  simp only[vL,wL,je,Nat.add_assoc,Nat.reduceAdd]
  omega
theorem TU (l:Ly) (i:Nat) (h:i+8≤l.length):(l.drop i).take 8=[l.getD i 0,l.getD (i+1) 0,l.getD (i+2) 0,l.getD (i+3) 0,l.getD (i+4) 0,l.getD (i+5) 0,l.getD (i+6) 0,l.getD (i+7) 0]:=by
  apply List.ext_getElem
  · simp;omega
  intro j B A
  simp at A
  have:j=0∨j=1∨j=2∨j=3∨j=4∨j=5∨j=6∨j=7:=by omega
  rcases this with rfl|rfl|rfl|rfl|rfl|rfl|rfl|rfl <;> simp[List.getD] <;> rw[List.getElem?_eq_getElem Oh] <;> rfl
theorem xo (l:Ly) (i:Nat) (h:i+8≤l.length):je ((l.drop i).take 8)=vL l (i:Int).toNat:=by
  rw[TU l i h,show(i:Int).toNat=i from rfl,xk]
theorem QV (key:Ly) (h:key.length=16):(qR key).arr =
    [.int .u64 (bits .xor .u64 (vL key (0:Int).toNat) 8317987319222330741),.int .u64 (bits .xor .u64 (vL key (8:Int).toNat) 7237128888997146477),
     .int .u64 (bits .xor .u64 (vL key (0:Int).toNat) 7816392313619706465),.int .u64 (bits .xor .u64 (vL key (8:Int).toNat) 8387220255154660723)]:=by
  have A:=xo key 0 Oh
  have B:=xo key 8 Oh
  rw[show((0:Nat):Int)=0 from rfl]at A
  rw[show((8:Nat):Int)=8 from rfl]at B
  simp only[qR,S4.arr,A,B,mA]
theorem QW (r:Ly) (n:Nat) (h:r.length<8):je (((kW r n).drop 0).take 8)=bits .or .u64 (vL r 0) (nN .u64 (IntKind.u64.wrap ((n:Int).tmod 256)) 56):=by
  have R:=uO r n Oh
  have G:=xo (kW r n) 0 Oh
  rw[G,show((0:Nat):Int).toNat=0 from rfl]
  have B:∀i,i<7→(kW r n).getD i 0=r.getD i 0:=by
    intro i Q
    rw[← FG 8 r i]
    simp only[kW,List.getD]
    rw[List.getElem?_set_ne Oh]
  have H:(kW r n).getD 7 0=UInt8.ofNat n:=by
    simp only[kW,List.getD]
    rw[List.getElem?_set_self (by rw[rW 8 r Oh];omega)]
    simp
  have C:r.getD 7 0=0:=CV r 7 Oh
  have F:vL (kW r n) 0=vL r 0+72057594037927936*((n%256:Nat):Int):=by
    rw[xk,xk]
    simp only[je,Nat.zero_add]
    rw[B 0 Oh,B 1 Oh,B 2 Oh,B 3 Oh,B 4 Oh,B 5 Oh,B 6 Oh,H,C]
    have:((UInt8.ofNat n).toNat:Int)=((n%256:Nat):Int):=by simp
    have D:((0:UInt8).toNat:Int)=0:=rfl
    rw[this,D]
    omega
  have A:0≤vL r 0∧vL r 0<72057594037927936:=by
    refine⟨(ail r 0).1,?_⟩
    rw[xk]
    simp only[je,Nat.zero_add,C]
    have J:=(r.getD 0 0).toNat_lt;have K:=(r.getD 1 0).toNat_lt;have L:=(r.getD 2 0).toNat_lt;have M:=(r.getD 3 0).toNat_lt
    have N:=(r.getD 4 0).toNat_lt;have O:=(r.getD 5 0).toNat_lt;have P:=(r.getD 6 0).toNat_lt
    have D:((0:UInt8).toNat:Int)=0:=rfl
    simp only[D]
    omega
  obtain⟨x,E⟩:=Int.eq_ofNat_of_zero_le A.1
  have I:(n:Int).tmod 256=((n%256:Nat):Int):=by rw[Int.tmod_eq_emod_of_nonneg Oh];omega
  rw[F,I,E,wrap_u64 Oh Oh]
  rw[E]at A
  have e:=QU (n%256) 56 Oh Oh
  rw[show((56:Nat):Int)=56 from rfl]at e
  rw[e,WN x (n%256) 56 Oh Oh Oh]
  omega
theorem ack (l:Ly) (d i:Nat):vL (l.drop d) i=vL l (d+i):=by simp only[vL,OZ,Nat.add_assoc]
theorem adS (l:Ly) (v:S4) (k:Nat) (hk:k≤l.length) (h8:l.length<k+8) :
    bits .xor .u64 (bits .xor .u64 (bits .xor .u64 (fI 4 (((fI 2 (v.xs (bits .or .u64 (vL l (k:Int).toNat) (nN .u64 (IntKind.u64.wrap ((l.length:Int).tmod 256)) 56)))).xp (bits .or .u64 (vL l (k:Int).toNat) (nN .u64 (IntKind.u64.wrap ((l.length:Int).tmod 256)) 56))).xr 255)).p
        (fI 4 (((fI 2 (v.xs (bits .or .u64 (vL l (k:Int).toNat) (nN .u64 (IntKind.u64.wrap ((l.length:Int).tmod 256)) 56)))).xp (bits .or .u64 (vL l (k:Int).toNat) (nN .u64 (IntKind.u64.wrap ((l.length:Int).tmod 256)) 56))).xr 255)).q)
        (fI 4 (((fI 2 (v.xs (bits .or .u64 (vL l (k:Int).toNat) (nN .u64 (IntKind.u64.wrap ((l.length:Int).tmod 256)) 56)))).xp (bits .or .u64 (vL l (k:Int).toNat) (nN .u64 (IntKind.u64.wrap ((l.length:Int).tmod 256)) 56))).xr 255)).r)
        (fI 4 (((fI 2 (v.xs (bits .or .u64 (vL l (k:Int).toNat) (nN .u64 (IntKind.u64.wrap ((l.length:Int).tmod 256)) 56)))).xp (bits .or .u64 (vL l (k:Int).toNat) (nN .u64 (IntKind.u64.wrap ((l.length:Int).tmod 256)) 56))).xr 255)).s=FZ v (l.drop k) l.length:=by
  have e:vL l (k:Int).toNat=vL (l.drop k) 0:=by rw[ack];rfl
  rw[e,← QW (l.drop k) l.length Vw]
  unfold FZ pH
  generalize je (((kW (l.drop k) (l.length:Int)).drop 0).take 8)=m
  generalize fI 4 (((fI 2 (v.xs m)).xp m).xr 255)=u
  rfl
end Go.Wk
namespace Go.Wk
open Go Go.RowKit
def ajb (cs:List Value):Prop:=∀u∈cs,u.oneCell'=true
structure Dt (α:Type) where
  n:Nat
  bn:0<n
  qd:World→(Nat→Prop)→List Value→α→Prop
  len:∀{w Q cs x},qd w Q cs x→cs.length=n
  one:∀{w Q cs x},qd w Q cs x→ajb cs
  md:∀{S w w' Q cs x},qd w Q cs x→Md S w w'→(∀b∈S,¬Q b)→qd w' Q cs x
  sub:∀{w Q Q' cs x},qd w Q cs x→(∀b,Q b→b<w.heap.size→Q' b)→qd w Q' cs x
def vN {α:Type} (f:α→Value) (h1:∀x,(f x).oneCell'=true) (ok:α→Prop):Dt α where
  n:=1
  bn:=Nat.zero_lt_one
  qd _ _ cs x:=cs=[f x]∧ok x
  len:=by rintro _ _ _ _ ⟨rfl,_⟩;rfl
  one:=by rintro _ _ _ _ ⟨rfl,_⟩ u hu;simp at hu;subst hu;exact h1 _
  md:=fun h _ _=>h
  sub:=fun h _=>h
def ec:Dt Nat:=vN (fun x=>.int .u64 (x:Int)) (fun _=>rfl) (fun x=>x<18446744073709551616)
def tU32:Dt Nat:=vN (fun x=>.int .u32 (x:Int)) (fun _=>rfl) (fun x=>x<4294967296)
def jQ:Dt Nat:=vN (fun x=>.int .i64 (x:Int)) (fun _=>rfl) (fun x=>x<9223372036854775808)
def qq:Dt Int:=vN (fun x=>.int .i64 x) (fun _=>rfl) (fun x=>-9223372036854775808≤x∧x<9223372036854775808)
def fF:Dt UInt8:=vN b8 (fun _=>rfl) (fun _=>True)
def ak7:Dt Bool:=vN (fun x=>.bool x) (fun _=>rfl) (fun _=>True)
def TT:Dt (List UInt8):=vN str (fun _=>rfl) (fun _=>True)
def jS (l:Ly):List Value:=[b8 (l.getD 0 0),b8 (l.getD 1 0),b8 (l.getD 2 0),b8 (l.getD 3 0),b8 (l.getD 4 0),b8 (l.getD 5 0),b8 (l.getD 6 0),b8 (l.getD 7 0),b8 (l.getD 8 0),b8 (l.getD 9 0),b8 (l.getD 10 0),b8 (l.getD 11 0),b8 (l.getD 12 0),b8 (l.getD 13 0),b8 (l.getD 14 0),b8 (l.getD 15 0)]
theorem pC {l:Ly} (h:l.length=16):jS l=l.map b8:=by
  apply List.ext_getElem
  · simp[jS,h]
  intro i C E
  simp[jS]at C
  simp only[List.getElem_map]
  have A:i<l.length:=by omega
  rcases Nat.lt_or_ge i 8 with D|D
  · rcases Nat.lt_or_ge i 4 with B|B
    · rcases(show i=0∨i=1∨i=2∨i=3 by omega)with rfl|rfl|rfl|rfl <;> simp[jS,List.getD,A]
    rcases(show i=4∨i=5∨i=6∨i=7 by omega)with rfl|rfl|rfl|rfl <;> simp[jS,List.getD,A]
  rcases Nat.lt_or_ge i 12 with B|B
  · rcases(show i=8∨i=9∨i=10∨i=11 by omega)with rfl|rfl|rfl|rfl <;> simp[jS,List.getD,A]
  rcases(show i=12∨i=13∨i=14∨i=15 by omega)with rfl|rfl|rfl|rfl <;> simp[jS,List.getD,A]
def tId:Dt (List UInt8) where
  n:=16
  bn:=by decide
  qd _ _ cs x:=cs=jS x∧x.length=16
  len:=by rintro _ _ _ _ ⟨rfl,_⟩;rfl
  one:=by rintro _ _ _ _ ⟨rfl,h⟩;rw[pC h];exact yR _
  md:=fun h _ _=>h
  sub:=fun h _=>h
def gQ {α β:Type} (A:Dt α) (B:Dt β):Dt (α × β) where
  n:=A.n+B.n
  bn:=lj A.bn (Nat.le_add_right _ _)
  qd w Q cs p:=∃c1 c2,cs=c1 ++ c2∧A.qd w Q c1 p.1∧B.qd w Q c2 p.2
  len:=by rintro _ _ _ _ ⟨c1,c2,rfl,h1,h2⟩;simp[A.len h1,B.len h2]
  one:=by
    rintro _ _ _ _ ⟨c1,c2,rfl,h1,h2⟩ u hu
    rcases List.mem_append.1 hu with h|h
    · exact A.one h1 u h
    · exact B.one h2 u h
  md:=fun⟨c1,c2,h,h1,h2⟩ m hs=>⟨c1,c2,h,A.md h1 m hs,B.md h2 m hs⟩
  sub:=fun⟨c1,c2,h,h1,h2⟩ s=>⟨c1,c2,h,A.sub h1 s,B.sub h2 s⟩
def uT {α β:Type} (f:β→α) (A:Dt α):Dt β where
  n:=A.n
  bn:=A.bn
  qd w Q cs x:=A.qd w Q cs (f x)
  len:=A.len
  one:=A.one
  md:=A.md
  sub:=A.sub
section
variable {α:Type} {T:Dt α} {w w':World} {Q Q':Nat→Prop}
def tq (T:Dt α) (w:World) (Q:Nat→Prop):List Value→List α→Prop
  | cs,[]=>cs=[]
  | cs,x :: xs=>∃c r,cs=c ++ r∧T.qd w Q c x∧tq T w Q r xs
theorem tq.len {cs:List Value} {xs:List α} (h:tq T w Q cs xs):cs.length=xs.length*T.n:=by
  induction xs generalizing cs with
  | nil=>simp only[tq]at h;subst h;simp
  | cons x xs ih =>
    obtain⟨c,r,rfl,A,B⟩:=h
    simp[T.len A,ih B,Nat.succ_mul,Nat.add_comm]
theorem tq.one {cs:List Value} {xs:List α} (h:tq T w Q cs xs):ajb cs:=by
  induction xs generalizing cs with
  | nil=>simp only[tq]at h;subst h;intro u A;simp at A
  | cons x xs ih =>
    obtain⟨c,r,rfl,B,C⟩:=h
    intro u A
    rcases List.mem_append.1 A with h|h
    · exact T.one B u h
    · exact ih C u h
theorem tq.md {S:List Nat} {cs:List Value} {xs:List α} (h:tq T w Q cs xs) (m:Md S w w') (hs:∀b∈S,¬Q b):tq T w' Q cs xs:=by
  induction xs generalizing cs with
  | nil=>exact h
  | cons x xs ih=>obtain⟨c,r,e,A,B⟩:=h;exact⟨c,r,e,T.md A m hs,ih B⟩
theorem tq.sub {cs:List Value} {xs:List α} (h:tq T w Q cs xs) (s:∀b,Q b→b<w.heap.size→Q' b):tq T w Q' cs xs:=by
  induction xs generalizing cs with
  | nil=>exact h
  | cons x xs ih=>obtain⟨c,r,e,A,B⟩:=h;exact⟨c,r,e,T.sub A s,ih B⟩
theorem tq.append {cs ds:List Value} {xs ys:List α} (h:tq T w Q cs xs) (k:tq T w Q ds ys):tq T w Q (cs ++ ds) (xs ++ ys):=by
  induction xs generalizing cs with
  | nil=>simp only[tq]at h;subst h;exact k
  | cons x xs ih=>obtain⟨c,r,rfl,A,B⟩:=h;exact⟨c,r ++ ds,by simp,A,ih B⟩
theorem tq.get {cs:List Value} {xs:List α} {i:Nat} {x:α} (h:tq T w Q cs xs) (hi:xs[i]? = some x):∃c,T.qd w Q c x∧∀j u,c[j]? = some u→cs[i*T.n+j]? = some u:=by
  induction xs generalizing cs i with
  | nil=>simp at hi
  | cons y xs ih =>
    obtain⟨c,r,rfl,B,C⟩:=h
    cases i with
    | zero =>
      simp at hi;subst hi
      refine⟨c,B,fun j u A=>?_⟩
      have:=(List.getElem?_eq_some_iff.1 A).1
      rw[Nat.zero_mul,Nat.zero_add,List.getElem?_append_left this];exact A
    | succ i =>
      obtain⟨d,E,D⟩:=ih C (by simpa using hi)
      refine⟨d,E,fun j u A=>?_⟩
      have F:=T.len B
      rw[Nat.succ_mul,List.getElem?_append_right Oh]
      rw[show i*T.n+T.n+j-c.length=i*T.n+j by omega]
      exact D j u A
theorem tq.split {cs:List Value} {xs ys:List α} (h:tq T w Q cs (xs ++ ys)):tq T w Q (cs.take (xs.length*T.n)) xs∧tq T w Q (cs.drop (xs.length*T.n)) ys:=by
  induction xs generalizing cs with
  | nil=>simp[tq];exact h
  | cons x xs ih =>
    obtain⟨c,r,rfl,A,B⟩:=h
    obtain⟨C,D⟩:=ih B
    have E:=T.len A
    have e:(x :: xs).length*T.n=c.length+xs.length*T.n:=by simp[Nat.succ_mul,E,Nat.add_comm]
    rw[e]
    refine⟨⟨c,r.take (xs.length*T.n),?_,A,C⟩,?_⟩
    · rw[List.take_append,List.take_of_length_le (Nat.le_add_right _ _),Nat.add_sub_cancel_left]
    · rw[List.drop_append,List.drop_of_length_le (Nat.le_add_right _ _),Nat.add_sub_cancel_left];exact D
theorem tq.set {cs:List Value} {xs:List α} {i:Nat} {c:List Value} {x:α} (h:tq T w Q cs xs) (hx:T.qd w Q c x) (hi:i<xs.length) :
    tq T w Q (cs.take (i*T.n) ++ c ++ cs.drop (i*T.n+T.n)) (xs.set i x):=by
  have e:xs=xs.take i ++ xs.drop i:=(List.take_append_drop i xs).symm
  have J:(xs.take i).length=i:=by simp;omega
  rw[e]at h
  obtain⟨E,C⟩:=h.split
  rw[J]at E C
  obtain⟨y,B,F⟩:∃y B,xs.drop i=y :: B:=by
    cases D:xs.drop i with
    | nil=>have:=congrArg List.length D;simp at this;omega
    | cons y B=>exact⟨y,B,q⟩
  rw[F]at C
  obtain⟨d,r,D,H,I⟩:=C
  have K:cs.drop (i*T.n+T.n)=r:=by
    rw[← List.drop_drop,D]
    simp[T.len H]
  have G:xs.set i x=xs.take i ++ (x :: B):=by
    rw[List.set_eq_take_append_cons_drop,if_pos hi]
    congr 2
    have:xs.drop (i+1)=(xs.drop i).drop 1:=by simp[Nat.add_comm]
    rw[this,F];rfl
  rw[G,K,List.append_assoc]
  exact E.append ⟨c,r,q,hx,I⟩
def Ls (T:Dt α) (w:World) (Q:Nat→Prop) (v:Value) (xs:List α):Prop :=
  ∃a cap cs,v = .slice a xs.length cap∧xs.length≤cap∧cap≤maxLen∧(a=none→cap=0)∧(∀p,a=some p→xs≠[]→Q p.block)∧(∀p,a=some p→∀j u,cs[j]? = some u→w.cell? (p.add j)=some u)∧tq T w Q cs xs
theorem Ls.nil (T:Dt α) (w:World) (Q:Nat→Prop):Ls T w Q (.slice none 0 0) []:=⟨none,0,[],q,Nat.le_refl _,by simp[maxLen],fun _=>rfl,by simp,by simp,q⟩
theorem Ls.md {S:List Nat} {v:Value} {xs:List α} (h:Ls T w Q v xs) (m:Md S w w') (hs:∀b∈S,¬Q b):Ls T w' Q v xs:=by
  obtain⟨a,A,F,G,H,I,J,C,K,B⟩:=h
  refine⟨a,A,F,G,H,I,J,C,fun p E j u D=>m.cell (K p E j u D) ?_,B.md m hs⟩
  rw[Addr.add_block]
  intro L
  refine hs _ L (C p E ?_)
  rintro rfl
  simp only[tq]at B
  subst B
  simp at D
theorem Ls.o {v:Value} {xs:List α} (h:Ls T w Q v xs) (m:Md [] w w'):Ls T w' Q v xs:=h.md m Oq
instance amf {v:Value} {xs:List α}:Tp w w' (Ls T w Q v xs) (Ls T w' Q v xs):=⟨fun m h=>h.o m⟩
theorem Ls.sub {v:Value} {xs:List α} (h:Ls T w Q v xs) (s:∀b,Q b→b<w.heap.size→Q' b):Ls T w Q' v xs:=by
  obtain⟨a,A,F,G,H,I,J,K,B,C⟩:=h
  refine⟨a,A,F,G,H,I,J,fun p D E=>s _ (K p D E) ?_,B,C.sub s⟩
  cases xs with
  | nil=>exact absurd q E
  | cons x xs =>
    obtain⟨c,r,rfl,L,M⟩:=C
    cases c with
    | nil=>have:=T.len L;have:=T.bn;simp at *;omega
    | cons u c=>have:=World.block_lt_of_cell? w _ (B p D 0 u q);rwa [Addr.add_block]at this
theorem Ls.eJ {v:Value} {xs:List α} (h:Ls T w Q v xs):XK v xs.length:=by obtain⟨a,A,F,B,C,D,E,_⟩:=h;exact⟨a,A,B,C,D,E⟩
theorem Ls.DV {v:Value} {xs:List α} (h:Ls T w Q v xs):xs.length≤maxLen:=by obtain⟨a,A,B,C,D,E,_⟩:=h;omega
theorem Ls.gd {v:Value} {xs:List α} (h:Ls T w Q v xs):xs.length≤9223372036854775807:=by have:=h.DV;simp only[maxLen]at this;omega
theorem Ls.bZ {v:Value} {xs:List α} (h:Ls T w Q v xs):v.oneCell'=true:=by obtain⟨a,A,B,rfl,_⟩:=h;rfl
theorem Ls.by {v:Value} {xs:Ly} (h:Ls fF w Q v xs):By w v xs:=by
  obtain⟨a,A,B,C,D,G,H,I,E,F⟩:=h
  have e:B=xs.map b8:=by
    clear C D I E
    induction xs generalizing B with
    | nil=>exact F
    | cons x xs ih=>obtain⟨c,r,rfl,⟨rfl,_⟩,J⟩:=F;rw[ih _ J];rfl
  subst e
  exact⟨a,A,by simpa using C,by simpa using D,G,H,E⟩
theorem V5 {β:Type} {f:β→Value} {h1:∀x,(f x).oneCell'=true} {ok:β→Prop} {xs:List β} (h:∀x∈xs,ok x):tq (vN f h1 ok) w Q (xs.map f) xs:=by
  induction xs with
  | nil=>rfl
  | cons x xs ih=>exact⟨[f x],xs.map f,q,⟨q,h x Oq⟩,ih fun y A=>h y (by simp[A])⟩
theorem Ls.ahl {β:Type} {f:β→Value} {h1:∀x,(f x).oneCell'=true} {ok:β→Prop} {v:Value} {xs:List β} (h:Sl w v (xs.map f)) (ho:∀x∈xs,ok x) (hQ:∀b,ah v=some b→xs≠[]→Q b):Ls (vN f h1 ok) w Q v xs:=by
  obtain⟨a,A,rfl,B,C,D,E⟩:=h
  exact⟨a,A,xs.map f,by simp,by simpa using B,C,D,fun p F G=>hQ _ (by subst F;rfl) G,E,V5 ho⟩
theorem Ls.of_by {v:Value} {xs:Ly} (h:By w v xs) (hQ:∀b,ah v=some b→xs≠[]→Q b):Ls fF w Q v xs:=Ls.ahl h (fun _ _=>trivial) hQ
def zh (T:Dt α):Dt (List α) where
  n:=1
  bn:=Nat.zero_lt_one
  qd w Q cs xs:=∃v,cs=[v]∧Ls T w Q v xs
  len:=by rintro _ _ _ _ ⟨v,rfl,_⟩;rfl
  one:=by rintro _ _ _ _ ⟨v,rfl,h⟩ u hu;simp at hu;subst hu;exact h.bZ
  md:=fun⟨v,e,h⟩ m hs=>⟨v,e,h.md m hs⟩
  sub:=fun⟨v,e,h⟩ s=>⟨v,e,h.sub s⟩
def Pt (T:Dt α) (ty:TypeId) (w:World) (Q:Nat→Prop) (v:Value) (x:α):Prop:=∃b c,v = .pointer (some ⟨b,0,none⟩)∧Q b∧cg w b c ty∧T.qd w Q c x
theorem Pt.md {ty:TypeId} {S:List Nat} {v:Value} {x:α} (h:Pt T ty w Q v x) (m:Md S w w') (hs:∀b∈S,¬Q b):Pt T ty w' Q v x:=by
  obtain⟨b,c,B,A,C,D⟩:=h
  exact⟨b,c,B,A,C.md m fun E=>hs b E A,T.md D m hs⟩
theorem Pt.o {ty:TypeId} {v:Value} {x:α} (h:Pt T ty w Q v x) (m:Md [] w w'):Pt T ty w' Q v x:=h.md m Oq
instance ami {ty:TypeId} {v:Value} {x:α}:Tp w w' (Pt T ty w Q v x) (Pt T ty w' Q v x):=⟨fun m h=>h.o m⟩
theorem Pt.sub {ty:TypeId} {v:Value} {x:α} (h:Pt T ty w Q v x) (s:∀b,Q b→b<w.heap.size→Q' b):Pt T ty w Q' v x:=by
  obtain⟨b,c,B,C,A,D⟩:=h
  exact⟨b,c,B,s b C A.lt,A,T.sub D s⟩
def tPt (T:Dt α) (ty:TypeId):Dt α where
  n:=1
  bn:=Nat.zero_lt_one
  qd w Q cs x:=∃v,cs=[v]∧Pt T ty w Q v x
  len:=by rintro _ _ _ _ ⟨v,rfl,_⟩;rfl
  one:=by rintro _ _ _ _ ⟨v,rfl,b,c,rfl,_⟩ u hu;simp at hu;subst hu;rfl
  md:=fun⟨v,e,h⟩ m hs=>⟨v,e,h.md m hs⟩
  sub:=fun⟨v,e,h⟩ s=>⟨v,e,h.sub s⟩
def nP (sz:Nat):Value→Nat→Nat→Value
  | .slice a _ cap,lo,hi=>.slice (if cap=lo then a else a.map (·.add (lo*sz))) (hi-lo) (cap-lo)
  | _,_,_=>undef
theorem Ls.part {v:Value} {xs:List α} (h:Ls T w Q v xs) (lo hi:Nat) (h1:lo≤hi) (h2:hi≤xs.length):Ls T w Q (nP T.n v lo hi) ((xs.take hi).drop lo):=by
  obtain⟨a,A,R,rfl,S,U,M,N,O,I⟩:=h
  have F:((xs.take hi).drop lo).length=hi-lo:=by simp;omega
  have L:xs=(xs.take hi).take lo ++ (((xs.take hi).drop lo) ++ xs.drop hi):=by rw[← List.append_assoc,List.take_append_drop,List.take_append_drop]
  rw[L]at I
  have J:=I.split.2
  have G:((xs.take hi).take lo).length=lo:=by simp;omega
  rw[G]at J
  have D:=J.split.1
  rw[F]at D
  refine⟨if A=lo then a else a.map (·.add (lo*T.n)),A-lo,_,?_,?_,by omega,?_,?_,?_,D⟩
  · simp only[nP,F]
  · rw[F];omega
  · intro h
    split at h
    · omega
    cases a with
    | none=>have:=M rfl;omega
    | some p=>simp at h
  · intro p B K
    have C:A≠lo:=by intro P;apply K;apply List.eq_nil_of_length_eq_zero;omega
    rw[if_neg C]at B
    cases a with
    | none=>simp at B
    | some q =>
      simp at B
      subst B
      rw[Addr.add_block]
      exact N q rfl (by rintro rfl;simp at K)
  intro p B j u H
  have E:=(List.getElem?_eq_some_iff.1 H).1
  simp only[List.length_take,List.length_drop]at E
  have C:A≠lo:=by
    intro P
    have:hi-lo=0:=by omega
    rw[this]at E;simp at E
  rw[if_neg C]at B
  cases a with
  | none=>simp at B
  | some q =>
    simp at B
    subst B
    rw[Addr.add_add]
    refine O q rfl _ u ?_
    rw[List.getElem?_take,if_pos Oh,List.getElem?_drop]at H
    exact H
def At (w:World) (v:Value) (k:Nat) (c:List Value):Prop:=∃p l cp,v = .slice (some p) l cp∧∀j u,c[j]? = some u→w.cell? (p.add (k+j))=some u
theorem Ls.get {v:Value} {xs:List α} {i:Nat} {x:α} (h:Ls T w Q v xs) (hi:xs[i]? = some x):∃c,T.qd w Q c x∧At w v (i*T.n) c:=by
  obtain⟨a,A,H,rfl,I,J,B,K,C,D⟩:=h
  obtain⟨c,E,F⟩:=D.get hi
  cases a with
  | none =>
    have:=B q
    have:=(List.getElem?_eq_some_iff.1 hi).1
    omega
  | some p=>exact⟨c,E,p,_,A,q,fun j u G=>C p q _ u (F j u G)⟩
theorem At.o {v:Value} {k:Nat} {c:List Value} (h:At w v k c) (m:Md [] w w'):At w' v k c:=by
  obtain⟨p,l,B,C,D⟩:=h
  exact⟨p,l,B,C,fun j u E=>m.cell (D j u E) Oq⟩
instance amd {v:Value} {k:Nat} {c:List Value}:Tp w w' (At w v k c) (At w' v k c):=⟨fun m h=>h.o m⟩
def Ow (T:Dt α) (e:TypeId) (lo:Nat→Prop) (w:World) (Q:Nat→Prop) (v:Value) (xs:List α):Prop :=
  (∃cs,Own w e T.n v xs.length cs∧tq T w Q cs xs)∧∀b,ah v=some b→lo b∧¬Q b
theorem Ow.nil (T:Dt α) (e:TypeId) (lo:Nat→Prop) (w:World) (Q:Nat→Prop):Ow T e lo w Q (.slice none 0 0) []:=⟨⟨[],Own.nil w e _,q⟩,by simp[ah]⟩
theorem Ow.md {e:TypeId} {lo:Nat→Prop} {S:List Nat} {v:Value} {xs:List α} (h:Ow T e lo w Q v xs) (m:Md S w w') (hv:∀b,ah v=some b→b∉S) (hs:∀b∈S,¬Q b):Ow T e lo w' Q v xs:=by
  obtain⟨⟨A,B,C⟩,D⟩:=h
  exact⟨⟨A,B.md m hv,C.md m hs⟩,D⟩
theorem Ow.o {e:TypeId} {lo:Nat→Prop} {v:Value} {xs:List α} (h:Ow T e lo w Q v xs) (m:Md [] w w'):Ow T e lo w' Q v xs:=h.md m Oq Oq
instance amh {e:TypeId} {lo:Nat→Prop} {v:Value} {xs:List α}:Tp w w' (Ow T e lo w Q v xs) (Ow T e lo w' Q v xs):=⟨fun m h=>h.o m⟩
theorem Ow.lt {e:TypeId} {lo:Nat→Prop} {v:Value} {xs:List α} (h:Ow T e lo w Q v xs):∀b,ah v=some b→b<w.heap.size:=by obtain⟨⟨B,A,C⟩,D⟩:=h;exact A.lt
theorem Ow.sub {e:TypeId} {lo:Nat→Prop} {v:Value} {xs:List α} (h:Ow T e lo w Q v xs) (s:∀b,Q b→b<w.heap.size→Q' b) (t:∀b,Q' b→Q b):Ow T e lo w Q' v xs:=by
  obtain⟨⟨C,D,E⟩,A⟩:=h
  exact⟨⟨C,D,E.sub s⟩,fun b B=>⟨(A b B).1,fun F=>(A b B).2 (t b F)⟩⟩
theorem yU {e:TypeId} {sz m:Nat} {v:Value} {cs:List Value} (h:Own w e sz v m cs):∃a cap,v = .slice a m cap∧m≤cap∧cap≤maxLen∧(a=none→cap=0)∧∀p,a=some p→∀j u,cs[j]? = some u→w.cell? (p.add j)=some u:=by
  rcases h.2 with⟨rfl,rfl⟩|⟨g,cap,A,rfl,F,G,C,B,H,I⟩
  · exact⟨none,0,q,Nat.le_refl _,by simp[maxLen],fun _=>rfl,by simp⟩
  exact⟨some ⟨g,0,none⟩,cap,q,C,B,by simp,fun p D j u E=>by cases D;exact World.ownsRow.cells h (g:=g) q j u E⟩
theorem Ow.ls {e:TypeId} {lo:Nat→Prop} {v:Value} {xs:List α} (h:Ow T e lo w Q v xs) (t:∀b,Q b→Q' b) (u:∀b,lo b→Q' b):Ls T w Q' v xs:=by
  obtain⟨⟨B,C,D⟩,E⟩:=h
  obtain⟨a,A,rfl,F,G,H,I⟩:=yU C
  exact⟨a,A,B,q,F,G,H,fun p K _=>u _ (E _ (by subst K;rfl)).1,I,D.sub fun b J _=>t b J⟩
theorem Ow.get {e:TypeId} {lo:Nat→Prop} {v:Value} {xs:List α} {i:Nat} {x:α} (h:Ow T e lo w Q v xs) (hi:xs[i]? = some x):∃c,T.qd w Q c x∧At w v (i*T.n) c:=by
  obtain⟨⟨I,B,C⟩,_⟩:=h
  obtain⟨a,A,rfl,J,K,D,E⟩:=yU B
  obtain⟨c,F,G⟩:=C.get hi
  cases a with
  | none =>
    have:=D q
    have:=(List.getElem?_eq_some_iff.1 hi).1
    omega
  | some p=>exact⟨c,F,p,_,A,q,fun j u H=>E p q _ u (G j u H)⟩
theorem Ow.read {e:TypeId} {lo:Nat→Prop} {v:Value} {xs:List α} (h:Ow T e lo w Q v xs):Ls T w (fun b=>Q b∨lo b) v xs:=h.ls (fun _=>.inl) (fun _=>.inr)
theorem Ow.eJ {e:TypeId} {lo:Nat→Prop} {v:Value} {xs:List α} (h:Ow T e lo w Q v xs):XK v xs.length:=h.read.eJ
theorem Ow.bZ {e:TypeId} {lo:Nat→Prop} {v:Value} {xs:List α} (h:Ow T e lo w Q v xs):v.oneCell'=true:=h.read.bZ
end
def Up (w:World) (Q:Nat→Prop):Prop:=∀b,w.heap.size≤b→Q b
theorem Up.md {S:List Nat} {w w':World} {Q:Nat→Prop} (u:Up w Q) (m:Md S w w'):Up w' Q:=fun b hb=>u b (ly m.size hb)
instance amk {w w':World} {Q:Nat→Prop}:Tp w w' (Up w Q) (Up w' Q):=⟨fun m h=>h.md m⟩
theorem kR {Q:Nat→Prop} {w w':World} {b:Nat} (u:Up w Q) (h1:w.heap.size≤b) (h2:b<w'.heap.size) (m:Md [] w w') :
    ∃Q':Nat→Prop,(∀x,Q x→x<w.heap.size→Q' x)∧(∀x,Q' x→Q x)∧¬Q' b∧Up w' Q' :=
  ⟨fun x=>Q x∧x≠b,fun x hx hl=>⟨hx,by omega⟩,fun x hx=>hx.1,fun h=>h.2 q,fun x hx=>⟨u x (ly m.size hx),by omega⟩⟩
end Go.Wk
namespace Go.Wk
open Go Go.RowKit
def lim:IntKind→Nat
  | .u8=>256|.u16=>65536|.u32=>4294967296|.u64=>18446744073709551616
  | .i8=>128|.i16=>32768|.i32=>2147483648|.i64=>9223372036854775808
theorem wrapN (k:IntKind) (x:Nat) (h:x<lim k):k.wrap (x:Int)=x:=by
  cases k <;> simp[IntKind.wrap,IntKind.bits,IntKind.signed,lim]at * <;> omega
theorem aer (k:IntKind) (x:Int) (h:k.signed=false):k.wrap x=((x%(lim k:Int)).toNat:Nat):=by
  cases k <;> simp[IntKind.wrap,IntKind.bits,IntKind.signed,lim]at * <;> omega
theorem dS.to {P:Program} {w:World} {o:Oper} {e:Operand→Value} {a b:Value} (h:dS P o e w a) (he:a=b):dS P o e w b:=he ▸ h
section
variable {P:Program} {n:Nat} {A:Fr n} {D:List Deferred} {l:List (Nat × Value)} {w:World}
variable {d:Option Tmp} {ty:TypeId} {ps:String} {af:Array Edge} {g:Option (Nat × Bool)}
variable {x y:Operand} {t u:TypeId} {k j:IntKind} {a b:Nat}
theorem gW (L:Nat) (hL:lim k=L) (hx:ev n l x=some (.int k (a:Int))) (hy:ev n l y=some (.int k (b:Int))) (h:a+b<L) :
    dS P ⟨d,.binOp .add t x y u,ty,ps,af,g⟩ (b9 A D l).eval w (.int k ((a+b:Nat):Int)) :=
  (jm hx hy).kr (by rw[← wrapN k (a+b) (hL ▸ h)];rfl)
theorem nL (L:Nat) (hL:lim k=L) (hx:ev n l x=some (.int k (a:Int))) (hy:ev n l y=some (.int k (b:Int))) (h:b≤a∧a<L) :
    dS P ⟨d,.binOp .sub t x y u,ty,ps,af,g⟩ (b9 A D l).eval w (.int k ((a-b:Nat):Int)) :=
  (jA hx hy).kr (by rw[← wrapN k (a-b) Oh];congr 1;omega)
theorem nK (L:Nat) (hL:lim k=L) (hx:ev n l x=some (.int k (a:Int))) (hy:ev n l y=some (.int k (b:Int))) (h:a*b<L) :
    dS P ⟨d,.binOp .mul t x y u,ty,ps,af,g⟩ (b9 A D l).eval w (.int k ((a*b:Nat):Int)) :=
  (akx hx hy).kr (by rw[← wrapN k (a*b) (hL ▸ h),Int.natCast_mul])
theorem sN (L:Nat) (hL:lim k=L) (hs:k.signed=false) (hx:ev n l x=some (.int k (a:Int))) (hy:ev n l y=some (.int k (b:Int))) :
    dS P ⟨d,.binOp .add t x y u,ty,ps,af,g⟩ (b9 A D l).eval w (.int k (((a+b)%L:Nat):Int)) :=
  (jm hx hy).kr (by rw[aer k _ hs,hL,show(a:Int)+b=((a+b:Nat):Int)from rfl,← Int.natCast_emod,Int.toNat_natCast])
theorem FP (L:Nat) (hL:lim k=L) (hx:ev n l x=some (.int k (a:Int))) (hy:ev n l y=some (.int k (b:Int))) (h:b≠0∧a<L) :
    dS P ⟨d,.binOp .quo t x y u,ty,ps,af,g⟩ (b9 A D l).eval w (.int k ((a/b:Nat):Int)) :=
  (akz hx hy Oh).kr (by
    rw[show Int.tdiv (a:Int) b=((a/b:Nat):Int)from rfl]
    exact wrapN k _ (hL ▸ Nat.lt_of_le_of_lt (Nat.div_le_self _ _) h.2))
theorem pu (hx:ev n l x=some (.int k (a:Int))) (hy:ev n l y=some (.int k (b:Int))) (h:b≠0) :
    dS P ⟨d,.binOp .rem t x y u,ty,ps,af,g⟩ (b9 A D l).eval w (.int k ((a%b:Nat):Int)) :=
  (adH hx hy Oh).kr q
theorem gw (hx:ev n l x=some (.int k (a:Int))) (hy:ev n l y=some (.int k (b:Int))):dS P ⟨d,.binOp .eql t x y u,ty,ps,af,g⟩ (b9 A D l).eval w (.bool (decide (a=b))) :=
  (nj hx hy).HO (decide_eq_decide.2 Oh)
theorem fw (hx:ev n l x=some (.int k (a:Int))) (hy:ev n l y=some (.int k (b:Int))):dS P ⟨d,.binOp .neq t x y u,ty,ps,af,g⟩ (b9 A D l).eval w (.bool (decide (a≠b))) :=
  (aad hx hy).HO (decide_eq_decide.2 Oh)
theorem gy (hx:ev n l x=some (.int k (a:Int))) (hy:ev n l y=some (.int k (b:Int))):dS P ⟨d,.binOp .lss t x y u,ty,ps,af,g⟩ (b9 A D l).eval w (.bool (decide (a<b))) :=
  (sd hx hy).HO (decide_eq_decide.2 Oh)
theorem FN (hx:ev n l x=some (.int k (a:Int))) (hy:ev n l y=some (.int k (b:Int))):dS P ⟨d,.binOp .leq t x y u,ty,ps,af,g⟩ (b9 A D l).eval w (.bool (decide (a≤b))) :=
  (xR hx hy).HO (decide_eq_decide.2 Oh)
theorem lJ (hx:ev n l x=some (.int k (a:Int))) (hy:ev n l y=some (.int k (b:Int))):dS P ⟨d,.binOp .gtr t x y u,ty,ps,af,g⟩ (b9 A D l).eval w (.bool (decide (b<a))) :=
  (wN hx hy).HO (decide_eq_decide.2 Oh)
theorem zH (hx:ev n l x=some (.int k (a:Int))) (hy:ev n l y=some (.int k (b:Int))):dS P ⟨d,.binOp .geq t x y u,ty,ps,af,g⟩ (b9 A D l).eval w (.bool (decide (b≤a))) :=
  (rY hx hy).HO (decide_eq_decide.2 Oh)
theorem ew {s:TypeId} (L:Nat) (hL:lim k=L) (hs:(P.underlying s).isSome=true) (ht:P.underlying t=some (.int k)) (hx:ev n l x=some (.int j (a:Int))) (h:a<L) :
    dS P ⟨d,.convert s t x,ty,ps,af,g⟩ (b9 A D l).eval w (.int k (a:Int)):=(j7 hs ht hx).kr (wrapN k a (hL ▸ h))
theorem sO {s:TypeId} (L:Nat) (hL:lim k=L) (hk:k.signed=false) (hs:(P.underlying s).isSome=true) (ht:P.underlying t=some (.int k)) (hx:ev n l x=some (.int j (a:Int))) :
    dS P ⟨d,.convert s t x,ty,ps,af,g⟩ (b9 A D l).eval w (.int k ((a%L:Nat):Int)):=(j7 hs ht hx).kr (by rw[aer k _ hk,hL,← Int.natCast_emod,Int.toNat_natCast])
theorem ai8 (hx:ev n l x=some (.int k (a:Int))) (hy:ev n l y=some (.int j (b:Int))) {ts:Array TypeId} :
    dS P ⟨d,.call {callee:=.builtin .min,args:=#[x,y],argTypes:=ts},ty,ps,af,g⟩ (b9 A D l).eval w (.int k ((min a b:Nat):Int)) :=
  (ahv hx hy).kr (by split<;>omega)
theorem ai7 {a b:Int} (hx:ev n l x=some (.int k a)) (hy:ev n l y=some (.int j b)) {ts:Array TypeId} :
    dS P ⟨d,.call {callee:=.builtin .max,args:=#[x,y],argTypes:=ts},ty,ps,af,g⟩ (b9 A D l).eval w (.int k (if a<b then b else a)):=by
  simp[dS,execOp,cF hx,cF hy,resolve,invoke,builtin,Builtin.max_,Builtin.max2]
theorem adG (hx:ev n l x=some (.int k (a:Int))) (hy:ev n l y=some (.int j (b:Int))) {ts:Array TypeId} :
    dS P ⟨d,.call {callee:=.builtin .max,args:=#[x,y],argTypes:=ts},ty,ps,af,g⟩ (b9 A D l).eval w (.int k ((max a b:Nat):Int)) :=
  (ai7 hx hy).kr (by split<;>omega)
theorem aiA (L:Nat) (hL:lim k=L) (hs:k.signed=false) (s:Nat) (hS:k.bits=s) (hx:ev n l x=some (.int k (a:Int))) (hy:ev n l y=some (.int j (b:Int))) (h:b≤s) :
    dS P ⟨d,.binOp .shl t x y u,ty,ps,af,g⟩ (b9 A D l).eval w (.int k ((a*2 ^ b%L:Nat):Int)) :=
  (qN hx hy Oh).kr (by
    unfold nN
    rw[aer k _ hs,hL,hS,Int.toNat_natCast,Nat.min_eq_left h]
    rw[show(a:Int)*2 ^ b=((a*2 ^ b:Nat):Int)by simp,← Int.natCast_emod,Int.toNat_natCast])
theorem aiB (s:Nat) (hS:k.bits=s) (hx:ev n l x=some (.int k (a:Int))) (hy:ev n l y=some (.int j (b:Int))) (h:b≤s) :
    dS P ⟨d,.binOp .shr t x y u,ty,ps,af,g⟩ (b9 A D l).eval w (.int k ((a/2 ^ b:Nat):Int)) :=
  (QE hx hy Oh).kr (by
    unfold agw
    rw[hS,Int.toNat_natCast,Nat.min_eq_left h]
    simp)
theorem DW (hk:k.signed=false):lim k=2 ^ k.bits:=by cases k<;>simp[IntKind.signed]at hk<;>rfl
theorem abe (hk:k.signed=false) (ha:a<lim k) (hb:b<lim k):bits .xor k (a:Int) (b:Int)=((a ^^^ b:Nat):Int):=by
  have A:=DW hk
  have B:a ^^^ b<lim k:=by rw[A];exact Nat.xor_lt_two_pow (A ▸ ha) (A ▸ hb)
  unfold bits
  simp only[BitVec.ofInt_natCast,BitVec.toNat_xor,BitVec.toNat_ofNat,← A,Nat.mod_eq_of_lt ha,Nat.mod_eq_of_lt hb]
  exact wrapN k _ B
theorem aeF (hk:k.signed=false) (ha:a<lim k) (hb:b<lim k):bits .or k (a:Int) (b:Int)=((a ||| b:Nat):Int):=by
  have A:=DW hk
  have B:a ||| b<lim k:=by rw[A];exact Nat.or_lt_two_pow (A ▸ ha) (A ▸ hb)
  unfold bits
  simp only[BitVec.ofInt_natCast,BitVec.toNat_or,BitVec.toNat_ofNat,← A,Nat.mod_eq_of_lt ha,Nat.mod_eq_of_lt hb]
  exact wrapN k _ B
theorem abd (hk:k.signed=false) (ha:a<lim k) (hb:b<lim k):bits .and k (a:Int) (b:Int)=((a &&& b:Nat):Int):=by
  have B:=DW hk
  have A:a &&& b<lim k:=Nat.lt_of_le_of_lt Nat.and_le_left ha
  unfold bits
  simp only[BitVec.ofInt_natCast,BitVec.toNat_and,BitVec.toNat_ofNat,← B,Nat.mod_eq_of_lt ha,Nat.mod_eq_of_lt hb]
  exact wrapN k _ A
theorem FQ (L:Nat) (hL:lim k=L) (hk:k.signed=false) (hx:ev n l x=some (.int k (a:Int))) (hy:ev n l y=some (.int k (b:Int))) (h:a<L∧b<L) :
    dS P ⟨d,.binOp .xor t x y u,ty,ps,af,g⟩ (b9 A D l).eval w (.int k ((a ^^^ b:Nat):Int)):=(gg hx hy).kr (abe hk (hL ▸ h.1) (hL ▸ h.2))
theorem aky (L:Nat) (hL:lim k=L) (hk:k.signed=false) (hx:ev n l x=some (.int k (a:Int))) (hy:ev n l y=some (.int k (b:Int))) (h:a<L∧b<L) :
    dS P ⟨d,.binOp .or t x y u,ty,ps,af,g⟩ (b9 A D l).eval w (.int k ((a ||| b:Nat):Int)):=(yY hx hy).kr (aeF hk (hL ▸ h.1) (hL ▸ h.2))
theorem ai3 (L:Nat) (hL:lim k=L) (hk:k.signed=false) (hx:ev n l x=some (.int k (a:Int))) (hy:ev n l y=some (.int k (b:Int))) (h:a<L∧b<L) :
    dS P ⟨d,.binOp .and t x y u,ty,ps,af,g⟩ (b9 A D l).eval w (.int k ((a &&& b:Nat):Int)):=(adD hx hy).kr (abd hk (hL ▸ h.1) (hL ▸ h.2))
theorem ai9 (L:Nat) (hL:lim k=L) (s:Nat) (hS:k.bits=s) (hx:ev n l x=some (.int k (a:Int))) (hy:ev n l y=some (.int j (b:Int))) (h:b≤s∧a*2 ^ b<L) :
    dS P ⟨d,.binOp .shl t x y u,ty,ps,af,g⟩ (b9 A D l).eval w (.int k ((a*2 ^ b:Nat):Int)) :=
  (qN hx hy Oh).kr (by
    unfold nN
    rw[hS,Int.toNat_natCast,Nat.min_eq_left h.1,show(a:Int)*2 ^ b=((a*2 ^ b:Nat):Int)by simp]
    exact wrapN k _ (hL ▸ h.2))
theorem adE {s:TypeId} {z:Int} (L:Nat) (hL:lim k=L) (hs:(P.underlying s).isSome=true) (ht:P.underlying t=some (.int k)) (hx:ev n l x=some (.int j z)) (h:0≤z∧z<L) :
    dS P ⟨d,.convert s t x,ty,ps,af,g⟩ (b9 A D l).eval w (.int k ((z.toNat:Nat):Int)) :=
  (j7 hs ht hx).kr (by rw[show z=((z.toNat:Nat):Int)by omega];exact wrapN k _ Oh)
variable {α:Type} {T:Dt α} {Q:Nat→Prop} {v:Value} {xs:List α}
theorem bQ {e:TypeId} {m i:Nat} (sz:Nat) (hx:ev n l x=some v) (hy:ev n l y=some (.int k (i:Int))) (hT:P.underlying t=some (.slice e)) (hE:iO P e sz=true) (hS:XK v m) (hi:i<m) :
    dS P ⟨d,.indexAddr t x y,ty,ps,af,g⟩ (b9 A D l).eval w (oH v (i*sz)):=by
  have:=rZ (P:=P) (A:=A) (D:=D) (w:=w) (d:=d) (ty:=ty) (ps:=ps) (af:=af) (g:=g) sz hx hy hT hE hS Oh
  simpa using this
theorem cP {e:TypeId} {m b' o i:Nat} (sz:Nat) (hx:ev n l x=some (.pointer (some ⟨b',o,none⟩))) (hy:ev n l y=some (.int k (i:Int))) (hT:P.underlying t=some (.array m e)) (hE:iO P e sz=true) (hi:i<m) :
    dS P ⟨d,.indexAddr t x y,ty,ps,af,g⟩ (b9 A D l).eval w (.pointer (some ⟨b',o+i*sz,none⟩)):=by
  unfold iO at hE
  split at hE
  · rename_i inf hinf
    have B:inf.size=sz:=by simpa using hE
    simp[dS,execOp,cF hx,cF hy,Instr.indexAt,Instr.sureAddr,asIntOf,run_underlying hT,fZ hinf,hi,B,Addr.nW]
  cases hE
theorem CO {kk:Nat} {c:List Value} (h:At w v kk c):∃p:Addr,(∀m,oH v m = .pointer (some (p.add m)))∧∀j u,c[j]? = some u→w.cell? (p.add (kk+j))=some u:=by
  obtain⟨p,l,B,rfl,A⟩:=h
  exact⟨p,fun _=>rfl,A⟩
theorem jJ {s:TypeId} {f m off kk:Nat} {c:List Value} (hx:ev n l x=some (oH v m)) (hA:At w v kk c) (hf:bg P s f=some off) :
    dS P ⟨d,.fieldAddr s x f,ty,ps,af,g⟩ (b9 A D l).eval w (oH v (m+off)):=by
  obtain⟨p,B,_⟩:=CO hA
  rw[B]at hx ⊢
  unfold bg at hf
  split at hf
  · rename_i fs hfs
    split at hf
    · rename_i fd hfd
      split at hf
      · rename_i inf hinf
        split at hf
        · cases hf
        rename_i hz
        simp only[Option.some.injEq]at hf
        subst hf
        simp[dS,execOp,cF hx,Instr.fieldAt,Instr.sureAddr,run_underlying hfs,hfd,fieldPlace,fZ hinf,hz,Addr.add_add]
      cases hf
    cases hf
  cases hf
theorem dR {m kk:Nat} {c:List Value} {r:Value} (j:Nat) (hx:ev n l x=some (oH v m)) (hm:m=kk+j) (hT:jF P t=true) (hA:At w v kk c) (hj:c[j]? = some r) :
    dS P ⟨d,.load t x,ty,ps,af,g⟩ (b9 A D l).eval w r:=by
  obtain⟨p,C,B⟩:=CO hA
  rw[C]at hx
  exact SX hx hT (by rw[hm];exact B j r hj)
theorem iB {m kk:Nat} {c:List Value} (cs:List Value) (o:Nat) (hx:ev n l x=some (oH v m)) (hm:m=kk+o) (hT:gZ P t cs.length=true) (hA:At w v kk c) (hc:(c.drop o).take cs.length=cs) :
    dS P ⟨d,.load t x,ty,ps,af,g⟩ (b9 A D l).eval w (.agg cs.toArray):=by
  obtain⟨p,F,C⟩:=CO hA
  rw[F]at hx
  refine yX hx hT q fun j r B=>?_
  have E:=(List.getElem?_eq_some_iff.1 B).1
  rw[Addr.add_add,hm,Nat.add_assoc]
  refine C _ r ?_
  rw[← hc,List.getElem?_take,if_pos E,List.getElem?_drop]at B
  exact B
theorem dh {ty':TypeId} {b' o:Nat} {c:List Value} (cs:List Value) (hx:ev n l x=some (.pointer (some ⟨b',o,none⟩))) (hT:gZ P t cs.length=true) (hB:cg w b' c ty') (hc:(c.drop o).take cs.length=cs) :
    dS P ⟨d,.load t x,ty,ps,af,g⟩ (b9 A D l).eval w (.agg cs.toArray):=by
  refine yX hx hT q fun j r B=>?_
  have C:=(List.getElem?_eq_some_iff.1 B).1
  rw[Addr.nW,hB.cell]
  rw[← hc,List.getElem?_take,if_pos C,List.getElem?_drop]at B
  exact B
theorem jy {lo hi:Option Operand} {m e:Nat} (sz L H:Nat) (hT:P.underlying t=some (.slice e)) (hE:iO P e sz=true) (hx:ev n l x=some v)
    (hS:XK v m) (h1:L≤H) (h2:H≤m)
    (hlo:match lo with|none=>L=0|some y=>∃k,ev n l y=some (.int k (L:Int))) (hhi:match hi with|none=>H=m|some y=>∃k,ev n l y=some (.int k (H:Int))) :
    dS P ⟨d,.slice t x lo hi none,ty,ps,af,g⟩ (b9 A D l).eval w (nP sz v L H):=by
  obtain⟨a,C,rfl,G,I,J⟩:=hS
  unfold iO at hE
  split at hE
  · rename_i inf hinf
    have B:inf.size=sz:=by simpa using hE
    have E:H≤C:=by omega
    cases lo with
    | none =>
      simp only at hlo;subst hlo
      cases hi with
      | none =>
        simp only at hhi;subst hhi
        simp[dS,execOp,cF hx,Instr.sliceAt,Instr.slice,Instr.sliceBounds,run_underlying hT,fZ hinf,nP,B]
      | some y =>
        simp only at hhi;obtain⟨k,hk⟩:=hhi
        simp[dS,execOp,cF hx,cF hk,Instr.sliceAt,Instr.slice,Instr.sliceBounds,Instr.sliceBound,asIntOf,run_underlying hT,fZ hinf,nP,B,E]
    | some z =>
      simp only at hlo;obtain⟨j,F⟩:=hlo
      cases hi with
      | none =>
        simp only at hhi;subst hhi
        simp[dS,execOp,cF hx,cF F,Instr.sliceAt,Instr.slice,Instr.sliceBounds,Instr.sliceBound,asIntOf,run_underlying hT,fZ hinf,nP,B,h1]
      | some y =>
        simp only at hhi;obtain⟨k,hk⟩:=hhi
        simp[dS,execOp,cF hx,cF F,cF hk,Instr.sliceAt,Instr.slice,Instr.sliceBounds,Instr.sliceBound,asIntOf,run_underlying hT,fZ hinf,nP,B,h1,E]
  cases hE
end
end Go.Wk
namespace Go.Wk
open Go Go.RowKit
theorem zB:∀(us:List Value) (k o:Nat) (cs:List Value),o+k+us.length≤cs.length →
    (us.zipIdx k).foldl (fun(cs:Array Value) (x:Value × Nat)=>cs.setIfInBounds (o+x.2) x.1) cs.toArray=(iu cs (o+k) us).toArray
  | [],k,o,cs,_=>by simp[iu]
  | u :: us,k,o,cs,h=>by
    simp only[List.length_cons]at h
    rw[List.zipIdx_cons,List.foldl_cons]
    simp only[List.setIfInBounds_toArray]
    rw[zB us (k+1) o (cs.set (o+k) u) Vw]
    congr 1
    unfold iu
    have h1:(cs.set (o+k) u).take (o+(k+1))=cs.take (o+k) ++ [u]:=by
      rw[show o+(k+1)=(o+k)+1 by omega,List.take_add_one]
      simp[show o+k<cs.length by omega,List.take_set_of_le]
    have A:(cs.set (o+k) u).drop (o+(k+1)+us.length)=cs.drop (o+k+(us.length+1)):=by
      rw[List.drop_set_of_lt Oh]
      congr 1;omega
    rw[h1,A]
    simp
theorem RX {v:Value} {us:List Value} (hv:v.cells=us.toArray) (o:Nat) (cs:List Value) (h:o+us.length≤cs.length) :
    v.cells.zipIdx.foldl (fun(cs:Array Value) (x:Value × Nat)=>cs.setIfInBounds (o+x.2) x.1) cs.toArray=(iu cs o us).toArray:=by
  have:=zB us 0 o cs Oh
  rw[hv]
  simpa [← Array.foldl_toList]using this
def oF:List Value→List (List Value)→Prop
  | [],[]=>True
  | v :: vs,u :: us=>v.cells=u.toArray∧oF vs us
  | _,_=>False
def oD (cs:List Value):List (Nat × Nat × Nat)→List (List Value)→List Value
  | (_,o,_) :: ps,u :: us=>oD (iu cs o u) ps us
  | _,_=>cs
def TQ:List (Nat × Nat × Nat)→List (List Value)→Prop
  | [],[]=>True
  | (_,_,s) :: ps,u :: us=>u.length=s∧TQ ps us
  | _,_=>False
theorem GA {cs us:List Value} {o:Nat} (h:o+us.length≤cs.length):(iu cs o us).length=cs.length:=by simp[iu];omega
theorem wX {place:Nat→Option (Nat × Nat)}:∀(ps:List (Nat × Nat × Nat)) (vs:List Value) (us:List (List Value)) (cs:List Value),oF vs us→TQ ps us→(∀p∈ps,place p.1=some (p.2.1,p.2.2)∧p.2.1+p.2.2≤cs.length) →
    Instr.fill place cs.toArray ((ps.map (·.1)).zip vs)=some (oD cs ps us).toArray
  | [],[],[],cs,_,_,_=>by simp[Instr.fill,oD]
  | [],[],_ :: _,_,h,_,_=>by simp[oF]at h
  | [],_ :: _,[],_,h,_,_=>by simp[oF]at h
  | [],_ :: _,_ :: _,_,_,h,_=>by simp[TQ]at h
  | _ :: _,_,[],_,_,h,_=>by simp[TQ]at h
  | _ :: _,[],_ :: _,_,h,_,_=>by simp[oF]at h
  | (i,o,s) :: ps,v :: vs,u :: us,cs,⟨h1,h2⟩,⟨h3,h4⟩,hp=>by
    obtain⟨h5,h6⟩:=hp (i,o,s) Oq
    simp only at h5 h6
    have hs:v.cells.size=s:=by rw[h1];simpa using h3
    have B:o+u.length≤cs.length:=by omega
    have C:=wX (place:=place) ps vs us (iu cs o u) h2 h4 (fun p A=>by rw[GA B];exact hp p (by simp[A]))
    simp only[List.map_cons,List.zip_cons_cons,Instr.fill,h5]
    rw[if_neg (by simp[hs];omega),RX h1 o cs B]
    simpa [oD]using C
def ad7 (pl:List (Nat × Nat)) (m:Nat):List (Nat × Nat × Nat)→Bool
  | []=>true
  | (i,o,s) :: r=>(match pl[i]? with
    | some (o',s')=>Nat.beq o' o && Nat.beq s' s && Nat.ble (o+s) m
    | none=>false) && ad7 pl m r
theorem JD {pl:List (Nat × Nat)} {m:Nat}:∀{ps:List (Nat × Nat × Nat)},ad7 pl m ps=true→∀p∈ps,pl[p.1]? = some (p.2.1,p.2.2)∧p.2.1+p.2.2≤m
  | [],_,p,hp=>by cases hp
  | (i,o,s) :: r,h,p,hp=>by
    simp only[ad7,Bool.and_eq_true]at h
    rcases List.mem_cons.1 hp with rfl|hp'
    · cases hq:pl[i]? with
      | none=>rw[hq]at h;simp at h
      | some q =>
        obtain⟨o',s'⟩:=q
        rw[hq]at h
        simp only[Bool.and_eq_true]at h
        obtain⟨⟨⟨h1,h2⟩,h3⟩,_⟩:=h
        have e1:=Nat.eq_of_beq_eq_true h1
        have e2:=Nat.eq_of_beq_eq_true h2
        subst e1;subst e2
        exact⟨rfl,lB h3⟩
    · exact JD h.2 p hp'
section
variable {P:Program} {ops:Array Oper} {Q:Exit→Act→World→Prop} {rest:List Oper}
variable {n:Nat} {A:Fr n} {D:List Deferred} {l:List (Nat × Value)} {w:World}
variable {d:Tmp} {op:Op} {ty:TypeId} {ps:String} {af:Array Edge} {g:Option (Nat × Bool)}
theorem XU {t:TypeId} {zs vs:List Value} {us:List (List Value)} {pl:List (Nat × Nat)} {ps:List (Nat × Nat × Nat)} (hz:fP P t=some zs) (hpl:gY P t=some pl) (hc:oF vs us) (hs:TQ ps us) (hps:ad7 pl zs.length ps=true) :
    P.built t ((ps.map (·.1)).zip vs)=some (oD zs ps us).toArray:=by
  have G:=JD hps
  unfold fP at hz
  cases hi:P.info? t with
  | none=>simp[hi]at hz
  | some it =>
    cases hzz:it.zero with
    | none=>simp[hi,hzz]at hz
    | some z =>
      simp only[hi,hzz,Option.some.injEq]at hz
      have D:z.cells=zs.toArray:=by rw[← hz]
      unfold gY at hpl
      unfold Program.built
      cases hu:P.underlying t with
      | none=>simp[hu]at hpl
      | some d =>
        cases d <;> try (simp[hu]at hpl;done)
        case array m e =>
          cases hie:P.info? e with
          | none=>simp[hu,hie]at hpl
          | some ie =>
            simp only[hu,hie,Option.some.injEq]at hpl
            simp only[hi,hzz,hie,D]
            refine wX ps vs us zs hc hs (fun p C=>?_)
            obtain⟨B,E⟩:=G p C
            rw[← hpl,List.getElem?_map]at B
            have H:(List.range m)[p.1]? = some p.1:=by
              cases hq:(List.range m)[p.1]? with
              | none=>rw[hq]at B;simp at B
              | some q=>have:=List.getElem?_eq_some_iff.1 hq;obtain⟨I,F⟩:=this;simp at F;rw[← F]
            rw[H]at B
            simp only[Option.map_some,Option.some.injEq,Prod.mk.injEq]at B
            exact⟨by rw[B.1,B.2],E⟩
        case struct aj =>
          simp only[hu]at hpl
          simp only[hi,hzz,hpl,D]
          refine wX ps vs us zs hc hs (fun p C=>?_)
          obtain⟨B,E⟩:=G p C
          exact⟨by simpa using B,E⟩
theorem dw {t:TypeId} {parts:List (Nat × Operand)} {zs vs cs:List Value} {us:List (List Value)} {pl:List (Nat × Nat)} (ps:List (Nat × Nat × Nat)) {d':Option Tmp} {ps':String} (hz:fP P t=some zs) (hpl:gY P t=some pl) (hpp:parts.map (·.1)=ps.map (·.1)) (hev:evs n l (parts.map (·.2))=some vs)
    (hc:oF vs us) (hs:TQ ps us) (hps:ad7 pl zs.length ps=true) (hcs:oD zs ps us=cs) :
    dS P ⟨d',.build t parts.toArray,ty,ps',af,g⟩ (b9 A D l).eval w (.agg cs.toArray):=by
  have E:=nB (A:=A) (D:=D) hev
  have B:parts.map (fun p=>(p.1,(b9 A D l).eval p.2))=(ps.map (·.1)).zip vs:=by
    rw[← hpp,← E,List.map_map,List.zip_map']
    rfl
  have C:=XU hz hpl hc hs hps
  rw[← B]at C
  have F:=run_build (P:=P) w t (parts.map (fun p=>(p.1,(b9 A D l).eval p.2))).toArray _ (by simpa using C)
  subst hcs
  simp only[dS,execOp,List.map_toArray]
  show Sem.run P (do pure (Next.value (← Instr.build t (parts.map fun x=>(x.1,(b9 A D l).eval x.2)).toArray))) w=_
  simp[F]
def rowAt (sz:Nat):Nat→Nat→List (Nat × Nat × Nat)
  | _,0=>[]
  | i,k+1=>(i,i*sz,sz) :: rowAt sz (i+1) k
def KB (sz:Nat):List (List Value)→Prop
  | []=>True
  | u :: us=>u.length=sz∧KB sz us
theorem QL {sz:Nat}:∀(us:List (List Value)) (i:Nat),KB sz us→TQ (rowAt sz i us.length) us
  | [],_,_=>trivial
  | _ :: us,i,h=>⟨h.1,QL us (i+1) h.2⟩
theorem IX {sz:Nat} {p:Nat × Nat × Nat}:∀{i k:Nat},p∈rowAt sz i k→p.2.1=p.1*sz∧p.2.2=sz∧p.1<i+k
  | _,0,h=>by cases h
  | i,k+1,h=>by
    rcases List.mem_cons.1 h with rfl|h
    · exact⟨q,q,by simp⟩
    · have:=IX h;omega
theorem zN {sz:Nat}:∀(us:List (List Value)) (i:Nat) (pre cs:List Value),KB sz us→pre.length=i*sz→cs.length=us.length*sz→oD (pre ++ cs) (rowAt sz i us.length) us=pre ++ us.flatten
  | [],i,pre,cs,_,_,h=>by
    have:cs=[]:=List.eq_nil_of_length_eq_zero (by simpa using h)
    subst this;simp[rowAt,oD]
  | u :: us,i,pre,cs,h,hp,hc=>by
    simp only[List.length_cons,rowAt,oD]
    have hc':cs.length=sz+us.length*sz:=by simpa [Nat.succ_mul,Nat.add_comm]using hc
    have e:iu (pre ++ cs) (i*sz) u=(pre ++ u) ++ cs.drop sz:=by
      simp only[iu,← hp,h.1]
      rw[List.take_left,List.drop_append,List.drop_of_length_le (Nat.le_add_right _ _),Nat.add_sub_cancel_left]
      simp
    rw[e,zN us (i+1) (pre ++ u) (cs.drop sz) h.2 (by simp[hp,h.1,Nat.succ_mul]) Vw]
    simp
theorem bO {t e:TypeId} {m sz by':Nat} {parts:List (Nat × Operand)} {vs:List Value} (us:List (List Value)) (ht:P.underlying t=some (.slice e)) (hE:xW P e sz by'=true) (hsz:0<sz) (hm:m*sz≤16777216) (hpp:parts.map (·.1)=(rowAt sz 0 m).map (·.1)) (hev:evs n l (parts.map (·.2))=some vs)
    (hc:oF vs us) (hl:KB sz us) (hlen:us.length=m) (h0:m≠0)
    (k:∀b w',w.heap.size≤b→b<w'.heap.size→Md [] w w'→cg w' b us.flatten e→wpList P ops Q rest (b9 A D ((d,.slice (some ⟨b,0,none⟩) m m) :: l)) w') :
    wpList P ops Q (⟨some d,.buildSlice t m parts.toArray,ty,ps,af,none⟩ :: rest) (b9 A D l) w:=by
  refine iC q ?_
  obtain⟨i,z,K,R,O,T,S⟩:=r6 hE
  have M:=nB (A:=A) (D:=D) hev
  have G:parts.map (fun p=>(p.1,(b9 A D l).eval p.2))=((rowAt sz 0 m).map (·.1)).zip vs:=by
    rw[← hpp,← M,List.map_map,List.zip_map']
    rfl
  have B:∀C:List Value,C.length=m*sz→Instr.fill (fun i=>some (i*sz,sz)) C.toArray (((rowAt sz 0 m).map (·.1)).zip vs)=some us.flatten.toArray:=by
    intro C E
    have:=wX (place:=fun i=>some (i*sz,sz)) (rowAt sz 0 m) vs us C hc (by rw[← hlen];exact QL us 0 hl) (fun p N=>by
      have h:=IX N
      refine⟨by rw[h.1,h.2.1],?_⟩
      rw[h.1,h.2.1,E,← Nat.succ_mul]
      exact Nat.mul_le_mul_right _ Oh)
    have H:=zN us 0 [] C hl Oq (by rw[E,hlen])
    simp only[List.nil_append]at H
    rw[hlen]at H
    rw[this,H]
  have J:¬(m*sz=0):=Nat.mul_ne_zero h0 Oh
  have F:(execOp (b9 A D l).eval ⟨some d,.buildSlice t m parts.toArray,ty,ps,af,none⟩).run P w = .ok (.value (.slice (some ⟨w.heap.size,0,none⟩) m m)) (w.alloc (.cells us.flatten.toArray e)):=by
    show Sem.run P (do pure (Next.value (← Instr.buildSlice t m ((parts.toArray).map fun x=>(x.1,(b9 A D l).eval x.2))))) w=_
    rw[List.map_toArray,G]
    have I:((List.range (m*sz)).map fun x=>(z.cells)[x%z.cells.size]!).length=m*sz:=by simp
    have:=B _ I
    simp only[Instr.buildSlice,Sem.run_bind,run_underlying ht,Result.andThen_ok,fZ K,O]
    have L:Array.map (fun x=>z.cells[x%z.cells.size]!) (Array.range (m*sz))=((List.range (m*sz)).map fun x=>(z.cells)[x%z.cells.size]!).toArray:=by
      apply Array.ext'
      simp
    simp only[show ¬(m*sz > 2 ^ 24)from by omega,if_neg J,if_false]
    simp[zeroValue,typeInfo,K,R,newRow]
    rw[L,this]
    simp
  unfold Oper.wp
  rw[F]
  exact k _ _ (Nat.le_refl _) Oq (Md.alloc w _) (cg.new w us.flatten e)
theorem Own.blk {e:TypeId} {sz m:Nat} {v:Value} {cs:List Value} (h:Own w e sz v m cs) (h0:0<m):∃b cap cur,v = .slice (some ⟨b,0,none⟩) m cap∧cg w b cur e∧m≤cap∧cap≤maxLen∧cur.length=cap*sz∧cur.take (m*sz)=cs:=by
  rcases h.2 with⟨rfl,rfl⟩|⟨g,cap,cur,rfl,F,B,C,A,D,E⟩
  · omega
  exact⟨g,cap,cur.toList,q,B,C,A,by simpa using D,E⟩
theorem Own.e5 {e:TypeId} {sz m b cap:Nat} {cur:List Value} (hB:cg w b cur e) (h1:m≤cap) (h2:cap≤maxLen) (h3:cur.length=cap*sz):Own w e sz (.slice (some ⟨b,0,none⟩) m cap) m (cur.take (m*sz)):=by
  refine⟨by rw[List.length_take,h3];exact Nat.min_eq_left (Nat.mul_le_mul_right _ h1),.inr ⟨b,cap,cur.toArray,q,Nat.zero_le _,hB,h1,h2,by simpa using h3,by simp⟩⟩
variable {α:Type} {T:Dt α} {R R':Nat→Prop}
def Lz (T:Dt α) (w:World) (Q:Nat→Prop) (v:Value) (xs:List α):Prop :=
  ∃a cap cs,v = .slice a xs.length cap∧xs.length≤cap∧cap≤maxLen∧(a=none→cap=0)∧(∀p,a=some p→∀j u,cs[j]? = some u→w.cell? (p.add j)=some u)∧tq T w Q cs xs
theorem Ls.lz {v:Value} {xs:List α} (h:Ls T w R v xs):Lz T w R v xs:=by
  obtain⟨a,A,B,C,D,E,F,I,G,H⟩:=h
  exact⟨a,A,B,C,D,E,F,G,H⟩
theorem Ow.lz {e:TypeId} {lo:Nat→Prop} {v:Value} {xs:List α} (h:Ow T e lo w R v xs):Lz T w R v xs:=by
  obtain⟨⟨B,C,D⟩,I⟩:=h
  obtain⟨a,A,rfl,E,F,G,H⟩:=yU C
  exact⟨a,A,B,q,E,F,G,H,D⟩
theorem qh {x y:Operand} {t e:TypeId} {sz by':Nat} {lo:Nat→Prop} {v u:Value} {xs ys:List α} (hn:T.n=sz) (ht:P.underlying t=some (.slice e)) (hE:xW P e sz by'=true) (hx:ev n l x=some v) (hy:ev n l y=some u)
    (hO:Ow T e lo w R v xs) (hY:Lz T w R u ys) (uR:Up w R) (hlo:∀b,w.heap.size≤b→lo b) (h63:xs.length+ys.length≤9223372036854775807) (hbytes:(xs.length+ys.length)*by'≤140737488355328)
    (k:∀v' w' R'',(∀b,R b→b<w.heap.size→R'' b)→(∀b,R'' b→R b)→Up w' R''→Ow T e lo w' R'' v' (xs ++ ys)→Md (ah v).toList w w'→(∀b∈(ah v).toList,¬R'' b)→(∀b,ah v=some b→b<w.heap.size) →
      (∀b,ah v'=some b→ah v=some b∨w.heap.size≤b)→wpList P ops Q rest (b9 A D ((d,v') :: l)) w') :
    wpList P ops Q (⟨some d,.call {callee:=.builtin .append,args:=#[x,y],argTypes:=#[t,t]},ty,ps,af,none⟩ :: rest) (b9 A D l) w:=by
  subst hn
  refine iC q ?_
  obtain⟨a,H,I,rfl,Z,f,S,W,L⟩:=hY
  have hO':=hO
  obtain⟨⟨O,U,K⟩,C⟩:=hO'
  obtain⟨v',w',X,V,G,Y,J⟩:=vZ (P:=P) (w:=w) (ty':=ty) ht hE T.bn U (a:=a) (k:=ys.length) (c:=H) (news:=I) L.len (fun h=>⟨by have:=S h;omega,S h⟩) W L.one (by simpa [maxLen]using h63) hbytes
  have F:(execOp (b9 A D l).eval ⟨some d,.call {callee:=.builtin .append,args:=#[x,y],argTypes:=#[t,t]},ty,ps,af,none⟩).run P w = .ok (.value v') w':=by
    simp[execOp,resolve,invoke,builtin,cF hx,cF hy,X]
  unfold Oper.wp
  rw[F]
  have N:∀b,R b→b<w.heap.size→(R b∧ah v'≠some b):=fun b B g=>⟨B,fun E=>by
    rcases J b E with h|h
    · exact(C b h).2 B
    · omega⟩
  have hn:∀b∈(ah v).toList,¬(R b∧ah v'≠some b):=fun b B M=>by
    cases E:ah v with
    | none=>rw[E]at B;simp at B
    | some c=>rw[E]at B;simp at B;subst B;exact(C _ E).2 M.1
  have g1':Own w' e T.n v' (xs ++ ys).length (O ++ I):=by simpa using V
  refine k v' w' (fun b=>R b∧ah v'≠some b) N (fun b B=>B.1) (fun b B=>⟨uR b (ly G.size B),fun E=>by have:=g1'.lt b E;omega⟩) ⟨⟨O ++ I,g1',?_⟩,fun b B=>⟨?_,fun M=>M.2 B⟩⟩ G hn U.lt J
  · exact((K.sub N).md G hn).append ((L.sub N).md G hn)
  rcases J b B with h|h
  · exact(C b h).1
  exact hlo b h
theorem gu {x y:Operand} {t e:TypeId} {sz by':Nat} {lo:Nat→Prop} {v u:Value} {xs ys:List α} (hn:T.n=sz) (ht:P.underlying t=some (.slice e)) (hE:xW P e sz by'=true) (hx:ev n l x=some v) (hy:ev n l y=some u)
    (hO:Ow T e lo w R v xs) (hY:Ls T w R' u ys) (hR:∀b,R' b→b<w.heap.size→R b) (uR:Up w R) (hlo:∀b,w.heap.size≤b→lo b) (h63:xs.length+ys.length≤9223372036854775807) (hbytes:(xs.length+ys.length)*by'≤140737488355328)
    (k:∀v' w' R'',(∀b,R b→b<w.heap.size→R'' b)→(∀b,R'' b→R b)→Up w' R''→Ow T e lo w' R'' v' (xs ++ ys)→Md (ah v).toList w w'→(∀b∈(ah v).toList,¬R'' b)→(∀b,ah v=some b→b<w.heap.size) →
      (∀b,ah v'=some b→ah v=some b∨w.heap.size≤b)→wpList P ops Q rest (b9 A D ((d,v') :: l)) w') :
    wpList P ops Q (⟨some d,.call {callee:=.builtin .append,args:=#[x,y],argTypes:=#[t,t]},ty,ps,af,none⟩ :: rest) (b9 A D l) w :=
  qh hn ht hE hx hy hO (hY.sub hR).lz uR hlo h63 hbytes k
theorem Ow.into {e:TypeId} {lo:Nat→Prop} {i:Nat} {v:Value} {xs:List α} {c:List Value} {z:α} (hO:Ow T e lo w R v xs) (hz:T.qd w R c z) (hi:i<xs.length) :
    ∃b cap cur,v = .slice (some ⟨b,0,none⟩) xs.length cap∧cg w b cur e∧i*T.n+c.length≤cur.length∧¬R b∧∀w',Md [b] w w'→cg w' b (iu cur (i*T.n) c) e→Ow T e lo w' R v (xs.set i z):=by
  obtain⟨⟨G,P,C⟩,A⟩:=hO
  obtain⟨b,cap,cur,rfl,Q,H,N,I,O⟩:=P.blk Oh
  have D:=T.len hz
  have K:i*T.n+T.n≤xs.length*T.n:=by rw[← Nat.succ_mul];exact Nat.mul_le_mul_right _ hi
  have E:xs.length*T.n≤cur.length:=by rw[I];exact Nat.mul_le_mul_right _ H
  have J:∀F∈[b],¬R F:=fun F B=>by simp at B;subst B;exact(A _ q).2
  refine⟨b,cap,cur,q,Q,by omega,(A _ q).2,fun w' L B=>⟨⟨(iu cur (i*T.n) c).take (xs.length*T.n),by simpa using Own.e5 (m:=xs.length) B H N (by rw[GA Oh,I]),?_⟩,A⟩⟩
  have M:(iu cur (i*T.n) c).take (xs.length*T.n)=G.take (i*T.n) ++ c ++ G.drop (i*T.n+T.n):=by
    unfold iu
    rw[D,← O,List.take_append,List.take_of_length_le Vw,List.take_take,Nat.min_eq_left Oh,List.drop_take]
    congr 2
    simp
    omega
  rw[M]
  exact(C.md L J).set (T.md hz L J) hi
theorem TJ (cs:List Value) (j:Nat) (u:Value) (h:j<cs.length):cs.set j u=iu cs j [u]:=by
  rw[List.set_eq_take_append_cons_drop,if_pos h];simp[iu]
theorem sY {x y:Operand} {t e:TypeId} {lo:Nat→Prop} {i k:Nat} {v u:Value} {xs:List α} {z:α} (hk:k=i*T.n) (hx:ev n l x=some (oH v k)) (hy:ev n l y=some u) (hT:jF P t=true)
    (hO:Ow T e lo w R v xs) (hz:T.qd w R [u] z) (hi:i<xs.length)
    (kk:∀w',Md (ah v).toList w w'→(∀b∈(ah v).toList,¬R b)→Ow T e lo w' R v (xs.set i z)→wpList P ops Q rest (b9 A D l) w') :
    wpList P ops Q (⟨none,.store t x y,ty,ps,af,none⟩ :: rest) (b9 A D l) w:=by
  subst hk
  obtain⟨b,F,G,rfl,K,H,I,J⟩:=hO.into hz hi
  simp only[List.length_singleton]at H
  refine bK (b:=b) (j:=i*T.n) (by rw[hx];simp[oH,Addr.nW]) hy hT (T.one hz u Oq) K Oh fun w' E C=>?_
  rw[TJ _ _ _ Oh]at C
  exact kk w' (by simpa [ah]using E) (fun L B=>by simp[ah]at B;subst B;exact I) (J w' E C)
theorem jB {x y:Operand} {t e:TypeId} {lo:Nat→Prop} {i k:Nat} {v:Value} {xs:List α} {c:List Value} {z:α} (hk:k=i*T.n) (hx:ev n l x=some (oH v k)) (hy:ev n l y=some (.agg c.toArray)) (hT:gZ P t c.length=true)
    (hO:Ow T e lo w R v xs) (hz:T.qd w R c z) (hi:i<xs.length)
    (kk:∀w',Md (ah v).toList w w'→(∀b∈(ah v).toList,¬R b)→Ow T e lo w' R v (xs.set i z)→wpList P ops Q rest (b9 A D l) w') :
    wpList P ops Q (⟨none,.store t x y,ty,ps,af,none⟩ :: rest) (b9 A D l) w:=by
  subst hk
  obtain⟨b,E,F,rfl,J,G,H,I⟩:=hO.into hz hi
  refine aT (b:=b) (j:=i*T.n) (by rw[hx];simp[oH,Addr.nW]) hy hT (T.one hz) J G fun w' C K=>?_
  exact kk w' (by simpa [ah]using C) (fun L B=>by simp[ah]at B;subst B;exact H) (I w' C K)
theorem Ls.e5 {e:TypeId} {b m:Nat} {cs:List Value} {xs:List α} (hB:cg w b cs e) (hE:tq T w R cs xs) (hm:xs.length=m) (h2:m≤maxLen) (hR:R b):Ls T w R (.slice (some ⟨b,0,none⟩) m m) xs:=by
  subst hm
  exact⟨_,_,cs,q,Nat.le_refl _,h2,by simp,fun p B _=>by cases B;exact hR,fun p B j u C=>by cases B;rw[Addr.nW,Nat.zero_add,hB.cell];exact C,hE⟩
theorem Ow.e5 {e:TypeId} {lo:Nat→Prop} {b m:Nat} {cs:List Value} {xs:List α} (hB:cg w b cs e) (hE:tq T w R cs xs) (hm:xs.length=m) (h2:m≤maxLen) (hlo:lo b) (hR:¬R b):Ow T e lo w R (.slice (some ⟨b,0,none⟩) m m) xs:=by
  subst hm
  have B:=hE.len
  have:=Own.e5 (sz:=T.n) (m:=xs.length) hB (Nat.le_refl _) h2 B
  rw[← B,List.take_length]at this
  exact⟨⟨cs,this,hE⟩,fun C A=>by simp[ah]at A;subst A;exact⟨hlo,hR⟩⟩
theorem kJ {t e:TypeId} {sz by':Nat} (ht:P.underlying t=some (.slice e)) (hE:xW P e sz by'=true)
    (k:∀b w',w.heap.size≤b→b<w'.heap.size→Md [] w w'→cg w' b [] e→wpList P ops Q rest (b9 A D ((d,.slice (some ⟨b,0,none⟩) 0 0) :: l)) w') :
    wpList P ops Q (⟨some d,.buildSlice t 0 #[],ty,ps,af,none⟩ :: rest) (b9 A D l) w:=by
  refine iC q ?_
  obtain⟨i,z,E,I,H,G,F⟩:=r6 hE
  have B:(execOp (b9 A D l).eval ⟨some d,.buildSlice t 0 #[],ty,ps,af,none⟩).run P w = .ok (.value (.slice (some ⟨w.heap.size,0,none⟩) 0 0)) (w.alloc (.cells ([]:List Value).toArray e)):=by
    show Sem.run P (do pure (Next.value (← Instr.buildSlice t 0 ((#[]:Array (Nat × Operand)).map fun x=>(x.1,(b9 A D l).eval x.2))))) w=_
    have C:(Array.map (fun x=>(default:Value)) (Array.range 0)) = #[]:=by simp[Array.range]
    simp[Instr.buildSlice,run_underlying ht,fZ E,Instr.fill,newRow,C]
  unfold Oper.wp
  rw[B]
  exact k _ _ (Nat.le_refl _) Oq (Md.alloc w _) (cg.new w [] e)
theorem ZA (zc:List Value) (m:Nat) (h0:0<zc.length):(madeCells zc.toArray (m*zc.length)).toList=(List.replicate m zc).flatten:=by
  induction m with
  | zero=>simp[madeCells]
  | succ m ih =>
    rw[List.replicate_succ',List.flatten_append,← ih]
    simp only[madeCells,List.flatten_cons,List.flatten_nil,List.append_nil]
    apply List.ext_getElem
    · simp[Nat.succ_mul]
    · intro j B C
      simp at B C
      by_cases hj:j<m*zc.length
      · rw[List.getElem_append_left (by simpa using hj)];simp
      · rw[List.getElem_append_right (by simpa using hj)]
        simp only[Array.toList_map,Array.toList_range,List.getElem_map,List.getElem_range,List.length_map,List.length_range]
        have e:j%zc.length=j-m*zc.length:=by
          rw[show j=(j-m*zc.length)+m*zc.length by omega,Nat.add_mul_mod_self_right,Nat.add_sub_cancel]
          exact Nat.mod_eq_of_lt Oh
        have A:j-m*zc.length<zc.length:=by omega
        simp[e,A]
theorem ab5 {zc:List Value} {z:α} (m:Nat) (h:∀w R,T.qd w R zc z):tq T w R (List.replicate m zc).flatten (List.replicate m z):=by
  induction m with
  | zero=>rfl
  | succ m ih=>exact⟨zc,_,by simp[List.replicate_succ],h _ _,ih⟩
theorem MU {x:Operand} {t e:TypeId} {sz by' m:Nat} {kd:IntKind} {lo:Nat→Prop} {z:α} {zs:List Value} (hn:T.n=sz) (ht:P.underlying t=some (.slice e)) (hE:xW P e sz by'=true) (hz:fP P e=some zs) (hx:ev n l x=some (.int kd (m:Int)))
    (hrep:∀w R,T.qd w R zs z) (uR:Up w R) (hlo:∀b,w.heap.size≤b→lo b) (hm:m≤9223372036854775807∧m*by'≤140737488355328)
    (k:∀v' w' R'',(∀b,R b→b<w.heap.size→R'' b)→(∀b,R'' b→R b)→Up w' R''→Ow T e lo w' R'' v' (List.replicate m z)→Md [] w w'→(∀b,ah v'=some b→w.heap.size≤b)→wpList P ops Q rest (b9 A D ((d,v') :: l)) w') :
    wpList P ops Q (⟨some d,.makeSlice t x x,ty,ps,af,none⟩ :: rest) (b9 A D l) w:=by
  subst hn
  refine iC q ?_
  obtain⟨i,M,K,G,S,B,V⟩:=r6 hE
  have J:M.cells=zs.toArray:=by
    unfold fP at hz
    simp only[K,G,Option.some.injEq]at hz
    rw[← hz]
  have H:zs.length=T.n:=T.len (hrep w R)
  obtain⟨w',O,L,E⟩:=run_make_full (P:=P) w 0 t e i M T.n ht K G S kd kd m (by rw[B];have:=hm.2;rw[Nat.mul_comm]at this;omega) (by simp only[maxLen];exact hm.1) (Nat.zero_le _)
  have F:(execOp (b9 A D l).eval ⟨some d,.makeSlice t x x,ty,ps,af,none⟩).run P w = .ok (.value (.slice (some ⟨w.heap.size,0,none⟩) m m)) w':=by
    simp[execOp,cF hx,O]
  unfold Oper.wp
  rw[F]
  have C:Own w' e T.n (.slice (some ⟨w.heap.size,0,none⟩) m m) (List.replicate m z).length (List.replicate m zs).flatten:=by
    rw[J,← H,ZA zs m (by rw[H];exact T.bn)]at L
    rw[← H]
    simpa [Own]using L
  have U:w.heap.size<w'.heap.size:=Own.lt C _ q
  have I:w.heap.size≤w'.heap.size:=E.size
  refine k _ _ (fun b=>R b∧b≠w.heap.size) (fun b B H=>⟨B,by omega⟩) (fun b B=>B.1) (fun b B=>⟨uR b Oh,by omega⟩) ⟨⟨_,C,ab5 m hrep⟩,fun b B=>?_⟩ ⟨E.os,E.tape,E.output,E.size,fun k hk _=>E.block k hk Oq⟩ (fun b B=>?_)
  · simp[ah]at B;subst B;exact⟨hlo _ (Nat.le_refl _),fun N=>N.2 q⟩
  have hb':w.heap.size=b:=by simpa [ah]using B
  omega
theorem aiJ {x y:Operand} {t e:TypeId} {sz by' m c:Nat} {lo:Nat→Prop} {p:Addr} {u:Value} {xs ys:List α} (hn:T.n=sz) (ht:P.underlying t=some (.slice e)) (hE:xW P e sz by'=true) (hx:ev n l x=some (.slice (some p) m c)) (hy:ev n l y=some u)
    (hX:Ls T w R (.slice (some p) m c) xs) (hY:Ls T w R u ys) (uR:Up w R) (hlo:∀b,w.heap.size≤b→lo b) (hm:xs.length=m) (hg:c<m+ys.length) (h63:xs.length+ys.length≤9223372036854775807) (hbytes:(xs.length+ys.length)*by'≤140737488355328)
    (k:∀v' w' R'',(∀b,R b→b<w.heap.size→R'' b)→(∀b,R'' b→R b)→Up w' R''→Ow T e lo w' R'' v' (xs ++ ys)→Md [] w w'→(∀b,ah v'=some b→w.heap.size≤b)→wpList P ops Q rest (b9 A D ((d,v') :: l)) w') :
    wpList P ops Q (⟨some d,.call {callee:=.builtin .append,args:=#[x,y],argTypes:=#[t,t]},ty,ps,af,none⟩ :: rest) (b9 A D l) w:=by
  subst hn;subst hm
  refine iC rfl ?_
  obtain⟨i,z,g,j,V,B,O⟩:=r6 hE
  obtain⟨o,S,F,U,h3,h4,h5,h6,Y,K⟩:=hX
  simp only[Value.slice.injEq]at U
  obtain⟨rfl,_,rfl⟩:=U
  obtain⟨a,L,G,rfl,r,v,W,g6,X,J⟩:=hY
  have Z:∃q,a=some q:=by
    cases a with
    | none=>have:=W rfl;omega
    | some q=>exact⟨q,rfl⟩
  obtain⟨q,rfl⟩:=Z
  have h:=run_append_grow (P:=P) w t ty e i z ht g j p xs.length c F (by rw[V];exact K.len) (Y p rfl) q ys.length L G (by rw[V];exact J.len) (X q rfl) hg Oh (by rw[B];exact growslice_fits hg hbytes)
  have N:=grownCap_ge w (xs.length+ys.length) c e
  have M:=grownCap_le_maxLen w (xs.length+ys.length) c e (by simp only[maxLen];exact h63)
  have I:(execOp (b9 A D l).eval ⟨some d,.call {callee:=.builtin .append,args:=#[x,y],argTypes:=#[t,t]},ty,ps,af,none⟩).run P w = .ok (.value (.slice (some ⟨w.heap.size,0,none⟩) (xs.length+ys.length) (grownCap w (xs.length+ys.length) c e)))
        (w.drew.alloc (.cells (F.toArray ++ G.toArray ++ Builtin.zeroCells z.cells (grownCap w (xs.length+ys.length) c e-(xs.length+ys.length))) e)):=by
    simp[execOp,resolve,invoke,builtin,cF hx,cF hy,h]
  unfold Oper.wp
  rw[I]
  have C:(F ++ G).length=(xs.length+ys.length)*T.n:=by rw[List.length_append,K.len,J.len,Nat.add_mul]
  have H:Md [] w (w.drew.alloc (.cells (F.toArray ++ G.toArray ++ Builtin.zeroCells z.cells (grownCap w (xs.length+ys.length) c e-(xs.length+ys.length))) e)):=⟨rfl,rfl,rfl,by simp,fun k hk _=>heap_alloc_old w.drew _ hk⟩
  have E:∀b,R b→b<w.heap.size→(R b∧b≠w.heap.size):=fun b B hl=>⟨B,by omega⟩
  refine k _ _ (fun b=>R b∧b≠w.heap.size) E (fun b B=>B.1) (fun b B=>?_) ⟨⟨F ++ G,⟨by simpa using C,.inr ⟨w.heap.size,_,_,by simp,Nat.zero_le _,heap_alloc_new w.drew _,by simpa using N,M,?_,?_⟩⟩,?_⟩,fun b B=>?_⟩ H (fun b B=>?_)
  · have hb':w.heap.size+1≤b:=by simpa using B
    exact⟨uR b Oh,by omega⟩
  · simp only[Array.size_append,List.size_toArray,size_zeroCells,O,K.len,J.len,← Nat.add_mul]
    congr 1
    omega
  · simp only[Array.toList_append,List.append_assoc]
    rw[← List.append_assoc]
    have:(xs ++ ys).length*T.n=(F ++ G).length:=by rw[C];simp
    rw[this]
    exact List.take_left
  · exact((K.sub E).append (J.sub E)).md H Oq
  · simp[ah]at B;subst B;exact⟨hlo _ (Nat.le_refl _),fun f=>f.2 rfl⟩
  have hb':w.heap.size=b:=by simpa [ah]using B
  omega
theorem Ls.yP {β:Type} {f:β→Value} {h1:∀x,(f x).oneCell'=true} {ok:β→Prop} {b o m:Nat} {cs:List Value} {ty':TypeId} {xs:List β} (hB:cg w b cs ty') (hR:R b) (hm:xs.length=m) (h2:m≤maxLen) (hc:(cs.drop o).take m=xs.map f) (ho:∀x∈xs,ok x):Ls (vN f h1 ok) w R (.slice (some ⟨b,o,none⟩) m m) xs:=by
  subst hm
  refine⟨_,_,xs.map f,q,Nat.le_refl _,h2,by simp,fun p B _=>by cases B;exact hR,fun p B j u A=>?_,V5 ho⟩
  cases B
  rw[Addr.nW,hB.cell]
  rw[← hc,List.getElem?_take]at A
  split at A
  · rw[List.getElem?_drop]at A;exact A
  cases A
end
end Go.Wk
namespace Go.Wk
open Go Go.RowKit
section
variable {P:Program} {Q:Exit→Act→World→Prop} {n:Nat} {A:Fr n} {D:List Deferred} {l:List (Nat × Value)} {w:World}
def agJ {X0:Type} (n:Nat) (D:List Deferred) (inv:X0→List (Nat × Value)) (W:X0→World→Prop) (mu:X0→Nat) (m:Nat) (a:Act) (w:World):Prop :=
  ∃y0:X0,∃B:Fr n,a=b9 B D (inv y0)∧W y0 w∧mu y0<m
theorem xu {X0:Type} {c:Code} (inv:X0→List (Nat × Value)) (W:X0→World→Prop) (mu:X0→Nat) (x0:X0) (h0:Fits n l (inv x0)) (hw:W x0 w)
    (round:∀(x0:X0) (B:Fr n) (w':World),W x0 w'→c.wp P (Exit.then (agJ n D inv W mu (mu x0)) Q) (b9 B D (inv x0)) w') :
    (Code.loop c).wp P Q (b9 A D l) w:=by
  refine kQ (X:=X0) (fun p=>inv p) (fun p w=>W p w) (fun p=>mu p) x0 h0 hw (fun p B w' h=>wp_mono (round p B w' h) ?_)
  intro e I J h
  cases e with
  | normal=>obtain⟨H,C,E,F,G⟩:=h;exact⟨H,C,E,F,G⟩
  | _=>exact h
theorem uG {X0:Type} {inv:X0→List (Nat × Value)} {W:X0→World→Prop} {mu:X0→Nat} {m:Nat} (x0:X0) (hm:mu x0<m) (hf:Fits n l (inv x0)) (hw:W x0 w) :
    agJ n D inv W mu m (b9 A D l) w:=⟨x0,_,(ga (A:=A) (D:=D) hf).symm,hw,hm⟩
def agK {X0 X1:Type} (n:Nat) (D:List Deferred) (inv:X0→X1→List (Nat × Value)) (W:X0→X1→World→Prop) (mu:X0→X1→Nat) (m:Nat) (a:Act) (w:World):Prop :=
  ∃y0:X0,∃y1:X1,∃B:Fr n,a=b9 B D (inv y0 y1)∧W y0 y1 w∧mu y0 y1<m
theorem u7 {X0 X1:Type} {c:Code} (inv:X0→X1→List (Nat × Value)) (W:X0→X1→World→Prop) (mu:X0→X1→Nat) (x0:X0) (x1:X1) (h0:Fits n l (inv x0 x1)) (hw:W x0 x1 w)
    (round:∀(x0:X0) (x1:X1) (B:Fr n) (w':World),W x0 x1 w'→c.wp P (Exit.then (agK n D inv W mu (mu x0 x1)) Q) (b9 B D (inv x0 x1)) w') :
    (Code.loop c).wp P Q (b9 A D l) w:=by
  refine kQ (X:=X0 × X1) (fun p=>inv p.1 p.2) (fun p w=>W p.1 p.2 w) (fun p=>mu p.1 p.2) (x0,x1) h0 hw (fun p B w' h=>wp_mono (round (p.1) (p.2) B w' h) ?_)
  intro e J K h
  cases e with
  | normal=>obtain⟨H,I,C,E,F,G⟩:=h;exact⟨(H,I),C,E,F,G⟩
  | _=>exact h
theorem rK {X0 X1:Type} {inv:X0→X1→List (Nat × Value)} {W:X0→X1→World→Prop} {mu:X0→X1→Nat} {m:Nat} (x0:X0) (x1:X1) (hm:mu x0 x1<m) (hf:Fits n l (inv x0 x1)) (hw:W x0 x1 w) :
    agK n D inv W mu m (b9 A D l) w:=⟨x0,x1,_,(ga (A:=A) (D:=D) hf).symm,hw,hm⟩
def agL {X0 X1 X2:Type} (n:Nat) (D:List Deferred) (inv:X0→X1→X2→List (Nat × Value)) (W:X0→X1→X2→World→Prop) (mu:X0→X1→X2→Nat) (m:Nat) (a:Act) (w:World):Prop :=
  ∃y0:X0,∃y1:X1,∃y2:X2,∃B:Fr n,a=b9 B D (inv y0 y1 y2)∧W y0 y1 y2 w∧mu y0 y1 y2<m
theorem ni {X0 X1 X2:Type} {c:Code} (inv:X0→X1→X2→List (Nat × Value)) (W:X0→X1→X2→World→Prop) (mu:X0→X1→X2→Nat) (x0:X0) (x1:X1) (x2:X2) (h0:Fits n l (inv x0 x1 x2)) (hw:W x0 x1 x2 w)
    (round:∀(x0:X0) (x1:X1) (x2:X2) (B:Fr n) (w':World),W x0 x1 x2 w'→c.wp P (Exit.then (agL n D inv W mu (mu x0 x1 x2)) Q) (b9 B D (inv x0 x1 x2)) w') :
    (Code.loop c).wp P Q (b9 A D l) w:=by
  refine kQ (X:=X0 × X1 × X2) (fun p=>inv p.1 p.2.1 p.2.2) (fun p w=>W p.1 p.2.1 p.2.2 w) (fun p=>mu p.1 p.2.1 p.2.2) (x0,x1,x2) h0 hw (fun p B w' h=>wp_mono (round (p.1) (p.2.1) (p.2.2) B w' h) ?_)
  intro e K L h
  cases e with
  | normal=>obtain⟨H,I,J,C,E,F,G⟩:=h;exact⟨(H,I,J),C,E,F,G⟩
  | _=>exact h
theorem kF {X0 X1 X2:Type} {inv:X0→X1→X2→List (Nat × Value)} {W:X0→X1→X2→World→Prop} {mu:X0→X1→X2→Nat} {m:Nat} (x0:X0) (x1:X1) (x2:X2) (hm:mu x0 x1 x2<m) (hf:Fits n l (inv x0 x1 x2)) (hw:W x0 x1 x2 w) :
    agL n D inv W mu m (b9 A D l) w:=⟨x0,x1,x2,_,(ga (A:=A) (D:=D) hf).symm,hw,hm⟩
def agM {X0 X1 X2 X3:Type} (n:Nat) (D:List Deferred) (inv:X0→X1→X2→X3→List (Nat × Value)) (W:X0→X1→X2→X3→World→Prop) (mu:X0→X1→X2→X3→Nat) (m:Nat) (a:Act) (w:World):Prop :=
  ∃y0:X0,∃y1:X1,∃y2:X2,∃y3:X3,∃B:Fr n,a=b9 B D (inv y0 y1 y2 y3)∧W y0 y1 y2 y3 w∧mu y0 y1 y2 y3<m
theorem acr {X0 X1 X2 X3:Type} {c:Code} (inv:X0→X1→X2→X3→List (Nat × Value)) (W:X0→X1→X2→X3→World→Prop) (mu:X0→X1→X2→X3→Nat) (x0:X0) (x1:X1) (x2:X2) (x3:X3) (h0:Fits n l (inv x0 x1 x2 x3)) (hw:W x0 x1 x2 x3 w)
    (round:∀(x0:X0) (x1:X1) (x2:X2) (x3:X3) (B:Fr n) (w':World),W x0 x1 x2 x3 w'→c.wp P (Exit.then (agM n D inv W mu (mu x0 x1 x2 x3)) Q) (b9 B D (inv x0 x1 x2 x3)) w') :
    (Code.loop c).wp P Q (b9 A D l) w:=by
  refine kQ (X:=X0 × X1 × X2 × X3) (fun p=>inv p.1 p.2.1 p.2.2.1 p.2.2.2) (fun p w=>W p.1 p.2.1 p.2.2.1 p.2.2.2 w) (fun p=>mu p.1 p.2.1 p.2.2.1 p.2.2.2) (x0,x1,x2,x3) h0 hw (fun p B w' h=>wp_mono (round (p.1) (p.2.1) (p.2.2.1) (p.2.2.2) B w' h) ?_)
  intro e L M h
  cases e with
  | normal=>obtain⟨H,I,J,K,C,E,F,G⟩:=h;exact⟨(H,I,J,K),C,E,F,G⟩
  | _=>exact h
theorem ac6 {X0 X1 X2 X3:Type} {inv:X0→X1→X2→X3→List (Nat × Value)} {W:X0→X1→X2→X3→World→Prop} {mu:X0→X1→X2→X3→Nat} {m:Nat} (x0:X0) (x1:X1) (x2:X2) (x3:X3) (hm:mu x0 x1 x2 x3<m) (hf:Fits n l (inv x0 x1 x2 x3)) (hw:W x0 x1 x2 x3 w) :
    agM n D inv W mu m (b9 A D l) w:=⟨x0,x1,x2,x3,_,(ga (A:=A) (D:=D) hf).symm,hw,hm⟩
def agN {X0 X1 X2 X3 X4:Type} (n:Nat) (D:List Deferred) (inv:X0→X1→X2→X3→X4→List (Nat × Value)) (W:X0→X1→X2→X3→X4→World→Prop) (mu:X0→X1→X2→X3→X4→Nat) (m:Nat) (a:Act) (w:World):Prop :=
  ∃y0:X0,∃y1:X1,∃y2:X2,∃y3:X3,∃y4:X4,∃B:Fr n,a=b9 B D (inv y0 y1 y2 y3 y4)∧W y0 y1 y2 y3 y4 w∧mu y0 y1 y2 y3 y4<m
theorem ahh {X0 X1 X2 X3 X4:Type} {c:Code} (inv:X0→X1→X2→X3→X4→List (Nat × Value)) (W:X0→X1→X2→X3→X4→World→Prop) (mu:X0→X1→X2→X3→X4→Nat) (x0:X0) (x1:X1) (x2:X2) (x3:X3) (x4:X4) (h0:Fits n l (inv x0 x1 x2 x3 x4)) (hw:W x0 x1 x2 x3 x4 w)
    (round:∀(x0:X0) (x1:X1) (x2:X2) (x3:X3) (x4:X4) (B:Fr n) (w':World),W x0 x1 x2 x3 x4 w'→c.wp P (Exit.then (agN n D inv W mu (mu x0 x1 x2 x3 x4)) Q) (b9 B D (inv x0 x1 x2 x3 x4)) w') :
    (Code.loop c).wp P Q (b9 A D l) w:=by
  refine kQ (X:=X0 × X1 × X2 × X3 × X4) (fun p=>inv p.1 p.2.1 p.2.2.1 p.2.2.2.1 p.2.2.2.2) (fun p w=>W p.1 p.2.1 p.2.2.1 p.2.2.2.1 p.2.2.2.2 w) (fun p=>mu p.1 p.2.1 p.2.2.1 p.2.2.2.1 p.2.2.2.2) (x0,x1,x2,x3,x4) h0 hw (fun p B w' h=>wp_mono (round (p.1) (p.2.1) (p.2.2.1) (p.2.2.2.1) (p.2.2.2.2) B w' h) ?_)
  intro e M N h
  cases e with
  | normal=>obtain⟨H,I,J,K,L,C,E,F,G⟩:=h;exact⟨(H,I,J,K,L),C,E,F,G⟩
  | _=>exact h
theorem ahj {X0 X1 X2 X3 X4:Type} {inv:X0→X1→X2→X3→X4→List (Nat × Value)} {W:X0→X1→X2→X3→X4→World→Prop} {mu:X0→X1→X2→X3→X4→Nat} {m:Nat} (x0:X0) (x1:X1) (x2:X2) (x3:X3) (x4:X4) (hm:mu x0 x1 x2 x3 x4<m) (hf:Fits n l (inv x0 x1 x2 x3 x4)) (hw:W x0 x1 x2 x3 x4 w) :
    agN n D inv W mu m (b9 A D l) w:=⟨x0,x1,x2,x3,x4,_,(ga (A:=A) (D:=D) hf).symm,hw,hm⟩
def agO {X0 X1 X2 X3 X4 X5:Type} (n:Nat) (D:List Deferred) (inv:X0→X1→X2→X3→X4→X5→List (Nat × Value)) (W:X0→X1→X2→X3→X4→X5→World→Prop) (mu:X0→X1→X2→X3→X4→X5→Nat) (m:Nat) (a:Act) (w:World):Prop :=
  ∃y0:X0,∃y1:X1,∃y2:X2,∃y3:X3,∃y4:X4,∃y5:X5,∃B:Fr n,a=b9 B D (inv y0 y1 y2 y3 y4 y5)∧W y0 y1 y2 y3 y4 y5 w∧mu y0 y1 y2 y3 y4 y5<m
theorem ake {X0 X1 X2 X3 X4 X5:Type} {c:Code} (inv:X0→X1→X2→X3→X4→X5→List (Nat × Value)) (W:X0→X1→X2→X3→X4→X5→World→Prop) (mu:X0→X1→X2→X3→X4→X5→Nat) (x0:X0) (x1:X1) (x2:X2) (x3:X3) (x4:X4) (x5:X5) (h0:Fits n l (inv x0 x1 x2 x3 x4 x5)) (hw:W x0 x1 x2 x3 x4 x5 w)
    (round:∀(x0:X0) (x1:X1) (x2:X2) (x3:X3) (x4:X4) (x5:X5) (B:Fr n) (w':World),W x0 x1 x2 x3 x4 x5 w'→c.wp P (Exit.then (agO n D inv W mu (mu x0 x1 x2 x3 x4 x5)) Q) (b9 B D (inv x0 x1 x2 x3 x4 x5)) w') :
    (Code.loop c).wp P Q (b9 A D l) w:=by
  refine kQ (X:=X0 × X1 × X2 × X3 × X4 × X5) (fun p=>inv p.1 p.2.1 p.2.2.1 p.2.2.2.1 p.2.2.2.2.1 p.2.2.2.2.2) (fun p w=>W p.1 p.2.1 p.2.2.1 p.2.2.2.1 p.2.2.2.2.1 p.2.2.2.2.2 w) (fun p=>mu p.1 p.2.1 p.2.2.1 p.2.2.2.1 p.2.2.2.2.1 p.2.2.2.2.2) (x0,x1,x2,x3,x4,x5) h0 hw (fun p B w' h=>wp_mono (round (p.1) (p.2.1) (p.2.2.1) (p.2.2.2.1) (p.2.2.2.2.1) (p.2.2.2.2.2) B w' h) ?_)
  intro e N O h
  cases e with
  | normal=>obtain⟨H,I,J,K,L,M,C,E,F,G⟩:=h;exact⟨(H,I,J,K,L,M),C,E,F,G⟩
  | _=>exact h
theorem ahk {X0 X1 X2 X3 X4 X5:Type} {inv:X0→X1→X2→X3→X4→X5→List (Nat × Value)} {W:X0→X1→X2→X3→X4→X5→World→Prop} {mu:X0→X1→X2→X3→X4→X5→Nat} {m:Nat} (x0:X0) (x1:X1) (x2:X2) (x3:X3) (x4:X4) (x5:X5) (hm:mu x0 x1 x2 x3 x4 x5<m) (hf:Fits n l (inv x0 x1 x2 x3 x4 x5)) (hw:W x0 x1 x2 x3 x4 x5 w) :
    agO n D inv W mu m (b9 A D l) w:=⟨x0,x1,x2,x3,x4,x5,_,(ga (A:=A) (D:=D) hf).symm,hw,hm⟩
def zv (P:Program) (w:World) (n:Nat) (l:List (Nat × Value)):List ResultVar→List Value→Prop
  | [],[]=>True
  | .tmp t :: r,v :: vs=>ev n l (.tmp t)=some v∧zv P w n l r vs
  | .cell t ty :: r,v :: vs=>(∃p,ev n l (.tmp t)=some (.pointer (some p))∧(loadVar ty p).run P w = .ok v w)∧zv P w n l r vs
  | _,_=>False
theorem qO {fn:Func} {rs:List ResultVar} {vs:List Value} (hr:fn.results=rs.toArray) (h:zv P w n l rs vs) :
    (results fn (b9 A D l).tmps).run P w = .ok (if h:vs.length=1 then vs[0]else .tuple vs.toArray) w:=by
  have F:∀(rs:List ResultVar) (vs:List Value),zv P w n l rs vs→(rs.mapM (fun x:ResultVar=>(match x with
      | .tmp t=>pure ((b9 A D l).tmps.getD t undef)
      | .cell a t=>do loadVar t (← asAddr ((b9 A D l).tmps.getD a undef)):Sem Value))).run P w = .ok vs w:=by
    intro rs
    induction rs with
    | nil=>intro vs h;cases vs with
      | nil=>simp
      | cons v vs=>simp[zv]at h
    | cons r rs ih =>
      intro vs h
      cases vs with
      | nil=>cases r <;> simp[zv]at h
      | cons v vs =>
        cases r with
        | tmp t =>
          obtain⟨B,C⟩:=h
          have E:=pB (A:=A) (D:=D) B
          simp only[List.mapM_cons,Sem.run_bind,Sem.run_pure,Result.andThen_ok,ih vs C,E]
        | cell t ty =>
          obtain⟨⟨p,B,H⟩,C⟩:=h
          have E:=pB (A:=A) (D:=D) B
          have I:(asAddr (.pointer (some p))).run P w = .ok p w:=by simp[asAddr]
          simp only[List.mapM_cons,Sem.run_bind,Sem.run_pure,Result.andThen_ok,ih vs C,E,I,H]
  have:=F rs vs h
  unfold results
  rw[hr]
  simp only[List.mapM_toArray,Sem.run_bind,Sem.run_map]
  rw[show(fun x:ResultVar=>(match x with
      | .tmp t=>pure ((b9 A D l).tmps.getD t undef)
      | .cell a t=>do loadVar t (← asAddr ((b9 A D l).tmps.getD a undef)):Sem Value))=_ from rfl]at this
  refine Eq.trans (congrArg (fun r:Result (List Value)=>(r.andThen fun a G=>Result.ok a.toArray G).andThen fun a G=>Sem.run P (pure (if h:a.size=1 then a[0]else Value.tuple a)) G) this) ?_
  simp
theorem eB {fn:Func} {R:Ending→World→Prop} {e:Exit} {rs:List ResultVar} {vs:List Value} (he:tu e) (hr:fn.results=rs.toArray) (h:zv P w n l rs vs) (hl:Nat.beq vs.length 1=false) (hR:R (.returned (.tuple vs.toArray)) w):bodyPost P fn R e (b9 A [] l) w :=
  bp he gU (qO (A:=A) (D:=[]) hr h) (by rw[dif_neg (by intro hh;rw[hh]at hl;cases hl)];exact hR)
theorem d9 {fn:Func} {R:Ending→World→Prop} {e:Exit} {rs:List ResultVar} {v:Value} (he:tu e) (hr:fn.results=rs.toArray) (h:zv P w n l rs [v]) (hR:R (.returned v) w):bodyPost P fn R e (b9 A [] l) w :=
  bp he gU (qO (A:=A) (D:=[]) hr h) hR
theorem ey {t ty':TypeId} {b:Nat} {cs:List Value} (hT:gZ P t cs.length=true) (hB:cg w b cs ty'):(loadVar t ⟨b,0,none⟩).run P w = .ok (.agg cs.toArray) w:=pz hT hB
theorem EA {t ty':TypeId} {b:Nat} {u:Value} {cs:List Value} (hT:jF P t=true) (hB:cg w b cs ty') (hc:cs[0]? = some u):(loadVar t ⟨b,0,none⟩).run P w = .ok u w:=by
  have:w.cell? ⟨b,0,none⟩=some u:=by rw[hB.cell];exact hc
  simp[loadVar,oA hT,this]
end
end Go.Wk
namespace Go.Wk
open Go Go.RowKit Go.ChangeShapes Go.WideShapes Go.ChangeAt Go.Deep
section
variable {H:Type} {enc:TypeId × Value→H} {P:Program} {w:World} {t e:TypeId} {v:Value} {d:DataW H} {ps:List MemPlace}
def Rows (w:World) (v:Value) (vs:List Value) (ls:List (List UInt8)):Prop:=Sl w v vs∧vs.length=ls.length∧∀(i:Nat) (u:Value) (l:Ly),vs[i]? = some u→ls[i]? = some l→By w u l
end
end Go.Wk
namespace Go.Wk
open Go Go.RowKit
section
variable {P:Program} {ops:Array Oper} {md:Region.Mode} {C:World→Prop} {Q:Exit→Act→World→Prop} {E:Array Bool→Act→World→Prop}
def wQ (P:Program) (md:Region.Mode) (ops:Array Oper) (C:World→Prop) (E:Array Bool→Act→World→Prop):Nat→Array Bool→Act→World→Prop
  | 0,listed,a,w=>E listed a w
  | f+1,listed,a,w=>Region.ready md ops listed≠[]∧∀i∈Region.ready md ops listed,opC P ops C i (wQ P md ops C E f (listed.setIfInBounds i true)) a w
theorem tj {t:Nat} (hE:∀listed a w,E listed a w→wpAny P md ops Q t listed a w):∀(f:Nat) (listed:Array Bool) (a:Act) (w:World),wQ P md ops C E f listed a w→wpAny P md ops Q (f+t) listed a w
  | 0,listed,a,w,h=>by rw[Nat.zero_add];exact hE _ _ _ h
  | f+1,listed,a,w,h=>by
    rw[show f+1+t=(f+t)+1 by omega]
    refine⟨fun h0=>absurd h0 h.1,fun i hi=>?_⟩
    have h1:=h.2 i hi
    unfold opC at h1
    unfold wpOp
    split
    · rename_i ho;rw[ho]at h1;exact tj hE f _ a w h1
    · rename_i o ho
      rw[ho]at h1
      simp only at h1
      split
      · rename_i hw;rw[if_pos hw]at h1;exact .inl (GL (fun a' w' hx=>tj hE f _ a' w' hx.2) h1)
      · rename_i hw;rw[if_neg hw]at h1;exact tj hE f _ _ w h1
def Closed (md:Region.Mode) (ops:Array Oper) (listed:Array Bool):Prop:=∀k ok,ops[k]? = some ok→listed.getD k false=true→∀e∈ok.after,Region.binds md e=true→listed.getD e.on false=true
theorem Closed.set {listed:Array Bool} {i:Nat} (h:Closed md ops listed) (hi:i∈Region.ready md ops listed):Closed md ops (listed.setIfInBounds i true):=by
  intro k I hk G e F E
  have B:listed.getD e.on false=true→(listed.setIfInBounds i true).getD e.on false=true:=fun D=>by
    by_cases hei:e.on=i
    · rw[hei]at D ⊢
      rcases Nat.lt_or_ge i listed.size with C|C
      · simp[C]
      · simp[Array.getElem?_eq_none C]at D
    · rw[getD_set_ne false (Ne.symm hei)];exact D
  by_cases hki:k=i
  · subst hki
    obtain⟨_,o,H,A⟩:=mem_ready.1 hi
    rw[hk]at H
    cases H
    exact B (A e F E)
  rw[getD_set_ne false (Ne.symm hki)]at G
  exact B (h k I hk G e F E)
def wO (md:Region.Mode) (ops:Array Oper) (i:Nat):Nat→Nat→Bool
  | 0,_=>false
  | f+1,j=>match ops[j]? with
    | some o=>o.after.any fun e=>Region.binds md e && (Nat.beq e.on i || wO md ops i f e.on)
    | none=>false
theorem FR {i:Nat} {listed:Array Bool} (hC:Closed md ops listed):∀(f j:Nat) (oj:Oper),ops[j]? = some oj→wO md ops i f j=true→(∀e∈oj.after,Region.binds md e=true→listed.getD e.on false=true)→listed.getD i false=true
  | 0,j,oj,_,h,_=>by simp[wO]at h
  | f+1,j,oj,hj,h,hall=>by
    simp only[wO,hj,Array.any_eq_true,Bool.and_eq_true,Bool.or_eq_true]at h
    obtain⟨k,hk,hb,h2⟩:=h
    have hm:oj.after[k]∈oj.after:=Array.getElem_mem hk
    have h3:=hall _ hm hb
    rcases h2 with h2|h2
    · rw[← Nat.eq_of_beq_eq_true h2];exact h3
    · cases ho:ops[oj.after[k].on]? with
      | none=>cases f<;>simp[wO,ho]at h2
      | some ok=>exact FR hC f _ ok ho h2 (hC _ ok ho h3)
def Behind (md:Region.Mode) (ops:Array Oper) (tl:List Nat) (i:Nat):Prop:=∀j∈tl,wO md ops i ops.size j=true
theorem xU {tl:List Nat} {i:Nat} {oi:Oper} {v:Value} (hi:ops[i]? = some oi) (hsel:∀(j:Nat) (o:Oper) cs b,ops[j]? = some o→o.op≠.select cs b)
    (hT:Behind md ops tl i) (hE:∀listed a w,E listed a w→∀j∈Region.ready md ops listed,j∈tl) :
    ∀(f:Nat) (listed:Array Bool) (a:Act) (w:World),
      (∀j oj,ops[j]? = some oj→j≠i→listed.getD j true=false→(∀e∈oj.after,Region.binds md e=true→e.on≠i)→oi.apart ops oj=true) →
      Closed md ops listed→i∈Region.ready md ops listed→C w→Qv P ops C oi v a →
      wQ P md ops C E f (listed.setIfInBounds i true) (a.put oi.dst v) w→wQ P md ops C E (f+1) listed a w:=by
  intro f
  induction f with
  | zero =>
    intro listed a w _ K I S T H
    refine⟨fun h=>(by rw[h]at I;cases I),fun j L=>?_⟩
    by_cases hji:j=i
    · subst hji;exact T.opC hi S H
    · have U:=hE _ _ _ H j (ready_mono L hji)
      obtain⟨_,oj,D,A⟩:=mem_ready.1 L
      have F:=FR K _ j oj D (hT j U) A
      have M:=(mem_ready.1 I).1
      exfalso
      rcases Nat.lt_or_ge i listed.size with J|J
      · simp[J]at M F;rw[M]at F;cases F
      · simp[Array.getElem?_eq_none J]at F
  | succ f ih =>
    intro listed a w B K I S T H
    refine⟨fun h=>(by rw[h]at I;cases I),fun j L=>?_⟩
    by_cases hji:j=i
    · subst hji;exact T.opC hi S H
    · have U:=H.2 j (ready_mono L hji)
      obtain⟨G,oj,D,A⟩:=mem_ready.1 L
      have O:∀e∈oj.after,Region.binds md e=true→e.on≠i:=fun e g W X=>by
        have F:=A e g W
        have M:=(mem_ready.1 I).1
        rw[X]at F
        rcases Nat.lt_or_ge i listed.size with J|J
        · simp[J]at M F;rw[M]at F;cases F
        · simp[Array.getElem?_eq_none J]at F
      have N:=B j oj D hji G O
      obtain⟨_,_,c⟩:=Oper.apart_spec N
      have hfree':∀k R,ops[k]? = some R→k≠i→(listed.setIfInBounds j true).getD k true=false →
          (∀e∈R.after,Region.binds md e=true→e.on≠i)→oi.apart ops R=true:=fun k R hk Y Q Z=>by
        refine B k R hk Y ?_ Z
        by_cases hjk:j=k
        · subst hjk;exact G
        · rw[getD_set_ne true hjk]at Q;exact Q
      refine MB D N (fun cs b=>hsel j oj cs b D) (fun b u l W V d=>?_) S U
      refine ih (listed.setIfInBounds j true) _ l hfree' (K.set L) (ready_mono I (Ne.symm hji)) V ((T.same W).keep (fun cs b=>hsel i oi cs b hi) c) ?_
      rw[Array.setIfInBounds_comm _ _ hji]
      exact d
theorem qV {C':World→Prop} (hC:∀x,C' x→C x):∀(f:Nat) (listed:Array Bool) (a:Act) (w:World),wQ P md ops C' E f listed a w→wQ P md ops C E f listed a w
  | 0,_,_,_,h=>h
  | f+1,listed,a,w,h=>⟨h.1,fun i hi=>by
      have h1:=h.2 i hi
      unfold opC at *
      split
      · rename_i ho;rw[ho]at h1;exact qV hC f _ a w h1
      · rename_i o ho
        rw[ho]at h1
        simp only at h1
        split
        · rename_i hw;rw[if_pos hw]at h1;exact vF (fun a' w' hx=>⟨hC _ hx.1,qV hC f _ a' w' hx.2⟩) h1
        · rename_i hw;rw[if_neg hw]at h1;exact qV hC f _ _ w h1⟩
def UG (md:Region.Mode) (ops:Array Oper) (tl:List Nat) (i:Nat):Bool:=tl.all fun j=>wO md ops i ops.size j
theorem KJ {tl:List Nat} {i:Nat} (h:UG md ops tl i=true):Behind md ops tl i:=fun j hj=>List.all_eq_true.1 h j hj
def chainB (md:Region.Mode) (ops:Array Oper):List Nat→Array Bool→Bool
  | [],listed=>(Region.ready md ops listed).isEmpty
  | j :: r,listed=>(ops[j]?).isSome && decide (Region.ready md ops listed=[j]) && chainB md ops r (listed.setIfInBounds j true)
def qS (l:List Oper):List Nat→List Oper
  | []=>[]
  | j :: r=>match l[j]? with
    | some o=>o :: qS l r
    | none=>qS l r
theorem xZ:∀(tl:List Nat) (listed:Array Bool) (a:Act) (w:World),chainB md ops tl listed=true→wpList P ops Q (qS ops.toList tl) a w→wpAny P md ops Q tl.length listed a w
 | [],listed,a,w,hB,h=>⟨by simpa [chainB]using hB,h⟩
 | j :: r,listed,a,w,hB,h=>by
  simp only[chainB,Bool.and_eq_true,decide_eq_true_eq]at hB
  obtain⟨⟨h0,h1⟩,h2⟩:=hB
  obtain⟨o,ho⟩:=Option.isSome_iff_exists.1 h0
  have hol:ops.toList[j]? = some o:=by simpa using ho
  simp only[qS,hol]at h
  refine⟨fun B=>(by rw[h1]at B;cases B),fun i C=>?_⟩
  rw[h1]at C
  have A:i=j:=by simpa using C
  subst A
  unfold wpOp
  unfold wpList at h
  simp only[ho]
  split at h
  ·rename_i hw
   rw[if_pos hw]
   exact h.imp (fun E=>Oper.wp_mono (fun D G F=>xZ r _ D G h2 F) E) id
  ·rename_i hw
   rw[if_neg hw]
   exact xZ r _ _ w h2 h
def VW (md:Region.Mode) (ops:Array Oper) (tl:List Nat):List (Nat × Bool)→Array Bool→Bool
  | [],listed=>chainB md ops tl listed
  | (i,q) :: r,listed=>(ops[i]?).isSome && (if q then(Region.ready md ops listed).contains i && Region.free md ops listed i && UG md ops tl i else decide (Region.ready md ops listed=[i])) && VW md ops tl r (listed.setIfInBounds i true)
theorem NX {tl:List Nat} {listed:Array Bool} (h:chainB md ops tl listed=true):∀j∈Region.ready md ops listed,j∈tl:=by
  intro j A
  cases tl with
  | nil=>simp only[chainB,List.isEmpty_iff]at h;rw[h]at A;cases A
  | cons k r =>
    simp only[chainB,Bool.and_eq_true,decide_eq_true_eq]at h
    rw[h.1.2]at A
    simp at A
    simp[A]
theorem mL {tl:List Nat} (hs:Region.noSelect ops=true):∀{C:World→Prop} (ord:List (Nat × Bool)) (listed:Array Bool) (a:Act) (w:World),Closed md ops listed→C w→VW md ops tl ord listed=true →
    iq P ops C (fun a w=>wpList P ops Q (qS ops.toList tl) a w) (uJ ops.toList ord) a w →
    wQ P md ops C (fun listed a w=>chainB md ops tl listed=true∧wpList P ops Q (qS ops.toList tl) a w) ord.length listed a w
  | _,[],listed,a,w,_,_,hB,h=>⟨hB,h⟩
  | _,(i,q) :: r,listed,a,w,hcl,hC,hB,h=>by
    simp only[VW,Bool.and_eq_true]at hB
    obtain⟨⟨h0,h1⟩,h2⟩:=hB
    obtain⟨o,ho⟩:=Option.isSome_iff_exists.1 h0
    have hol:ops.toList[i]? = some o:=by simpa using ho
    simp only[uJ,hol]at h
    cases q with
    | true =>
      simp only[if_true,Bool.and_eq_true]at h1
      simp only[iq]at h
      have B:i∈Region.ready md ops listed:=by simpa using h1.1.1
      have F:=KJ h1.2
      split at h
      · rename_i hw
        obtain⟨v,K,hk⟩:=h
        exact xU ho (Region.noSelect_spec hs) F (fun _ _ _ A=>NX A.1) r.length listed a w (Region.free_spec ho h1.1.2) hcl B hC (.inl ⟨hw,K⟩) (mL hs r _ _ _ (hcl.set B) hC h2 hk)
      · rename_i hw
        exact xU ho (Region.noSelect_spec hs) F (fun _ _ _ A=>NX A.1) r.length listed a w (Region.free_spec ho h1.1.2) hcl B hC (.inr ⟨by simpa using hw,rfl⟩) (mL hs r _ _ _ (hcl.set B) hC h2 h)
    | false =>
      simp only[Bool.false_eq_true,if_false,decide_eq_true_eq]at h1
      simp only[iq]at h
      refine⟨fun E=>(by rw[h1]at E;cases E),fun j G=>?_⟩
      rw[h1]at G
      have D:j=i:=by simpa using G
      subst D
      have hcl':=hcl.set (i:=j) (by rw[h1];simp)
      unfold opC
      simp only[ho]
      split at h
      · rename_i hw
        rw[if_pos hw]
        exact vF (fun M N A=>⟨A.1,by obtain⟨L,H,I,J⟩:=A.2;exact qV I _ _ _ _ (mL hs r _ _ _ hcl' H h2 J)⟩) h
      · rename_i hw
        rw[if_neg hw]
        exact mL hs r _ _ _ hcl' hC h2 h
def acz (md:Region.Mode) (ops:Array Oper) (ord:List (Nat × Bool)) (tl:List Nat):Bool:=Region.noSelect ops && decide (ord.length+tl.length=ops.size) && VW md ops tl ord (Array.replicate ops.size false)
theorem dZ {id:Nat} {lo:List Oper} {a:Act} {w:World} (ord:List (Nat × Bool)) (tl:List Nat) (C:World→Prop) (hm:P.follows .mixedOrders=true) (hB:acz .any lo.toArray ord tl=true)
    (h:∀w',Md [] w w'→C w'∧iq P lo.toArray C (fun a w=>wpList P lo.toArray Q (qS lo tl) a w) (uJ lo ord) a w'):(Code.region id lo.toArray true).wp P Q a w:=by
  simp only[acz,Bool.and_eq_true,decide_eq_true_eq]at hB
  obtain⟨⟨G,H⟩,I⟩:=hB
  obtain⟨J,hk⟩:=h _ (Md.drew w)
  refine wp_region_any hm ?_
  have:=mL (md:=.any) (C:=C) (Q:=Q) (tl:=tl) G ord _ a _ (fun k K hk D=>by simp[Array.getD_eq_getD_getElem?,Array.getElem?_replicate]at D;split at D<;>simp at D) J I (by simpa using hk)
  have B:=tj (Q:=Q) (t:=tl.length) (E:=fun A a w=>chainB .any lo.toArray tl A=true∧wpList P lo.toArray Q (qS lo.toArray.toList tl) a w) (fun A a w F=>xZ tl A a w F.1 F.2) _ _ _ _ this
  rwa [H]at B
end
end Go.Wk
namespace Go.Wk
open Go Go.RowKit
theorem fK {α:Type} {l:List α} {i:Nat} (h:i<l.length):∃x,l[i]? = some x:=⟨l[i],by simp[h]⟩
theorem NR (n:Nat):(Value.int .u8 ((n%256:Nat):Int))=b8 (UInt8.ofNat n):=by simp[b8,UInt8.toNat_ofNat']
theorem AV (l:Ly):∀u∈jS l,u.oneCell'=true:=by
  intro u A
  simp only[jS,List.mem_cons,List.not_mem_nil,or_false]at A
  rcases A with h|h|h|h|h|h|h|h|h|h|h|h|h|h|h|h <;> (subst h;rfl)
theorem bI {cs:List Value} (h:cs.all (fun u=>u.oneCell')=true):∀u∈cs,u.oneCell'=true:=by simpa using h
def pV:List UInt8:=List.replicate 16 0
theorem eN {α:Type} {l:List α} {i:Nat} {x:α} (h:l[i]? = some x):l.drop i=x :: l.drop (i+1):=by
  obtain⟨A,B⟩:=List.getElem?_eq_some_iff.1 h
  rw[List.drop_eq_getElem_cons A,B]
theorem iL {α:Type} {l:List α} {i:Nat} (h:l.length≤i):l.drop i=[]:=List.drop_eq_nil_of_le h
theorem aef {α:Type} {l:List α} {i:Nat} {x:α} (h:l[i]? = some x):l.take (i+1)=l.take i ++ [x]:=by rw[List.take_add_one,h];rfl
def ck (S:List Nat) (w:World) (b:Nat):Prop:=b∈S∨w.heap.size≤b
theorem ck.new {S S':List Nat} {w w':World} (M:Md S w w'):∀b,w'.heap.size≤b→ck S' w b:=fun _ hb=>.inr (ly M.size hb)
theorem ck.up {w:World} {Q:Nat→Prop} (u:Up w Q):∀b,ck [] w b→Q b:=fun b hb=>hb.elim (fun h=>by simp at h) (u b)
theorem ck.wid {S:List Nat} {w:World} {b:Nat} (h:ck [] w b):ck S w b:=h.elim (fun h=>by simp at h) .inr
theorem ck.lift {S S':List Nat} {w w':World} (M:Md S w w'):∀b,ck [] w' b→ck S' w b:=fun _ hb=>hb.elim (fun h=>by simp at h) (fun h=>.inr (ly M.size h))
theorem dc {x b:Nat} {l:List Nat} (h:x≠b) (k:x∉l):x∉b :: l:=by simp[h,k]
theorem dU {x:Nat} {l m:List Nat} (h:x∉l) (k:x∉m):x∉l ++ m:=by simp[h,k]
theorem eX {P:Nat→Prop} {b:Nat} {l:List Nat} (h:P b) (k:∀i∈l,P i):∀i∈b :: l,P i:=by
  intro i A
  rcases List.mem_cons.1 A with A|A
  · rw[A];exact h
  exact k i A
theorem fJ {P:Nat→Prop} {l m:List Nat} (h:∀i∈l,P i) (k:∀i∈m,P i):∀i∈l ++ m,P i:=by intro i A;exact(List.mem_append.1 A).elim (h i) (k i)
theorem all_nil {P:Nat→Prop}:∀i∈([]:List Nat),P i:=by simp
theorem iW {P:Nat→Prop} {v:Value} (h:∀b,ah v=some b→P b):∀i∈(ah v).toList,P i:=by
  intro i A
  cases hv:ah v with
  | none=>rw[hv]at A;simp at A
  | some b=>rw[hv]at A;simp at A;subst A;exact h _ hv
def rj (w w':World) (Q Q':Nat→Prop):Prop:=(∀b,Q b→b<w.heap.size→Q' b)∧(∀b,Q' b→Q b)∧Up w' Q'
section
variable {α β:Type} {T:Dt α} {U:Dt β} {w w':World} {Q Q':Nat→Prop} {v:Value} {xs:List α}
theorem Ls.head {hi:Nat} (h:Ls T w Q v xs) (h2:hi≤xs.length):Ls T w Q (nP T.n v 0 hi) (xs.take hi):=by simpa using h.part 0 hi (Nat.zero_le _) h2
theorem Ls.tail {lo:Nat} (h:Ls T w Q v xs) (h1:lo≤xs.length):Ls T w Q (nP T.n v lo xs.length) (xs.drop lo):=by simpa using h.part lo xs.length h1 (Nat.le_refl _)
theorem Ow.fM {e:Nat} {lo lo':Nat→Prop} (h:Ow T e lo w Q v xs) (hl:∀b,ah v=some b→lo' b):Ow T e lo' w Q v xs:=⟨h.1,fun b hb=>⟨hl b hb,(h.2 b hb).2⟩⟩
theorem Ow.lower {e:Nat} {lo lo':Nat→Prop} (h:Ow T e lo w Q v xs) (hl:∀b,lo b→lo' b):Ow T e lo' w Q v xs:=⟨h.1,fun b hb=>⟨hl b (h.2 b hb).1,(h.2 b hb).2⟩⟩
theorem Ow.freeze {e:Nat} {lo:Nat→Prop} (h:Ow T e lo w Q v xs):∃Q':Nat→Prop,(∀b,Q b→Q' b)∧(∀b,Q' b→Q b∨ah v=some b)∧Ls T w Q' v xs :=
  ⟨fun b=>Q b∨ah v=some b,fun _=>.inl,fun _=>id,(h.fM (lo':=fun b=>ah v=some b) fun _ hb=>hb).ls (fun _=>.inl) (fun _=>.inr)⟩
theorem Ow.l9 {e:Nat} {lo:Nat→Prop} {v':Value} (h:Ow T e lo w Q v xs) (s:∀b,Q b→Q' b) (t:∀b,Q' b→Q b∨ah v'=some b) (dj:∀b,ah v=some b→b∉(ah v').toList):Ow T e lo w Q' v xs:=by
  obtain⟨⟨C,D,E⟩,B⟩:=h
  exact⟨⟨C,D,E.sub fun b A _=>s b A⟩,fun b A=>⟨(B b A).1,fun F=>(t b F).elim (B b A).2 fun G=>dj b A (by rw[G];simp)⟩⟩
theorem E2 {b m:Nat} {s:Ly} (h:By w (.slice (some ⟨b,0,none⟩) m m) s):∃Q':Nat→Prop,(∀x,Q x→Q' x)∧(∀x,Q' x→Q x∨x=b)∧Ls fF w Q' (.slice (some ⟨b,0,none⟩) m m) s :=
  ⟨fun x=>Q x∨x=b,fun _=>.inl,fun _=>id,Ls.of_by h fun x hx _=>.inr (by simp[ah]at hx;exact hx.symm)⟩
theorem Ow.back {e:Nat} {lo:Nat→Prop} (h:Ow T e lo w Q v xs) (t:∀b,Q b→Q' b) (n:∀b,ah v=some b→¬Q' b):Ow T e lo w Q' v xs:=by
  obtain⟨⟨B,C,D⟩,E⟩:=h
  exact⟨⟨B,C,D.sub fun b A _=>t b A⟩,fun b A=>⟨(E b A).1,n b A⟩⟩
theorem R6 {b:Nat} {v:Value} (h:b∉(ah v).toList) (k:ah v=some b):False:=h (by rw[k];simp)
theorem Ls.yQ {S:List Nat} {i:Nat} {x:α} (h:Ls T w Q v xs) (hi:xs[i]? = some x) (hs:∀b∈S,¬Q b):∀b,ah v=some b→b∉S:=by
  obtain⟨a,B,E,rfl,F,G,H,C,I,J⟩:=h
  intro b A D
  cases a with
  | none=>simp[ah]at A
  | some p =>
    simp[ah]at A
    subst A
    exact hs _ D (C p q (by rintro rfl;simp at hi))
theorem At.md {S:List Nat} {k:Nat} {c:List Value} (h:At w v k c) (m:Md S w w') (hs:∀b,ah v=some b→b∉S):At w' v k c:=by
  obtain⟨p,l,A,rfl,B⟩:=h
  exact⟨p,l,A,q,fun j u C=>m.cell (B j u C) (by rw[Addr.add_block];exact hs _ q)⟩
theorem Ow.iE {e ty b:Nat} {lo:Nat→Prop} {cs:List Value} (h:Ow T e lo w Q v xs) (hB:cg w b cs ty) (hne:Nat.beq e ty=false):∀b',ah v=some b'→b'≠b:=by
  obtain⟨⟨B,A,C⟩,D⟩:=h
  exact A.ne hB hne
theorem aaV {e ty b:Nat} {lo:Nat→Prop} {cs:List Value} (hB:cg w b cs ty) (h:Ow T e lo w Q v xs) (hne:Nat.beq e ty=false):∀b',ah v=some b'→b'∉[b] :=
  fun b' hb=>by simpa using h.iE hB hne b' hb
theorem BI {e ty b:Nat} {lo:Nat→Prop} {cs:List Value} (h:Ow T e lo w Q v xs) (hB:cg w b cs ty) (hne:Nat.beq e ty=false):b∉(ah v).toList:=by
  intro A
  cases hv:ah v with
  | none=>rw[hv]at A;simp at A
  | some c=>rw[hv]at A;simp at A;exact h.iE hB hne c hv A.symm
theorem Own.air {e e' sz sz' m m':Nat} {v v':Value} {cs cs':List Value} (h:Own w e sz v m cs) (k:Own w e' sz' v' m' cs') (hne:Nat.beq e e'=false):∀b,ah v=some b→ah v'≠some b:=by
  intro b C A
  rcases h.2 with⟨rfl,_⟩|⟨g,F,G,rfl,_,H,_⟩
  · simp[ah]at C
  rcases k.2 with⟨rfl,_⟩|⟨I,D,E,rfl,_,B,_⟩
  · simp[ah]at A
  simp[ah]at C A
  subst C;subst A
  rw[H]at B
  simp at B
  rw[B.2]at hne
  simp at hne
theorem eV {v v':Value} (h:∀x,ah v=some x→ah v'≠some x):∀b,ah v'=some b→b∉(ah v).toList:=by
  intro b B A
  cases hv:ah v with
  | none=>rw[hv]at A;simp at A
  | some c=>rw[hv]at A;simp at A;subst A;exact h _ hv B
theorem sD {v v':Value} (h:∀x,ah v=some x→ah v'≠some x):∀x,ah v'=some x→ah v≠some x:=fun x hx hh=>h x hh hx
theorem aaW {e e':Nat} {lo lo':Nat→Prop} {v':Value} {ys:List β} (h:Ow T e lo w Q v xs) (k:Ow U e' lo' w Q' v' ys) (hne:Nat.beq e e'=false):∀b,ah v'=some b→b∉(ah v).toList:=by
  intro b C A
  obtain⟨⟨E,B,G⟩,H⟩:=h
  obtain⟨⟨F,D,I⟩,J⟩:=k
  cases hv:ah v with
  | none=>rw[hv]at A;simp at A
  | some c=>rw[hv]at A;simp at A;subst A;exact B.air D hne _ hv C
theorem aB {e ty b:Nat} {lo:Nat→Prop} {cs:List Value} (hB:cg w b cs ty) (h:Ow T e lo w Q v xs) (hne:Nat.beq e ty=false:=by decide):∀b',ah v=some b'→b'∉[b]:=aaV hB h hne
theorem aW {e ty b:Nat} {lo:Nat→Prop} {cs:List Value} (h:Ow T e lo w Q v xs) (hB:cg w b cs ty) (hne:Nat.beq e ty=false:=by decide):b∉(ah v).toList:=BI h hB hne
theorem aO {e e':Nat} {lo lo':Nat→Prop} {v':Value} {ys:List β} (h:Ow T e lo w Q v xs) (k:Ow U e' lo' w Q' v' ys) (hne:Nat.beq e e'=false:=by decide):∀b,ah v'=some b→b∉(ah v).toList:=aaW h k hne
end
section
variable {P:Program} {Q:Exit→Act→World→Prop} {n:Nat} {A:Fr n} {D:List Deferred} {l:List (Nat × Value)} {w:World}
def Joins (n:Nat) (D:List Deferred) (l1:Bool→List (Nat × Value)) (R:Bool→World→Prop) (a:Act) (w:World):Prop:=∃(b:Bool) (B:Fr n),a=b9 B D (l1 b)∧R b w
theorem RI {id:Nat} {lo:List Oper} (l1:Bool→List (Nat × Value)) (R:Bool→World→Prop)
    (h:wpList P lo.toArray (fun e a w'=>e = .normal∧Joins n D l1 R a w') lo (b9 A D l) w)
    (k:∀(b:Bool) (B:Fr n) (w':World),R b w'→Q .normal (b9 B D (l1 b)) w'):(Code.region id lo.toArray false).wp P Q (b9 A D l) w:=by
  refine wp_mono (aQ (Q:=fun e a w'=>e = .normal∧Joins n D l1 R a w') h) ?_
  rintro e a w' ⟨rfl,b,B,rfl,C⟩
  exact k b B w' C
theorem jn {l1:Bool→List (Nat × Value)} {R:Bool→World→Prop} (b:Bool) (hf:Fits n l (l1 b)) (hR:R b w):Joins n D l1 R (b9 A D l) w :=
  ⟨b,_,(ga (A:=A) (D:=D) hf).symm,hR⟩
theorem wB {G:Prop} (b:Bool) (h1:b=true→G) (h0:b=false→G):G:=by cases b<;>simp_all
end
end Go.Wk
namespace Go.Wk
open Go Go.RowKit
def p5 (n:Int):Bool:=decide (n=1∨n=2∨n=4∨n=8)
def vM:List UInt8→Nat
  | []=>0
  | b :: r=>b.toNat+256*vM r
def mE (l:Ly) (a n:Int):Nat × Bool :=
  if p5 n=true∧0≤a∧a+n≤l.length then(vM ((l.drop a.toNat).take n.toNat),true)else(0,false)
theorem aim (l:Ly):vM l<256 ^ l.length:=by
  induction l with
  | nil=>simp[vM]
  | cons b r ih =>
    simp only[vM,List.length_cons,Nat.pow_succ]
    have:=UInt8.toNat_lt b
    omega
theorem vt {l:Ly} {k:Nat} (h:l.length≤k):vM l<256 ^ k:=lj (aim l) (Nat.pow_le_pow_right Oh h)
theorem Pm {l:Ly} {i k:Nat} {x:UInt8} (h:l[i]? = some x):vM ((l.drop i).take (k+1))=x.toNat+256*vM ((l.drop (i+1)).take k):=by
  rw[eN h];rfl
theorem AH {l:Ly} {a n:Int} (h:¬(p5 n=true∧0≤a∧a+n≤l.length)):mE l a n=(0,false):=if_neg h
theorem gG {n:Int}:p5 n=true↔(n=1∨n=2∨n=4∨n=8):=by simp[p5]
theorem za {n:Int} (h:p5 n=true):1≤n∧n≤8:=by rw[gG]at h;omega
end Go.Wk
