/- Part 1 of what the walk of a law stands on: Base, Ops, Steps, Draws, Strings, FieldP, HashP, Rep, Nums, Puts, Loops, Opens, Tails, More, LeP, Types, RefP, HashN, MakerP, MakerQ, FldR. No statement is proved here. -/
import Derived.WalkKit
import Derived.WalkSpells
import Derived.WalkLawsBesides
import Derived.Deep.Quiet
import Derived.StillTail
import Derived.KernelRfl
import Derived.Deep.LoopGhost
import Derived.Laws.IdiomStrings
import Derived.Laws.StructEq
import Derived.Laws.Externs
import Derived.Lib.BytesEntry
import Derived.Lib.IndexLaws
import Derived.ProofKit
import Derived.OpenShut
import Derived.ShutString
import Derived.Deep.Slices
import Derived.Sort.Grow
import Derived.Lib.SliceRun
import Derived.Recover
import Derived.Lib.AppendZerosOnto
import Derived.LaidEqlPtr
import Derived.Shelf.SlSortCmp.NoneTotal
import Derived.Shelf.SortM.Plain
import Derived.Shelf.SortM.SortNone
import Derived.Lib.SmallJoins
import Derived.SizedLaws
set_option linter.unusedSimpArgs false
set_option linter.unusedVariables false
set_option linter.unusedSimpArgs false
namespace Go.Wk
open Go Go.RowKit

theorem dq {p:Prop} [Decidable p] (h:decide p=true):p:=of_decide_eq_true h
theorem dF {p:Prop} [Decidable p] (h:decide p=false):¬p:=of_decide_eq_false h
theorem lq {a b:Nat} (h:Nat.ble a b=true):a≤b:=Nat.le_of_ble_eq_true h
theorem ly {a b c:Nat} (h:a<b) (k:b≤c):a<c:=Nat.lt_of_lt_of_le h k
theorem lv {a b c:Nat} (h:a≤b) (k:b≤c):a≤c:=Nat.le_trans h k
theorem tV:True:=True.intro
theorem bnt {b:Bool} (h:(!b)=true):b=false:=by cases b<;>simp_all
theorem bnf {b:Bool} (h:(!b)=false):b=true:=by cases b<;>simp_all

/-! ### Frames -/

def look:List (Nat × Value)→Nat→Option Value
  | [],_=>none
  | (k,v) :: r,t=>cond (Nat.beq k t) (some v) (look r t)

structure Fr (n:Nat) where
  tmps:Array Value
  size:tmps.size=n

def over {n:Nat} (A:Fr n) (D:List Deferred):List (Nat × Value)→Act
  | []=>⟨A.tmps,D⟩
  | (k,v) :: r=>(over A D r).put (some k) v

def ev (n:Nat) (l:List (Nat × Value)):Operand→Option Value
  | .tmp t=>cond (Nat.ble n t) none (look l t)
  | .const v=>some v
  | .global g=>some (.pointer (some ⟨g,0,none⟩))
  | .func f=>some (.func (.func f) #[] #[])

section
variable {n:Nat} {A:Fr n} {D:List Deferred} {l:List (Nat × Value)}

theorem over_size:(over A D l).tmps.size=n:=by
  induction l with
  | nil=>exact A.size
  | cons p r ih=>simp[over,Act.put,ih]

theorem over_defers:(over A D l).defers=D:=by
  induction l with
  | nil=>rfl
  | cons p r ih=>simp[over,Act.put,ih]

theorem over_look {t:Nat} {v:Value} (ht:t<n) (h:look l t=some v):(over A D l).tmps.getD t undef=v:=by
  induction l with
  | nil=>simp[look]at h
  | cons p r ih =>
    obtain⟨k,u⟩:=p
    simp only[look]at h
    have E:(over A D r).tmps.size=n:=over_size
    by_cases hk:k=t
    · subst hk
      simp at h
      subst h
      simp[over,Act.put,Array.getD,E,ht]
    · have:Nat.beq k t=false:=Bool.eq_false_iff.2 fun B=>hk (Nat.eq_of_beq_eq_true B)
      simp only[this,cond_false]at h
      have C:=ih h
      rw[← C]
      show((over A D r).tmps.setIfInBounds k u).getD t undef=_
      simp[hk]

theorem ev_eval {x:Operand} {v:Value} (h:ev n l x=some v):(over A D l).eval x=v:=by
  cases x with
  | tmp t =>
    simp only[ev]at h
    cases ht:Nat.ble n t with
    | true=>simp[ht]at h
    | false =>
      simp only[ht,cond_false]at h
      have:t<n:=Nat.lt_of_not_le fun B=>by rw[Nat.ble_eq_true_of_le B]at ht;cases ht
      exact over_look this h
  | const u=>simp only[ev,Option.some.injEq]at h;exact h
  | global g=>simp only[ev,Option.some.injEq]at h;exact h
  | func f=>simp only[ev,Option.some.injEq]at h;exact h

def evs (n:Nat) (l:List (Nat × Value)):List Operand→Option (List Value)
  | []=>some []
  | x :: r=>match ev n l x,evs n l r with
    | some v,some vs=>some (v :: vs)
    | _,_=>none

theorem evs_eval {xs:List Operand} {vs:List Value} (h:evs n l xs=some vs):xs.map (over A D l).eval=vs:=by
  induction xs generalizing vs with
  | nil=>simpa [evs]using h
  | cons x r ih =>
    simp only[evs]at h
    split at h
    · rename_i v us h1 h2
      simp at h;subst h
      simp[ev_eval h1,ih h2]
    · cases h

/-- 'l1' lists slots whose values are those of 'l'. -/
def Fits (n:Nat) (l:List (Nat × Value)):List (Nat × Value)→Prop
  | []=>True
  | (t,v) :: r=>ev n l (.tmp t)=some v∧Fits n l r

theorem put_self (a:Act) (t:Nat) (v:Value) (h:a.tmps.getD t undef=v):a.put (some t) v=a:=by
  cases a with
  | mk tm ds =>
    simp only[Act.put]
    congr 1
    apply Array.ext
    · simp
    · intro i A B
      rw[Array.getElem_setIfInBounds]
      split
      · rename_i e;subst e;subst h;simp at A;simp[Array.getD,A]
      · rfl

theorem act_eta (a:Act) (h:a.defers=D):(⟨a.tmps,D⟩:Act)=a:=by cases a;subst h;rfl

theorem over_fits {l1:List (Nat × Value)} (h:Fits n l l1):over (⟨(over A D l).tmps,over_size⟩:Fr n) D l1=over A D l:=by
  induction l1 with
  | nil=>exact act_eta _ over_defers
  | cons p r ih =>
    obtain⟨t,v⟩:=p
    simp only[Fits]at h
    simp only[over]
    rw[ih h.2]
    exact put_self _ _ _ (by have:=ev_eval (A:=A) (D:=D) h.1;simpa [Act.eval]using this)

end

/-! ### Worlds -/

/-- w' is w but for the old blocks of S, and new ones. -/
structure Md (S:List Nat) (w w':World):Prop where
  os:w'.os=w.os
  tape:w'.tape=w.tape
  output:w'.output=w.output
  size:w.heap.size≤w'.heap.size
  block:∀k,k<w.heap.size→k∉S→w'.heap[k]? = w.heap[k]?

theorem Md.refl (S:List Nat) (w:World):Md S w w:=⟨rfl,rfl,rfl,Nat.le_refl _,fun _ _ _=>rfl⟩
theorem Md.trans {S:List Nat} {a b c:World} (h:Md S a b) (k:Md S b c):Md S a c :=
  ⟨k.os.trans h.os,k.tape.trans h.tape,k.output.trans h.output,lv h.size k.size,fun i hi hs=>(k.block i (ly hi h.size) hs).trans (h.block i hi hs)⟩
theorem Md.mono {S T:List Nat} {a b:World} (h:Md S a b) (hs:∀k,k∈S→k<a.heap.size→k∈T):Md T a b :=
  ⟨h.os,h.tape,h.output,h.size,fun i hi ht=>h.block i hi fun hm=>ht (hs i hm hi)⟩
/-- A step that writes blocks T, each of S or new since 'a'. -/
theorem Md.step {S T:List Nat} {a b c:World} (h:Md S a b) (k:Md T b c) (hT:∀i,i∈T→i∈S∨a.heap.size≤i):Md S a c :=
  ⟨k.os.trans h.os,k.tape.trans h.tape,k.output.trans h.output,lv h.size k.size,fun i hi hs =>
    (k.block i (ly hi h.size) fun hm=>(hT i hm).elim hs fun h'=>by omega).trans (h.block i hi hs)⟩
theorem Md.step0 {S:List Nat} {a b c:World} (h:Md S a b) (k:Md [] b c):Md S a c:=h.step k (by simp)
theorem Md.step1 {S:List Nat} {a b c:World} {i:Nat} (h:Md S a b) (k:Md [i] b c) (hi:a.heap.size≤i):Md S a c :=
  h.step k (by intro j hj;simp at hj;subst hj;exact .inr hi)
theorem Md.step1' {S:List Nat} {a b c:World} {i:Nat} (h:Md S a b) (k:Md [i] b c) (hi:i∈S):Md S a c :=
  h.step k (by intro j hj;simp at hj;subst hj;exact .inl hi)
theorem Md.below {w w':World} (h:Md [] w w'):Below w.heap.size w w':=⟨h.os,h.tape,h.output,h.size,fun k hk=>h.block k hk (by simp)⟩
theorem Md.drew (w:World):Md [] w {w with drawn:=w.drawn+1}:=⟨rfl,rfl,rfl,Nat.le_refl _,fun _ _ _=>rfl⟩
theorem Md.alloc (w:World) (o:Obj):Md [] w (w.alloc o):=⟨rfl,rfl,rfl,by simp,fun _ hk _=>heap_alloc_old w o hk⟩
theorem Md.setCell (w:World) (a:Addr) (u:Value):Md [a.block] w (w.setCell a u) :=
  ⟨rfl,rfl,rfl,by simp[World.setCell],fun k _ hs=>Below.heap_setCell w a u k (by simpa using hs)⟩
theorem Md.grown {w w':World} {r:Option Nat} (h:w.grownBy w' r):Md r.toList w w' :=
  ⟨h.os,h.tape,h.output,h.size,fun k hk hs=>h.block k hk (by rintro rfl;simp at hs)⟩

theorem Md.cell {S:List Nat} {w w':World} {p:Addr} {u:Value} (h:Md S w w') (hc:w.cell? p=some u) (hs:p.block∉S):w'.cell? p=some u :=
  (World.cell?_of_block (h.block p.block (World.block_lt_of_cell? w p hc) hs)).trans hc

/-! ### Blocks -/

/-- Block b holds just these cells. -/
def Blk (w:World) (b:Nat) (cs:List Value) (ty:TypeId):Prop:=w.heap[b]? = some (.cells cs.toArray ty (0,0))

section
variable {w w':World} {b:Nat} {cs:List Value} {ty:TypeId}
theorem Blk.lt (h:Blk w b cs ty):b<w.heap.size:=(Array.getElem?_eq_some_iff.1 h).1
theorem Blk.md {S:List Nat} (h:Blk w b cs ty) (m:Md S w w') (hs:b∉S):Blk w' b cs ty:=(m.block b h.lt hs).trans h
theorem Blk.md0 (h:Blk w b cs ty) (m:Md [] w w'):Blk w' b cs ty:=h.md m (by simp)
theorem Blk.md1 {i:Nat} (h:Blk w b cs ty) (m:Md [i] w w') (hi:b≠i):Blk w' b cs ty:=h.md m (by simpa using hi)
theorem Blk.cell (h:Blk w b cs ty) (j:Nat):w.cell? ⟨b,j,none⟩=cs[j]?:=by
  unfold Blk at h
  simp[World.cell?,h]
theorem Blk.frozen (h:Blk w b cs ty) (j:Nat):w.frozen? ⟨b,j,none⟩=false:=by
  unfold Blk at h
  simp[World.frozen?,h]
theorem Blk.set (h:Blk w b cs ty) (j:Nat) (u:Value):Blk (w.setCell ⟨b,j,none⟩ u) b (cs.set j u) ty:=by
  have A:=h.lt
  unfold Blk at h ⊢
  simp only[World.setCell,Array.getElem?_modify,h]
  simp
theorem Blk.new (w:World) (cs:List Value) (ty:TypeId):Blk (w.alloc (.cells cs.toArray ty)) w.heap.size cs ty:=heap_alloc_new w _
end

/-! ### Slices of one-cell elements -/

def Sl (w:World) (v:Value) (l:List Value):Prop :=
  ∃a cap,v = .slice a l.length cap∧l.length≤cap∧cap≤maxLen∧(a=none→cap=0)∧∀p,a=some p→∀j u,l[j]? = some u→w.cell? (p.add j)=some u

def b8 (x:UInt8):Value:=.int .u8 (x.toNat:Int)
def By (w:World) (v:Value) (l:List UInt8):Prop:=Sl w v (l.map b8)

/-- The pointer to element i. -/
def elemp:Value→Nat→Value
  | .slice (some p) _ _,i=>.pointer (some (p.add i))
  | _,_=>undef
/-- 'v[lo:hi]'. -/
def subv:Value→Nat→Nat→Value
  | .slice a _ cap,lo,hi=>.slice (if cap=lo then a else a.map (·.add lo)) (hi-lo) (cap-lo)
  | _,_,_=>undef

theorem Addr.add_block (p:Addr) (j:Nat):(p.add j).block=p.block:=by unfold Addr.add;split<;>rfl
theorem Addr.add_add (p:Addr) (i j:Nat):(p.add i).add j=p.add (i+j):=by
  unfold Addr.add
  by_cases hi:i=0 <;> by_cases hj:j=0 <;> simp[hi,hj]
  omega
theorem Addr.add_mk (b o j:Nat):(⟨b,o,none⟩:Addr).add j=⟨b,o+j,none⟩:=by unfold Addr.add;split<;>simp_all

section
variable {w w':World} {v:Value} {l:List Value}
theorem Sl.nil (w:World):Sl w (.slice none 0 0) []:=⟨none,0,rfl,Nat.le_refl _,by simp[maxLen],fun _=>rfl,by simp⟩
theorem Sl.len_le (h:Sl w v l):l.length≤maxLen:=by obtain⟨a,A,_,B,C,_⟩:=h;omega
/-- Kept where every old cell but those of S is. -/
theorem Sl.md0 (h:Sl w v l) (m:Md [] w w'):Sl w' v l:=by
  obtain⟨a,A,B,C,D,E,F⟩:=h
  exact⟨a,A,B,C,D,E,fun p G j u H=>m.cell (F p G j u H) (by simp)⟩
def vblock:Value→Option Nat
  | .slice (some p) _ _=>some p.block
  | _=>none
/-- v is a slice of m elements. -/
theorem SS:(∀{c:Prop} {h:Decidable c} (_:c) {α:Type} {t e:α},(if c then t else e)=t)∧(∀{c:Prop} {h:Decidable c} (_:¬c) {α:Type} {t e:α},(if c then t else e)=e)∧(∀{α:Type} {a b:α},(some a).getD b=a)∧(∀{α:Type} {a b:α},(some a=some b)=(a=b))∧((false=true)=False)∧((true=false)=False)∧(∀{h:Decidable True},@decide True h=true)∧(∀{h:Decidable False},@decide False h=false)∧((¬True)=False)∧((¬False)=True) :=
  ⟨fun h=>if_pos h,fun h=>if_neg h,rfl,by simp,by simp,by simp,by simp,by simp,by simp,by simp⟩
theorem LL:(∀{α:Type} {a:α} {l:List α},(a :: l).length=l.length+1)∧(∀{α:Type},([]:List α).length=0)∧(∀{α:Type} {a b:List α},(a ++ b).length=a.length+b.length)∧(∀{α:Type} {n:Nat} {a:α},(List.replicate n a).length=n)∧(∀(n:Nat),0+n=n) :=
  ⟨rfl,rfl,by simp,by simp,by simp⟩
def zr (n:Nat) (v:Value):List Value:=List.replicate n v
def ml (n:Nat):List (Nat × Bool):=(List.range n).map fun i=>(i,true)
abbrev Ly:=List UInt8
abbrev vS (b:Nat) (x y z:Value):List Nat:=b :: (vblock x).toList ++ ((vblock y).toList ++ ((vblock z).toList))
def Shp (v:Value) (m:Nat):Prop:=∃a cap,v = .slice a m cap∧m≤cap∧cap≤maxLen∧(a=none→cap=0)
theorem Sl.shp (h:Sl w v l):Shp v l.length:=by obtain⟨a,A,B,C,D,E,_⟩:=h;exact⟨a,A,B,C,D,E⟩
/-- The slice's cells, if it has any, lie in none of the blocks of S. -/
def Apart {α:Type} (v:Value) (l:List α) (S:List Nat):Prop:=∀b,vblock v=some b→l≠[]→b∉S
theorem Sl.lt {b:Nat} (h:Sl w v l) (hb:vblock v=some b) (hl:l≠[]):b<w.heap.size:=by
  obtain⟨a,A,B,D,E,F,C⟩:=h
  cases l with
  | nil=>exact absurd rfl hl
  | cons u r =>
    subst B
    cases a with
    | none=>simp[vblock]at hb
    | some p =>
      have:=World.block_lt_of_cell? w _ (C p rfl 0 u rfl)
      rw[Addr.add_block]at this
      simp[vblock]at hb
      omega
theorem Apart.of_old {S:List Nat} (h:Sl w v l) (hS:∀i∈S,w.heap.size≤i):Apart v l S:=fun b hb hl hm=>by
  have:=h.lt hb hl
  have:=hS b hm
  omega
theorem vblock_sub {lo hi b:Nat} (h:vblock (subv v lo hi)=some b):vblock v=some b:=by
  cases v with
  | slice a len cap =>
    cases a with
    | none=>simp only[subv]at h;split at h <;> simp[vblock]at h
    | some p =>
      simp only[subv]at h
      split at h
      · exact h
      · simp only[Option.map_some,vblock,Addr.add_block]at h;exact h
  | _=>simp[subv,undef,vblock]at h
theorem Apart.sub {α:Type} {l:List α} {S:List Nat} (h:Apart v l S) (lo hi:Nat):Apart (subv v lo hi) ((l.take hi).drop lo) S:=fun b hb hl=>h b (vblock_sub hb) (by rintro rfl;simp at hl)
theorem Sl.md {S:List Nat} (h:Sl w v l) (m:Md S w w') (hs:Apart v l S):Sl w' v l:=by
  obtain⟨a,A,B,E,F,G,H⟩:=h
  refine⟨a,A,B,E,F,G,fun p C j u D=>m.cell (H p C j u D) ?_⟩
  subst B;subst C
  rw[Addr.add_block]
  exact hs _ rfl (by rintro rfl;simp at D)
theorem Sl.of_blk {b:Nat} {cs:List Value} {ty:TypeId} (h:Blk w b cs ty) (hm:cs.length≤maxLen):Sl w (.slice (some ⟨b,0,none⟩) cs.length cs.length) cs :=
  ⟨_,_,rfl,Nat.le_refl _,hm,by simp,fun p hp j u hu=>by cases hp;rw[Addr.add_mk,Nat.zero_add,h.cell];exact hu⟩
theorem Sl.of_own {base:Nat} {e:TypeId} (h:w.ownsRow base e 1 v l.length l):Sl w v l:=by
  rcases h.2 with⟨rfl,C⟩|⟨g,A,B,rfl,H,I,E,D,J,K⟩
  · have:l=[]:=List.eq_nil_of_length_eq_zero C
    subst this
    exact Sl.nil w
  · exact⟨_,A,rfl,E,D,by simp,fun p F j u G=>by cases F;exact h.cells (g:=g) rfl j u G⟩
theorem Sl.sub (h:Sl w v l) (lo hi:Nat) (h1:lo≤hi) (h2:hi≤l.length):Sl w (subv v lo hi) ((l.take hi).drop lo):=by
  obtain⟨a,A,rfl,G,H,E,F⟩:=h
  refine⟨if A=lo then a else a.map (·.add lo),A-lo,?_,?_,by omega,?_,?_⟩
  · simp only[subv];congr 1;simp;omega
  · simp;omega
  · intro h
    split at h
    · omega
    · cases a with
      | none=>have:=E rfl;omega
      | some p=>simp at h
  · intro p B j u C
    have I:j<hi-lo:=by
      have:=(List.getElem?_eq_some_iff.1 C).1
      simp at this
      omega
    have D:A≠lo:=by omega
    rw[if_neg D]at B
    cases a with
    | none=>simp at B
    | some q =>
      simp at B
      subst B
      rw[Addr.add_add]
      refine F q rfl (lo+j) u ?_
      rw[List.getElem?_drop,List.getElem?_take]at C
      rw[if_pos (by omega)]at C
      exact C
end
theorem By.sub {w:World} {v:Value} {l:Ly} (h:By w v l) (lo hi:Nat) (h1:lo≤hi) (h2:hi≤l.length):By w (subv v lo hi) ((l.take hi).drop lo):=by
  have:=Sl.sub h lo hi h1 (by simpa using h2)
  unfold By
  rwa [List.map_drop,List.map_take]
theorem By.shp {w:World} {v:Value} {l:Ly} (h:By w v l):Shp v l.length:=by have:=Sl.shp h;simpa using this
theorem By.md0 {w w':World} {v:Value} {l:Ly} (h:By w v l) (m:Md [] w w'):By w' v l:=Sl.md0 h m
theorem By.md {S:List Nat} {w w':World} {v:Value} {l:Ly} (h:By w v l) (m:Md S w w') (hs:Apart v l S):By w' v l:=Sl.md h m (fun b hb hl=>hs b hb (by rintro rfl;simp at hl))
theorem Apart.of_oldB {w:World} {v:Value} {l:Ly} {S:List Nat} (h:By w v l) (hS:∀i∈S,w.heap.size≤i):Apart v l S:=fun b hb hl=>Apart.of_old h hS b hb (by simpa using hl)
theorem By.of_blk {w:World} {b:Nat} {l:Ly} {ty:TypeId} {m:Nat} (h:Blk w b (l.map b8) ty) (hl:l.length=m) (hm:m≤maxLen):By w (.slice (some ⟨b,0,none⟩) m m) l:=by
  have:=Sl.of_blk h (by simpa [hl]using hm)
  simpa [By,hl]using this
theorem By.len_le {w:World} {v:Value} {l:Ly} (h:By w v l):l.length≤maxLen:=by have:=Sl.len_le h;simpa using this
theorem getD_b8 (l:Ly) (i:Nat) (h:i<l.length):(l.map b8)[i]? = some (b8 (l.getD i 0)):=by
  simp[List.getD,h]

theorem By.head {w:World} {v:Value} {l:Ly} (h:By w v l) (k:Nat) (hk:k≤l.length):By w (subv v 0 k) (l.take k):=by simpa using h.sub 0 k (Nat.zero_le _) hk
theorem By.tail {w:World} {v:Value} {l:Ly} (h:By w v l) (k:Nat) (hk:k≤l.length):By w (subv v k l.length) (l.drop k):=by simpa using h.sub k l.length hk (Nat.le_refl _)
theorem Apart.tail {α:Type} {v:Value} {l:List α} {S:List Nat} (h:Apart v l S) (k:Nat):Apart (subv v k l.length) (l.drop k) S:=by simpa using h.sub k l.length

/-! ### Types -/

def isOne (P:Program) (t:TypeId):Bool :=
  match P.underlying t with
  | some (.struct _)|some (.array _ _)|none=>false
  | some _=>Nat.beq (P.cellsOf t) 1
/-- struct or array of n cells -/
def isAggN (P:Program) (t:TypeId) (n:Nat):Bool :=
  match P.underlying t with
  | some (.struct _)|some (.array _ _)=>match P.info? t with
    | some i=>Nat.beq i.size n
    | none=>false
  | _=>false
def fieldOff (P:Program) (s:TypeId) (f:Nat):Option Nat :=
  match P.underlying s with
  | some (.struct fs)=>match fs[f]? with
    | some fd=>match P.info? fd.type with
      | some i=>if i.size=0 then none else some fd.offset
      | none=>none
    | none=>none
  | _=>none
def zcells (P:Program) (t:TypeId):Option (List Value) :=
  match P.info? t with
  | some i=>match i.zero with
    | some z=>some z.cells.toList
    | none=>none
  | none=>none
def elemIs (P:Program) (e:TypeId) (n:Nat):Bool :=
  match P.info? e with
  | some i=>Nat.beq i.size n
  | none=>false

theorem isOne_spec {P:Program} {t:TypeId} (h:isOne P t=true):∃d i,P.underlying t=some d∧P.info? t=some i∧i.size=1∧(d matches .struct _|.array _ _)=false:=by
  unfold isOne at h
  split at h
  · cases h
  · cases h
  · cases h
  · rename_i d h1 h2 hd
    refine⟨d,?_⟩
    cases hi:P.info? t with
    | none=>simp[Program.cellsOf,hi]at h
    | some i =>
      refine⟨i,hd,rfl,by simpa [Program.cellsOf,hi]using h,?_⟩
      cases d <;> simp_all
theorem isAggN_spec {P:Program} {t:TypeId} {n:Nat} (h:isAggN P t n=true):∃d i,P.underlying t=some d∧P.info? t=some i∧i.size=n∧(d matches .struct _|.array _ _)=true:=by
  unfold isAggN at h
  split at h
  · rename_i d hd
    split at h
    · rename_i i hi;exact⟨_,i,hd,hi,by simpa using h,rfl⟩
    · cases h
  · rename_i d hd
    split at h
    · rename_i i hi;exact⟨_,i,hd,hi,by simpa using h,rfl⟩
    · cases h
  · cases h
theorem run_isAgg_one {P:Program} {t:TypeId} (h:isOne P t=true) (w:World):(isAgg t).run P w = .ok false w:=by
  obtain⟨d,i,A,B,C,D⟩:=isOne_spec h
  simp only[isAgg,Sem.run_bind,run_underlying A,Result.andThen_ok]
  cases d <;> simp_all
theorem run_isAgg_agg {P:Program} {t:TypeId} {n:Nat} (h:isAggN P t n=true) (w:World):(isAgg t).run P w = .ok true w:=by
  obtain⟨d,i,A,B,C,D⟩:=isAggN_spec h
  simp only[isAgg,Sem.run_bind,run_underlying A,Result.andThen_ok]
  cases d <;> simp_all
theorem run_sizeOf {P:Program} {t:TypeId} {i:TypeInfo} (h:P.info? t=some i) (w:World):(sizeOf t).run P w = .ok i.size w:=by
  simp[sizeOf,typeInfo,h]
end Go.Wk
namespace Go.Wk
open Go Go.RowKit

def RunV (P:Program) (o:Oper) (e:Operand→Value) (w:World) (v:Value):Prop:=(execOp e o).run P w = .ok (.value v) w

section
variable {P:Program} {n:Nat} {A:Fr n} {D:List Deferred} {l:List (Nat × Value)} {w:World}
variable {d:Option Tmp} {ty:TypeId} {ps:String} {af:Array Edge} {g:Option (Nat × Bool)}

theorem r_move {x:Operand} {v:Value} (h:ev n l x=some v):RunV P ⟨d,.move x,ty,ps,af,g⟩ (over A D l).eval w v:=by
  simp[RunV,execOp,ev_eval h]
theorem r_assign {x:Operand} {v:Value} (h:ev n l x=some v):RunV P ⟨d,.assign x,ty,ps,af,g⟩ (over A D l).eval w v:=by
  simp[RunV,execOp,ev_eval h]
theorem r_pick_t {c x y:Operand} {b:Bool} {v:Value} (hc:ev n l c=some (.bool b)) (hb:b=true) (h:ev n l x=some v) :
    RunV P ⟨d,.pick c x y,ty,ps,af,g⟩ (over A D l).eval w v:=by
  subst hb;simp[RunV,execOp,ev_eval h,ev_eval hc,asBool]
theorem r_pick_f {c x y:Operand} {b:Bool} {v:Value} (hc:ev n l c=some (.bool b)) (hb:b=false) (h:ev n l y=some v) :
    RunV P ⟨d,.pick c x y,ty,ps,af,g⟩ (over A D l).eval w v:=by
  subst hb;simp[RunV,execOp,ev_eval h,ev_eval hc,asBool]
theorem r_extract {x:Operand} {i:Nat} {vs:Array Value} {v:Value} (h:ev n l x=some (.tuple vs)) (hv:vs[i]? = some v) :
    RunV P ⟨d,.extract x i,ty,ps,af,g⟩ (over A D l).eval w v:=by
  simp[RunV,execOp,ev_eval h,Instr.extract,hv]
theorem r_not {x:Operand} {t:TypeId} {b:Bool} (h:ev n l x=some (.bool b)) :
    RunV P ⟨d,.unOp .not t x,ty,ps,af,g⟩ (over A D l).eval w (.bool !b):=by
  simp[RunV,execOp,ev_eval h,Op.unary]
theorem r_nil {x:Operand} {p:Addr} (h:ev n l x=some (.pointer (some p))) :
    RunV P ⟨d,.nilCheck x,ty,ps,af,g⟩ (over A D l).eval w (.pointer (some p)):=by
  simp[RunV,execOp,ev_eval h]

/-! integers -/
theorem r_int {op:BinOp} {x y:Operand} {t u:TypeId} {k j:IntKind} {a b:Int} {r:Value} (hx:ev n l x=some (.int k a)) (hy:ev n l y=some (.int j b))
    (hr:(binOp op t (.int k a) (.int j b)).run P w = .ok r w):RunV P ⟨d,.binOp op t x y u,ty,ps,af,g⟩ (over A D l).eval w r:=by
  have B:(eqGuard op t x y (.int k a) (.int j b)).run P w = .ok () w:=by unfold eqGuard;cases op <;> simp
  simp[RunV,execOp,ev_eval hx,ev_eval hy,B,hr]
theorem r_add {x y:Operand} {t u:TypeId} {k:IntKind} {a b:Int} (hx:ev n l x=some (.int k a)) (hy:ev n l y=some (.int k b)) :
    RunV P ⟨d,.binOp .add t x y u,ty,ps,af,g⟩ (over A D l).eval w (.int k (k.wrap (a+b))):=r_int hx hy (by simp[binOp,Op.intArith])
theorem r_sub {x y:Operand} {t u:TypeId} {k:IntKind} {a b:Int} (hx:ev n l x=some (.int k a)) (hy:ev n l y=some (.int k b)) :
    RunV P ⟨d,.binOp .sub t x y u,ty,ps,af,g⟩ (over A D l).eval w (.int k (k.wrap (a-b))):=r_int hx hy (by simp[binOp,Op.intArith])
theorem r_mul {x y:Operand} {t u:TypeId} {k:IntKind} {a b:Int} (hx:ev n l x=some (.int k a)) (hy:ev n l y=some (.int k b)) :
    RunV P ⟨d,.binOp .mul t x y u,ty,ps,af,g⟩ (over A D l).eval w (.int k (k.wrap (a*b))):=r_int hx hy (by simp[binOp,Op.intArith])
theorem r_quo {x y:Operand} {t u:TypeId} {k:IntKind} {a b:Int} (hx:ev n l x=some (.int k a)) (hy:ev n l y=some (.int k b)) (h0:b≠0) :
    RunV P ⟨d,.binOp .quo t x y u,ty,ps,af,g⟩ (over A D l).eval w (.int k (k.wrap (a.tdiv b))):=r_int hx hy (by simp[binOp,Op.intDiv,h0])
theorem r_rem {x y:Operand} {t u:TypeId} {k:IntKind} {a b:Int} (hx:ev n l x=some (.int k a)) (hy:ev n l y=some (.int k b)) (h0:b≠0) :
    RunV P ⟨d,.binOp .rem t x y u,ty,ps,af,g⟩ (over A D l).eval w (.int k (a.tmod b)):=r_int hx hy (by simp[binOp,Op.intDiv,h0])
theorem r_and {x y:Operand} {t u:TypeId} {k:IntKind} {a b:Int} (hx:ev n l x=some (.int k a)) (hy:ev n l y=some (.int k b)) :
    RunV P ⟨d,.binOp .and t x y u,ty,ps,af,g⟩ (over A D l).eval w (.int k (bits .and k a b)):=r_int hx hy (by simp[binOp];rfl)
theorem r_or {x y:Operand} {t u:TypeId} {k:IntKind} {a b:Int} (hx:ev n l x=some (.int k a)) (hy:ev n l y=some (.int k b)) :
    RunV P ⟨d,.binOp .or t x y u,ty,ps,af,g⟩ (over A D l).eval w (.int k (bits .or k a b)):=r_int hx hy (by simp[binOp];rfl)
theorem r_xor {x y:Operand} {t u:TypeId} {k:IntKind} {a b:Int} (hx:ev n l x=some (.int k a)) (hy:ev n l y=some (.int k b)) :
    RunV P ⟨d,.binOp .xor t x y u,ty,ps,af,g⟩ (over A D l).eval w (.int k (bits .xor k a b)):=r_int hx hy (by simp[binOp];rfl)
theorem r_andNot {x y:Operand} {t u:TypeId} {k:IntKind} {a b:Int} (hx:ev n l x=some (.int k a)) (hy:ev n l y=some (.int k b)) :
    RunV P ⟨d,.binOp .andNot t x y u,ty,ps,af,g⟩ (over A D l).eval w (.int k (bits .andNot k a b)):=r_int hx hy (by simp[binOp];rfl)
def shlv (k:IntKind) (a b:Int):Int:=k.wrap (a*2 ^ min b.toNat k.bits)
def shrv (k:IntKind) (a b:Int):Int:=a/2 ^ min b.toNat k.bits
theorem r_shl {x y:Operand} {t u:TypeId} {k j:IntKind} {a b:Int} (hx:ev n l x=some (.int k a)) (hy:ev n l y=some (.int j b)) (h0:0≤b) :
    RunV P ⟨d,.binOp .shl t x y u,ty,ps,af,g⟩ (over A D l).eval w (.int k (shlv k a b)):=r_int hx hy (by simp only[binOp];rw[shift_shl_any k j a b h0];rfl)
theorem r_shr {x y:Operand} {t u:TypeId} {k j:IntKind} {a b:Int} (hx:ev n l x=some (.int k a)) (hy:ev n l y=some (.int j b)) (h0:0≤b) :
    RunV P ⟨d,.binOp .shr t x y u,ty,ps,af,g⟩ (over A D l).eval w (.int k (shrv k a b)):=r_int hx hy (by simp only[binOp];rw[shift_shr_any k j a b h0];rfl)
theorem r_eq {x y:Operand} {t u:TypeId} {k:IntKind} {a b:Int} (hx:ev n l x=some (.int k a)) (hy:ev n l y=some (.int k b)) :
    RunV P ⟨d,.binOp .eql t x y u,ty,ps,af,g⟩ (over A D l).eval w (.bool (decide (a=b))):=r_int hx hy (by simp[binOp,Op.intCmp];rw[Bool.eq_iff_iff];simp)
theorem r_ne {x y:Operand} {t u:TypeId} {k:IntKind} {a b:Int} (hx:ev n l x=some (.int k a)) (hy:ev n l y=some (.int k b)) :
    RunV P ⟨d,.binOp .neq t x y u,ty,ps,af,g⟩ (over A D l).eval w (.bool (decide (a≠b))):=r_int hx hy (by simp[binOp,Op.intCmp];rw[Bool.eq_iff_iff];simp)
theorem r_lt {x y:Operand} {t u:TypeId} {k:IntKind} {a b:Int} (hx:ev n l x=some (.int k a)) (hy:ev n l y=some (.int k b)) :
    RunV P ⟨d,.binOp .lss t x y u,ty,ps,af,g⟩ (over A D l).eval w (.bool (decide (a<b))):=r_int hx hy (by simp[binOp,Op.intCmp])
theorem r_le {x y:Operand} {t u:TypeId} {k:IntKind} {a b:Int} (hx:ev n l x=some (.int k a)) (hy:ev n l y=some (.int k b)) :
    RunV P ⟨d,.binOp .leq t x y u,ty,ps,af,g⟩ (over A D l).eval w (.bool (decide (a≤b))):=r_int hx hy (by simp[binOp,Op.intCmp])
theorem r_gt {x y:Operand} {t u:TypeId} {k:IntKind} {a b:Int} (hx:ev n l x=some (.int k a)) (hy:ev n l y=some (.int k b)) :
    RunV P ⟨d,.binOp .gtr t x y u,ty,ps,af,g⟩ (over A D l).eval w (.bool (decide (b<a))):=r_int hx hy (by simp[binOp,Op.intCmp])
theorem r_ge {x y:Operand} {t u:TypeId} {k:IntKind} {a b:Int} (hx:ev n l x=some (.int k a)) (hy:ev n l y=some (.int k b)) :
    RunV P ⟨d,.binOp .geq t x y u,ty,ps,af,g⟩ (over A D l).eval w (.bool (decide (b≤a))):=r_int hx hy (by simp[binOp,Op.intCmp])

theorem wrap_i64 {x:Int} (h0:-9223372036854775808≤x) (h1:x≤9223372036854775807):IntKind.i64.wrap x=x:=by
  simp[IntKind.wrap,IntKind.bits,IntKind.signed];omega
theorem wrap_u64 {x:Int} (h0:0≤x) (h1:x<18446744073709551616):IntKind.u64.wrap x=x:=by
  simp[IntKind.wrap,IntKind.bits,IntKind.signed];omega
theorem wrap_u64_mod (x:Int):IntKind.u64.wrap x=x%18446744073709551616:=by simp[IntKind.wrap,IntKind.bits,IntKind.signed]
theorem wrap_u8_mod (x:Int):IntKind.u8.wrap x=x%256:=by simp[IntKind.wrap,IntKind.bits,IntKind.signed]

/-- int's sum, in range. -/
theorem r_addI {x y:Operand} {t u:TypeId} {a b:Int} (hx:ev n l x=some (.int .i64 a)) (hy:ev n l y=some (.int .i64 b)) (h:-9223372036854775808≤a+b∧a+b≤9223372036854775807) :
    RunV P ⟨d,.binOp .add t x y u,ty,ps,af,g⟩ (over A D l).eval w (.int .i64 (a+b)):=by have:=r_add (P:=P) (A:=A) (D:=D) (w:=w) (d:=d) (t:=t) (u:=u) (ty:=ty) (ps:=ps) (af:=af) (g:=g) hx hy;rwa [wrap_i64 h.1 h.2]at this
theorem r_subI {x y:Operand} {t u:TypeId} {a b:Int} (hx:ev n l x=some (.int .i64 a)) (hy:ev n l y=some (.int .i64 b)) (h:-9223372036854775808≤a-b∧a-b≤9223372036854775807) :
    RunV P ⟨d,.binOp .sub t x y u,ty,ps,af,g⟩ (over A D l).eval w (.int .i64 (a-b)):=by have:=r_sub (P:=P) (A:=A) (D:=D) (w:=w) (d:=d) (t:=t) (u:=u) (ty:=ty) (ps:=ps) (af:=af) (g:=g) hx hy;rwa [wrap_i64 h.1 h.2]at this
theorem r_conv {x:Operand} {s t:TypeId} {k j:IntKind} {a:Int} (hs:(P.underlying s).isSome=true) (ht:P.underlying t=some (.int k)) (hx:ev n l x=some (.int j a)) :
    RunV P ⟨d,.convert s t x,ty,ps,af,g⟩ (over A D l).eval w (.int k (k.wrap a)):=by
  obtain⟨C,B⟩:=Option.isSome_iff_exists.1 hs
  simp[RunV,execOp,ev_eval hx,convert,run_underlying B,run_underlying ht,Conv.intToInt]
theorem r_min {x y:Operand} {ts:Array TypeId} {k j:IntKind} {a b:Int} (hx:ev n l x=some (.int k a)) (hy:ev n l y=some (.int j b)) :
    RunV P ⟨d,.call {callee:=.builtin .min,args:=#[x,y],argTypes:=ts},ty,ps,af,g⟩ (over A D l).eval w (.int k (if b<a then b else a)):=by
  simp[RunV,execOp,ev_eval hx,ev_eval hy,resolve,invoke,builtin,Builtin.min_,Builtin.min2]

/-! slices -/
theorem r_len {x:Operand} {v:Value} {m:Nat} {t e:TypeId} (hx:ev n l x=some v) (hT:P.underlying t=some (.slice e)) (hS:Shp v m) :
    RunV P ⟨d,.call {callee:=.builtin .len,args:=#[x],argTypes:=#[t]},ty,ps,af,g⟩ (over A D l).eval w (.int .i64 m):=by
  obtain⟨a,B,rfl,_⟩:=hS
  simp[RunV,execOp,ev_eval hx,resolve,invoke,builtin,Builtin.len_,run_underlying hT,goInt]
theorem r_indexZ {x y:Operand} {v:Value} {m:Nat} {t e:TypeId} {k:IntKind} {i:Int} (sz:Nat) (hx:ev n l x=some v) (hy:ev n l y=some (.int k i)) (hT:P.underlying t=some (.slice e)) (hE:elemIs P e sz=true)
    (hS:Shp v m) (hi:0≤i∧i<m):RunV P ⟨d,.indexAddr t x y,ty,ps,af,g⟩ (over A D l).eval w (elemp v (i.toNat*sz)):=by
  obtain⟨a,C,rfl,F,G,E⟩:=hS
  unfold elemIs at hE
  split at hE
  · rename_i inf hinf
    have B:inf.size=sz:=by simpa using hE
    cases a with
    | none=>have:=E rfl;omega
    | some p=>simp[RunV,execOp,ev_eval hx,ev_eval hy,Instr.indexAt,asIntOf,run_underlying hT,run_sizeOf hinf,hi.1,hi.2,B,elemp]
  · cases hE
theorem r_index {x y:Operand} {v:Value} {m:Nat} {t e:TypeId} {k:IntKind} {i:Int} (hx:ev n l x=some v) (hy:ev n l y=some (.int k i)) (hT:P.underlying t=some (.slice e)) (hE:elemIs P e 1=true)
    (hS:Shp v m) (hi:0≤i∧i<m):RunV P ⟨d,.indexAddr t x y,ty,ps,af,g⟩ (over A D l).eval w (elemp v i.toNat):=by
  have:=r_indexZ (P:=P) (A:=A) (D:=D) (w:=w) (d:=d) (ty:=ty) (ps:=ps) (af:=af) (g:=g) 1 hx hy hT hE hS hi
  simpa using this
theorem r_slice {x:Operand} {lo hi:Option Operand} {v:Value} {m:Nat} {t e:TypeId} (L H:Nat) (hT:P.underlying t=some (.slice e)) (hE:elemIs P e 1=true) (hx:ev n l x=some v)
    (hS:Shp v m) (h1:L≤H) (h2:H≤m)
    (hlo:match lo with|none=>L=0|some y=>∃k,ev n l y=some (.int k L)) (hhi:match hi with|none=>H=m|some y=>∃k,ev n l y=some (.int k H)) :
    RunV P ⟨d,.slice t x lo hi none,ty,ps,af,g⟩ (over A D l).eval w (subv v L H):=by
  obtain⟨a,C,rfl,G,I,J⟩:=hS
  unfold elemIs at hE
  split at hE
  · rename_i inf hinf
    have B:inf.size=1:=by simpa using hE
    have E:H≤C:=by omega
    cases lo with
    | none =>
      simp only at hlo;subst hlo
      cases hi with
      | none =>
        simp only at hhi;subst hhi
        simp[RunV,execOp,ev_eval hx,Instr.sliceAt,Instr.slice,Instr.sliceBounds,run_underlying hT,run_sizeOf hinf,subv,B]
      | some y =>
        simp only at hhi;obtain⟨k,hk⟩:=hhi
        simp[RunV,execOp,ev_eval hx,ev_eval hk,Instr.sliceAt,Instr.slice,Instr.sliceBounds,Instr.sliceBound,asIntOf,run_underlying hT,run_sizeOf hinf,subv,B,E]
    | some z =>
      simp only at hlo;obtain⟨j,F⟩:=hlo
      cases hi with
      | none =>
        simp only at hhi;subst hhi
        simp[RunV,execOp,ev_eval hx,ev_eval F,Instr.sliceAt,Instr.slice,Instr.sliceBounds,Instr.sliceBound,asIntOf,run_underlying hT,run_sizeOf hinf,subv,B,h1]
      | some y =>
        simp only at hhi;obtain⟨k,hk⟩:=hhi
        simp[RunV,execOp,ev_eval hx,ev_eval F,ev_eval hk,Instr.sliceAt,Instr.slice,Instr.sliceBounds,Instr.sliceBound,asIntOf,run_underlying hT,run_sizeOf hinf,subv,B,h1,E]
  · cases hE
/-- The slice of a whole array. -/
theorem r_sliceArr {x:Operand} {p:Addr} {t e:TypeId} {m:Nat} (hT:P.underlying t=some (.array m e)) (hE:elemIs P e 1=true) (hx:ev n l x=some (.pointer (some p))) (_hm:m≠0) :
    RunV P ⟨d,.slice t x none none none,ty,ps,af,g⟩ (over A D l).eval w (.slice (some p) m m):=by
  unfold elemIs at hE
  split at hE
  · rename_i inf hinf
    simp[RunV,execOp,ev_eval hx,Instr.sliceAt,Instr.sureAddr,Instr.sliceBounds,run_underlying hT,run_sizeOf hinf,Addr.add]
  · cases hE

/-! loads -/
theorem r_load {x:Operand} {t:TypeId} {p:Addr} {u:Value} (hx:ev n l x=some (.pointer (some p))) (hT:isOne P t=true) (hc:w.cell? p=some u) :
    RunV P ⟨d,.load t x,ty,ps,af,g⟩ (over A D l).eval w u:=by
  simp[RunV,execOp,ev_eval hx,Instr.loadAt,Instr.sureAddr,loadVar,run_isAgg_one hT,hc]
theorem r_loadBlk {x:Operand} {t ty':TypeId} {b j:Nat} {cs:List Value} {u:Value} (hx:ev n l x=some (.pointer (some ⟨b,j,none⟩))) (hT:isOne P t=true) (hB:Blk w b cs ty') (hj:cs[j]? = some u) :
    RunV P ⟨d,.load t x,ty,ps,af,g⟩ (over A D l).eval w u:=r_load hx hT (by rw[hB.cell];exact hj)
theorem r_loadEl {x:Operand} {t:TypeId} {i:Nat} {v u:Value} {l':List Value} (hx:ev n l x=some (elemp v i)) (hT:isOne P t=true) (hS:Sl w v l') (hj:l'[i]? = some u) :
    RunV P ⟨d,.load t x,ty,ps,af,g⟩ (over A D l).eval w u:=by
  obtain⟨a,B,rfl,F,G,C,E⟩:=hS
  have H:=(List.getElem?_eq_some_iff.1 hj).1
  cases a with
  | none=>have:=C rfl;omega
  | some p=>exact r_load (p:=p.add i) hx hT (E p rfl i u hj)
theorem r_loadB {x:Operand} {t:TypeId} {i:Nat} {v:Value} {l':Ly} (hx:ev n l x=some (elemp v i)) (hT:isOne P t=true) (hS:By w v l') (hj:i<l'.length) :
    RunV P ⟨d,.load t x,ty,ps,af,g⟩ (over A D l).eval w (b8 (l'.getD i 0)):=r_loadEl hx hT hS (getD_b8 l' i hj)
theorem r_loadAgg {x:Operand} {t:TypeId} {p:Addr} {m:Nat} {cs:List Value} (hx:ev n l x=some (.pointer (some p))) (hT:isAggN P t m=true) (hm:cs.length=m) (hc:∀j u,cs[j]? = some u→w.cell? (p.add j)=some u) :
    RunV P ⟨d,.load t x,ty,ps,af,g⟩ (over A D l).eval w (.agg cs.toArray):=by
  obtain⟨G,F,H,B,C,I⟩:=isAggN_spec hT
  have E:=run_loadCells_list (P:=P) (w:=w) p cs hc
  simp[RunV,execOp,ev_eval hx,Instr.loadAt,Instr.sureAddr,loadVar,run_isAgg_agg hT,run_sizeOf B,C,← hm,E]
/-- A whole block, read. -/
theorem r_loadAll {x:Operand} {t ty':TypeId} {b:Nat} {cs:List Value} (hx:ev n l x=some (.pointer (some ⟨b,0,none⟩))) (hT:isAggN P t cs.length=true) (hB:Blk w b cs ty') :
    RunV P ⟨d,.load t x,ty,ps,af,g⟩ (over A D l).eval w (.agg cs.toArray) :=
  r_loadAgg hx hT rfl fun j u hj=>by rw[Addr.add_mk,Nat.zero_add,hB.cell];exact hj
theorem r_field {x:Operand} {s:TypeId} {f b o off:Nat} (hx:ev n l x=some (.pointer (some ⟨b,o,none⟩))) (hf:fieldOff P s f=some off) :
    RunV P ⟨d,.fieldAddr s x f,ty,ps,af,g⟩ (over A D l).eval w (.pointer (some ⟨b,o+off,none⟩)):=by
  unfold fieldOff at hf
  split at hf
  · rename_i fs hfs
    split at hf
    · rename_i fd hfd
      split at hf
      · rename_i inf hinf
        split at hf
        · cases hf
        · rename_i hz
          simp only[Option.some.injEq]at hf
          subst hf
          simp[RunV,execOp,ev_eval hx,Instr.fieldAt,Instr.sureAddr,run_underlying hfs,hfd,fieldPlace,run_sizeOf hinf,hz,Addr.add_mk]
      · cases hf
    · cases hf
  · cases hf
theorem By.of_own {e:TypeId} {v:Value} {l':Ly} (h:w.ownsRow 0 e 1 v l'.length (l'.map b8)):By w v l':=Sl.of_own (e:=e) (base:=0) (by simpa using h)
theorem r_indexArr {x y:Operand} {t e:TypeId} {m b o:Nat} {k:IntKind} {i:Int} (hx:ev n l x=some (.pointer (some ⟨b,o,none⟩))) (hy:ev n l y=some (.int k i)) (hT:P.underlying t=some (.array m e)) (hE:elemIs P e 1=true)
    (hi:0≤i∧i<m):RunV P ⟨d,.indexAddr t x y,ty,ps,af,g⟩ (over A D l).eval w (.pointer (some ⟨b,o+i.toNat,none⟩)):=by
  unfold elemIs at hE
  split at hE
  · rename_i inf hinf
    have B:inf.size=1:=by simpa using hE
    simp[RunV,execOp,ev_eval hx,ev_eval hy,Instr.indexAt,Instr.sureAddr,asIntOf,run_underlying hT,run_sizeOf hinf,hi.1,hi.2,B,Addr.add_mk]
  · cases hE
theorem RunV.castI {o:Oper} {e:Operand→Value} {k:IntKind} {a b:Int} (h:RunV P o e w (.int k a)) (he:a=b):RunV P o e w (.int k b):=he ▸ h
theorem RunV.castB {o:Oper} {e:Operand→Value} {a b:Bool} (h:RunV P o e w (.bool a)) (he:a=b):RunV P o e w (.bool b):=he ▸ h
end
end Go.Wk
namespace Go.Wk
open Go Go.RowKit

section
variable {P:Program} {n:Nat} {A:Fr n} {D:List Deferred} {l:List (Nat × Value)} {w:World} {ops:Array Oper} {rest:List Oper} {Q:Exit→Act→World→Prop}
variable {d:Tmp} {op:Op} {ty:TypeId} {ps:String} {af:Array Edge}

theorem wl_plain {o:Oper} {a:Act} (hg:o.guard=none) (h:o.wp P a w (wpList P ops Q rest) Q):wpList P ops Q (o :: rest) a w:=by
  unfold wpList;rw[if_pos (by simp[Region.wanted,hg])];exact .inl h

theorem wp_of_run {o:Oper} {a:Act} {v:Value} {K:Act→World→Prop} (hr:RunV P o a.eval w v) (h:K (a.put o.dst v) w):o.wp P a w K Q:=by
  unfold Oper.wp;unfold RunV at hr;rw[hr];exact h

/-- An operation that yields a value and leaves the world. -/
theorem st (v:Value) (hr:RunV P ⟨some d,op,ty,ps,af,none⟩ (over A D l).eval w v) (k:wpList P ops Q rest (over A D ((d,v) :: l)) w) :
    wpList P ops Q (⟨some d,op,ty,ps,af,none⟩ :: rest) (over A D l) w:=wl_plain rfl (wp_of_run hr k)

/-! guards -/
theorem yielded_of {j t:Nat} {o:Oper} {b:Bool} (ho:ops[j]? = some o) (ht:o.dst=some t) (h:ev n l (.tmp t)=some (.bool b)):yielded ops (over A D l).tmps j=some b:=by
  have h':=ev_eval (A:=A) (D:=D) h
  have F:(over A D l).tmps.size=n:=over_size
  have E:t<n:=by
    simp only[ev]at h
    cases hb:Nat.ble n t with
    | true=>simp[hb]at h
    | false=>exact Nat.lt_of_not_le fun C=>by rw[Nat.ble_eq_true_of_le C]at hb;cases hb
  simp only[Act.eval,Array.getD,F,E,dite_true]at h'
  have B:(over A D l).tmps[t]? = some (.bool b):=by
    rw[Array.getElem?_eq_getElem (by omega)];exact congrArg some h'
  simp[yielded,ho,ht,B]
/-- A guarded operation that runs. -/
theorem st_g {j t:Nat} {o:Oper} {b want:Bool} (v:Value) (ho:ops[j]? = some o) (ht:o.dst=some t) (hy:ev n l (.tmp t)=some (.bool b)) (hb:b=want)
    (hr:RunV P ⟨some d,op,ty,ps,af,some (j,want)⟩ (over A D l).eval w v) (k:wpList P ops Q rest (over A D ((d,v) :: l)) w) :
    wpList P ops Q (⟨some d,op,ty,ps,af,some (j,want)⟩ :: rest) (over A D l) w:=by
  unfold wpList;rw[if_pos (by simp[Region.wanted,yielded_of ho ht hy,hb])];exact .inl (wp_of_run hr k)
/-- A guarded operation that is passed over. -/
theorem st_skip {j t:Nat} {o:Oper} {b want:Bool} (ho:ops[j]? = some o) (ht:o.dst=some t) (hy:ev n l (.tmp t)=some (.bool b)) (hb:b = !want)
    (k:wpList P ops Q rest (over A D ((d,undef) :: l)) w) :
    wpList P ops Q (⟨some d,op,ty,ps,af,some (j,want)⟩ :: rest) (over A D l) w:=by
  unfold wpList;rw[if_neg (by subst hb;simp[Region.wanted,yielded_of ho ht hy])];exact k
/-- A bool slot, parted. -/
theorem part_n {t:Nat} {b:Bool} (_:ev n l (.tmp t)=some (.bool b)) (h1:b=true→wpList P ops Q rest (over A D l) w) (h0:b=false→wpList P ops Q rest (over A D l) w):wpList P ops Q rest (over A D l) w:=by cases b<;>simp_all
/-! code -/
theorem st_nil {a:Act} (h:Q .normal a w):wpList P ops Q [] a w:=h
theorem c_region {id:Nat} {lo:List Oper} {a:Act} (h:wpList P lo.toArray Q lo a w):(Code.region id lo.toArray false).wp P Q a w:=wp_region_lit h
theorem c_seq {x y:Code} {a:Act} (h:x.wp P (Exit.then (fun a w=>y.wp P Q a w) Q) a w):(Code.seq x y).wp P Q a w:=wp_seq h
theorem c_then {K:Act→World→Prop} {a:Act} (h:K a w):Exit.then K Q .normal a w:=h
theorem c_skip {a:Act} (h:Q .normal a w):Code.skip.wp P Q a w:=wp_skip h
theorem c_ret {a:Act} (h:Q .ret a w):Code.ret.wp P Q a w:=wp_ret h
theorem c_exit {id:Nat} {a:Act} (h:Q (.exit id) a w):(Code.exit id).wp P Q a w:=wp_exit h
theorem c_block {id:Nat} {c:Code} {a:Act} (h:c.wp P (Exit.inBlock id Q) a w):(Code.block id c).wp P Q a w:=wp_block h
theorem x_then {K:Act→World→Prop} {id:Nat} {a:Act} (h:Q (.exit id) a w):Exit.then K Q (.exit id) a w:=h
theorem x_hit {id:Nat} {a:Act} (h:Q .normal a w):Exit.inBlock id Q (.exit id) a w:=by simpa [Exit.inBlock]using h
theorem x_miss {id id':Nat} {a:Act} (hne:Nat.beq id' id=false) (h:Q (.exit id') a w):Exit.inBlock id Q (.exit id') a w:=by
  have:id'≠id:=fun h=>by subst h;simp at hne
  simpa [Exit.inBlock,this]using h
theorem n_block {id:Nat} {a:Act} (h:Q .normal a w):Exit.inBlock id Q .normal a w:=h
theorem r_then {K:Act→World→Prop} {a:Act} (h:Q .ret a w):Exit.then K Q .ret a w:=h
theorem r_block {id:Nat} {a:Act} (h:Q .ret a w):Exit.inBlock id Q .ret a w:=h
theorem c_if {c:Operand} {x y:Code} {b:Bool} (hc:ev n l c=some (.bool b)) (h1:b=true→x.wp P Q (over A D l) w) (h0:b=false→y.wp P Q (over A D l) w) :
    (Code.cond c x y).wp P Q (over A D l) w:=wp_cond_split (ev_eval hc) h1 h0
theorem c_if_t {c:Operand} {x y:Code} {b:Bool} (hc:ev n l c=some (.bool b)) (hb:b=true) (h:x.wp P Q (over A D l) w):(Code.cond c x y).wp P Q (over A D l) w :=
  c_if hc (fun _=>h) (fun h0=>by rw[hb]at h0;cases h0)
theorem c_if_f {c:Operand} {x y:Code} {b:Bool} (hc:ev n l c=some (.bool b)) (hb:b=false) (h:y.wp P Q (over A D l) w):(Code.cond c x y).wp P Q (over A D l) w :=
  c_if hc (fun h0=>by rw[hb]at h0;cases h0) (fun _=>h)

/-- A loop: 'inv x' are the live slots at its head, 'W x' what holds of the world, 'mu x' falls. -/
def LoopNext {X:Type} (n:Nat) (D:List Deferred) (inv:X→List (Nat × Value)) (W:X→World→Prop) (mu:X→Nat) (x:X) (a:Act) (w:World):Prop :=
  ∃(x':X) (B:Fr n),a=over B D (inv x')∧W x' w∧mu x'<mu x
theorem c_loop {X:Type} {c:Code} (inv:X→List (Nat × Value)) (W:X→World→Prop) (mu:X→Nat) (x0:X) (h0:Fits n l (inv x0)) (hw:W x0 w)
    (round:∀(x:X) (B:Fr n) (w':World),W x w'→c.wp P (Exit.then (LoopNext n D inv W mu x) Q) (over B D (inv x)) w') :
    (Code.loop c).wp P Q (over A D l) w:=by
  refine wp_loop_ghost (fun m a w'=>∃(x:X) (B:Fr n),a=over B D (inv x)∧W x w'∧mu x=m) (mu x0) ⟨x0,_,(over_fits (A:=A) (D:=D) h0).symm,hw,rfl⟩ ?_
  rintro m a w' ⟨x,B,rfl,I,rfl⟩
  refine wp_mono (round x B w' I) ?_
  intro e J K h
  cases e with
  | normal=>obtain⟨C,E,F,G,H⟩:=h;exact⟨mu C,H,C,E,F,G,rfl⟩
  | _=>exact h
theorem next {X:Type} {inv:X→List (Nat × Value)} {W:X→World→Prop} {mu:X→Nat} {x:X} (x':X) (hm:mu x'<mu x) (hf:Fits n l (inv x')) (hw:W x' w) :
    LoopNext n D inv W mu x (over A D l) w:=⟨x',_,(over_fits (A:=A) (D:=D) hf).symm,hw,hm⟩
/-! calls -/
def isFn (P:Program) (f:FuncId):Bool :=
  match P.funcs[f]? with
  | some fn => !(fn.name == "runtime.NumGoroutine") && fn.body.isSome
  | none=>false
theorem run_callFunc {f:FuncId} (hf:isFn P f=true) (args:Array Value):(callFunc f args).run P w = .ok (.enter f args) w:=by
  unfold isFn at hf
  split at hf
  · rename_i fn hfn
    simp only[Bool.and_eq_true,Bool.not_eq_true']at hf
    have A : ¬ fn.name = "runtime.NumGoroutine" := by have := hf.1; simpa using this
    have B:¬fn.body=none:=by intro C;rw[C]at hf;simp at hf
    simp[callFunc,hfn,A,B]
  · cases hf
theorem exec_call {f:FuncId} {xs:List Operand} {ts:Array TypeId} {vs:List Value} {d':Option Tmp} {g:Option (Nat × Bool)} (hf:isFn P f=true) (ha:evs n l xs=some vs) :
    (execOp (over A D l).eval ⟨d',.call {callee:=.value (.func f),args:=xs.toArray,argTypes:=ts},ty,ps,af,g⟩).run P w = .ok (.enter f vs.toArray) w:=by
  have B:=evs_eval (A:=A) (D:=D) ha
  simp only[execOp,resolve,Act.eval,Deferred.ofValue,List.map_toArray,B]
  simp[invoke,run_callFunc hf]
theorem st_call {f:FuncId} {xs:List Operand} {ts:Array TypeId} {vs:List Value} {R:Ending→World→Prop} (hf:isFn P f=true) (ha:evs n l xs=some vs) (hc:Calls P f vs.toArray w R)
    (k:∀e w',R e w'→∃v,e = .returned v∧wpList P ops Q rest (over A D ((d,v) :: l)) w') :
    wpList P ops Q (⟨some d,.call {callee:=.value (.func f),args:=xs.toArray,argTypes:=ts},ty,ps,af,none⟩ :: rest) (over A D l) w:=by
  refine wl_plain rfl ?_
  unfold Oper.wp
  rw[exec_call hf ha]
  refine hc.mono fun e w' B=>?_
  obtain⟨v,rfl,hk⟩:=k e w' B
  exact hk
theorem st_call_g {f:FuncId} {xs:List Operand} {ts:Array TypeId} {vs:List Value} {R:Ending→World→Prop} {j t:Nat} {o:Oper} {b want:Bool} (ho:ops[j]? = some o) (ht:o.dst=some t) (hy:ev n l (.tmp t)=some (.bool b)) (hb:b=want)
    (hf:isFn P f=true) (ha:evs n l xs=some vs) (hc:Calls P f vs.toArray w R)
    (k:∀e w',R e w'→∃v,e = .returned v∧wpList P ops Q rest (over A D ((d,v) :: l)) w') :
    wpList P ops Q (⟨some d,.call {callee:=.value (.func f),args:=xs.toArray,argTypes:=ts},ty,ps,af,some (j,want)⟩ :: rest) (over A D l) w:=by
  unfold wpList;rw[if_pos (by simp[Region.wanted,yielded_of ho ht hy,hb])]
  refine .inl ?_
  unfold Oper.wp
  rw[exec_call hf ha]
  refine hc.mono fun e w' B=>?_
  obtain⟨v,rfl,hk⟩:=k e w' B
  exact hk

/-! a function's door -/
def argsAt:Nat→List Value→List (Nat × Value)
  | _,[]=>[]
  | i,v :: r=>(i,v) :: argsAt (i+1) r
theorem over_same {B:Fr n} {l1:List (Nat × Value)} (h:∀p∈l1,B.tmps.getD p.1 undef=p.2):over B D l1=⟨B.tmps,D⟩:=by
  induction l1 with
  | nil=>rfl
  | cons p r ih =>
    simp only[over]
    rw[ih fun q A=>h q (by simp[A])]
    exact put_self _ _ _ (h p (by simp))
theorem mem_argsAt {vs:List Value} {i:Nat} {p:Nat × Value} (h:p∈argsAt i vs):∃j,p.1=i+j∧vs[j]? = some p.2:=by
  induction vs generalizing i with
  | nil=>simp[argsAt]at h
  | cons v r ih =>
    simp only[argsAt,List.mem_cons]at h
    rcases h with rfl|h
    · exact⟨0,rfl,rfl⟩
    · obtain⟨j,B,A⟩:=ih h
      exact⟨j+1,by omega,by simpa using A⟩
theorem enter {f:FuncId} {fn:Func} {c:Code} {vs:List Value} {R:Ending→World→Prop} (hf:P.funcs[f]? = some fn) (hb:fn.body=some c) (hn:fn.ntmps=n) (hle:Nat.ble vs.length n=true)
    (h:∀B:Fr n,c.wp P (bodyPost P fn R) (over B [] (argsAt 0 vs)) w):Calls P f vs.toArray w R:=by
  refine calls_of_wp hf hb ?_
  have hle':vs.length≤n:=lq hle
  have D:(vs.toArray ++ Array.replicate (fn.ntmps-vs.toArray.size) undef).size=n:=by simp[hn];omega
  have:=h ⟨_,D⟩
  rwa [over_same]at this
  intro p H
  obtain⟨j,E,F⟩:=mem_argsAt H
  have G:=(List.getElem?_eq_some_iff.1 F)
  obtain⟨A,C⟩:=G
  simp only[E,Nat.zero_add,Array.getD]
  rw[dif_pos (by simp;omega)]
  show(vs.toArray ++ _)[j]'_=_
  rw[Array.getElem_append_left (by simpa using A)]
  simpa using C

def isEnd:Exit→Prop
  | .ret|.normal=>True
  | _=>False
theorem bp {fn:Func} {R:Ending→World→Prop} {e:Exit} {v:Value} {a:Act} (he:isEnd e) (hd:a.defers=[]) (hr:(results fn a.tmps).run P w = .ok v w) (h:R (.returned v) w):bodyPost P fn R e a w:=by
  cases e <;> simp only[isEnd]at he <;> exact⟨hd,v,hr,h⟩
theorem getD_of {t:Nat} {v:Value} (h:ev n l (.tmp t)=some v):(over A D l).tmps.getD t undef=v:=ev_eval (A:=A) (D:=D) h
theorem ret0 {fn:Func} {R:Ending→World→Prop} {e:Exit} (he:isEnd e) (hr:fn.results = #[]) (h:R (.returned (.tuple #[])) w):bodyPost P fn R e (over A [] l) w :=
  bp he over_defers (results_none hr _ _ _) h
theorem ret1 {fn:Func} {R:Ending→World→Prop} {e:Exit} {t:Nat} {v:Value} (he:isEnd e) (hr:fn.results = #[.tmp t]) (hv:ev n l (.tmp t)=some v) (h:R (.returned v) w):bodyPost P fn R e (over A [] l) w :=
  bp he over_defers (results_tmp hr _ _ _) (by rw[getD_of hv];exact h)
theorem ret2 {fn:Func} {R:Ending→World→Prop} {e:Exit} {t u:Nat} {v v':Value} (he:isEnd e) (hr:fn.results = #[.tmp t,.tmp u]) (hv:ev n l (.tmp t)=some v) (hv':ev n l (.tmp u)=some v')
    (h:R (.returned (.tuple #[v,v'])) w):bodyPost P fn R e (over A [] l) w :=
  bp he over_defers (results_tmp2 hr _ _ _) (by rw[getD_of hv,getD_of hv'];exact h)
theorem run_loadVar_blk {t ty':TypeId} {b:Nat} {cs:List Value} (hT:isAggN P t cs.length=true) (hB:Blk w b cs ty'):(loadVar t ⟨b,0,none⟩).run P w = .ok (.agg cs.toArray) w:=by
  obtain⟨F,E,G,A,B,H⟩:=isAggN_spec hT
  have D:=run_loadCells_list (P:=P) (w:=w) ⟨b,0,none⟩ cs fun j u C=>by rw[Addr.add_mk,Nat.zero_add,hB.cell];exact C
  simp[loadVar,run_isAgg_agg hT,run_sizeOf A,B,D]
/-! memory -/
theorem st_store {x y:Operand} {t ty':TypeId} {b j:Nat} {cs:List Value} {u:Value} (hx:ev n l x=some (.pointer (some ⟨b,j,none⟩))) (hy:ev n l y=some u) (hT:isOne P t=true) (hu:u.oneCell'=true)
    (hB:Blk w b cs ty') (hj:j<cs.length) (k:∀w',Md [b] w w'→Blk w' b (cs.set j u) ty'→wpList P ops Q rest (over A D l) w') :
    wpList P ops Q (⟨none,.store t x y,ty,ps,af,none⟩ :: rest) (over A D l) w:=by
  refine wl_plain rfl ?_
  obtain⟨I,H,J,E,F,K⟩:=isOne_spec hT
  have G:u.cells = #[u]:=by cases u <;> simp_all [Value.cells,Value.oneCell']
  have B:w.cell? ⟨b,j,none⟩=some cs[j]:=by rw[hB.cell];simp[hj]
  have C:(execOp (over A D l).eval ⟨none,.store t x y,ty,ps,af,none⟩).run P w = .ok .skip (w.setCell ⟨b,j,none⟩ u):=by
    simp[execOp,ev_eval hx,ev_eval hy,Instr.storeAt,Instr.sureAddr,storeVar,run_sizeOf E,F,G,storeCells,Addr.add,run_store P w _ u _ hu,B,hB.frozen]
  unfold Oper.wp
  rw[C]
  exact k _ (Md.setCell w ⟨b,j,none⟩ u) (hB.set j u)
/-- Cells us in the place of those from j on. -/
def splice (cs:List Value) (j:Nat) (us:List Value):List Value:=cs.take j ++ us ++ cs.drop (j+us.length)
theorem Blk.setRow {b:Nat} {cs us:List Value} {ty':TypeId} (hB:Blk w b cs ty'):Blk (w.setRow b us.toArray) b us ty':=setRow_heap w b _ _ ty' _ hB
theorem Md.setRow (w:World) (b:Nat) (us:Array Value):Md [b] w (w.setRow b us):=⟨rfl,rfl,rfl,by simp,fun k _ hs=>setRow_other w b k us (by simpa using hs)⟩
theorem st_storeAgg {x y:Operand} {t ty':TypeId} {b j:Nat} {cs us:List Value} (hx:ev n l x=some (.pointer (some ⟨b,j,none⟩))) (hy:ev n l y=some (.agg us.toArray)) (hT:isAggN P t us.length=true)
    (hu:∀u∈us,u.oneCell'=true) (hB:Blk w b cs ty') (hj:j+us.length≤cs.length) (k:∀w',Md [b] w w'→Blk w' b (splice cs j us) ty'→wpList P ops Q rest (over A D l) w') :
    wpList P ops Q (⟨none,.store t x y,ty,ps,af,none⟩ :: rest) (over A D l) w:=by
  refine wl_plain rfl ?_
  obtain⟨H,G,I,E,F,J⟩:=isAggN_spec hT
  have C:=run_storeCells_at P b j ty' us 0 cs.toArray w hB (by simpa using hj) hu
  have B:(execOp (over A D l).eval ⟨none,.store t x y,ty,ps,af,none⟩).run P w = .ok .skip (w.setRow b (splice cs j us).toArray):=by
    simp[execOp,ev_eval hx,ev_eval hy,Instr.storeAt,Instr.sureAddr,storeVar,run_sizeOf E,F,Value.cells,C,splice]
  unfold Oper.wp
  rw[B]
  exact k _ (Md.setRow w b _) hB.setRow
/-- A whole block, written. -/
theorem st_storeAll {x y:Operand} {t ty':TypeId} {b:Nat} {cs us:List Value} (hx:ev n l x=some (.pointer (some ⟨b,0,none⟩))) (hy:ev n l y=some (.agg us.toArray)) (hT:isAggN P t us.length=true)
    (hu:∀u∈us,u.oneCell'=true) (hB:Blk w b cs ty') (hj:us.length=cs.length) (k:∀w',Md [b] w w'→Blk w' b us ty'→wpList P ops Q rest (over A D l) w') :
    wpList P ops Q (⟨none,.store t x y,ty,ps,af,none⟩ :: rest) (over A D l) w :=
  st_storeAgg hx hy hT hu hB (by omega) fun w' hm hb => k w' hm (by have : splice cs 0 us = us := by simp [splice, hj]
                                                                    rwa [this]at hb)
theorem st_alloc {t:TypeId} {cs:List Value} (hz:zcells P t=some cs)
    (k:∀b w',w.heap.size≤b→b<w'.heap.size→Md [] w w'→Blk w' b cs t→wpList P ops Q rest (over A D ((d,.pointer (some ⟨b,0,none⟩)) :: l)) w') :
    wpList P ops Q (⟨some d,.alloc t,ty,ps,af,none⟩ :: rest) (over A D l) w:=by
  refine wl_plain rfl ?_
  unfold zcells at hz
  split at hz
  · rename_i i hi
    split at hz
    · rename_i z hzz
      simp only[Option.some.injEq]at hz
      have B:(execOp (over A D l).eval ⟨some d,.alloc t,ty,ps,af,none⟩).run P w = .ok (.value (.pointer (some ⟨w.heap.size,0,none⟩))) (w.alloc (.cells cs.toArray t)):=by
        subst hz
        simp[execOp,Instr.alloc,zeroValue,typeInfo,hi,hzz,newVar,newRow]
      unfold Oper.wp
      rw[B]
      exact k _ _ (Nat.le_refl _) (by simp) (Md.alloc w _) (Blk.new w cs t)
    · cases hz
  · cases hz
theorem st_box {t:TypeId} {x:Operand} {v:Value} {cs:List Value} (hx:ev n l x=some v) (hv:v.cells=cs.toArray)
    (k:∀b w',w.heap.size≤b→b<w'.heap.size→Md [] w w'→Blk w' b cs t→wpList P ops Q rest (over A D ((d,.pointer (some ⟨b,0,none⟩)) :: l)) w') :
    wpList P ops Q (⟨some d,.box t x,ty,ps,af,none⟩ :: rest) (over A D l) w:=by
  refine wl_plain rfl ?_
  have B:(execOp (over A D l).eval ⟨some d,.box t x,ty,ps,af,none⟩).run P w = .ok (.value (.pointer (some ⟨w.heap.size,0,none⟩))) (w.alloc (.cells cs.toArray t)):=by
    simp[execOp,Instr.box,newVar,newRow,ev_eval hx,hv]
  unfold Oper.wp
  rw[B]
  exact k _ _ (Nat.le_refl _) (by simp) (Md.alloc w _) (Blk.new w cs t)

theorem cells_one {v:Value} (h:v.oneCell'=true):v.cells = #[v]:=by cases v<;>simp_all [Value.cells,Value.oneCell']
theorem Sl.oneCell {v:Value} {l':List Value} (h:Sl w v l'):v.oneCell'=true:=by obtain⟨a,c,rfl,_⟩:=h;rfl

/-! build, of one-cell parts -/
def setsAt (cs:List Value):List (Nat × Value)→List Value
  | []=>cs
  | (i,v) :: r=>setsAt (cs.set i v) r
def OneAll:List Value→Prop
  | []=>True
  | v :: r=>v.oneCell'=true∧OneAll r
/-- A struct or an array of one-cell parts. -/
def zipAt:List (Nat × Nat)→List Value→List (Nat × Value)
  | (_,o) :: r,v :: vs=>(o,v) :: zipAt r vs
  | _,_=>[]
theorem fill_one {place:Nat→Option (Nat × Nat)}:∀(ps:List (Nat × Nat)) (vs:List Value) (cs:List Value),ps.length=vs.length→(∀p∈ps,place p.1=some (p.2,1)∧p.2<cs.length)→OneAll vs →
    Instr.fill place cs.toArray ((ps.map (·.1)).zip vs)=some (setsAt cs (zipAt ps vs)).toArray
  | [],[],cs,_,_,_=>by simp[Instr.fill,zipAt,setsAt]
  | (i,o) :: ps,v :: vs,cs,hl,hp,h1=>by
    have hv:=cells_one h1.1
    obtain⟨h2,h3⟩:=hp (i,o) (by simp)
    have ih:=fill_one (place:=place) ps vs (cs.set o v) (by simpa using hl) (fun p hp'=>by have:=hp p (by simp[hp']);simpa using this) h1.2
    simp only at h2 h3
    have hb:¬(cs.length<o+1):=by omega
    simp only[List.map_cons,List.zip_cons_cons,Instr.fill,h2,hv]
    simp[zipAt,setsAt,ih,hb]
  | [],_ :: _,_,hl,_,_=>by simp at hl
  | _ :: _,[],_,hl,_,_=>by simp at hl
def bplace (P:Program) (t:TypeId):Option (List (Nat × Nat)) :=
  match P.underlying t with
  | some (.array m e)=>match P.info? e with
    | some ie=>some ((List.range m).map fun i=>(i*ie.size,ie.size))
    | none=>none
  | some (.struct fields)=>fields.toList.mapM (fun f=>(P.info? f.type).map fun i=>(f.offset,i.size))
  | _=>none
def psOk (pl:List (Nat × Nat)) (m:Nat):List (Nat × Nat)→Bool
  | []=>true
  | (i,o) :: r=>(match pl[i]? with
    | some (o',s)=>Nat.beq o' o && Nat.beq s 1 && Nat.ble (o+1) m
    | none=>false) && psOk pl m r
theorem psOk_spec {pl:List (Nat × Nat)} {m:Nat}:∀{ps:List (Nat × Nat)},psOk pl m ps=true→∀p∈ps,pl[p.1]? = some (p.2,1)∧p.2<m
  | [],_,p,hp=>by cases hp
  | (i,o) :: r,h,p,hp=>by
    simp only[psOk,Bool.and_eq_true]at h
    rcases List.mem_cons.1 hp with rfl|hp'
    · cases hq:pl[i]? with
      | none=>rw[hq]at h;simp at h
      | some q =>
        obtain⟨o',s⟩:=q
        rw[hq]at h
        simp only[Bool.and_eq_true]at h
        obtain⟨⟨⟨h1,h2⟩,h3⟩,_⟩:=h
        have e1:=Nat.eq_of_beq_eq_true h1
        have e2:=Nat.eq_of_beq_eq_true h2
        subst e1;subst e2
        exact⟨rfl,lq h3⟩
    · exact psOk_spec h.2 p hp'
theorem built_one {t:TypeId} {zs vs:List Value} {pl ps:List (Nat × Nat)} (hz:zcells P t=some zs) (hpl:bplace P t=some pl) (hl:ps.length=vs.length) (hps:psOk pl zs.length ps=true) (h1:OneAll vs) :
    P.built t ((ps.map (·.1)).zip vs)=some (setsAt zs (zipAt ps vs)).toArray:=by
  have F:=psOk_spec hps
  unfold zcells at hz
  cases hi:P.info? t with
  | none=>simp[hi]at hz
  | some it =>
    cases hzz:it.zero with
    | none=>simp[hi,hzz]at hz
    | some z =>
      simp only[hi,hzz,Option.some.injEq]at hz
      have C:z.cells=zs.toArray:=by rw[← hz]
      unfold bplace at hpl
      unfold Program.built
      cases hu:P.underlying t with
      | none=>simp[hu]at hpl
      | some d =>
        cases d <;> try (simp[hu]at hpl;done)
        case array m e =>
          cases hie:P.info? e with
          | none=>simp[hu,hie]at hpl
          | some ie =>
            simp only[hu,hie,Option.some.injEq]at hpl
            simp only[hi,hzz,hie,C]
            refine fill_one ps vs zs hl (fun p B=>?_) h1
            obtain⟨A,D⟩:=F p B
            rw[← hpl,List.getElem?_map]at A
            have G:(List.range m)[p.1]? = some p.1:=by
              cases hq:(List.range m)[p.1]? with
              | none=>rw[hq]at A;simp at A
              | some q=>have:=List.getElem?_eq_some_iff.1 hq;obtain⟨H,E⟩:=this;simp at E;rw[← E]
            rw[G]at A
            simp only[Option.map_some,Option.some.injEq,Prod.mk.injEq]at A
            exact⟨by rw[A.1,A.2],D⟩
        case struct fields =>
          simp only[hu]at hpl
          simp only[hi,hzz,hpl,C]
          refine fill_one ps vs zs hl (fun p B=>?_) h1
          obtain⟨A,D⟩:=F p B
          exact⟨by simpa using A,D⟩
theorem r_build {t:TypeId} {parts:List (Nat × Operand)} {zs vs cs:List Value} {pl ps:List (Nat × Nat)} {d':Option Tmp} {ps':String} {g:Option (Nat × Bool)} (hz:zcells P t=some zs) (hpl:bplace P t=some pl) (hpp:parts.map (·.1)=ps.map (·.1)) (hev:evs n l (parts.map (·.2))=some vs)
    (h1:OneAll vs) (hl:ps.length=vs.length) (hps:psOk pl zs.length ps=true) (hcs:setsAt zs (zipAt ps vs)=cs) :
    RunV P ⟨d',.build t parts.toArray,ty,ps',af,g⟩ (over A D l).eval w (.agg cs.toArray):=by
  have E:=evs_eval (A:=A) (D:=D) hev
  have B:parts.map (fun p=>(p.1,(over A D l).eval p.2))=(ps.map (·.1)).zip vs:=by
    rw[← hpp,← E,List.map_map,List.zip_map']
    rfl
  have C:=built_one hz hpl hl hps h1
  rw[← B]at C
  have F:=run_build (P:=P) w t (parts.map (fun p=>(p.1,(over A D l).eval p.2))).toArray _ (by simpa using C)
  subst hcs
  simp only[RunV,execOp,List.map_toArray]
  show Sem.run P (do pure (Next.value (← Instr.build t (parts.map fun x=>(x.1,(over A D l).eval x.2)).toArray))) w=_
  simp[F]


/-! regions that draw their order: only reads and calls that change nothing of 'w' -/
variable {C:World→Prop} {QQ:Act→Prop}
theorem c_quiet {id:Nat} {lo:List Oper} {a:Act} (C:World→Prop) (hm:P.follows .mixedOrders=true) (hB:Region.lexB .any lo.toArray=true) (hC:C {w with drawn:=w.drawn+1})
    (h:wpQuiet P lo.toArray C (fun a'=>∀w',C w'→Q .normal a' w') lo a):(Code.region id lo.toArray true).wp P Q a w :=
  wp_region_quiet hm hB hC (by simpa using h)
theorem q_plain {o:Oper} {a:Act} (hg:o.guard=none) (h:o.quiet P a C (wpQuiet P ops C QQ rest)):wpQuiet P ops C QQ (o :: rest) a:=by
  unfold wpQuiet;rw[if_pos (by simp[Region.wanted,hg])];exact h
theorem quiet_of_run {o:Oper} {a:Act} {K:Act→Prop} (v:Value) (hr:∀w',C w'→RunV P o a.eval w' v) (h:K (a.put o.dst v)):o.quiet P a C K :=
  ⟨v,fun w' hw=>by have:=hr w' hw;unfold RunV at this;unfold Oper.quietAt;rw[this];exact⟨rfl,rfl⟩,h⟩
theorem q (v:Value) (hr:∀w',C w'→RunV P ⟨some d,op,ty,ps,af,none⟩ (over A D l).eval w' v) (k:wpQuiet P ops C QQ rest (over A D ((d,v) :: l))) :
    wpQuiet P ops C QQ (⟨some d,op,ty,ps,af,none⟩ :: rest) (over A D l):=q_plain rfl (quiet_of_run v hr k)
theorem q_nil {a:Act} (h:QQ a):wpQuiet P ops C QQ [] a:=h

/-! regions that draw their order: reads, then a tail in one order -/
variable {QS:Act→Prop}
theorem s_plain {o:Oper} {a:Act} (hg:o.guard=none) (h:o.still P a w (wpStill P ops w QS rest)):wpStill P ops w QS (o :: rest) a:=by
  unfold wpStill;rw[if_pos (by simp[Region.wanted,hg])];exact h
theorem s (v:Value) (hr:RunV P ⟨some d,op,ty,ps,af,none⟩ (over A D l).eval w v) (k:wpStill P ops w QS rest (over A D ((d,v) :: l))) :
    wpStill P ops w QS (⟨some d,op,ty,ps,af,none⟩ :: rest) (over A D l):=s_plain rfl (by unfold RunV at hr;unfold Oper.still;rw[hr];exact⟨rfl,k⟩)
/-! copy and append -/
def elT (P:Program) (e:TypeId) (sz by':Nat):Bool :=
  match P.info? e with
  | some i=>match i.zero with
    | some z=>Nat.beq i.size sz && Nat.beq i.bytes by' && Nat.beq z.cells.size sz
    | none=>false
  | none=>false
theorem elT_spec {e:TypeId} {sz by':Nat} (h:elT P e sz by'=true):∃i z,P.info? e=some i∧i.zero=some z∧i.size=sz∧i.bytes=by'∧z.cells.size=sz:=by
  unfold elT at h
  split at h
  · rename_i i hi
    split at h
    · rename_i z hz
      simp only[Bool.and_eq_true]at h
      exact⟨i,z,hi,hz,Nat.eq_of_beq_eq_true h.1.1,Nat.eq_of_beq_eq_true h.1.2,Nat.eq_of_beq_eq_true h.2⟩
    · cases h
  · cases h
/-- v is nil and xs empty, or v begins a row of elements of type e, of sz cells each, n in all, of the run's own. -/
def Own (w:World) (e:TypeId) (sz:Nat) (v:Value) (n:Nat) (xs:List Value):Prop:=w.ownsRow 0 e sz v n xs
theorem Own.nil (w:World) (e:TypeId) (sz:Nat):Own w e sz (.slice none 0 0) 0 []:=World.ownsRow_nil w 0 e sz
theorem Own.md {S:List Nat} {w':World} {e:TypeId} {sz m:Nat} {v:Value} {xs:List Value} (h:Own w e sz v m xs) (hm:Md S w w') (hs:∀b,vblock v=some b→b∉S):Own w' e sz v m xs:=by
  refine⟨h.1,?_⟩
  rcases h.2 with F|⟨g,C,D,rfl,E,A,B⟩
  · exact .inl F
  · refine .inr ⟨g,C,D,rfl,E,?_,B⟩
    rw[hm.block g (Array.getElem?_eq_some_iff.1 A).1 (hs g rfl)]
    exact A
theorem Own.md0 {w':World} {e:TypeId} {sz m:Nat} {v:Value} {xs:List Value} (h:Own w e sz v m xs) (hm:Md [] w w'):Own w' e sz v m xs:=h.md hm (by simp)
theorem Own.lt {e:TypeId} {sz m:Nat} {v:Value} {xs:List Value} (h:Own w e sz v m xs):∀b,vblock v=some b→b<w.heap.size:=fun b hb=>(World.ownsRow.lt h b (by cases v<;>simp_all [vblock,Value.ownBlock];rename_i a _ _;cases a<;>simp_all)).2
/-- An own row's block is none of another element type. -/
theorem Own.ne {e ty':TypeId} {sz m b:Nat} {v:Value} {xs cs:List Value} (h:Own w e sz v m xs) (hB:Blk w b cs ty') (hne:Nat.beq e ty'=false):∀b',vblock v=some b'→b'≠b:=by
  rintro b' A rfl
  rcases h.2 with⟨rfl,_⟩|⟨g,B,C,rfl,_,D,_⟩
  · simp[vblock]at A
  · simp[vblock]at A
    subst A
    unfold Blk at hB
    rw[D]at hB
    simp at hB
    rw[hB.2]at hne
    simp at hne
theorem run_append_ex {t ty' e:TypeId} {sz by':Nat} (ht:P.underlying t=some (.slice e)) (hE:elT P e sz by'=true) (hsz:0<sz) {v:Value} {m:Nat} {xs:List Value} (hO:Own w e sz v m xs)
    {a:Option Addr} {k c:Nat} {news:List Value} (hl:news.length=k*sz) (ha:a=none→k=0∧c=0) (hnews:∀p,a=some p→∀j u,news[j]? = some u→w.cell? (p.add j)=some u) (h1:∀u∈news,u.oneCell'=true)
    (h63:m+k≤maxLen) (hbytes:(m+k)*by'≤140737488355328) :
    ∃v' w',(Builtin.append_ #[t,t] ty' #[v,.slice a k c]).run P w = .ok v' w'∧Own w' e sz v' (m+k) (xs ++ news)∧Md (vblock v).toList w w'∧(v' = .slice none 0 0↔v = .slice none 0 0∧k=0) ∧
      (∀b,vblock v'=some b→vblock v=some b∨w.heap.size≤b):=by
  obtain⟨i,z,H,M,Q,F,N⟩:=elT_spec hE
  have K:v.ownBlock=vblock v:=by
    rcases hO.2 with⟨rfl,_⟩|⟨g,C,D,rfl,_⟩ <;> rfl
  cases a with
  | none =>
    obtain⟨rfl,rfl⟩:=ha rfl
    have:news=[]:=List.eq_nil_of_length_eq_zero (by simpa using hl)
    subst this
    exact⟨v,w,run_append_owned_none w 0 t ty' e i sz ht H v m xs hO,by simpa using hO,Md.refl _ _,by simp,fun b F=>.inl F⟩
  | some p =>
    obtain⟨v',w',I,R,S,O⟩:=run_append_own (P:=P) w 0 t ty' e i z sz by' ht H M Q F N hsz v m xs hO p k c news hl (hnews p rfl) h1 h63 hbytes (Nat.zero_le _)
    refine⟨v',w',I,R,by rw[← K];exact Md.grown S,O,?_⟩
    intro b A
    subst Q;subst F
    rcases hO.2 with⟨rfl,rfl⟩|⟨g,C,D,rfl,T,V,W,U,J,L⟩
    · by_cases hk:k=0
      · have:=O.2 ⟨rfl,hk⟩
        rw[this]at A;simp[vblock]at A
      · have X:xs=[]:=List.eq_nil_of_length_eq_zero (by simpa using hO.1)
        simp only[maxLen]at h63
        have B:=run_append_nil (P:=P) w t ty' e i z ht H M p k c news hl (hnews p rfl) (by omega) (by omega) (by have F:=hbytes;simp only[Nat.zero_add]at F;omega)
        rw[I]at B
        simp only[Result.ok.injEq]at B
        rw[B.1]at A;simp[vblock]at A
        exact .inr (by omega)
    · by_cases hroom:m+k≤C
      · have G:m*i.size+news.length≤D.size:=by rw[hl,J,← Nat.add_mul];exact Nat.mul_le_mul_right _ hroom
        have B:=run_append_room (P:=P) w t ty' e i ht H g m C D V p k c news hl (hnews p rfl) h1 hroom G
        rw[I]at B
        simp only[Result.ok.injEq]at B
        rw[B.1]at A;simp[vblock]at A
        exact .inl (by simp[vblock,A])
      · have E:∀j u,xs[j]? = some u→w.cell? ((⟨g,0,none⟩:Addr).add j)=some u:=World.ownsRow.cells hO (g:=g) rfl
        simp only[maxLen]at h63
        have B:=run_append_grow (P:=P) w t ty' e i z ht H M ⟨g,0,none⟩ m C xs hO.1 E p k c news hl (hnews p rfl) (by omega) (by omega) (growslice_fits (by omega) hbytes)
        rw[I]at B
        simp only[Result.ok.injEq]at B
        rw[B.1]at A;simp[vblock]at A
        exact .inr (by omega)
/-- append(x, y...), one-cell elements, x the run's own. -/
theorem st_append {x y:Operand} {t e:TypeId} {by':Nat} {v u:Value} {xs ys:List Value} (ht:P.underlying t=some (.slice e)) (hE:elT P e 1 by'=true) (hx:ev n l x=some v) (hy:ev n l y=some u)
    (hO:Own w e 1 v xs.length xs) (hS:Sl w u ys) (h1:∀u∈ys,u.oneCell'=true) (h63:xs.length+ys.length≤maxLen) (hbytes:(xs.length+ys.length)*by'≤140737488355328)
    (k:∀v' w',Own w' e 1 v' (xs ++ ys).length (xs ++ ys)→Md (vblock v).toList w w'→(v' = .slice none 0 0↔v = .slice none 0 0∧ys.length=0)→(∀b,vblock v'=some b→vblock v=some b∨w.heap.size≤b) →
      wpList P ops Q rest (over A D ((d,v') :: l)) w') :
    wpList P ops Q (⟨some d,.call {callee:=.builtin .append,args:=#[x,y],argTypes:=#[t,t]},ty,ps,af,none⟩ :: rest) (over A D l) w:=by
  refine wl_plain rfl ?_
  obtain⟨a,C,rfl,L,M,F,G⟩:=hS
  obtain⟨v',w',K,H,I,J,E⟩:=run_append_ex (P:=P) (w:=w) (ty':=ty) ht hE (by omega) hO (a:=a) (k:=ys.length) (c:=C) (news:=ys) (by simp) (fun h=>⟨by have:=F h;omega,F h⟩) G h1 h63 hbytes
  have B:(execOp (over A D l).eval ⟨some d,.call {callee:=.builtin .append,args:=#[x,y],argTypes:=#[t,t]},ty,ps,af,none⟩).run P w = .ok (.value v') w':=by
    simp[execOp,resolve,invoke,builtin,ev_eval hx,ev_eval hy,K]
  unfold Oper.wp
  rw[B]
  exact k v' w' (by simpa using H) I J E
/-- copy(x, y), one-cell elements, x in a block. -/
theorem st_copy {x y:Operand} {t t' e ty':TypeId} {g o dLen dCap:Nat} {u:Value} {cs ys:List Value} (ht:P.underlying t=some (.slice e)) (hE:elemIs P e 1=true) (hx:ev n l x=some (.slice (some ⟨g,o,none⟩) dLen dCap)) (hy:ev n l y=some u)
    (hB:Blk w g cs ty') (hS:Sl w u ys) (h1:∀u∈ys,u.oneCell'=true) (hfit:o+min ys.length dLen≤cs.length)
    (k:∀w',Md [g] w w'→Blk w' g (splice cs o (ys.take dLen)) ty'→wpList P ops Q rest (over A D ((d,.int .i64 (min ys.length dLen:Nat)) :: l)) w') :
    wpList P ops Q (⟨some d,.call {callee:=.builtin .copy,args:=#[x,y],argTypes:=#[t,t']},ty,ps,af,none⟩ :: rest) (over A D l) w:=by
  refine wl_plain rfl ?_
  obtain⟨a,F,rfl,N,O,J,K⟩:=hS
  unfold elemIs at hE
  split at hE
  case h_2=>cases hE
  rename_i inf hinf
  have H:inf.size=1:=by simpa using hE
  have B:(ys.take dLen).length=min ys.length dLen:=by simp[Nat.min_comm]
  have C:(execOp (over A D l).eval ⟨some d,.call {callee:=.builtin .copy,args:=#[x,y],argTypes:=#[t,t']},ty,ps,af,none⟩).run P w =
      .ok (.value (.int .i64 (min ys.length dLen:Nat))) (w.setRow g (splice cs o (ys.take dLen)).toArray):=by
    cases a with
    | none =>
      have R:=J rfl
      have I:ys=[]:=List.eq_nil_of_length_eq_zero (by omega)
      subst I
      have G:splice cs o []=cs:=by simp[splice]
      simp only[List.take_nil,G]
      have:w.setRow g cs.toArray=w:=setRow_self w g _ ty' _ hB
      rw[this]
      simp[execOp,resolve,invoke,builtin,ev_eval hx,ev_eval hy,Builtin.copy_,run_underlying ht,Builtin.lenOf,Builtin.firstCells,run_sizeOf hinf,storeCells,goInt]
    | some p =>
      have L:=run_copy_row (P:=P) w t t' ty e g o dLen dCap p ys.length F cs.toArray ty' (ys.take dLen) ht (by simp[hinf,H]) hB B
        (fun j u E=>K p rfl j u (by rw[List.getElem?_take]at E;split at E;exact E;cases E)) (by rw[B];simpa using hfit) (fun u M=>h1 u (List.mem_of_mem_take M))
      simp[execOp,resolve,invoke,builtin,ev_eval hx,ev_eval hy,L,splice,goInt,Nat.min_comm]
  unfold Oper.wp
  rw[C]
  exact k _ (Md.setRow w g _) hB.setRow
theorem fitI {x:Operand} {k:IntKind} {a b:Int} (h:ev n l x=some (.int k a)) (e:a=b):ev n l x=some (.int k b):=by rw[h,e]
theorem retI {k:IntKind} {a b:Int} (e:a=b):Ending.returned (.int k a) = .returned (.int k b):=by rw[e]
theorem retB {a b:Bool} (e:a=b):Ending.returned (.bool a) = .returned (.bool b):=by rw[e]
theorem retV {a b:Value} (e:a=b):Ending.returned a = .returned b:=by rw[e]
theorem By.len63 {v:Value} {l':Ly} (h:By w v l'):l'.length≤9223372036854775807:=by have:=h.len_le;simp only[maxLen]at this;omega
theorem Own.md1 {w':World} {e ty':TypeId} {sz m b:Nat} {v:Value} {xs cs:List Value} (h:Own w e sz v m xs) (hB:Blk w b cs ty') (hne:Nat.beq e ty'=false) (hm:Md [b] w w'):Own w' e sz v m xs :=
  h.md hm fun b' hb'=>by simpa using h.ne hB hne b' hb'
theorem Blk.mdO {w':World} {e ty':TypeId} {sz m b:Nat} {v:Value} {xs cs:List Value} (hB:Blk w b cs ty') (h:Own w e sz v m xs) (hne:Nat.beq e ty'=false) (hm:Md (vblock v).toList w w'):Blk w' b cs ty' :=
  hB.md hm fun hb=>by
    cases hv:vblock v with
    | none=>rw[hv]at hb;simp at hb
    | some b'=>rw[hv]at hb;simp at hb;exact h.ne hB hne b' hv hb.symm
theorem Md.stepO {w1 w':World} {S:List Nat} {v:Value} (M:Md S w1 w) (hm:Md (vblock v).toList w w') (hv:∀b,vblock v=some b→b∈S∨w1.heap.size≤b):Md S w1 w' :=
  M.step hm fun i hi=>by
    cases h:vblock v with
    | none=>rw[h]at hi;simp at hi
    | some b=>rw[h]at hi;simp at hi;subst hi;exact hv i h
theorem one_b8 (l':Ly):∀u∈l'.map b8,u.oneCell'=true:=by intro u A;obtain⟨x,_,rfl⟩:=List.mem_map.1 A;rfl
theorem apart1 {α:Type} {b c:Nat} {o:Nat} {len cap:Nat} {l':List α} (h:b≠c):Apart (.slice (some ⟨b,o,none⟩) len cap) l' [c]:=by intro B A _;simp[vblock]at A;subst A;simpa using h
theorem apartOld {v:Value} {l':Ly} {b:Nat} (h:By w v l') (hb:w.heap.size≤b):Apart v l' [b]:=Apart.of_oldB h (by intro i hi;simp at hi;subst hi;exact hb)
/-- append(x, y...) over bytes, x the run's own. -/
theorem st_appendB {x y:Operand} {t e:TypeId} {v u:Value} {xs ys:Ly} (ht:P.underlying t=some (.slice e)) (hE:elT P e 1 1=true) (hx:ev n l x=some v) (hy:ev n l y=some u)
    (hO:Own w e 1 v xs.length (xs.map b8)) (hS:By w u ys) (hbytes:xs.length+ys.length≤140737488355328)
    (k:∀v' w',Own w' e 1 v' (xs ++ ys).length ((xs ++ ys).map b8)→Md (vblock v).toList w w'→(v' = .slice none 0 0↔v = .slice none 0 0∧ys.length=0)→(∀b,vblock v'=some b→vblock v=some b∨w.heap.size≤b) →
      wpList P ops Q rest (over A D ((d,v') :: l)) w') :
    wpList P ops Q (⟨some d,.call {callee:=.builtin .append,args:=#[x,y],argTypes:=#[t,t]},ty,ps,af,none⟩ :: rest) (over A D l) w :=
  st_append (xs:=xs.map b8) (ys:=ys.map b8) ht hE hx hy (by simpa using hO) hS (one_b8 _) (by simp[maxLen];omega) (by simp;omega) fun v' w' h1 h2 h3 h4=>k v' w' (by simpa using h1) h2 (by simpa using h3) h4
theorem Own.cut0 {e:TypeId} {m:Nat} {v:Value} {xs:List Value} (h:Own w e 1 v m xs):Own w e 1 (subv v 0 0) 0 []:=by
  rcases h.2 with⟨rfl,rfl⟩|⟨g,A,B,rfl,C,E,G,D,F,H⟩
  · exact Own.nil w e 1
  · refine⟨by simp,.inr ⟨g,A,B,?_,C,E,Nat.zero_le _,D,F,by simp⟩⟩
    simp[subv,Addr.add]
theorem vblock_cut0 {v:Value} {b:Nat} (h:vblock (subv v 0 0)=some b):vblock v=some b:=vblock_sub h
/-! slices made here -/
theorem fill_all {place:Nat→Option (Nat × Nat)} {ps:List (Nat × Nat)} {vs cs:List Value} (hl:ps.length=vs.length) (hp:∀p∈ps,place p.1=some (p.2,1)∧p.2<cs.length) (h1:OneAll vs) :
    Instr.fill place cs.toArray ((ps.map (·.1)).zip vs)=some (setsAt cs (zipAt ps vs)).toArray:=fill_one ps vs cs hl hp h1
def idAt:Nat→Nat→List (Nat × Nat)
  | _,0=>[]
  | i,k+1=>(i,i) :: idAt (i+1) k
theorem idAt_len (i k:Nat):(idAt i k).length=k:=by induction k generalizing i with|zero=>rfl|succ k ih=>simp[idAt,ih]
theorem mem_idAt {p:Nat × Nat}:∀{i k:Nat},p∈idAt i k→p.1=p.2∧p.2<i+k
  | _,0,h=>by cases h
  | i,k+1,h=>by
    rcases List.mem_cons.1 h with rfl|h
    · exact⟨rfl,by simp⟩
    · have:=mem_idAt h;omega
theorem sets_id:∀(vs:List Value) (pre cs:List Value),cs.length=vs.length→setsAt (pre ++ cs) (zipAt (idAt pre.length vs.length) vs)=pre ++ vs
  | [],pre,cs,h=>by
    have:cs=[]:=List.eq_nil_of_length_eq_zero (by simpa using h)
    subst this;rfl
  | v :: vs,pre,c :: cs,h=>by
    simp only[List.length_cons,idAt,zipAt,setsAt]
    have e:(pre ++ c :: cs).set pre.length v=(pre ++ [v]) ++ cs:=by simp
    rw[e]
    have:=sets_id vs (pre ++ [v]) cs (by simpa using h)
    simp only[List.length_append,List.length_cons,List.length_nil,Nat.zero_add]at this
    rw[this]
    simp
  | _ :: _,_,[],h=>by simp at h
/-- []T{x, y, ..}, one-cell elements, all given. -/
theorem st_buildSlice {t e:TypeId} {m by':Nat} {parts:List (Nat × Operand)} {vs:List Value} (ht:P.underlying t=some (.slice e)) (hE:elT P e 1 by'=true) (hm:m≤16777216) (hpp:parts.map (·.1)=(idAt 0 m).map (·.1)) (hev:evs n l (parts.map (·.2))=some vs)
    (hlen:vs.length=m) (h1:OneAll vs) (h0:m≠0)
    (k:∀b w',w.heap.size≤b→b<w'.heap.size→Md [] w w'→Blk w' b vs e→wpList P ops Q rest (over A D ((d,.slice (some ⟨b,0,none⟩) m m) :: l)) w') :
    wpList P ops Q (⟨some d,.buildSlice t m parts.toArray,ty,ps,af,none⟩ :: rest) (over A D l) w:=by
  refine wl_plain rfl ?_
  obtain⟨i,z,M,V,U,W,E⟩:=elT_spec hE
  have R:=evs_eval (A:=A) (D:=D) hev
  have G:parts.map (fun p=>(p.1,(over A D l).eval p.2))=((idAt 0 m).map (·.1)).zip vs:=by
    rw[← hpp,← R,List.map_map,List.zip_map']
    rfl
  have C:∀cs:List Value,cs.length=m→Instr.fill (fun i=>some (i*1,1)) cs.toArray (((idAt 0 m).map (·.1)).zip vs)=some vs.toArray:=by
    intro cs O
    have:=fill_all (place:=fun i=>some (i*1,1)) (ps:=idAt 0 m) (vs:=vs) (cs:=cs) (by rw[idAt_len,hlen]) (fun p T=>by have:=mem_idAt T;simp only[Nat.mul_one];exact⟨by rw[this.1],by omega⟩) h1
    have I:=sets_id vs [] cs (by omega)
    simp only[List.nil_append,List.length_nil]at I
    rw[hlen]at I
    rw[this,I]
  have F:(execOp (over A D l).eval ⟨some d,.buildSlice t m parts.toArray,ty,ps,af,none⟩).run P w = .ok (.value (.slice (some ⟨w.heap.size,0,none⟩) m m)) (w.alloc (.cells vs.toArray e)):=by
    have K:∃B,z.cells = #[B]:=by
      cases hzc:z.cells with
      | mk q=>rw[hzc]at E;simp at E;match q,E with|[B],_=>exact⟨B,rfl⟩
    obtain⟨B,L⟩:=K
    have H:(if m=0 then(#[]:Array Value)else #[B]).size≤1:=by split <;> simp
    have S:¬(16777216<m):=by omega
    show Sem.run P (do pure (Next.value (← Instr.buildSlice t m ((parts.toArray).map fun x=>(x.1,(over A D l).eval x.2))))) w=_
    rw[List.map_toArray,G]
    have J:((List.range m).map fun x=>(#[B]:Array Value)[x%1]!).length=m:=by simp
    have:=C _ J
    simp only[Nat.mul_one]at this
    simp only[Instr.buildSlice,Sem.run_bind,run_underlying ht,Result.andThen_ok,run_sizeOf M,U,Nat.mul_one]
    simp[show ¬(16777216<m)by omega,h0,zeroValue,typeInfo,M,V,L,newRow]
    have N:Array.map (fun x=>([B]:List Value)[x%1]?.getD default) (Array.range m)=((List.range m).map fun x=>(#[B]:Array Value)[x%1]!).toArray:=by
      apply Array.ext'
      simp
    rw[N,this]
    simp
  unfold Oper.wp
  rw[F]
  exact k _ _ (Nat.le_refl _) (by simp) (Md.alloc w _) (Blk.new w vs e)
theorem r_eqlPN {x:Operand} {t u e:TypeId} {p:Addr} {g:Option (Nat × Bool)} (hx:ev n l x=some (.pointer (some p))) (hT:P.underlying t=some (.pointer e)) :
    RunV P ⟨some d,.binOp .eql t x (.const (.pointer none)) u,ty,ps,af,g⟩ (over A D l).eval w (.bool false):=by
  have E:P.underlying t=some (.pointer (P.pointee t)):=by
    rw[hT];simp[Program.pointee,hT]
  have h:=run_eql_pointer_nil (P:=P) w t (some p) E
  have B:(over A D l).eval (.const (.pointer none)) = .pointer none:=rfl
  have C:(eqGuard .eql t x (.const (.pointer none)) (.pointer (some p)) (.pointer none)).run P w = .ok () w:=by unfold eqGuard;simp
  simp[RunV,execOp,ev_eval hx,B,C,h]
end
end Go.Wk
namespace Go.Wk
open Go Go.RowKit

section
variable {P:Program} {ops:Array Oper} {md:Region.Mode} {C:World→Prop} {Q:Exit→Act→World→Prop}

def QF:Exit→Act→World→Prop:=fun _ _ _=>False

def opC (P:Program) (ops:Array Oper) (C:World→Prop) (i:Nat) (K:Act→World→Prop) (a:Act) (w:World):Prop :=
  match ops[i]? with
  | none=>K a w
  | some o=>if Region.wanted o (yielded ops a.tmps)then o.wp P a w (fun a' w'=>C w'∧K a' w') QF else K (a.put o.dst undef) w

def wpAnyC (P:Program) (md:Region.Mode) (ops:Array Oper) (C:World→Prop) (Q:Act→World→Prop):Nat→Array Bool→Act→World→Prop
  | 0,listed,a,w=>Region.ready md ops listed=[]∧Q a w
  | f+1,listed,a,w=>(Region.ready md ops listed=[]→Q a w)∧∀i∈Region.ready md ops listed,opC P ops C i (wpAnyC P md ops C Q f (listed.setIfInBounds i true)) a w

theorem wp_out {o:Oper} {a:Act} {w:World} {K K':Act→World→Prop} (h:∀a w,K a w→K' a w) (hh:o.wp P a w K QF):o.wp P a w K' Q:=by
  unfold Oper.wp at *
  generalize (execOp a.eval o).run P w=r at *
  cases r with
  | ok x w' =>
    cases x <;> simp only[Oper.upon]at hh ⊢
    case value v=>exact h _ _ hh
    case skip=>exact h _ _ hh
    case defer d=>exact h _ _ hh
    case enter f args =>
      refine hh.mono fun e B A=>?_
      cases e with
      | returned v=>exact h _ _ A
      | panicked c=>exact A.elim
      | outgrown=>obtain⟨_,_,A⟩:=A;exact A.elim
    case row r args=>exact hh.mono fun v B A=>h _ _ A
  | halt x w' =>
    cases x <;> simp only[Oper.upon]at hh ⊢
    exact hh.elim

theorem wp_mono_K {o:Oper} {a:Act} {w:World} {K K':Act→World→Prop} (h:∀a w,K a w→K' a w) (hh:o.wp P a w K QF):o.wp P a w K' QF:=wp_out (Q:=QF) h hh

theorem wpAny_of_C {QN:Act→World→Prop} (hQ:∀a w,QN a w→Q .normal a w):∀(f:Nat) (listed:Array Bool) (a:Act) (w:World),wpAnyC P md ops C QN f listed a w→wpAny P md ops Q f listed a w
  | 0,_,_,_,h=>⟨h.1,hQ _ _ h.2⟩
  | f+1,listed,a,w,h=>⟨fun h0=>hQ _ _ (h.1 h0),fun i hi=>by
      have h1:=h.2 i hi
      unfold opC at h1
      unfold wpOp
      split
      · rename_i ho;rw[ho]at h1;exact wpAny_of_C hQ f _ a w h1
      · rename_i o ho
        rw[ho]at h1
        simp only at h1
        split
        · rename_i hw;rw[if_pos hw]at h1;exact .inl (wp_out (fun a' w' hx=>wpAny_of_C hQ f _ a' w' hx.2) h1)
        · rename_i hw;rw[if_neg hw]at h1;exact wpAny_of_C hQ f _ _ w h1⟩

/-- A quiet operation: one value in every world of C, the world left as it is; or it is passed over. -/
def Qv (P:Program) (ops:Array Oper) (C:World→Prop) (o:Oper) (v:Value) (a:Act):Prop :=
  (Region.wanted o (yielded ops a.tmps)=true∧∀w,C w→(execOp a.eval o).run P w = .ok (.value v) w)∨(Region.wanted o (yielded ops a.tmps)=false∧v=undef)

theorem Qv.opC {i:Nat} {o:Oper} {v:Value} {a:Act} {w:World} {K:Act→World→Prop} (hi:ops[i]? = some o) (hC:C w) (hy:Qv P ops C o v a) (h:K (a.put o.dst v) w):Wk.opC P ops C i K a w:=by
  unfold Wk.opC
  simp only[hi]
  rcases hy with⟨A,B⟩|⟨A,rfl⟩
  · rw[if_pos A];unfold Oper.wp;rw[B w hC];exact⟨hC,h⟩
  · rw[if_neg (by rw[A];simp)];exact h

theorem Qv.keep {oi:Oper} {v:Value} {a:Act} {d:Option Tmp} {u:Value} (hs:∀cs b,oi.op≠.select cs b) (h:∀d',d=some d'→d'∉oi.looksAt ops) (hy:Qv P ops C oi v a):Qv P ops C oi v (a.put d u):=by
  unfold Qv at *
  rw[execOp_put oi hs a d u h,wanted_put oi a d u h]
  exact hy

theorem opC_put {j:Nat} {oi oj:Oper} {v:Value} {a:Act} {w:World} {K K':Act→World→Prop} (hj:ops[j]? = some oj) (hap:oi.apart ops oj=true) (hsj:∀cs b,oj.op≠.select cs b)
    (hK:∀(b:Act) u w',b.tmps=a.tmps→C w'→K ((b.put oj.dst u).put oi.dst v) w'→K' (b.put oj.dst u) w') (hw:C w)
    (h:opC P ops C j K (a.put oi.dst v) w):opC P ops C j K' a w:=by
  obtain⟨E,D,F⟩:=Oper.apart_spec hap
  unfold opC at *
  simp only[hj]at *
  rw[wanted_put oj a oi.dst v E]at h
  split
  · rename_i hwt
    rw[if_pos hwt]at h
    unfold Oper.wp at *
    rw[execOp_put oj hsj a oi.dst v E]at h
    generalize hr:(execOp a.eval oj).run P w=r at *
    cases r with
    | ok x w' =>
      cases x <;> simp only[Oper.upon]at h ⊢
      case value u=>exact⟨h.1,hK a u w' rfl h.1 (by rw[← Act.put_comm a v u D];exact h.2)⟩
      case skip=>exact⟨h.1,hK a undef w' rfl h.1 (by rw[← Act.put_comm a v undef D];exact h.2)⟩
      case defer d =>
        have e:({a.put oi.dst v with defers:=d :: (a.put oi.dst v).defers}:Act)=({a with defers:=d :: a.defers}:Act).put oi.dst v:=by cases oi.dst <;> rfl
        refine⟨h.1,hK {a with defers:=d :: a.defers} undef w' rfl h.1 ?_⟩
        rw[← Act.put_comm _ v undef D,← e]
        exact h.2
      case enter f args =>
        refine h.mono fun e B A=>?_
        cases e with
        | returned u=>exact⟨A.1,hK a u B rfl A.1 (by rw[← Act.put_comm a v u D];exact A.2)⟩
        | panicked c=>exact A
        | outgrown=>exact A
      case row r args=>exact h.mono fun u B A=>⟨A.1,hK a u B rfl A.1 (by rw[← Act.put_comm a v u D];exact A.2)⟩
    | halt x w' =>
      cases x <;> simp only[Oper.upon]at h ⊢
      exact h
  · rename_i hwt
    rw[if_neg hwt]at h
    exact hK a undef w rfl hw (by rw[← Act.put_comm a v undef D];exact h)

theorem Qv.same {oi:Oper} {v:Value} {a b:Act} (ht:b.tmps=a.tmps) (hy:Qv P ops C oi v a):Qv P ops C oi v b:=by
  have B:b.eval=a.eval:=by funext x;cases x <;> simp[Act.eval,ht]
  unfold Qv at *
  rw[B,ht]
  exact hy

/-- A quiet operation that may come up now may be taken first. -/
theorem wpAnyC_first {QN:Act→World→Prop} {i:Nat} {oi:Oper} {v:Value} (hi:ops[i]? = some oi) (hsel:∀(j:Nat) (o:Oper) cs b,ops[j]? = some o→o.op≠.select cs b) :
    ∀(f:Nat) (listed:Array Bool) (a:Act) (w:World),
      (∀j oj,ops[j]? = some oj→j≠i→listed.getD j true=false→(∀e∈oj.after,Region.binds md e=true→e.on≠i)→oi.apart ops oj=true) →
      i∈Region.ready md ops listed→C w→Qv P ops C oi v a →
      wpAnyC P md ops C QN f (listed.setIfInBounds i true) (a.put oi.dst v) w→wpAnyC P md ops C QN (f+1) listed a w:=by
  intro f
  induction f with
  | zero =>
    intro listed a w _ E M O H
    refine⟨fun h=>(by rw[h]at E;cases E),fun j N=>?_⟩
    by_cases hji:j=i
    · subst hji;exact O.opC hi M H
    · have:=ready_mono N hji
      rw[H.1]at this
      cases this
  | succ f ih =>
    intro listed a w A E M O H
    refine⟨fun h=>(by rw[h]at E;cases E),fun j N=>?_⟩
    by_cases hji:j=i
    · subst hji;exact O.opC hi M H
    · have X:=H.2 j (ready_mono N hji)
      obtain⟨B,oj,D,G⟩:=mem_ready.1 N
      have J:∀e∈oj.after,Region.binds md e=true→e.on≠i:=fun e c S T=>by
        have F:=G e c S
        have W:=(mem_ready.1 E).1
        rw[T]at F
        rcases Nat.lt_or_ge i listed.size with Q|Q
        · simp[Q]at W F;rw[W]at F;cases F
        · simp[Array.getElem?_eq_none Q]at F
      have I:=A j oj D hji B J
      obtain⟨_,_,Y⟩:=Oper.apart_spec I
      have hfree':∀k L,ops[k]? = some L→k≠i→(listed.setIfInBounds j true).getD k true=false →
          (∀e∈L.after,Region.binds md e=true→e.on≠i)→oi.apart ops L=true:=fun k L hk U K V=>by
        refine A k L hk U ?_ V
        by_cases hjk:j=k
        · subst hjk;exact B
        · rw[getD_set_ne true hjk]at K;exact K
      refine opC_put D I (fun cs b=>hsel j oj cs b D) (fun b u d S R Z=>?_) M X
      refine ih (listed.setIfInBounds j true) _ d hfree' (ready_mono E (Ne.symm hji)) R ((O.same S).keep (fun cs b=>hsel i oi cs b hi) Y) ?_
      rw[Array.setIfInBounds_comm _ _ hji]
      exact Z

/-! the walk in a chosen order: (true, o): quiet; (false, o): in its turn -/
def ordOps (l:List Oper):List (Nat × Bool)→List (Bool × Oper)
  | []=>[]
  | (i,q) :: r=>match l[i]? with
    | some o=>(q,o) :: ordOps l r
    | none=>ordOps l r
/-- C: the worlds that a quiet operation may meet; behind an operation in its turn it may be taken narrower. -/
def wpMix (P:Program) (ops:Array Oper) (C:World→Prop) (QN:Act→World→Prop):List (Bool × Oper)→Act→World→Prop
  | [],a,w=>QN a w
  | (true,o) :: r,a,w=>if Region.wanted o (yielded ops a.tmps)then ∃v,(∀w',C w'→(execOp a.eval o).run P w' = .ok (.value v) w')∧wpMix P ops C QN r (a.put o.dst v) w else wpMix P ops C QN r (a.put o.dst undef) w
  | (false,o) :: r,a,w=>if Region.wanted o (yielded ops a.tmps)then o.wp P a w (fun a' w'=>C w'∧∃C':World→Prop,C' w'∧(∀x,C' x→C x)∧wpMix P ops C' QN r a' w') QF else wpMix P ops C QN r (a.put o.dst undef) w
theorem wpAnyC_mono {C':World→Prop} {QN:Act→World→Prop} (hC:∀x,C' x→C x):∀(f:Nat) (listed:Array Bool) (a:Act) (w:World),wpAnyC P md ops C' QN f listed a w→wpAnyC P md ops C QN f listed a w
  | 0,_,_,_,h=>h
  | f+1,listed,a,w,h=>⟨h.1,fun i hi=>by
      have h1:=h.2 i hi
      unfold opC at *
      split
      · rename_i ho;rw[ho]at h1;exact wpAnyC_mono hC f _ a w h1
      · rename_i o ho
        rw[ho]at h1
        simp only at h1
        split
        · rename_i hw;rw[if_pos hw]at h1;exact wp_mono_K (fun a' w' hx=>⟨hC _ hx.1,wpAnyC_mono hC f _ a' w' hx.2⟩) h1
        · rename_i hw;rw[if_neg hw]at h1;exact wpAnyC_mono hC f _ _ w h1⟩
def mixB (md:Region.Mode) (ops:Array Oper):List (Nat × Bool)→Array Bool→Bool
  | [],listed=>(Region.ready md ops listed).isEmpty
  | (i,q) :: r,listed=>(ops[i]?).isSome && (if q then(Region.ready md ops listed).contains i && Region.free md ops listed i else decide (Region.ready md ops listed=[i])) && mixB md ops r (listed.setIfInBounds i true)

theorem wpAnyC_of_mix {QN:Act→World→Prop} (hs:Region.noSelect ops=true):∀{C:World→Prop} (ord:List (Nat × Bool)) (listed:Array Bool) (a:Act) (w:World),C w→mixB md ops ord listed=true →
    wpMix P ops C QN (ordOps ops.toList ord) a w→wpAnyC P md ops C QN ord.length listed a w
  | _,[],listed,a,w,_,hB,h=>⟨by simpa [mixB]using hB,h⟩
  | _,(i,q) :: r,listed,a,w,hC,hB,h=>by
    simp only[mixB,Bool.and_eq_true]at hB
    obtain⟨⟨h0,h1⟩,h2⟩:=hB
    obtain⟨o,ho⟩:=Option.isSome_iff_exists.1 h0
    have hol:ops.toList[i]? = some o:=by simpa using ho
    simp only[ordOps,hol]at h
    cases q with
    | true =>
      simp only[if_true,Bool.and_eq_true]at h1
      simp only[wpMix]at h
      have E:i∈Region.ready md ops listed:=by simpa using h1.1
      split at h
      · rename_i hw
        obtain⟨v,J,hk⟩:=h
        exact wpAnyC_first ho (Region.noSelect_spec hs) r.length listed a w (Region.free_spec ho h1.2) E hC (.inl ⟨hw,J⟩) (wpAnyC_of_mix hs r _ _ _ hC h2 hk)
      · rename_i hw
        exact wpAnyC_first ho (Region.noSelect_spec hs) r.length listed a w (Region.free_spec ho h1.2) E hC (.inr ⟨by simpa using hw,rfl⟩) (wpAnyC_of_mix hs r _ _ _ hC h2 h)
    | false =>
      simp only[Bool.false_eq_true,if_false,decide_eq_true_eq]at h1
      simp only[wpMix]at h
      refine⟨fun B=>(by rw[h1]at B;cases B),fun j D=>?_⟩
      rw[h1]at D
      have A:j=i:=by simpa using D
      subst A
      unfold opC
      simp only[ho]
      split at h
      · rename_i hw
        rw[if_pos hw]
        exact wp_mono_K (fun L M F=>⟨F.1,by obtain⟨K,G,H,I⟩:=F.2;exact wpAnyC_mono H _ _ _ _ (wpAnyC_of_mix hs r _ _ _ G h2 I)⟩) h
      · rename_i hw
        rw[if_neg hw]
        exact wpAnyC_of_mix hs r _ _ _ hC h2 h

def mixOk (md:Region.Mode) (ops:Array Oper) (ord:List (Nat × Bool)):Bool:=Region.noSelect ops && decide (ord.length=ops.size) && mixB md ops ord (Array.replicate ops.size false)
theorem c_mix {id:Nat} {lo:List Oper} {a:Act} {w:World} (ord:List (Nat × Bool)) (C:World→Prop) (hm:P.follows .mixedOrders=true) (hB:mixOk .any lo.toArray ord=true)
    (h:∀w',Md [] w w'→C w'∧wpMix P lo.toArray C (fun a w=>Q .normal a w) (ordOps lo ord) a w'):(Code.region id lo.toArray true).wp P Q a w:=by
  simp only[mixOk,Bool.and_eq_true,decide_eq_true_eq]at hB
  obtain⟨⟨A,B⟩,D⟩:=hB
  obtain⟨E,hk⟩:=h _ (Md.drew w)
  refine wp_region_any hm (wpAny_of_C (C:=C) (QN:=fun a w=>Q .normal a w) (fun _ _ F=>F) _ _ _ _ ?_)
  have:=wpAnyC_of_mix (md:=.any) (C:=C) (QN:=fun a w=>Q .normal a w) A ord _ a _ E D hk
  rwa [B]at this

variable {n:Nat} {A:Fr n} {D:List Deferred} {l:List (Nat × Value)} {w:World} {QN:Act→World→Prop} {rest:List (Bool × Oper)}
variable {d:Tmp} {op:Op} {ty:TypeId} {ps:String} {af:Array Edge}
theorem m (v:Value) (hr:∀w',C w'→RunV P ⟨some d,op,ty,ps,af,none⟩ (over A D l).eval w' v) (k:wpMix P ops C QN rest (over A D ((d,v) :: l)) w) :
    wpMix P ops C QN ((true,⟨some d,op,ty,ps,af,none⟩) :: rest) (over A D l) w:=by
  unfold wpMix;rw[if_pos (by simp[Region.wanted])];exact⟨v,hr,k⟩
theorem m_g {j t:Nat} {o:Oper} {b want:Bool} (v:Value) (ho:ops[j]? = some o) (ht:o.dst=some t) (hy:ev n l (.tmp t)=some (.bool b)) (hb:b=want)
    (hr:∀w',C w'→RunV P ⟨some d,op,ty,ps,af,some (j,want)⟩ (over A D l).eval w' v) (k:wpMix P ops C QN rest (over A D ((d,v) :: l)) w) :
    wpMix P ops C QN ((true,⟨some d,op,ty,ps,af,some (j,want)⟩) :: rest) (over A D l) w:=by
  unfold wpMix;rw[if_pos (by simp[Region.wanted,yielded_of ho ht hy,hb])];exact⟨v,hr,k⟩
theorem m_skip {q:Bool} {j t:Nat} {o:Oper} {b want:Bool} (ho:ops[j]? = some o) (ht:o.dst=some t) (hy:ev n l (.tmp t)=some (.bool b)) (hb:b = !want)
    (k:wpMix P ops C QN rest (over A D ((d,undef) :: l)) w) :
    wpMix P ops C QN ((q,⟨some d,op,ty,ps,af,some (j,want)⟩) :: rest) (over A D l) w:=by
  cases q <;> unfold wpMix <;> rw[if_neg (by subst hb;simp[Region.wanted,yielded_of ho ht hy])] <;> exact k
theorem part_m {t:Nat} {b:Bool} {ol:List (Bool × Oper)} (_:ev n l (.tmp t)=some (.bool b)) (h1:b=true→wpMix P ops C QN ol (over A D l) w) (h0:b=false→wpMix P ops C QN ol (over A D l) w):wpMix P ops C QN ol (over A D l) w:=by cases b<;>simp_all
theorem m_nil {a:Act} (h:QN a w):wpMix P ops C QN [] a w:=h
/-- An operation in its turn: by its step over a list of it alone. -/
theorem m_c {o:Oper} {a:Act} (h:wpList P ops (fun e a' w'=>e = .normal∧C w'∧∃C':World→Prop,C' w'∧(∀x,C' x→C x)∧wpMix P ops C' QN rest a' w') [o] a w) (hw:Region.wanted o (yielded ops a.tmps)=true):wpMix P ops C QN ((false,o) :: rest) a w:=by
  unfold wpMix;rw[if_pos hw]
  unfold wpList at h
  rw[if_pos hw]at h
  rcases h with h|h
  · unfold Oper.wp at *
    generalize (execOp a.eval o).run P w=r at *
    cases r with
    | ok x w' =>
      cases x <;> simp only[Oper.upon]at h ⊢
      case value v=>exact(show _∧_ from h).2
      case skip=>exact(show _∧_ from h).2
      case defer d=>exact(show _∧_ from h).2
      case enter f args =>
        refine h.mono fun e B A=>?_
        cases e with
        | returned v=>exact(show _∧_ from A).2
        | panicked c=>exact absurd A.1 (by simp)
        | outgrown=>obtain⟨_,_,A⟩:=A;exact absurd A.1 (by simp)
      case row r args=>exact h.mono fun v B A=>(show _∧_ from A).2
    | halt x w' =>
      cases x <;> simp only[Oper.upon]at h ⊢
      exact absurd h.1 (by simp)
  · obtain⟨_,_,_,A⟩:=h;exact absurd A.1 (by simp)
theorem keepC {Q1 Q2:Exit→Act→World→Prop} (hq:∀e a w,Q1 e a w→Q2 e a w) {a:Act} {o:Oper} (h:wpList P ops Q1 [o] a w):wpList P ops Q2 [o] a w:=by
  unfold wpList at *
  split
  · rename_i hw
    rw[if_pos hw]at h
    rcases h with h|h
    · refine .inl ?_
      unfold Oper.wp at *
      generalize (execOp a.eval o).run P w=r at *
      cases r with
      | ok x w' =>
        cases x <;> simp only[Oper.upon]at h ⊢
        case value v=>exact hq _ _ _ h
        case skip=>exact hq _ _ _ h
        case defer d=>exact hq _ _ _ h
        case enter f args =>
          refine h.mono fun e B A=>?_
          cases e with
          | returned v=>exact hq _ _ _ A
          | panicked c=>exact hq _ _ _ A
          | outgrown=>obtain⟨C,D,A⟩:=A;exact⟨C,D,hq _ _ _ A⟩
        case row r args=>exact h.mono fun v B A=>hq _ _ _ A
      | halt x w' =>
        cases x <;> simp only[Oper.upon]at h ⊢
        exact hq _ _ _ h
    · obtain⟨C,D,E,A⟩:=h;exact .inr ⟨C,D,E,hq _ _ _ A⟩
  · rename_i hw
    rw[if_neg hw]at h
    exact hq _ _ _ h
theorem m_e {o:Oper} {a:Act} (h:wpList P ops (fun e a' w'=>e = .normal∧C w'∧wpMix P ops C QN rest a' w') [o] a w) (hw:Region.wanted o (yielded ops a.tmps)=true):wpMix P ops C QN ((false,o) :: rest) a w :=
  m_c (keepC (fun _ _ _ hx=>⟨hx.1,hx.2.1,C,hx.2.1,fun _ h=>h,hx.2.2⟩) h) hw
theorem m_e_g {j t:Nat} {o o':Oper} {b want:Bool} (ho:ops[j]? = some o') (ht:o'.dst=some t) (hy:ev n l (.tmp t)=some (.bool b)) (hb:b=want) (hg:o.guard=some (j,want))
    (h:wpList P ops (fun e a' w'=>e = .normal∧C w'∧wpMix P ops C QN rest a' w') [o] (over A D l) w):wpMix P ops C QN ((false,o) :: rest) (over A D l) w :=
  m_e h (by simp[Region.wanted,hg,yielded_of ho ht hy,hb])
end
end Go.Wk
namespace Go.Wk
open Go Go.RowKit

/-- A string by its bytes. -/
def str (s:Ly):Value:=.string ⟨s.toArray⟩

section
variable {P:Program} {n:Nat} {A:Fr n} {D:List Deferred} {l:List (Nat × Value)} {w:World}
variable {d:Option Tmp} {ty:TypeId} {ps:String} {af:Array Edge} {g:Option (Nat × Bool)}

theorem r_lenS {x:Operand} {s:Ly} {t:TypeId} (hx:ev n l x=some (str s)) (hT:P.underlying t=some .string) :
    RunV P ⟨d,.call {callee:=.builtin .len,args:=#[x],argTypes:=#[t]},ty,ps,af,g⟩ (over A D l).eval w (.int .i64 s.length):=by
  have B:(⟨s.toArray⟩:ByteArray).size=s.length:=by simp[ByteArray.size]
  simp[RunV,execOp,ev_eval hx,resolve,invoke,builtin,Builtin.len_,run_underlying hT,goInt,str,B]
theorem r_idxS {x y:Operand} {s:Ly} {t:TypeId} {k:IntKind} {i:Int} (hx:ev n l x=some (str s)) (hy:ev n l y=some (.int k i)) (hT:P.underlying t=some .string) (hi:0≤i∧i<s.length) :
    RunV P ⟨d,.index t x y,ty,ps,af,g⟩ (over A D l).eval w (b8 (s.getD i.toNat 0)):=by
  have h:=run_index_string (P:=P) w t ⟨s.toArray⟩ k i hT
  have B:(⟨s.toArray⟩:ByteArray).size=s.length:=by simp[ByteArray.size]
  rw[dif_pos (by rw[B];exact hi)]at h
  have C:((⟨s.toArray⟩:ByteArray)[i.toNat]'(by rw[B];omega))=s.getD i.toNat 0:=by
    show s.toArray[i.toNat]'_=_
    have:i.toNat<s.length:=by omega
    simp[List.getD,this]
  rw[C]at h
  simp[RunV,execOp,ev_eval hx,ev_eval hy,str,b8,h]
theorem r_idxSN {x y:Operand} {s:Ly} {t:TypeId} {k:IntKind} {i:Nat} (hx:ev n l x=some (str s)) (hy:ev n l y=some (.int k (i:Int))) (hT:P.underlying t=some .string) (hi:i<s.length) :
    RunV P ⟨d,.index t x y,ty,ps,af,g⟩ (over A D l).eval w (b8 (s.getD i 0)):=by
  have:=r_idxS (P:=P) (A:=A) (D:=D) (w:=w) (d:=d) (ty:=ty) (ps:=ps) (af:=af) (g:=g) hx hy hT (by omega)
  simpa using this
theorem r_strop {op:BinOp} {x y:Operand} {t u:TypeId} {a b:Ly} {r:Value} (hx:ev n l x=some (str a)) (hy:ev n l y=some (str b)) (hop:∀v,(eqGuard op t x y (str a) v).run P w = .ok () w)
    (hr:(binOp op t (str a) (str b)).run P w = .ok r w):RunV P ⟨d,.binOp op t x y u,ty,ps,af,g⟩ (over A D l).eval w r:=by
  simp[RunV,execOp,ev_eval hx,ev_eval hy,hop,hr]
theorem str_guard (op:BinOp) (t:TypeId) (x y:Operand) (a:Ly) (v:Value):(eqGuard op t x y (str a) v).run P w = .ok () w:=by unfold eqGuard str;cases op<;>simp
theorem str_beq (a b:Ly):((⟨a.toArray⟩:ByteArray).toList == (⟨b.toArray⟩:ByteArray).toList)=decide (a=b):=by
  rw[ByteArray.toList_eq,ByteArray.toList_eq]
  rw[Bool.eq_iff_iff];simp
theorem r_addS {x y:Operand} {t u:TypeId} {a b:Ly} (hx:ev n l x=some (str a)) (hy:ev n l y=some (str b)) (hl:a.length+b.length≤9223372036854775807) :
    RunV P ⟨d,.binOp .add t x y u,ty,ps,af,g⟩ (over A D l).eval w (str (a ++ b)):=by
  refine r_strop hx hy (str_guard _ _ _ _ _) ?_
  have h:=run_string_add_sum (P:=P) (w:=w) ⟨a.toArray⟩ ⟨b.toArray⟩ (by simpa [ByteArray.size]using hl)
  simp only[binOp,str]
  rw[h]
  congr 2
theorem r_eqlS {x y:Operand} {t u:TypeId} {a b:Ly} (hx:ev n l x=some (str a)) (hy:ev n l y=some (str b)) :
    RunV P ⟨d,.binOp .eql t x y u,ty,ps,af,g⟩ (over A D l).eval w (.bool (decide (a=b))) :=
  r_strop hx hy (str_guard _ _ _ _ _) (by simp only[binOp,str,Op.stringOp,str_beq,Sem.run_pure])
theorem r_neqS {x y:Operand} {t u:TypeId} {a b:Ly} (hx:ev n l x=some (str a)) (hy:ev n l y=some (str b)) :
    RunV P ⟨d,.binOp .neq t x y u,ty,ps,af,g⟩ (over A D l).eval w (.bool (!decide (a=b))) :=
  r_strop hx hy (str_guard _ _ _ _ _) (by simp only[binOp,str,Op.stringOp,str_beq,Sem.run_pure])
theorem r_lssS {x y:Operand} {t u:TypeId} {a b:Ly} (hx:ev n l x=some (str a)) (hy:ev n l y=some (str b)) :
    RunV P ⟨d,.binOp .lss t x y u,ty,ps,af,g⟩ (over A D l).eval w (.bool (Op.bytesLess a b)) :=
  r_strop hx hy (str_guard _ _ _ _ _) (by simp only[binOp,str,Op.stringOp,Sem.run_pure,ByteArray.toList_eq])
theorem r_gtrS {x y:Operand} {t u:TypeId} {a b:Ly} (hx:ev n l x=some (str a)) (hy:ev n l y=some (str b)) :
    RunV P ⟨d,.binOp .gtr t x y u,ty,ps,af,g⟩ (over A D l).eval w (.bool (!(Op.bytesLess a b || decide (a=b)))) :=
  r_strop hx hy (str_guard _ _ _ _ _) (by simp only[binOp,str,Op.stringOp,Sem.run_pure];rw[str_beq];simp only[ByteArray.toList_eq])
/-- string(b) -/
theorem r_convBS {x:Operand} {v:Value} {s:Ly} {src dst e:TypeId} (hs:P.underlying src=some (.slice e)) (he:P.underlying e=some (.int .u8)) (hd:P.underlying dst=some .string) (hx:ev n l x=some v) (hB:By w v s) :
    RunV P ⟨d,.convert src dst x,ty,ps,af,g⟩ (over A D l).eval w (str s):=by
  obtain⟨a,B,rfl,J,K,F,G⟩:=hB
  have E:(convert src dst (.slice a (s.map b8).length B)).run P w = .ok (str s) w:=by
    cases a with
    | none =>
      have L:=F rfl
      have I:(s.map b8).length=0:=by omega
      have C:s=[]:=by simpa using I
      subst C
      have:=run_convert_bytes_string (P:=P) w src dst e none 0 B hs he hd
      simp only[List.map_nil,List.length_nil]
      rw[this]
      rfl
    | some p =>
      have:=run_convert_bytes_back (P:=P) w src dst e p B s hs he hd (fun j H=>G p rfl j _ (by simp[b8,H]))
      simpa [str]using this
  simp only[List.length_map]at E hx
  simp[RunV,execOp,ev_eval hx,E]
theorem freeze_cell (w:World) (a:Addr) (k:Nat) (p:Addr):(w.freeze a k).cell? p=w.cell? p:=by
  unfold World.freeze
  split
  · rfl
  · unfold World.cell?
    simp only[Array.getElem?_modify]
    by_cases h:a.block=p.block
    · rw[if_pos h]
      cases w.heap[p.block]? with
      | none=>rfl
      | some o=>cases o <;> rfl
    · rw[if_neg h]
theorem Md.freeze (w:World) (a:Addr) (k:Nat):Md [a.block] w (w.freeze a k):=by
  unfold World.freeze
  split
  · exact⟨rfl,rfl,rfl,Nat.le_refl _,fun _ _ _=>rfl⟩
  · refine⟨rfl,rfl,rfl,by simp,fun j _ A=>?_⟩
    simp only[Array.getElem?_modify]
    rw[if_neg (by rintro rfl;simp at A)]
/-- The conversion of a constant's row to its own type. -/
theorem st_mark {ops:Array Oper} {Q:Exit→Act→World→Prop} {rest:List Oper} {d:Tmp} {x:Operand} {s:Ly} {t e:TypeId} {b m c:Nat} {ty':TypeId} (ht:P.underlying t=some (.slice e)) (he:P.underlying e=some (.int .u8))
    (hx:ev n l x=some (.slice (some ⟨b,0,none⟩) m c)) (hB:Blk w b (s.map b8) ty') (hY:By w (.slice (some ⟨b,0,none⟩) m c) s)
    (k:∀w',Md [b] w w'→By w' (.slice (some ⟨b,0,none⟩) m c) s→wpList P ops Q rest (over A D ((d,.slice (some ⟨b,0,none⟩) m c) :: l)) w') :
    wpList P ops Q (⟨some d,.convert t t x,ty,ps,af,none⟩ :: rest) (over A D l) w:=by
  refine wl_plain rfl ?_
  have E:w.shape? b=some (ty',(s.map b8).toArray.size):=by
    unfold Blk at hB
    simp[World.shape?,hB]
  have B:(execOp (over A D l).eval ⟨some d,.convert t t x,ty,ps,af,none⟩).run P w = .ok (.value (.slice (some ⟨b,0,none⟩) m c)) (w.freeze ⟨b,(s.map b8).toArray.size,none⟩ 1):=by
    simp[execOp,ev_eval hx,convert,run_underlying ht,run_underlying he,markStringish,E]
  unfold Oper.wp
  rw[B]
  refine k _ (Md.freeze w ⟨b,_,none⟩ _) ?_
  obtain⟨a,C,F,G,H,I,J⟩:=hY
  exact⟨a,C,F,G,H,I,fun p L j u K=>by rw[freeze_cell];exact J p L j u K⟩
/-- []byte(s) -/
theorem st_convSB {ops:Array Oper} {Q:Exit→Act→World→Prop} {rest:List Oper} {d:Tmp} {x:Operand} {s:Ly} {src dst e:TypeId} (hs:P.underlying src=some .string) (hd:P.underlying dst=some (.slice e)) (he:P.underlying e=some (.int .u8))
    (hx:ev n l x=some (str s)) (hl:s.length≤maxLen)
    (k:∀v w',Md [] w w'→By w' v s→(∀b,vblock v=some b→w.heap.size≤b∧b<w'.heap.size)→wpList P ops Q rest (over A D ((d,v) :: l)) w') :
    wpList P ops Q (⟨some d,.convert src dst x,ty,ps,af,none⟩ :: rest) (over A D l) w:=by
  refine wl_plain rfl ?_
  have I:=run_bytes_of_string (P:=P) w src dst e ⟨s.toArray⟩ hs hd he
  have F:(⟨s.toArray⟩:ByteArray).size=s.length:=by simp[ByteArray.size]
  have C:(execOp (over A D l).eval ⟨some d,.convert src dst x,ty,ps,af,none⟩).run P w = .ok (.value (.slice (some ⟨w.heap.size,0,none⟩) s.length (grownCap w s.length 0 e)))
      (w.drew.alloc (.cells (bytesRow ⟨s.toArray⟩ (grownCap w s.length 0 e)) e ((bytesRow ⟨s.toArray⟩ (grownCap w s.length 0 e)).size,(bytesRow ⟨s.toArray⟩ (grownCap w s.length 0 e)).size+1))):=by
    rw[F]at I
    simp[execOp,ev_eval hx,str,I]
  unfold Oper.wp
  rw[C]
  refine k _ _ ⟨rfl,rfl,rfl,by simp,fun _ hk _=>heap_alloc_old _ _ hk⟩ ?_ ?_
  · refine⟨_,_,by simp;exact⟨rfl,rfl⟩,?_,?_,by simp,?_⟩
    · simpa using grownCap_ge w s.length 0 e
    · exact grownCap_le_maxLen w _ _ _ hl
    · intro p H j u E
      simp at H;subst H
      have B:j<s.length:=by have:=(List.getElem?_eq_some_iff.1 E).1;simpa using this
      have K:=World.cell?_alloc_mark w.drew (bytesRow ⟨s.toArray⟩ (grownCap w s.length 0 e)) e ((bytesRow ⟨s.toArray⟩ (grownCap w s.length 0 e)).size,(bytesRow ⟨s.toArray⟩ (grownCap w s.length 0 e)).size+1) j
      have J:(⟨w.heap.size,0,none⟩:Addr).add j=⟨w.heap.size,j,none⟩:=by unfold Addr.add;split <;> simp_all
      rw[J]
      refine K.trans ?_
      simp[B,b8]at E
      simp[bytesRow,Array.getElem?_append,B,E]
  · intro b G
    simp[vblock]at G
    subst G
    simp

/-! pairs of strings -/
def pairT (P:Program) (t f:TypeId):Bool :=
  match P.underlying t with
  | some (.struct fs) => (fs.toList.map fun x => (x.type, x.offset)) == [(f, 0), (f, 1)] && fs.toList.all (fun x => x.name != "_") && isOne P f && !P.stoodInHeld t && !P.eqGuardType P.depth t
  | _=>false
def pairv (p:List UInt8 × List UInt8):Value:=.agg #[str p.1,str p.2]
theorem run_eq_pair {t f:TypeId} (hp:pairT P t f=true) (hf:P.underlying f=some .string) (p q:List UInt8 × List UInt8) (w:World) (k:Nat):(Op.equalIn (k+2) t (pairv p) (pairv q)).run P w = .ok (decide (p=q)) w:=by
  unfold pairT at hp
  split at hp
  · rename_i fs I
    simp only[Bool.and_eq_true,Bool.not_eq_true']at hp
    obtain⟨⟨⟨⟨H,A⟩,L⟩,M⟩,T⟩:=hp
    have B:P.fieldsOf t=fs:=by simp[Program.fieldsOf,I]
    have hu':P.underlying t=some (.struct (P.fieldsOf t)):=by rw[B];exact I
    have h:=run_equalIn_struct (P:=P) w (k+1) t #[str p.1,str p.2] #[str q.1,str q.2] hu' M
    unfold pairv
    rw[h,B]
    obtain⟨K⟩:=fs
    simp only at H A ⊢
    have h1':=eq_of_beq H
    match K,h1',A with
    | [],h1',_=>simp at h1'
    | [_],h1',_=>simp at h1'
    | _ :: _ :: _ :: _,h1',_=>simp at h1'
    | [a,b],h1',A =>
      simp only[List.map_cons,List.map_nil,List.cons.injEq,Prod.mk.injEq,and_true]at h1'
      obtain⟨⟨N,D⟩,O,E⟩:=h1'
      simp only[List.all_cons,List.all_nil,Bool.and_true,Bool.and_eq_true,bne_iff_ne]at A
      have F:=run_isAgg_one L
      have G:∀(a b:Ly) (w:World),(Op.equalIn (k+1) f (str a) (str b)).run P w = .ok (decide (a=b)) w:=fun a b w=>by
        unfold str
        rw[run_equalIn_string w k f _ _ hf,str_beq]
      have J:∀(u v:Value) (w:World),(part f #[u,v] 0).run P w = .ok u w:=fun u v w=>by simp[part,F]
      have C:∀(u v:Value) (w:World),(part f #[u,v] 1).run P w = .ok v w:=fun u v w=>by simp[part,F]
      simp only[Op.eqFields,ne_eq,A.1,A.2,not_false_eq_true,if_true,N,D,O,E,Sem.run_bind,J,C,Result.andThen_ok,G]
      have q0':=J;have q1':=C
      obtain⟨C,Q⟩:=p
      obtain⟨R,S⟩:=q
      by_cases h6:C=R <;> by_cases h7:Q=S <;> simp[h6,h7,Sem.run_ite,q0',q1',G]
  · cases hp
theorem pair_guard {t f:TypeId} (hp:pairT P t f=true) (op:BinOp) (x y:Operand) (p q:List UInt8 × List UInt8):(eqGuard op t x y (pairv p) (pairv q)).run P w = .ok () w:=by
  unfold pairT at hp
  split at hp
  · simp only[Bool.and_eq_true,Bool.not_eq_true']at hp
    exact run_eqGuard_agg w op t x y _ _ hp.2
  · cases hp
theorem r_eqlP {x y:Operand} {t f u:TypeId} {p q:List UInt8 × List UInt8} (hp:pairT P t f=true) (hf:P.underlying f=some .string) (hx:ev n l x=some (pairv p)) (hy:ev n l y=some (pairv q)) :
    RunV P ⟨d,.binOp .eql t x y u,ty,ps,af,g⟩ (over A D l).eval w (.bool (decide (p=q))):=by
  have B:=pair_guard (w:=w) hp .eql x y p q
  have C:(binOp .eql t (pairv p) (pairv q)).run P w = .ok (.bool (decide (p=q))) w:=by
    rw[pairv,pairv,run_eql_struct,← pairv,← pairv,run_eq_pair hp hf p q w 9998];rfl
  simp[RunV,execOp,ev_eval hx,ev_eval hy,B,C]
theorem r_neqP {x y:Operand} {t f u:TypeId} {p q:List UInt8 × List UInt8} (hp:pairT P t f=true) (hf:P.underlying f=some .string) (hx:ev n l x=some (pairv p)) (hy:ev n l y=some (pairv q)) :
    RunV P ⟨d,.binOp .neq t x y u,ty,ps,af,g⟩ (over A D l).eval w (.bool (!decide (p=q))):=by
  have B:=pair_guard (w:=w) hp .neq x y p q
  have C:(binOp .neq t (pairv p) (pairv q)).run P w = .ok (.bool (!decide (p=q))) w:=by
    rw[pairv,pairv,run_neq_struct,← pairv,← pairv,run_eq_pair hp hf p q w 9998];rfl
  simp[RunV,execOp,ev_eval hx,ev_eval hy,B,C]
/-- A guarded operation whose guard was itself passed over. -/
theorem st_skipU {ops:Array Oper} {Q:Exit→Act→World→Prop} {rest:List Oper} {op:Op} {d:Tmp} {j t:Nat} {o:Oper} {want:Bool} (ho:ops[j]? = some o) (ht:o.dst=some t) (hy:ev n l (.tmp t)=some undef)
    (k:wpList P ops Q rest (over A D ((d,undef) :: l)) w) :
    wpList P ops Q (⟨some d,op,ty,ps,af,some (j,want)⟩ :: rest) (over A D l) w:=by
  have h':=ev_eval (A:=A) (D:=D) hy
  have B:yielded ops (over A D l).tmps j=none:=by
    simp only[Act.eval]at h'
    unfold yielded
    simp[ho,ht]
    rw[Array.getD_eq_getD_getElem?]at h'
    cases hq:(over A D l).tmps[t]? with
    | none=>rfl
    | some v=>rw[hq]at h';simp at h';rw[h'];rfl
  unfold wpList;rw[if_neg (by simp[Region.wanted,B])];exact k
end
end Go.Wk
namespace Go.Wk
open Go Go.RowKit

def digit (c:UInt8):Bool:=decide (48≤c.toNat∧c.toNat≤57)
def nameC (c:UInt8):Bool:=decide ((65≤c.toNat∧c.toNat≤90)∨(48≤c.toNat∧c.toNat≤57)∨c.toNat=95)
def isName (s:Ly):Bool:=decide (1≤s.length) && decide (s.length≤64) && !digit (s.getD 0 0) && s.all nameC
theorem all_getD {f:UInt8→Bool} {s:Ly} (h:∀j,j<s.length→f (s.getD j 0)=true):s.all f=true:=by
  rw[List.all_eq_true]
  intro x B
  obtain⟨j,A,rfl⟩:=List.mem_iff_getElem.1 B
  have:=h j A
  simpa [List.getD,A]using this
theorem getD_all {f:UInt8→Bool} {s:Ly} (h:s.all f=true) {j:Nat} (hj:j<s.length):f (s.getD j 0)=true:=by
  rw[List.all_eq_true]at h
  have:=h (s[j]'hj) (List.getElem_mem hj)
  simpa [List.getD,hj]using this
theorem name_ok {s:Ly} (h1:1≤s.length) (h2:s.length≤64) (h3:digit (s.getD 0 0)=false) (h4:∀j,j<s.length→nameC (s.getD j 0)=true):isName s=true:=by
  unfold isName;rw[decide_eq_true h1,decide_eq_true h2,h3,all_getD h4];rfl
theorem name_len {s:Ly} (h:isName s=true):1≤s.length∧s.length≤64:=by
  simp only[isName,Bool.and_eq_true,decide_eq_true_eq]at h;exact⟨h.1.1.1,h.1.1.2⟩
theorem name_all {s:Ly} (h:isName s=true) {c:UInt8} (hc:c∈s):nameC c=true:=by
  simp only[isName,Bool.and_eq_true]at h
  exact List.all_eq_true.1 h.2 c hc
theorem name_dig {s:Ly} (h:isName s=true):¬(48≤(s.getD 0 0).toNat∧(s.getD 0 0).toNat≤57):=by
  simp only[isName,Bool.and_eq_true,Bool.not_eq_true']at h
  have:=h.1.2
  unfold digit at this
  exact dF this
theorem name_at {s:Ly} (h:isName s=true) (j:Nat) (hj:j<s.length):(65≤(s.getD j 0).toNat∧(s.getD j 0).toNat≤90)∨(48≤(s.getD j 0).toNat∧(s.getD j 0).toNat≤57)∨(s.getD j 0).toNat=95:=by
  simp only[isName,Bool.and_eq_true]at h
  exact dq (getD_all h.2 hj)
abbrev PairB:=List UInt8 × List UInt8
def whole (p:PairB):List UInt8:=p.1 ++ [61] ++ p.2
def right (p:PairB):Bool:=isName p.1 && decide (p.2.length≤256)
def joinC (p:PairB):Int:=if isName p.1=false then 1 else if 256<p.2.length then 21 else 0
def splitC (s:Ly):Int :=
  if Lib.indexByte s 61<0 then 20 else if isName (s.take (Lib.indexByte s 61).toNat)=false then 20 else if 256<(s.drop ((Lib.indexByte s 61).toNat+1)).length then 21 else 0
def splitP (s:Ly):PairB:=if splitC s=0 then(s.take (Lib.indexByte s 61).toNat,s.drop ((Lib.indexByte s 61).toNat+1))else([],[])
theorem joinC_right (p:PairB):(joinC p=0)↔right p=true:=by
  unfold joinC right
  cases isName p.1 <;> simp
theorem indexByte_at {a b:Ly} {c:UInt8} (h:c∉a):Lib.indexByte (a ++ c :: b) c=a.length:=by
  induction a with
  | nil=>simp[Lib.indexByte]
  | cons x r ih =>
    have B:x≠c:=fun A=>h (by simp[A])
    have C:c∉r:=fun A=>h (by simp[A])
    have D:(x == c)=false:=by simp[B]
    simp only[List.cons_append,Lib.indexByte,D,ih C]
    have:((r.length:Int) == -1)=false:=by rw[beq_eq_false_iff_ne];omega
    simp[this]
theorem split_whole {p:PairB} (h:joinC p=0):splitC (whole p)=0∧splitP (whole p)=p:=by
  obtain⟨a,b⟩:=p
  have A:=(joinC_right _).1 h
  simp only[right,Bool.and_eq_true,decide_eq_true_eq]at A
  have G:(61:UInt8)∉a:=fun F=>by
    have:=name_all A.1 F
    revert this;decide
  have E:Lib.indexByte (whole (a,b)) 61=a.length:=by
    unfold whole;simp only[List.append_assoc,List.singleton_append];exact indexByte_at G
  have B:(whole (a,b)).take a.length=a:=by simp[whole]
  have C:(whole (a,b)).drop (a.length+1)=b:=by
    unfold whole
    rw[List.drop_append_of_le_length (by simp)]
    simp
  have D:splitC (whole (a,b))=0:=by
    unfold splitC
    rw[E,if_neg (by omega),Int.toNat_natCast,B,C,if_neg (by simp[A.1]),if_neg (by omega)]
  refine⟨D,?_⟩
  unfold splitP
  rw[if_pos D,E,Int.toNat_natCast,B,C]
theorem name_fin {s:Ly} (h1:1≤s.length) (h:∀j,j<s.length→nameC (s.getD j 0)=true∧(j=0→digit (s.getD j 0)=false)):decide ((s.length:Int)≤64)=isName s:=by
  have B:=(h 0 (by omega)).2 rfl
  have A:=all_getD fun j C=>(h j C).1
  unfold isName
  rw[decide_eq_true h1,B,A,Bool.true_and,Bool.not_false,Bool.and_true,Bool.and_true]
  exact decide_eq_decide.2 (by omega)
def cmpS (a b:Ly):Int:=if Op.bytesLess a b=true then -1 else if(!(Op.bytesLess a b || decide (a=b)))=true then 1 else 0
theorem cmpS_neg (a b:Ly):decide (cmpS a b<0)=Op.bytesLess a b:=by
  unfold cmpS
  cases h:Op.bytesLess a b with
  | true=>simp
  | false =>
    simp only[Bool.false_eq_true,if_false]
    split <;> rfl
/-! the entry IndexByte -/
section
variable {P:Program} {n:Nat} {A:Fr n} {D:List Deferred} {l:List (Nat × Value)} {w:World}
variable {d:Option Tmp} {ty:TypeId} {ps:String} {af:Array Edge} {g:Option (Nat × Bool)}
end
end Go.Wk
namespace Go.Wk
open Go Go.RowKit

/-- The number whose lowest byte stands first. -/
def leNum:List UInt8→Int
  | []=>0
  | b :: r=>(b.toNat:Int)+256*leNum r
theorem leNum_nonneg (l:Ly):0≤leNum l:=by
  induction l with
  | nil=>simp[leNum]
  | cons b r ih=>simp only[leNum];omega
theorem leNum_lt (l:Ly):leNum l<256 ^ l.length:=by
  induction l with
  | nil=>simp[leNum]
  | cons b r ih =>
    simp only[leNum,List.length_cons,Int.pow_succ]
    have:=b.toNat_lt
    omega
theorem leNum_lt_of {l:Ly} {k:Nat} (h:l.length≤k):leNum l<256 ^ k:=by
  refine Int.lt_of_lt_of_le (leNum_lt l) ?_
  have B:256 ^ l.length≤256 ^ k:=Nat.pow_le_pow_right (by omega) h
  have A:=Int.ofNat_le.2 B
  rw[Int.natCast_pow,Int.natCast_pow]at A
  exact A

def szB (n:Int):Bool:=decide (n=1∨n=2∨n=4∨n=8)

theorem shl8_or (v:Int) (c:UInt8) (h0:0≤v) (h1:v<72057594037927936) :
    bits .or .u64 (shlv .u64 v 8) (IntKind.u64.wrap (c.toNat:Int))=(c.toNat:Int)+256*v:=by
  obtain⟨m,rfl⟩:=Int.eq_ofNat_of_zero_le h0
  have E:=c.toNat_lt
  have A:shlv .u64 (m:Int) 8=((m*256:Nat):Int):=by
    unfold shlv
    have:min (8:Int).toNat IntKind.u64.bits=8:=by decide
    rw[this,wrap_u64 (by omega) (by omega)]
    omega
  have B:IntKind.u64.wrap (c.toNat:Int)=(c.toNat:Int):=wrap_u64 (by omega) (by omega)
  rw[A,B]
  unfold bits
  simp only[BitVec.ofInt_natCast]
  have D:IntKind.u64.bits=64:=rfl
  have C:(BitVec.ofNat IntKind.u64.bits (m*256) ||| BitVec.ofNat IntKind.u64.bits c.toNat).toNat=c.toNat+256*m:=by
    rw[BitVec.toNat_or,BitVec.toNat_ofNat,BitVec.toNat_ofNat,D,Nat.mod_eq_of_lt (by omega),Nat.mod_eq_of_lt (by omega)]
    have:=Nat.two_pow_add_eq_or_of_lt (i:=8) (show c.toNat<2 ^ 8 by omega) m
    rw[show m*256=2 ^ 8*m by omega,← this]
    omega
  rw[C,wrap_u64 (by omega) (by omega)]
  omega

theorem leNum_step (l:Ly) (at' i k:Nat) (h:at'+i<l.length):leNum (((l.drop (at'+i)).take (k+1)))=((l.getD (at'+i) 0).toNat:Int)+256*leNum ((l.drop (at'+(i+1))).take k):=by
  have:l.drop (at'+i)=l.getD (at'+i) 0 :: l.drop (at'+(i+1)):=by
    rw[List.drop_eq_getElem_cons h]
    simp[List.getD,h,Nat.add_assoc]
  rw[this]
  rfl
theorem get_round {l:Ly} (a n:Int) (k:Nat) (hn:n=1∨n=2∨n=4∨n=8) (ha:0≤a) (hl:a+n≤l.length) (hk:(k:Int)<n) :
    bits .or .u64 (shlv .u64 (leNum ((l.drop (a.toNat+(n.toNat-k))).take k)) 8) (IntKind.u64.wrap ((l.getD (a+(n-1-k)).toNat 0).toNat:Int)) =
      leNum ((l.drop (a.toNat+(n.toNat-(k+1)))).take (k+1)):=by
  have A:=leNum_nonneg ((l.drop (a.toNat+(n.toNat-k))).take k)
  have B:leNum ((l.drop (a.toNat+(n.toNat-k))).take k)<256 ^ 7:=leNum_lt_of (by simp;omega)
  rw[shl8_or _ _ A (by simpa using B),leNum_step l a.toNat (n.toNat-(k+1)) k (by omega)]
  rw[show(a+(n-1-k)).toNat=a.toNat+(n.toNat-(k+1))by omega,show n.toNat-(k+1)+1=n.toNat-k by omega]

/-! turning -/
def rot32 (x k:Int):Int:=bits .or .u32 (shlv .u32 x k) (shrv .u32 x (32-k))
def rot64 (x k:Int):Int:=bits .or .u64 (shlv .u64 x k) (shrv .u64 x (64-k))
theorem bits_and_mask (k:Int) (m:Nat) (h0:0≤k) (h1:k<2 ^ m) (hm:m≤63):bits .and .u64 (IntKind.u64.wrap k) ((2 ^ m-1:Nat):Int)=k:=by
  obtain⟨x,rfl⟩:=Int.eq_ofNat_of_zero_le h0
  have D:x<2 ^ m:=by
    have:((x:Nat):Int)<((2 ^ m:Nat):Int):=by rw[Int.natCast_pow];exact h1
    exact Int.ofNat_lt.1 this
  have C:2 ^ m≤2 ^ 63:=Nat.pow_le_pow_right (by omega) hm
  have A:(x:Int)<18446744073709551616:=by
    have:x<2 ^ 63:=by omega
    omega
  rw[wrap_u64 (by omega) A]
  unfold bits
  simp only[BitVec.ofInt_natCast]
  have B:IntKind.u64.bits=64:=rfl
  rw[BitVec.toNat_and,BitVec.toNat_ofNat,BitVec.toNat_ofNat,B,Nat.mod_eq_of_lt (show x<2 ^ 64 by omega),Nat.mod_eq_of_lt (show 2 ^ m-1<2 ^ 64 by omega),Nat.and_two_pow_sub_one_eq_mod,Nat.mod_eq_of_lt D]
  exact wrap_u64 (by omega) A
theorem and31 {k:Int} (h0:0≤k) (h1:k<32):bits .and .u64 (IntKind.u64.wrap k) 31=k:=bits_and_mask k 5 h0 (by simpa using h1) (by omega)
theorem and63 {k:Int} (h0:0≤k) (h1:k<64):bits .and .u64 (IntKind.u64.wrap k) 63=k:=bits_and_mask k 6 h0 (by simpa using h1) (by omega)

/-! lookup3 -/
structure T3 where
  x:Int
  y:Int
  z:Int
def T3.cells (t:T3):List Value:=[.int .u32 t.x,.int .u32 t.y,.int .u32 t.z]
def le4 (l:Ly) (i:Nat):Int:=leNum [l.getD i 0,l.getD (i+1) 0,l.getD (i+2) 0,l.getD (i+3) 0]
def w32 (x:Int):Int:=IntKind.u32.wrap x
def add12 (t:T3) (l:Ly):T3:=⟨w32 (t.x+w32 (le4 l 0)),w32 (t.y+w32 (le4 l 4)),w32 (t.z+w32 (le4 l 8))⟩
def xor32 (a b:Int):Int:=bits .xor .u32 a b
def mix1 (t:T3) (a b c:Int):T3 :=
  let x:=xor32 (w32 (t.x-t.z)) (rot32 t.z a)
  let z:=w32 (t.z+t.y)
  let y:=xor32 (w32 (t.y-x)) (rot32 x b)
  let x:=w32 (x+z)
  let z:=xor32 (w32 (z-y)) (rot32 y c)
  ⟨x,w32 (y+x),z⟩
def mix (t:T3):T3:=mix1 (mix1 t 4 6 8) 16 19 4
def last (t:T3):T3 :=
  let z:=w32 (xor32 t.z t.y-rot32 t.y 14)
  let x:=w32 (xor32 t.x z-rot32 z 11)
  let y:=w32 (xor32 t.y x-rot32 x 25)
  let z:=w32 (xor32 z y-rot32 y 16)
  let x:=w32 (xor32 x z-rot32 z 4)
  let y:=w32 (xor32 y x-rot32 x 14)
  let z:=w32 (xor32 z y-rot32 y 24)
  ⟨x,y,z⟩
def pack (t:T3):Int:=bits .or .u64 (shlv .u64 (IntKind.u64.wrap t.z) 32) (IntKind.u64.wrap t.y)
def lkF:Nat→T3→List UInt8→Int
  | 0,t,l=>if l=[]then pack t else pack (last (add12 t l))
  | k+1,t,l=>if 12<l.length then lkF k (mix (add12 t l)) (l.drop 12)else if l=[]then pack t else pack (last (add12 t l))
theorem lkF_fuel:∀(k j:Nat) (t:T3) (l:Ly),l.length≤k→l.length≤j→lkF k t l=lkF j t l:=by
  intro k
  induction k with
  | zero =>
    intro j t l B C
    have A:l=[]:=List.eq_nil_of_length_eq_zero (by omega)
    subst A
    cases j <;> simp[lkF]
  | succ k ih =>
    intro j t l B C
    cases j with
    | zero =>
      have A:l=[]:=List.eq_nil_of_length_eq_zero (by omega)
      subst A
      simp[lkF]
    | succ j =>
      simp only[lkF]
      split
      · exact ih j _ _ (by simp;omega) (by simp;omega)
      · rfl
def lk (t:T3) (l:Ly):Int:=lkF l.length t l
theorem lk_step (t:T3) (l:Ly) (h:12<l.length):lk t l=lk (mix (add12 t l)) (l.drop 12):=by
  unfold lk
  obtain⟨k,hk⟩:∃k,l.length=k+1:=⟨l.length-1,by omega⟩
  rw[hk]
  simp only[lkF,if_pos h]
  exact lkF_fuel _ _ _ _ (by simp;omega) (by simp)
theorem lk_nil (t:T3):lk t []=pack t:=by simp[lk,lkF]
theorem lk_last (t:T3) (l:Ly) (h:l≠[]) (h2:l.length≤12):lk t l=pack (last (add12 t l)):=by
  unfold lk
  obtain⟨k,hk⟩:∃k,l.length=k+1:=⟨l.length-1,by have:=List.length_pos_iff.2 h;omega⟩
  rw[hk]
  simp only[lkF,if_neg (show ¬12<l.length by omega),if_neg h]
def lkInit (l:Ly):T3:=⟨w32 (3735928559+w32 l.length),w32 (3735928559+w32 l.length),w32 (3735928559+w32 l.length)⟩
def lookup (l:Ly):Int:=lk (lkInit l) l
theorem le4_take (l:Ly) (i:Nat) (h:i+4≤l.length):leNum ((l.drop i).take 4)=le4 l i:=by
  unfold le4
  congr 1
  apply List.ext_getElem
  · simp;omega
  · intro j B A
    simp at A
    have:j=0∨j=1∨j=2∨j=3:=by omega
    rcases this with rfl|rfl|rfl|rfl <;> simp[List.getD] <;> rw[List.getElem?_eq_getElem (by omega)] <;> rfl

theorem getD_out (l:Ly) (i:Nat) (h:l.length≤i):l.getD i 0=0:=by simp[List.getD,List.getElem?_eq_none h]
theorem le4_congr {l l':Ly} {i j:Nat} (h:∀k,k<4→l.getD (i+k) 0=l'.getD (j+k) 0):le4 l i=le4 l' j:=by
  unfold le4
  have A:=h 0 (by omega);have B:=h 1 (by omega);have C:=h 2 (by omega);have D:=h 3 (by omega)
  simp only[Nat.add_zero]at A
  rw[A,B,C,D]
/-- l with zeros up to m bytes. -/
def padTo (m:Nat) (l:Ly):List UInt8:=l ++ List.replicate (m-l.length) 0
theorem padTo_getD (m:Nat) (l:Ly) (i:Nat):(padTo m l).getD i 0=l.getD i 0:=by
  unfold padTo
  by_cases h:i<l.length
  · simp[List.getD,List.getElem?_append_left h]
  · rw[getD_out l i (by omega)]
    simp only[List.getD]
    rw[List.getElem?_append_right (by omega),List.getElem?_replicate]
    split <;> rfl
theorem padTo_len (m:Nat) (l:Ly) (h:l.length≤m):(padTo m l).length=m:=by simp[padTo];omega
theorem le4_pad (m:Nat) (l:Ly) (i:Nat):le4 (padTo m l) i=le4 l i:=le4_congr fun k _=>padTo_getD m l (i+k)
theorem add12_pad (t:T3) (m:Nat) (l:Ly):add12 t (padTo m l)=add12 t l:=by simp only[add12,le4_pad]
theorem le4_takeB (l:Ly) (m i:Nat) (h:i+4≤m):le4 (l.take m) i=le4 l i:=le4_congr fun k hk=>by simp only[List.getD];rw[List.getElem?_take,if_pos (by omega)]
theorem add12_take (t:T3) (l:Ly) (m:Nat) (h:12≤m):add12 t (l.take m)=add12 t l:=by
  simp only[add12]
  rw[le4_takeB l m 0 (by omega),le4_takeB l m 4 (by omega),le4_takeB l m 8 (by omega)]
theorem splice_pad {m:Nat} {l:Ly} (h:l.length≤m):splice ((List.replicate m 0).map b8) 0 ((l.map b8).take m)=(padTo m l).map b8:=by
  have e:(l.map b8).take m=l.map b8:=List.take_of_length_le (by simpa using h)
  rw[e]
  simp[splice,padTo]
/-! SipHash -/
structure S4 where
  p:Int
  q:Int
  r:Int
  s:Int
def S4.cells (v:S4) (n:Int) (rest:Value):List Value:=[.int .u64 v.p,.int .u64 v.q,.int .u64 v.r,.int .u64 v.s,.int .i64 n,rest]
def w64 (x:Int):Int:=IntKind.u64.wrap x
def xor64 (a b:Int):Int:=bits .xor .u64 a b
def sipRound (v:S4):S4 :=
  let p:=w64 (v.p+v.q)
  let q:=xor64 (rot64 v.q 13) p
  let p:=rot64 p 32
  let r:=w64 (v.r+v.s)
  let s:=xor64 (rot64 v.s 16) r
  let p:=w64 (p+s)
  let s:=xor64 (rot64 s 21) p
  let r:=w64 (r+q)
  let q:=xor64 (rot64 q 17) r
  ⟨p,q,rot64 r 32,s⟩
def sipRounds:Nat→S4→S4
  | 0,v=>v
  | k+1,v=>sipRound (sipRounds k v)
def S4.xp (v:S4) (m:Int):S4:=⟨xor64 v.p m,v.q,v.r,v.s⟩
def S4.xr (v:S4) (m:Int):S4:=⟨v.p,v.q,xor64 v.r m,v.s⟩
def S4.xs (v:S4) (m:Int):S4:=⟨v.p,v.q,v.r,xor64 v.s m⟩
def S4.all (v:S4):Int:=xor64 (xor64 (xor64 v.p v.q) v.r) v.s
def sipWord (v:S4) (m:Int):S4:=(sipRounds 2 (v.xs m)).xp m
theorem set_xp (v:S4) (m n:Int) (rest:Value):(v.cells n rest).set 0 (.int .u64 (xor64 v.p m))=(v.xp m).cells n rest:=rfl
theorem set_xr (v:S4) (m n:Int) (rest:Value):(v.cells n rest).set 2 (.int .u64 (xor64 v.r m))=(v.xr m).cells n rest:=rfl
theorem set_xs (v:S4) (m n:Int) (rest:Value):(v.cells n rest).set 3 (.int .u64 (xor64 v.s m))=(v.xs m).cells n rest:=rfl
def sipInit (key:Ly):S4 :=
  ⟨xor64 (leNum ((key.drop 0).take 8)) 8317987319222330741,xor64 (leNum ((key.drop 8).take 8)) 7237128888997146477,
   xor64 (leNum ((key.drop 0).take 8)) 7816392313619706465,xor64 (leNum ((key.drop 8).take 8)) 8387220255154660723⟩
/-- All whole words of l taken; what is left. -/
def absF:Nat→S4→List UInt8→S4 × List UInt8
  | 0,v,l=>(v,l)
  | k+1,v,l=>if 8≤l.length then absF k (sipWord v (leNum (l.take 8))) (l.drop 8)else(v,l)
theorem absF_fuel:∀(k j:Nat) (v:S4) (l:Ly),l.length≤k→l.length≤j→absF k v l=absF j v l:=by
  intro k
  induction k with
  | zero =>
    intro j v l B C
    have A:l=[]:=List.eq_nil_of_length_eq_zero (by omega)
    subst A
    cases j <;> simp[absF]
  | succ k ih =>
    intro j v l B C
    cases j with
    | zero =>
      have A:l=[]:=List.eq_nil_of_length_eq_zero (by omega)
      subst A
      simp[absF]
    | succ j =>
      simp only[absF]
      split
      · exact ih j _ _ (by simp;omega) (by simp;omega)
      · rfl
def sipAbs (v:S4) (l:Ly):S4 × List UInt8:=absF l.length v l
theorem sipAbs_step (v:S4) (l:Ly) (h:8≤l.length):sipAbs v l=sipAbs (sipWord v (leNum (l.take 8))) (l.drop 8):=by
  unfold sipAbs
  obtain⟨k,hk⟩:∃k,l.length=k+1:=⟨l.length-1,by omega⟩
  rw[hk]
  simp only[absF,if_pos h]
  exact absF_fuel _ _ _ _ (by simp;omega) (by simp)
theorem sipAbs_done (v:S4) (l:Ly) (h:l.length<8):sipAbs v l=(v,l):=by
  unfold sipAbs
  cases hk:l.length with
  | zero=>rfl
  | succ k=>simp only[absF];rw[if_neg (by omega)]
theorem sipAbs_len:∀(k:Nat) (v:S4) (l:Ly),l.length≤k→(sipAbs v l).2.length<8:=by
  intro k
  induction k with
  | zero =>
    intro v l h
    rw[sipAbs_done v l (by omega)]
    simp;omega
  | succ k ih =>
    intro v l h
    by_cases h8:8≤l.length
    · rw[sipAbs_step v l h8];exact ih _ _ (by simp;omega)
    · rw[sipAbs_done v l (by omega)];simp;omega
/-- The end: what is left, zeros, the lowest byte of the number of all. -/
def sipTail (r:Ly) (n:Int):List UInt8:=(padTo 8 r).set 7 (UInt8.ofNat n.toNat)
def sipEnd (v:S4) (r:Ly) (n:Int):Int :=
  (sipRounds 4 ((sipWord v (leNum (((sipTail r n).drop 0).take 8))).xr 255)).all
def sip (key l:Ly):Int:=sipEnd (sipAbs (sipInit key) l).1 (sipAbs (sipInit key) l).2 l.length
theorem b8_wrap (n:Int) (h:0≤n):Value.int .u8 (IntKind.u8.wrap n)=b8 (UInt8.ofNat n.toNat):=by
  unfold b8
  rw[wrap_u8_mod]
  congr 1
  simp
  omega
theorem min8 (a b:Nat) (h:a<8):(if(b:Int)<8-(a:Int)then(b:Int)else 8-(a:Int))=((min (8-a) b:Nat):Int):=by split<;>omega
theorem sipTail_cells (r:Ly) (n:Int) (hn:0≤n):((padTo 8 r).map b8).set 7 (.int .u8 (IntKind.u8.wrap n))=(sipTail r n).map b8:=by
  rw[b8_wrap n hn,sipTail,List.map_set]
theorem sipTail_len (r:Ly) (n:Int) (h:r.length≤8):(sipTail r n).length=8:=by rw[sipTail,List.length_set,padTo_len 8 r h]
theorem add_fill (v:S4) (rl l:Ly) (_h:rl.length<8) (h8:rl.length+min (8-rl.length) l.length=8) :
    sipAbs v (rl ++ l)=sipAbs (sipWord v (leNum (((rl ++ l.take (min (8-rl.length) l.length)).drop 0).take 8))) ([] ++ l.drop (min (8-rl.length) l.length)):=by
  generalize hk:min (8-rl.length) l.length=k at *
  have e:rl ++ l=(rl ++ l.take k) ++ l.drop k:=by simp
  have A:(rl ++ l.take k).length=8:=by simp;omega
  rw[sipAbs_step v (rl ++ l) (by simp;omega),e,List.take_append_of_le_length (by omega),List.drop_append_of_le_length (by omega),List.take_of_length_le (by omega),List.drop_of_length_le (by omega)]
  simp only[List.drop_zero]
  rw[List.take_of_length_le (show(rl ++ l.take k).length≤8 by omega)]
theorem add_some (v:S4) (rl l:Ly) (k:Nat):sipAbs v (rl ++ l)=sipAbs v ((rl ++ l.take k) ++ l.drop k):=by simp

/-! the document's own reckoning of words of eight bytes -/
/-! the chapter's examples -/
end Go.Wk
namespace Go.Wk
open Go Go.RowKit

def OneC (cs:List Value):Prop:=∀u∈cs,u.oneCell'=true
/-- How data of a type stand in so many cells; what is behind these lies in blocks that are let. -/
structure Dt (α:Type) where
  n:Nat
  pos:0<n
  rep:World→(Nat→Prop)→List Value→α→Prop
  len:∀{w Q cs x},rep w Q cs x→cs.length=n
  one:∀{w Q cs x},rep w Q cs x→OneC cs
  md:∀{S w w' Q cs x},rep w Q cs x→Md S w w'→(∀b∈S,¬Q b)→rep w' Q cs x
  sub:∀{w Q Q' cs x},rep w Q cs x→(∀b,Q b→b<w.heap.size→Q' b)→rep w Q' cs x

/-- Plain data of one cell. -/
def tOne {α:Type} (f:α→Value) (h1:∀x,(f x).oneCell'=true) (ok:α→Prop):Dt α where
  n:=1
  pos:=Nat.zero_lt_one
  rep _ _ cs x:=cs=[f x]∧ok x
  len:=by rintro _ _ _ _ ⟨rfl,_⟩;rfl
  one:=by rintro _ _ _ _ ⟨rfl,_⟩ u hu;simp at hu;subst hu;exact h1 _
  md:=fun h _ _=>h
  sub:=fun h _=>h
def tU64:Dt Nat:=tOne (fun x=>.int .u64 (x:Int)) (fun _=>rfl) (fun x=>x<18446744073709551616)
def tU32:Dt Nat:=tOne (fun x=>.int .u32 (x:Int)) (fun _=>rfl) (fun x=>x<4294967296)
def tNat:Dt Nat:=tOne (fun x=>.int .i64 (x:Int)) (fun _=>rfl) (fun x=>x<9223372036854775808)
def tInt:Dt Int:=tOne (fun x=>.int .i64 x) (fun _=>rfl) (fun x=>-9223372036854775808≤x∧x<9223372036854775808)
def tB8:Dt UInt8:=tOne b8 (fun _=>rfl) (fun _=>True)
def tStr:Dt (List UInt8):=tOne str (fun _=>rfl) (fun _=>True)

/-- Sixteen bytes. -/
def idc (l:Ly):List Value:=[b8 (l.getD 0 0),b8 (l.getD 1 0),b8 (l.getD 2 0),b8 (l.getD 3 0),b8 (l.getD 4 0),b8 (l.getD 5 0),b8 (l.getD 6 0),b8 (l.getD 7 0),b8 (l.getD 8 0),b8 (l.getD 9 0),b8 (l.getD 10 0),b8 (l.getD 11 0),b8 (l.getD 12 0),b8 (l.getD 13 0),b8 (l.getD 14 0),b8 (l.getD 15 0)]
theorem idc_map {l:Ly} (h:l.length=16):idc l=l.map b8:=by
  apply List.ext_getElem
  · simp[idc,h]
  · intro i C E
    simp[idc]at C
    simp only[List.getElem_map]
    have A:i<l.length:=by omega
    rcases Nat.lt_or_ge i 8 with D|D
    · rcases Nat.lt_or_ge i 4 with B|B
      · rcases(show i=0∨i=1∨i=2∨i=3 by omega)with rfl|rfl|rfl|rfl <;> simp[idc,List.getD,A]
      · rcases(show i=4∨i=5∨i=6∨i=7 by omega)with rfl|rfl|rfl|rfl <;> simp[idc,List.getD,A]
    · rcases Nat.lt_or_ge i 12 with B|B
      · rcases(show i=8∨i=9∨i=10∨i=11 by omega)with rfl|rfl|rfl|rfl <;> simp[idc,List.getD,A]
      · rcases(show i=12∨i=13∨i=14∨i=15 by omega)with rfl|rfl|rfl|rfl <;> simp[idc,List.getD,A]
def tId:Dt (List UInt8) where
  n:=16
  pos:=by decide
  rep _ _ cs x:=cs=idc x∧x.length=16
  len:=by rintro _ _ _ _ ⟨rfl,_⟩;rfl
  one:=by rintro _ _ _ _ ⟨rfl,h⟩;rw[idc_map h];exact one_b8 _
  md:=fun h _ _=>h
  sub:=fun h _=>h
def tProd {α β:Type} (A:Dt α) (B:Dt β):Dt (α × β) where
  n:=A.n+B.n
  pos:=ly A.pos (Nat.le_add_right _ _)
  rep w Q cs p:=∃c1 c2,cs=c1 ++ c2∧A.rep w Q c1 p.1∧B.rep w Q c2 p.2
  len:=by rintro _ _ _ _ ⟨c1,c2,rfl,h1,h2⟩;simp[A.len h1,B.len h2]
  one:=by
    rintro _ _ _ _ ⟨c1,c2,rfl,h1,h2⟩ u hu
    rcases List.mem_append.1 hu with h|h
    · exact A.one h1 u h
    · exact B.one h2 u h
  md:=fun⟨c1,c2,h,h1,h2⟩ m hs=>⟨c1,c2,h,A.md h1 m hs,B.md h2 m hs⟩
  sub:=fun⟨c1,c2,h,h1,h2⟩ s=>⟨c1,c2,h,A.sub h1 s,B.sub h2 s⟩
def tPull {α β:Type} (f:β→α) (A:Dt α):Dt β where
  n:=A.n
  pos:=A.pos
  rep w Q cs x:=A.rep w Q cs (f x)
  len:=A.len
  one:=A.one
  md:=A.md
  sub:=A.sub

section
variable {α:Type} {T:Dt α} {w w':World} {Q Q':Nat→Prop}

/-- Elements, one behind the other. -/
def Els (T:Dt α) (w:World) (Q:Nat→Prop):List Value→List α→Prop
  | cs,[]=>cs=[]
  | cs,x :: xs=>∃c r,cs=c ++ r∧T.rep w Q c x∧Els T w Q r xs
theorem Els.len {cs:List Value} {xs:List α} (h:Els T w Q cs xs):cs.length=xs.length*T.n:=by
  induction xs generalizing cs with
  | nil=>simp only[Els]at h;subst h;simp
  | cons x xs ih =>
    obtain⟨c,r,rfl,A,B⟩:=h
    simp[T.len A,ih B,Nat.succ_mul,Nat.add_comm]
theorem Els.one {cs:List Value} {xs:List α} (h:Els T w Q cs xs):OneC cs:=by
  induction xs generalizing cs with
  | nil=>simp only[Els]at h;subst h;intro u A;simp at A
  | cons x xs ih =>
    obtain⟨c,r,rfl,B,C⟩:=h
    intro u A
    rcases List.mem_append.1 A with h|h
    · exact T.one B u h
    · exact ih C u h
theorem Els.md {S:List Nat} {cs:List Value} {xs:List α} (h:Els T w Q cs xs) (m:Md S w w') (hs:∀b∈S,¬Q b):Els T w' Q cs xs:=by
  induction xs generalizing cs with
  | nil=>exact h
  | cons x xs ih=>obtain⟨c,r,e,A,B⟩:=h;exact⟨c,r,e,T.md A m hs,ih B⟩
theorem Els.sub {cs:List Value} {xs:List α} (h:Els T w Q cs xs) (s:∀b,Q b→b<w.heap.size→Q' b):Els T w Q' cs xs:=by
  induction xs generalizing cs with
  | nil=>exact h
  | cons x xs ih=>obtain⟨c,r,e,A,B⟩:=h;exact⟨c,r,e,T.sub A s,ih B⟩
theorem Els.append {cs ds:List Value} {xs ys:List α} (h:Els T w Q cs xs) (k:Els T w Q ds ys):Els T w Q (cs ++ ds) (xs ++ ys):=by
  induction xs generalizing cs with
  | nil=>simp only[Els]at h;subst h;exact k
  | cons x xs ih=>obtain⟨c,r,rfl,A,B⟩:=h;exact⟨c,r ++ ds,by simp,A,ih B⟩
theorem Els.get {cs:List Value} {xs:List α} {i:Nat} {x:α} (h:Els T w Q cs xs) (hi:xs[i]? = some x):∃c,T.rep w Q c x∧∀j u,c[j]? = some u→cs[i*T.n+j]? = some u:=by
  induction xs generalizing cs i with
  | nil=>simp at hi
  | cons y xs ih =>
    obtain⟨c,r,rfl,B,C⟩:=h
    cases i with
    | zero =>
      simp at hi;subst hi
      refine⟨c,B,fun j u A=>?_⟩
      have:=(List.getElem?_eq_some_iff.1 A).1
      rw[Nat.zero_mul,Nat.zero_add,List.getElem?_append_left this];exact A
    | succ i =>
      obtain⟨d,E,D⟩:=ih C (by simpa using hi)
      refine⟨d,E,fun j u A=>?_⟩
      have F:=T.len B
      rw[Nat.succ_mul,List.getElem?_append_right (by omega)]
      rw[show i*T.n+T.n+j-c.length=i*T.n+j by omega]
      exact D j u A
theorem Els.split {cs:List Value} {xs ys:List α} (h:Els T w Q cs (xs ++ ys)):Els T w Q (cs.take (xs.length*T.n)) xs∧Els T w Q (cs.drop (xs.length*T.n)) ys:=by
  induction xs generalizing cs with
  | nil=>simp[Els];exact h
  | cons x xs ih =>
    obtain⟨c,r,rfl,A,B⟩:=h
    obtain⟨C,D⟩:=ih B
    have E:=T.len A
    have e:(x :: xs).length*T.n=c.length+xs.length*T.n:=by simp[Nat.succ_mul,E,Nat.add_comm]
    rw[e]
    refine⟨⟨c,r.take (xs.length*T.n),?_,A,C⟩,?_⟩
    · rw[List.take_append,List.take_of_length_le (Nat.le_add_right _ _),Nat.add_sub_cancel_left]
    · rw[List.drop_append,List.drop_of_length_le (Nat.le_add_right _ _),Nat.add_sub_cancel_left];exact D
theorem Els.set {cs:List Value} {xs:List α} {i:Nat} {c:List Value} {x:α} (h:Els T w Q cs xs) (hx:T.rep w Q c x) (hi:i<xs.length) :
    Els T w Q (cs.take (i*T.n) ++ c ++ cs.drop (i*T.n+T.n)) (xs.set i x):=by
  have e:xs=xs.take i ++ xs.drop i:=(List.take_append_drop i xs).symm
  have J:(xs.take i).length=i:=by simp;omega
  rw[e]at h
  obtain⟨E,C⟩:=h.split
  rw[J]at E C
  obtain⟨y,B,F⟩:∃y B,xs.drop i=y :: B:=by
    cases D:xs.drop i with
    | nil=>have:=congrArg List.length D;simp at this;omega
    | cons y B=>exact⟨y,B,rfl⟩
  rw[F]at C
  obtain⟨d,r,D,H,I⟩:=C
  have K:cs.drop (i*T.n+T.n)=r:=by
    rw[← List.drop_drop,D]
    simp[T.len H]
  have G:xs.set i x=xs.take i ++ (x :: B):=by
    rw[List.set_eq_take_append_cons_drop,if_pos hi]
    congr 2
    have:xs.drop (i+1)=(xs.drop i).drop 1:=by simp[Nat.add_comm]
    rw[this,F];rfl
  rw[G,K,List.append_assoc]
  exact E.append ⟨c,r,rfl,hx,I⟩

/-- A slice of data. -/
def Ls (T:Dt α) (w:World) (Q:Nat→Prop) (v:Value) (xs:List α):Prop :=
  ∃a cap cs,v = .slice a xs.length cap∧xs.length≤cap∧cap≤maxLen∧(a=none→cap=0)∧(∀p,a=some p→xs≠[]→Q p.block)∧(∀p,a=some p→∀j u,cs[j]? = some u→w.cell? (p.add j)=some u)∧Els T w Q cs xs
theorem Ls.nil (T:Dt α) (w:World) (Q:Nat→Prop):Ls T w Q (.slice none 0 0) []:=⟨none,0,[],rfl,Nat.le_refl _,by simp[maxLen],fun _=>rfl,by simp,by simp,rfl⟩
theorem Ls.md {S:List Nat} {v:Value} {xs:List α} (h:Ls T w Q v xs) (m:Md S w w') (hs:∀b∈S,¬Q b):Ls T w' Q v xs:=by
  obtain⟨a,A,F,G,H,I,J,C,K,B⟩:=h
  refine⟨a,A,F,G,H,I,J,C,fun p E j u D=>m.cell (K p E j u D) ?_,B.md m hs⟩
  rw[Addr.add_block]
  intro L
  refine hs _ L (C p E ?_)
  rintro rfl
  simp only[Els]at B
  subst B
  simp at D
theorem Ls.md0 {v:Value} {xs:List α} (h:Ls T w Q v xs) (m:Md [] w w'):Ls T w' Q v xs:=h.md m (by simp)
theorem Ls.sub {v:Value} {xs:List α} (h:Ls T w Q v xs) (s:∀b,Q b→b<w.heap.size→Q' b):Ls T w Q' v xs:=by
  obtain⟨a,A,F,G,H,I,J,K,B,C⟩:=h
  refine⟨a,A,F,G,H,I,J,fun p D E=>s _ (K p D E) ?_,B,C.sub s⟩
  cases xs with
  | nil=>exact absurd rfl E
  | cons x xs =>
    obtain⟨c,r,rfl,L,M⟩:=C
    cases c with
    | nil=>have:=T.len L;have:=T.pos;simp at *;omega
    | cons u c=>have:=World.block_lt_of_cell? w _ (B p D 0 u rfl);rwa [Addr.add_block]at this
theorem Ls.shp {v:Value} {xs:List α} (h:Ls T w Q v xs):Shp v xs.length:=by obtain⟨a,A,F,B,C,D,E,_⟩:=h;exact⟨a,A,B,C,D,E⟩
theorem Ls.len_le {v:Value} {xs:List α} (h:Ls T w Q v xs):xs.length≤maxLen:=by obtain⟨a,A,B,C,D,E,_⟩:=h;omega
theorem Ls.len63 {v:Value} {xs:List α} (h:Ls T w Q v xs):xs.length≤9223372036854775807:=by have:=h.len_le;simp only[maxLen]at this;omega
theorem Ls.oneCell {v:Value} {xs:List α} (h:Ls T w Q v xs):v.oneCell'=true:=by obtain⟨a,A,B,rfl,_⟩:=h;rfl
theorem Ls.by {v:Value} {xs:Ly} (h:Ls tB8 w Q v xs):By w v xs:=by
  obtain⟨a,A,B,C,D,G,H,I,E,F⟩:=h
  have e:B=xs.map b8:=by
    clear C D I E
    induction xs generalizing B with
    | nil=>exact F
    | cons x xs ih=>obtain⟨c,r,rfl,⟨rfl,_⟩,J⟩:=F;rw[ih _ J];rfl
  subst e
  exact⟨a,A,by simpa using C,by simpa using D,G,H,E⟩
theorem els_one {β:Type} {f:β→Value} {h1:∀x,(f x).oneCell'=true} {ok:β→Prop} {xs:List β} (h:∀x∈xs,ok x):Els (tOne f h1 ok) w Q (xs.map f) xs:=by
  induction xs with
  | nil=>rfl
  | cons x xs ih=>exact⟨[f x],xs.map f,rfl,⟨rfl,h x (by simp)⟩,ih fun y A=>h y (by simp[A])⟩
theorem els_one_eq {β:Type} {f:β→Value} {h1:∀x,(f x).oneCell'=true} {ok:β→Prop} {cs:List Value} {xs:List β} (h:Els (tOne f h1 ok) w Q cs xs):cs=xs.map f∧∀x∈xs,ok x:=by
  induction xs generalizing cs with
  | nil=>exact⟨h,by simp⟩
  | cons x xs ih =>
    obtain⟨c,r,rfl,⟨rfl,C⟩,A⟩:=h
    obtain⟨rfl,B⟩:=ih A
    exact⟨rfl,by simpa using ⟨C,B⟩⟩
theorem Ls.of_sl {β:Type} {f:β→Value} {h1:∀x,(f x).oneCell'=true} {ok:β→Prop} {v:Value} {xs:List β} (h:Sl w v (xs.map f)) (ho:∀x∈xs,ok x) (hQ:∀b,vblock v=some b→xs≠[]→Q b):Ls (tOne f h1 ok) w Q v xs:=by
  obtain⟨a,A,rfl,B,C,D,E⟩:=h
  exact⟨a,A,xs.map f,by simp,by simpa using B,C,D,fun p F G=>hQ _ (by subst F;rfl) G,E,els_one ho⟩
theorem Ls.sl {β:Type} {f:β→Value} {h1:∀x,(f x).oneCell'=true} {ok:β→Prop} {v:Value} {xs:List β} (h:Ls (tOne f h1 ok) w Q v xs):Sl w v (xs.map f)∧∀x∈xs,ok x:=by
  obtain⟨a,A,H,rfl,B,C,D,I,E,F⟩:=h
  obtain⟨rfl,G⟩:=els_one_eq F
  exact⟨⟨a,A,by simp,by simpa using B,C,D,E⟩,G⟩
theorem Ls.of_by {v:Value} {xs:Ly} (h:By w v xs) (hQ:∀b,vblock v=some b→xs≠[]→Q b):Ls tB8 w Q v xs:=Ls.of_sl h (fun _ _=>trivial) hQ

/-- A slice as one cell. -/
def tSl (T:Dt α):Dt (List α) where
  n:=1
  pos:=Nat.zero_lt_one
  rep w Q cs xs:=∃v,cs=[v]∧Ls T w Q v xs
  len:=by rintro _ _ _ _ ⟨v,rfl,_⟩;rfl
  one:=by rintro _ _ _ _ ⟨v,rfl,h⟩ u hu;simp at hu;subst hu;exact h.oneCell
  md:=fun⟨v,e,h⟩ m hs=>⟨v,e,h.md m hs⟩
  sub:=fun⟨v,e,h⟩ s=>⟨v,e,h.sub s⟩
/-- A pointer to data that stay. -/
def Pt (T:Dt α) (ty:TypeId) (w:World) (Q:Nat→Prop) (v:Value) (x:α):Prop:=∃b c,v = .pointer (some ⟨b,0,none⟩)∧Q b∧Blk w b c ty∧T.rep w Q c x
theorem Pt.md {ty:TypeId} {S:List Nat} {v:Value} {x:α} (h:Pt T ty w Q v x) (m:Md S w w') (hs:∀b∈S,¬Q b):Pt T ty w' Q v x:=by
  obtain⟨b,c,B,A,C,D⟩:=h
  exact⟨b,c,B,A,C.md m fun E=>hs b E A,T.md D m hs⟩
theorem Pt.md0 {ty:TypeId} {v:Value} {x:α} (h:Pt T ty w Q v x) (m:Md [] w w'):Pt T ty w' Q v x:=h.md m (by simp)
theorem Pt.sub {ty:TypeId} {v:Value} {x:α} (h:Pt T ty w Q v x) (s:∀b,Q b→b<w.heap.size→Q' b):Pt T ty w Q' v x:=by
  obtain⟨b,c,B,C,A,D⟩:=h
  exact⟨b,c,B,s b C A.lt,A,T.sub D s⟩
/-- 'v[lo:hi]', elements of sz cells. -/
def subz (sz:Nat):Value→Nat→Nat→Value
  | .slice a _ cap,lo,hi=>.slice (if cap=lo then a else a.map (·.add (lo*sz))) (hi-lo) (cap-lo)
  | _,_,_=>undef
theorem Ls.part {v:Value} {xs:List α} (h:Ls T w Q v xs) (lo hi:Nat) (h1:lo≤hi) (h2:hi≤xs.length):Ls T w Q (subz T.n v lo hi) ((xs.take hi).drop lo):=by
  obtain⟨a,A,R,rfl,S,U,M,N,O,I⟩:=h
  have F:((xs.take hi).drop lo).length=hi-lo:=by simp;omega
  have L:xs=(xs.take hi).take lo ++ (((xs.take hi).drop lo) ++ xs.drop hi):=by rw[← List.append_assoc,List.take_append_drop,List.take_append_drop]
  rw[L]at I
  have J:=I.split.2
  have G:((xs.take hi).take lo).length=lo:=by simp;omega
  rw[G]at J
  have D:=J.split.1
  rw[F]at D
  refine⟨if A=lo then a else a.map (·.add (lo*T.n)),A-lo,_,?_,?_,by omega,?_,?_,?_,D⟩
  · simp only[subz,F]
  · rw[F];omega
  · intro h
    split at h
    · omega
    · cases a with
      | none=>have:=M rfl;omega
      | some p=>simp at h
  · intro p B K
    have C:A≠lo:=by intro P;apply K;apply List.eq_nil_of_length_eq_zero;omega
    rw[if_neg C]at B
    cases a with
    | none=>simp at B
    | some q =>
      simp at B
      subst B
      rw[Addr.add_block]
      exact N q rfl (by rintro rfl;simp at K)
  · intro p B j u H
    have E:=(List.getElem?_eq_some_iff.1 H).1
    simp only[List.length_take,List.length_drop]at E
    have C:A≠lo:=by
      intro P
      have:hi-lo=0:=by omega
      rw[this]at E;simp at E
    rw[if_neg C]at B
    cases a with
    | none=>simp at B
    | some q =>
      simp at B
      subst B
      rw[Addr.add_add]
      refine O q rfl _ u ?_
      rw[List.getElem?_take,if_pos (by omega),List.getElem?_drop]at H
      exact H

/-- Cells of an element: from k on behind v's first one. -/
def At (w:World) (v:Value) (k:Nat) (c:List Value):Prop:=∃p l cp,v = .slice (some p) l cp∧∀j u,c[j]? = some u→w.cell? (p.add (k+j))=some u
theorem Ls.get {v:Value} {xs:List α} {i:Nat} {x:α} (h:Ls T w Q v xs) (hi:xs[i]? = some x):∃c,T.rep w Q c x∧At w v (i*T.n) c:=by
  obtain⟨a,A,H,rfl,I,J,B,K,C,D⟩:=h
  obtain⟨c,E,F⟩:=D.get hi
  cases a with
  | none =>
    have:=B rfl
    have:=(List.getElem?_eq_some_iff.1 hi).1
    omega
  | some p=>exact⟨c,E,p,_,A,rfl,fun j u G=>C p rfl _ u (F j u G)⟩
theorem At.md0 {v:Value} {k:Nat} {c:List Value} (h:At w v k c) (m:Md [] w w'):At w' v k c:=by
  obtain⟨p,l,B,C,D⟩:=h
  exact⟨p,l,B,C,fun j u E=>m.cell (D j u E) (by simp)⟩

/-- A row of the run's own, of elements; no datum that is let looks into it. -/
def Ow (T:Dt α) (e:TypeId) (lo:Nat→Prop) (w:World) (Q:Nat→Prop) (v:Value) (xs:List α):Prop :=
  (∃cs,Own w e T.n v xs.length cs∧Els T w Q cs xs)∧∀b,vblock v=some b→lo b∧¬Q b
theorem Ow.nil (T:Dt α) (e:TypeId) (lo:Nat→Prop) (w:World) (Q:Nat→Prop):Ow T e lo w Q (.slice none 0 0) []:=⟨⟨[],Own.nil w e _,rfl⟩,by simp[vblock]⟩
theorem Ow.md {e:TypeId} {lo:Nat→Prop} {S:List Nat} {v:Value} {xs:List α} (h:Ow T e lo w Q v xs) (m:Md S w w') (hv:∀b,vblock v=some b→b∉S) (hs:∀b∈S,¬Q b):Ow T e lo w' Q v xs:=by
  obtain⟨⟨A,B,C⟩,D⟩:=h
  exact⟨⟨A,B.md m hv,C.md m hs⟩,D⟩
theorem Ow.md0 {e:TypeId} {lo:Nat→Prop} {v:Value} {xs:List α} (h:Ow T e lo w Q v xs) (m:Md [] w w'):Ow T e lo w' Q v xs:=h.md m (by simp) (by simp)
theorem Ow.lt {e:TypeId} {lo:Nat→Prop} {v:Value} {xs:List α} (h:Ow T e lo w Q v xs):∀b,vblock v=some b→b<w.heap.size:=by obtain⟨⟨B,A,C⟩,D⟩:=h;exact A.lt
theorem Ow.sub {e:TypeId} {lo:Nat→Prop} {v:Value} {xs:List α} (h:Ow T e lo w Q v xs) (s:∀b,Q b→b<w.heap.size→Q' b) (t:∀b,Q' b→Q b):Ow T e lo w Q' v xs:=by
  obtain⟨⟨C,D,E⟩,A⟩:=h
  exact⟨⟨C,D,E.sub s⟩,fun b B=>⟨(A b B).1,fun F=>(A b B).2 (t b F)⟩⟩
theorem own_cells {e:TypeId} {sz m:Nat} {v:Value} {cs:List Value} (h:Own w e sz v m cs):∃a cap,v = .slice a m cap∧m≤cap∧cap≤maxLen∧(a=none→cap=0)∧∀p,a=some p→∀j u,cs[j]? = some u→w.cell? (p.add j)=some u:=by
  rcases h.2 with⟨rfl,rfl⟩|⟨g,cap,A,rfl,F,G,C,B,H,I⟩
  · exact⟨none,0,rfl,Nat.le_refl _,by simp[maxLen],fun _=>rfl,by simp⟩
  · exact⟨some ⟨g,0,none⟩,cap,rfl,C,B,by simp,fun p D j u E=>by cases D;exact World.ownsRow.cells h (g:=g) rfl j u E⟩
/-- An own row, as data: it lies among what is let then. -/
theorem Ow.ls {e:TypeId} {lo:Nat→Prop} {v:Value} {xs:List α} (h:Ow T e lo w Q v xs) (t:∀b,Q b→Q' b) (u:∀b,lo b→Q' b):Ls T w Q' v xs:=by
  obtain⟨⟨B,C,D⟩,E⟩:=h
  obtain⟨a,A,rfl,F,G,H,I⟩:=own_cells C
  exact⟨a,A,B,rfl,F,G,H,fun p K _=>u _ (E _ (by subst K;rfl)).1,I,D.sub fun b J _=>t b J⟩
theorem Ow.get {e:TypeId} {lo:Nat→Prop} {v:Value} {xs:List α} {i:Nat} {x:α} (h:Ow T e lo w Q v xs) (hi:xs[i]? = some x):∃c,T.rep w Q c x∧At w v (i*T.n) c:=by
  obtain⟨⟨I,B,C⟩,_⟩:=h
  obtain⟨a,A,rfl,J,K,D,E⟩:=own_cells B
  obtain⟨c,F,G⟩:=C.get hi
  cases a with
  | none =>
    have:=D rfl
    have:=(List.getElem?_eq_some_iff.1 hi).1
    omega
  | some p=>exact⟨c,F,p,_,A,rfl,fun j u H=>E p rfl _ u (G j u H)⟩
/-- An own row, to be read at once. -/
theorem Ow.read {e:TypeId} {lo:Nat→Prop} {v:Value} {xs:List α} (h:Ow T e lo w Q v xs):Ls T w (fun b=>Q b∨lo b) v xs:=h.ls (fun _=>.inl) (fun _=>.inr)
theorem Ow.shp {e:TypeId} {lo:Nat→Prop} {v:Value} {xs:List α} (h:Ow T e lo w Q v xs):Shp v xs.length:=h.read.shp
theorem Ow.oneCell {e:TypeId} {lo:Nat→Prop} {v:Value} {xs:List α} (h:Ow T e lo w Q v xs):v.oneCell'=true:=h.read.oneCell
end

/-- What is made from now on is let. -/
def Up (w:World) (Q:Nat→Prop):Prop:=∀b,w.heap.size≤b→Q b
theorem Up.md {S:List Nat} {w w':World} {Q:Nat→Prop} (u:Up w Q) (m:Md S w w'):Up w' Q:=fun b hb=>u b (lv m.size hb)
/-- A new block of the run's own: it is let no more. -/
theorem exQ {Q:Nat→Prop} {w w':World} {b:Nat} (u:Up w Q) (h1:w.heap.size≤b) (h2:b<w'.heap.size) (m:Md [] w w') :
    ∃Q':Nat→Prop,(∀x,Q x→x<w.heap.size→Q' x)∧(∀x,Q' x→Q x)∧¬Q' b∧Up w' Q' :=
  ⟨fun x=>Q x∧x≠b,fun x hx hl=>⟨hx,by omega⟩,fun x hx=>hx.1,fun h=>h.2 rfl,fun x hx=>⟨u x (lv m.size hx),by omega⟩⟩
end Go.Wk
namespace Go.Wk
open Go Go.RowKit

def lim:IntKind→Nat
  | .u8=>256|.u16=>65536|.u32=>4294967296|.u64=>18446744073709551616
  | .i8=>128|.i16=>32768|.i32=>2147483648|.i64=>9223372036854775808
theorem wrapN (k:IntKind) (x:Nat) (h:x<lim k):k.wrap (x:Int)=x:=by
  cases k <;> simp[IntKind.wrap,IntKind.bits,IntKind.signed,lim]at * <;> omega
theorem wrapW (k:IntKind) (x:Int) (h:k.signed=false):k.wrap x=((x%(lim k:Int)).toNat:Nat):=by
  cases k <;> simp[IntKind.wrap,IntKind.bits,IntKind.signed,lim]at * <;> omega
theorem RunV.to {P:Program} {w:World} {o:Oper} {e:Operand→Value} {a b:Value} (h:RunV P o e w a) (he:a=b):RunV P o e w b:=he ▸ h

section
variable {P:Program} {n:Nat} {A:Fr n} {D:List Deferred} {l:List (Nat × Value)} {w:World}
variable {d:Option Tmp} {ty:TypeId} {ps:String} {af:Array Edge} {g:Option (Nat × Bool)}
variable {x y:Operand} {t u:TypeId} {k j:IntKind} {a b:Nat}

theorem r_addN (L:Nat) (hL:lim k=L) (hx:ev n l x=some (.int k (a:Int))) (hy:ev n l y=some (.int k (b:Int))) (h:a+b<L) :
    RunV P ⟨d,.binOp .add t x y u,ty,ps,af,g⟩ (over A D l).eval w (.int k ((a+b:Nat):Int)) :=
  (r_add hx hy).castI (by rw[← wrapN k (a+b) (hL ▸ h)];rfl)
theorem r_subN (L:Nat) (hL:lim k=L) (hx:ev n l x=some (.int k (a:Int))) (hy:ev n l y=some (.int k (b:Int))) (h:b≤a∧a<L) :
    RunV P ⟨d,.binOp .sub t x y u,ty,ps,af,g⟩ (over A D l).eval w (.int k ((a-b:Nat):Int)) :=
  (r_sub hx hy).castI (by rw[← wrapN k (a-b) (by omega)];congr 1;omega)
theorem r_mulN (L:Nat) (hL:lim k=L) (hx:ev n l x=some (.int k (a:Int))) (hy:ev n l y=some (.int k (b:Int))) (h:a*b<L) :
    RunV P ⟨d,.binOp .mul t x y u,ty,ps,af,g⟩ (over A D l).eval w (.int k ((a*b:Nat):Int)) :=
  (r_mul hx hy).castI (by rw[← wrapN k (a*b) (hL ▸ h),Int.natCast_mul])
theorem r_addW (L:Nat) (hL:lim k=L) (hs:k.signed=false) (hx:ev n l x=some (.int k (a:Int))) (hy:ev n l y=some (.int k (b:Int))) :
    RunV P ⟨d,.binOp .add t x y u,ty,ps,af,g⟩ (over A D l).eval w (.int k (((a+b)%L:Nat):Int)) :=
  (r_add hx hy).castI (by rw[wrapW k _ hs,hL,show(a:Int)+b=((a+b:Nat):Int)from rfl,← Int.natCast_emod,Int.toNat_natCast])
theorem r_quoN (L:Nat) (hL:lim k=L) (hx:ev n l x=some (.int k (a:Int))) (hy:ev n l y=some (.int k (b:Int))) (h:b≠0∧a<L) :
    RunV P ⟨d,.binOp .quo t x y u,ty,ps,af,g⟩ (over A D l).eval w (.int k ((a/b:Nat):Int)) :=
  (r_quo hx hy (by omega)).castI (by
    rw[show Int.tdiv (a:Int) b=((a/b:Nat):Int)from rfl]
    exact wrapN k _ (hL ▸ Nat.lt_of_le_of_lt (Nat.div_le_self _ _) h.2))
theorem r_remN (hx:ev n l x=some (.int k (a:Int))) (hy:ev n l y=some (.int k (b:Int))) (h:b≠0) :
    RunV P ⟨d,.binOp .rem t x y u,ty,ps,af,g⟩ (over A D l).eval w (.int k ((a%b:Nat):Int)) :=
  (r_rem hx hy (by omega)).castI rfl
theorem r_eqN (hx:ev n l x=some (.int k (a:Int))) (hy:ev n l y=some (.int k (b:Int))):RunV P ⟨d,.binOp .eql t x y u,ty,ps,af,g⟩ (over A D l).eval w (.bool (decide (a=b))) :=
  (r_eq hx hy).castB (decide_eq_decide.2 (by omega))
theorem r_neN (hx:ev n l x=some (.int k (a:Int))) (hy:ev n l y=some (.int k (b:Int))):RunV P ⟨d,.binOp .neq t x y u,ty,ps,af,g⟩ (over A D l).eval w (.bool (decide (a≠b))) :=
  (r_ne hx hy).castB (decide_eq_decide.2 (by omega))
theorem r_ltN (hx:ev n l x=some (.int k (a:Int))) (hy:ev n l y=some (.int k (b:Int))):RunV P ⟨d,.binOp .lss t x y u,ty,ps,af,g⟩ (over A D l).eval w (.bool (decide (a<b))) :=
  (r_lt hx hy).castB (decide_eq_decide.2 (by omega))
theorem r_gtN (hx:ev n l x=some (.int k (a:Int))) (hy:ev n l y=some (.int k (b:Int))):RunV P ⟨d,.binOp .gtr t x y u,ty,ps,af,g⟩ (over A D l).eval w (.bool (decide (b<a))) :=
  (r_gt hx hy).castB (decide_eq_decide.2 (by omega))
theorem r_geN (hx:ev n l x=some (.int k (a:Int))) (hy:ev n l y=some (.int k (b:Int))):RunV P ⟨d,.binOp .geq t x y u,ty,ps,af,g⟩ (over A D l).eval w (.bool (decide (b≤a))) :=
  (r_ge hx hy).castB (decide_eq_decide.2 (by omega))
theorem r_convN {s:TypeId} (L:Nat) (hL:lim k=L) (hs:(P.underlying s).isSome=true) (ht:P.underlying t=some (.int k)) (hx:ev n l x=some (.int j (a:Int))) (h:a<L) :
    RunV P ⟨d,.convert s t x,ty,ps,af,g⟩ (over A D l).eval w (.int k (a:Int)):=(r_conv hs ht hx).castI (wrapN k a (hL ▸ h))
theorem r_convW {s:TypeId} (L:Nat) (hL:lim k=L) (hk:k.signed=false) (hs:(P.underlying s).isSome=true) (ht:P.underlying t=some (.int k)) (hx:ev n l x=some (.int j (a:Int))) :
    RunV P ⟨d,.convert s t x,ty,ps,af,g⟩ (over A D l).eval w (.int k ((a%L:Nat):Int)):=(r_conv hs ht hx).castI (by rw[wrapW k _ hk,hL,← Int.natCast_emod,Int.toNat_natCast])
theorem r_minN (hx:ev n l x=some (.int k (a:Int))) (hy:ev n l y=some (.int j (b:Int))) {ts:Array TypeId} :
    RunV P ⟨d,.call {callee:=.builtin .min,args:=#[x,y],argTypes:=ts},ty,ps,af,g⟩ (over A D l).eval w (.int k ((min a b:Nat):Int)) :=
  (r_min hx hy).castI (by split<;>omega)
theorem r_maxZ {a b:Int} (hx:ev n l x=some (.int k a)) (hy:ev n l y=some (.int j b)) {ts:Array TypeId} :
    RunV P ⟨d,.call {callee:=.builtin .max,args:=#[x,y],argTypes:=ts},ty,ps,af,g⟩ (over A D l).eval w (.int k (if a<b then b else a)):=by
  simp[RunV,execOp,ev_eval hx,ev_eval hy,resolve,invoke,builtin,Builtin.max_,Builtin.max2]
theorem r_maxN (hx:ev n l x=some (.int k (a:Int))) (hy:ev n l y=some (.int j (b:Int))) {ts:Array TypeId} :
    RunV P ⟨d,.call {callee:=.builtin .max,args:=#[x,y],argTypes:=ts},ty,ps,af,g⟩ (over A D l).eval w (.int k ((max a b:Nat):Int)) :=
  (r_maxZ hx hy).castI (by split<;>omega)
theorem r_shlW (L:Nat) (hL:lim k=L) (hs:k.signed=false) (s:Nat) (hS:k.bits=s) (hx:ev n l x=some (.int k (a:Int))) (hy:ev n l y=some (.int j (b:Int))) (h:b≤s) :
    RunV P ⟨d,.binOp .shl t x y u,ty,ps,af,g⟩ (over A D l).eval w (.int k ((a*2 ^ b%L:Nat):Int)) :=
  (r_shl hx hy (by omega)).castI (by
    unfold shlv
    rw[wrapW k _ hs,hL,hS,Int.toNat_natCast,Nat.min_eq_left h]
    rw[show(a:Int)*2 ^ b=((a*2 ^ b:Nat):Int)by simp,← Int.natCast_emod,Int.toNat_natCast])
theorem r_shrN (s:Nat) (hS:k.bits=s) (hx:ev n l x=some (.int k (a:Int))) (hy:ev n l y=some (.int j (b:Int))) (h:b≤s) :
    RunV P ⟨d,.binOp .shr t x y u,ty,ps,af,g⟩ (over A D l).eval w (.int k ((a/2 ^ b:Nat):Int)) :=
  (r_shr hx hy (by omega)).castI (by
    unfold shrv
    rw[hS,Int.toNat_natCast,Nat.min_eq_left h]
    simp)

theorem lim_bits (hk:k.signed=false):lim k=2 ^ k.bits:=by cases k<;>simp[IntKind.signed]at hk<;>rfl
theorem bits_xor (hk:k.signed=false) (ha:a<lim k) (hb:b<lim k):bits .xor k (a:Int) (b:Int)=((a ^^^ b:Nat):Int):=by
  have A:=lim_bits hk
  have B:a ^^^ b<lim k:=by rw[A];exact Nat.xor_lt_two_pow (A ▸ ha) (A ▸ hb)
  unfold bits
  simp only[BitVec.ofInt_natCast,BitVec.toNat_xor,BitVec.toNat_ofNat,← A,Nat.mod_eq_of_lt ha,Nat.mod_eq_of_lt hb]
  exact wrapN k _ B
theorem bits_or (hk:k.signed=false) (ha:a<lim k) (hb:b<lim k):bits .or k (a:Int) (b:Int)=((a ||| b:Nat):Int):=by
  have A:=lim_bits hk
  have B:a ||| b<lim k:=by rw[A];exact Nat.or_lt_two_pow (A ▸ ha) (A ▸ hb)
  unfold bits
  simp only[BitVec.ofInt_natCast,BitVec.toNat_or,BitVec.toNat_ofNat,← A,Nat.mod_eq_of_lt ha,Nat.mod_eq_of_lt hb]
  exact wrapN k _ B
theorem r_xorN (L:Nat) (hL:lim k=L) (hk:k.signed=false) (hx:ev n l x=some (.int k (a:Int))) (hy:ev n l y=some (.int k (b:Int))) (h:a<L∧b<L) :
    RunV P ⟨d,.binOp .xor t x y u,ty,ps,af,g⟩ (over A D l).eval w (.int k ((a ^^^ b:Nat):Int)):=(r_xor hx hy).castI (bits_xor hk (hL ▸ h.1) (hL ▸ h.2))
theorem r_orN (L:Nat) (hL:lim k=L) (hk:k.signed=false) (hx:ev n l x=some (.int k (a:Int))) (hy:ev n l y=some (.int k (b:Int))) (h:a<L∧b<L) :
    RunV P ⟨d,.binOp .or t x y u,ty,ps,af,g⟩ (over A D l).eval w (.int k ((a ||| b:Nat):Int)):=(r_or hx hy).castI (bits_or hk (hL ▸ h.1) (hL ▸ h.2))
theorem r_shlN (L:Nat) (hL:lim k=L) (s:Nat) (hS:k.bits=s) (hx:ev n l x=some (.int k (a:Int))) (hy:ev n l y=some (.int j (b:Int))) (h:b≤s∧a*2 ^ b<L) :
    RunV P ⟨d,.binOp .shl t x y u,ty,ps,af,g⟩ (over A D l).eval w (.int k ((a*2 ^ b:Nat):Int)) :=
  (r_shl hx hy (by omega)).castI (by
    unfold shlv
    rw[hS,Int.toNat_natCast,Nat.min_eq_left h.1,show(a:Int)*2 ^ b=((a*2 ^ b:Nat):Int)by simp]
    exact wrapN k _ (hL ▸ h.2))
/-! data -/
variable {α:Type} {T:Dt α} {Q:Nat→Prop} {v:Value} {xs:List α}
theorem r_indexN {e:TypeId} {m i:Nat} (sz:Nat) (hx:ev n l x=some v) (hy:ev n l y=some (.int k (i:Int))) (hT:P.underlying t=some (.slice e)) (hE:elemIs P e sz=true) (hS:Shp v m) (hi:i<m) :
    RunV P ⟨d,.indexAddr t x y,ty,ps,af,g⟩ (over A D l).eval w (elemp v (i*sz)):=by
  have:=r_indexZ (P:=P) (A:=A) (D:=D) (w:=w) (d:=d) (ty:=ty) (ps:=ps) (af:=af) (g:=g) sz hx hy hT hE hS (by omega)
  simpa using this
theorem r_indexArrN {e:TypeId} {m b' o i:Nat} (sz:Nat) (hx:ev n l x=some (.pointer (some ⟨b',o,none⟩))) (hy:ev n l y=some (.int k (i:Int))) (hT:P.underlying t=some (.array m e)) (hE:elemIs P e sz=true) (hi:i<m) :
    RunV P ⟨d,.indexAddr t x y,ty,ps,af,g⟩ (over A D l).eval w (.pointer (some ⟨b',o+i*sz,none⟩)):=by
  unfold elemIs at hE
  split at hE
  · rename_i inf hinf
    have B:inf.size=sz:=by simpa using hE
    simp[RunV,execOp,ev_eval hx,ev_eval hy,Instr.indexAt,Instr.sureAddr,asIntOf,run_underlying hT,run_sizeOf hinf,hi,B,Addr.add_mk]
  · cases hE
theorem elemp_at {kk:Nat} {c:List Value} (h:At w v kk c):∃p:Addr,(∀m,elemp v m = .pointer (some (p.add m)))∧∀j u,c[j]? = some u→w.cell? (p.add (kk+j))=some u:=by
  obtain⟨p,l,B,rfl,A⟩:=h
  exact⟨p,fun _=>rfl,A⟩
theorem r_loadE {m kk:Nat} {c:List Value} {r:Value} (j:Nat) (hx:ev n l x=some (elemp v m)) (hm:m=kk+j) (hT:isOne P t=true) (hA:At w v kk c) (hj:c[j]? = some r) :
    RunV P ⟨d,.load t x,ty,ps,af,g⟩ (over A D l).eval w r:=by
  obtain⟨p,C,B⟩:=elemp_at hA
  rw[C]at hx
  exact r_load hx hT (by rw[hm];exact B j r hj)
theorem r_loadEA {m kk:Nat} {c:List Value} (cs:List Value) (o:Nat) (hx:ev n l x=some (elemp v m)) (hm:m=kk+o) (hT:isAggN P t cs.length=true) (hA:At w v kk c) (hc:(c.drop o).take cs.length=cs) :
    RunV P ⟨d,.load t x,ty,ps,af,g⟩ (over A D l).eval w (.agg cs.toArray):=by
  obtain⟨p,F,C⟩:=elemp_at hA
  rw[F]at hx
  refine r_loadAgg hx hT rfl fun j r B=>?_
  have E:=(List.getElem?_eq_some_iff.1 B).1
  rw[Addr.add_add,hm,Nat.add_assoc]
  refine C _ r ?_
  rw[← hc,List.getElem?_take,if_pos E,List.getElem?_drop]at B
  exact B
/-- A part of a block, read. -/
theorem r_loadPart {ty':TypeId} {b' o:Nat} {c:List Value} (cs:List Value) (hx:ev n l x=some (.pointer (some ⟨b',o,none⟩))) (hT:isAggN P t cs.length=true) (hB:Blk w b' c ty') (hc:(c.drop o).take cs.length=cs) :
    RunV P ⟨d,.load t x,ty,ps,af,g⟩ (over A D l).eval w (.agg cs.toArray):=by
  refine r_loadAgg hx hT rfl fun j r B=>?_
  have C:=(List.getElem?_eq_some_iff.1 B).1
  rw[Addr.add_mk,hB.cell]
  rw[← hc,List.getElem?_take,if_pos C,List.getElem?_drop]at B
  exact B
theorem r_sliceZ {lo hi:Option Operand} {m e:Nat} (sz L H:Nat) (hT:P.underlying t=some (.slice e)) (hE:elemIs P e sz=true) (hx:ev n l x=some v)
    (hS:Shp v m) (h1:L≤H) (h2:H≤m)
    (hlo:match lo with|none=>L=0|some y=>∃k,ev n l y=some (.int k (L:Int))) (hhi:match hi with|none=>H=m|some y=>∃k,ev n l y=some (.int k (H:Int))) :
    RunV P ⟨d,.slice t x lo hi none,ty,ps,af,g⟩ (over A D l).eval w (subz sz v L H):=by
  obtain⟨a,C,rfl,G,I,J⟩:=hS
  unfold elemIs at hE
  split at hE
  · rename_i inf hinf
    have B:inf.size=sz:=by simpa using hE
    have E:H≤C:=by omega
    cases lo with
    | none =>
      simp only at hlo;subst hlo
      cases hi with
      | none =>
        simp only at hhi;subst hhi
        simp[RunV,execOp,ev_eval hx,Instr.sliceAt,Instr.slice,Instr.sliceBounds,run_underlying hT,run_sizeOf hinf,subz,B]
      | some y =>
        simp only at hhi;obtain⟨k,hk⟩:=hhi
        simp[RunV,execOp,ev_eval hx,ev_eval hk,Instr.sliceAt,Instr.slice,Instr.sliceBounds,Instr.sliceBound,asIntOf,run_underlying hT,run_sizeOf hinf,subz,B,E]
    | some z =>
      simp only at hlo;obtain⟨j,F⟩:=hlo
      cases hi with
      | none =>
        simp only at hhi;subst hhi
        simp[RunV,execOp,ev_eval hx,ev_eval F,Instr.sliceAt,Instr.slice,Instr.sliceBounds,Instr.sliceBound,asIntOf,run_underlying hT,run_sizeOf hinf,subz,B,h1]
      | some y =>
        simp only at hhi;obtain⟨k,hk⟩:=hhi
        simp[RunV,execOp,ev_eval hx,ev_eval F,ev_eval hk,Instr.sliceAt,Instr.slice,Instr.sliceBounds,Instr.sliceBound,asIntOf,run_underlying hT,run_sizeOf hinf,subz,B,h1,E]
  · cases hE
end
end Go.Wk
namespace Go.Wk
open Go Go.RowKit

theorem fold_splice:∀(us:List Value) (k o:Nat) (cs:List Value),o+k+us.length≤cs.length →
    (us.zipIdx k).foldl (fun(cs:Array Value) (x:Value × Nat)=>cs.setIfInBounds (o+x.2) x.1) cs.toArray=(splice cs (o+k) us).toArray
  | [],k,o,cs,_=>by simp[splice]
  | u :: us,k,o,cs,h=>by
    simp only[List.length_cons]at h
    rw[List.zipIdx_cons,List.foldl_cons]
    simp only[List.setIfInBounds_toArray]
    rw[fold_splice us (k+1) o (cs.set (o+k) u) (by simp;omega)]
    congr 1
    unfold splice
    have h1:(cs.set (o+k) u).take (o+(k+1))=cs.take (o+k) ++ [u]:=by
      rw[show o+(k+1)=(o+k)+1 by omega,List.take_add_one]
      simp[show o+k<cs.length by omega,List.take_set_of_le]
    have A:(cs.set (o+k) u).drop (o+(k+1)+us.length)=cs.drop (o+k+(us.length+1)):=by
      rw[List.drop_set_of_lt (by omega)]
      congr 1;omega
    rw[h1,A]
    simp
theorem fold_cells {v:Value} {us:List Value} (hv:v.cells=us.toArray) (o:Nat) (cs:List Value) (h:o+us.length≤cs.length) :
    v.cells.zipIdx.foldl (fun(cs:Array Value) (x:Value × Nat)=>cs.setIfInBounds (o+x.2) x.1) cs.toArray=(splice cs o us).toArray:=by
  have:=fold_splice us 0 o cs (by omega)
  rw[hv]
  simpa [← Array.foldl_toList]using this

def CellsAre:List Value→List (List Value)→Prop
  | [],[]=>True
  | v :: vs,u :: us=>v.cells=u.toArray∧CellsAre vs us
  | _,_=>False
def splices (cs:List Value):List (Nat × Nat × Nat)→List (List Value)→List Value
  | (_,o,_) :: ps,u :: us=>splices (splice cs o u) ps us
  | _,_=>cs
def szOk:List (Nat × Nat × Nat)→List (List Value)→Prop
  | [],[]=>True
  | (_,_,s) :: ps,u :: us=>u.length=s∧szOk ps us
  | _,_=>False
theorem splice_len {cs us:List Value} {o:Nat} (h:o+us.length≤cs.length):(splice cs o us).length=cs.length:=by simp[splice];omega
theorem fill_gen {place:Nat→Option (Nat × Nat)}:∀(ps:List (Nat × Nat × Nat)) (vs:List Value) (us:List (List Value)) (cs:List Value),CellsAre vs us→szOk ps us→(∀p∈ps,place p.1=some (p.2.1,p.2.2)∧p.2.1+p.2.2≤cs.length) →
    Instr.fill place cs.toArray ((ps.map (·.1)).zip vs)=some (splices cs ps us).toArray
  | [],[],[],cs,_,_,_=>by simp[Instr.fill,splices]
  | [],[],_ :: _,_,h,_,_=>by simp[CellsAre]at h
  | [],_ :: _,[],_,h,_,_=>by simp[CellsAre]at h
  | [],_ :: _,_ :: _,_,_,h,_=>by simp[szOk]at h
  | _ :: _,_,[],_,_,h,_=>by simp[szOk]at h
  | _ :: _,[],_ :: _,_,h,_,_=>by simp[CellsAre]at h
  | (i,o,s) :: ps,v :: vs,u :: us,cs,⟨h1,h2⟩,⟨h3,h4⟩,hp=>by
    obtain⟨h5,h6⟩:=hp (i,o,s) (by simp)
    simp only at h5 h6
    have hs:v.cells.size=s:=by rw[h1];simpa using h3
    have B:o+u.length≤cs.length:=by omega
    have C:=fill_gen (place:=place) ps vs us (splice cs o u) h2 h4 (fun p A=>by rw[splice_len B];exact hp p (by simp[A]))
    simp only[List.map_cons,List.zip_cons_cons,Instr.fill,h5]
    rw[if_neg (by simp[hs];omega),fold_cells h1 o cs B]
    simpa [splices]using C
def plOk (pl:List (Nat × Nat)) (m:Nat):List (Nat × Nat × Nat)→Bool
  | []=>true
  | (i,o,s) :: r=>(match pl[i]? with
    | some (o',s')=>Nat.beq o' o && Nat.beq s' s && Nat.ble (o+s) m
    | none=>false) && plOk pl m r
theorem plOk_spec {pl:List (Nat × Nat)} {m:Nat}:∀{ps:List (Nat × Nat × Nat)},plOk pl m ps=true→∀p∈ps,pl[p.1]? = some (p.2.1,p.2.2)∧p.2.1+p.2.2≤m
  | [],_,p,hp=>by cases hp
  | (i,o,s) :: r,h,p,hp=>by
    simp only[plOk,Bool.and_eq_true]at h
    rcases List.mem_cons.1 hp with rfl|hp'
    · cases hq:pl[i]? with
      | none=>rw[hq]at h;simp at h
      | some q =>
        obtain⟨o',s'⟩:=q
        rw[hq]at h
        simp only[Bool.and_eq_true]at h
        obtain⟨⟨⟨h1,h2⟩,h3⟩,_⟩:=h
        have e1:=Nat.eq_of_beq_eq_true h1
        have e2:=Nat.eq_of_beq_eq_true h2
        subst e1;subst e2
        exact⟨rfl,lq h3⟩
    · exact plOk_spec h.2 p hp'

section
variable {P:Program} {ops:Array Oper} {Q:Exit→Act→World→Prop} {rest:List Oper}
variable {n:Nat} {A:Fr n} {D:List Deferred} {l:List (Nat × Value)} {w:World}
variable {d:Tmp} {op:Op} {ty:TypeId} {ps:String} {af:Array Edge} {g:Option (Nat × Bool)}

theorem built_gen {t:TypeId} {zs vs:List Value} {us:List (List Value)} {pl:List (Nat × Nat)} {ps:List (Nat × Nat × Nat)} (hz:zcells P t=some zs) (hpl:bplace P t=some pl) (hc:CellsAre vs us) (hs:szOk ps us) (hps:plOk pl zs.length ps=true) :
    P.built t ((ps.map (·.1)).zip vs)=some (splices zs ps us).toArray:=by
  have G:=plOk_spec hps
  unfold zcells at hz
  cases hi:P.info? t with
  | none=>simp[hi]at hz
  | some it =>
    cases hzz:it.zero with
    | none=>simp[hi,hzz]at hz
    | some z =>
      simp only[hi,hzz,Option.some.injEq]at hz
      have D:z.cells=zs.toArray:=by rw[← hz]
      unfold bplace at hpl
      unfold Program.built
      cases hu:P.underlying t with
      | none=>simp[hu]at hpl
      | some d =>
        cases d <;> try (simp[hu]at hpl;done)
        case array m e =>
          cases hie:P.info? e with
          | none=>simp[hu,hie]at hpl
          | some ie =>
            simp only[hu,hie,Option.some.injEq]at hpl
            simp only[hi,hzz,hie,D]
            refine fill_gen ps vs us zs hc hs (fun p C=>?_)
            obtain⟨B,E⟩:=G p C
            rw[← hpl,List.getElem?_map]at B
            have H:(List.range m)[p.1]? = some p.1:=by
              cases hq:(List.range m)[p.1]? with
              | none=>rw[hq]at B;simp at B
              | some q=>have:=List.getElem?_eq_some_iff.1 hq;obtain⟨I,F⟩:=this;simp at F;rw[← F]
            rw[H]at B
            simp only[Option.map_some,Option.some.injEq,Prod.mk.injEq]at B
            exact⟨by rw[B.1,B.2],E⟩
        case struct fields =>
          simp only[hu]at hpl
          simp only[hi,hzz,hpl,D]
          refine fill_gen ps vs us zs hc hs (fun p C=>?_)
          obtain⟨B,E⟩:=G p C
          exact⟨by simpa using B,E⟩
/-- A struct or an array, of parts of any number of cells. -/
theorem r_buildG {t:TypeId} {parts:List (Nat × Operand)} {zs vs cs:List Value} {us:List (List Value)} {pl:List (Nat × Nat)} (ps:List (Nat × Nat × Nat)) {d':Option Tmp} {ps':String} (hz:zcells P t=some zs) (hpl:bplace P t=some pl) (hpp:parts.map (·.1)=ps.map (·.1)) (hev:evs n l (parts.map (·.2))=some vs)
    (hc:CellsAre vs us) (hs:szOk ps us) (hps:plOk pl zs.length ps=true) (hcs:splices zs ps us=cs) :
    RunV P ⟨d',.build t parts.toArray,ty,ps',af,g⟩ (over A D l).eval w (.agg cs.toArray):=by
  have E:=evs_eval (A:=A) (D:=D) hev
  have B:parts.map (fun p=>(p.1,(over A D l).eval p.2))=(ps.map (·.1)).zip vs:=by
    rw[← hpp,← E,List.map_map,List.zip_map']
    rfl
  have C:=built_gen hz hpl hc hs hps
  rw[← B]at C
  have F:=run_build (P:=P) w t (parts.map (fun p=>(p.1,(over A D l).eval p.2))).toArray _ (by simpa using C)
  subst hcs
  simp only[RunV,execOp,List.map_toArray]
  show Sem.run P (do pure (Next.value (← Instr.build t (parts.map fun x=>(x.1,(over A D l).eval x.2)).toArray))) w=_
  simp[F]

def rowAt (sz:Nat):Nat→Nat→List (Nat × Nat × Nat)
  | _,0=>[]
  | i,k+1=>(i,i*sz,sz) :: rowAt sz (i+1) k
def AllLen (sz:Nat):List (List Value)→Prop
  | []=>True
  | u :: us=>u.length=sz∧AllLen sz us
theorem rowAt_sz {sz:Nat}:∀(us:List (List Value)) (i:Nat),AllLen sz us→szOk (rowAt sz i us.length) us
  | [],_,_=>trivial
  | _ :: us,i,h=>⟨h.1,rowAt_sz us (i+1) h.2⟩
theorem mem_rowAt {sz:Nat} {p:Nat × Nat × Nat}:∀{i k:Nat},p∈rowAt sz i k→p.2.1=p.1*sz∧p.2.2=sz∧p.1<i+k
  | _,0,h=>by cases h
  | i,k+1,h=>by
    rcases List.mem_cons.1 h with rfl|h
    · exact⟨rfl,rfl,by simp⟩
    · have:=mem_rowAt h;omega
theorem splices_row {sz:Nat}:∀(us:List (List Value)) (i:Nat) (pre cs:List Value),AllLen sz us→pre.length=i*sz→cs.length=us.length*sz→splices (pre ++ cs) (rowAt sz i us.length) us=pre ++ us.flatten
  | [],i,pre,cs,_,_,h=>by
    have:cs=[]:=List.eq_nil_of_length_eq_zero (by simpa using h)
    subst this;simp[rowAt,splices]
  | u :: us,i,pre,cs,h,hp,hc=>by
    simp only[List.length_cons,rowAt,splices]
    have hc':cs.length=sz+us.length*sz:=by simpa [Nat.succ_mul,Nat.add_comm]using hc
    have e:splice (pre ++ cs) (i*sz) u=(pre ++ u) ++ cs.drop sz:=by
      simp only[splice,← hp,h.1]
      rw[List.take_left,List.drop_append,List.drop_of_length_le (Nat.le_add_right _ _),Nat.add_sub_cancel_left]
      simp
    rw[e,splices_row us (i+1) (pre ++ u) (cs.drop sz) h.2 (by simp[hp,h.1,Nat.succ_mul]) (by simp;omega)]
    simp
/-- []T{x, y, ..}, all given. -/
theorem st_buildSliceG {t e:TypeId} {m sz by':Nat} {parts:List (Nat × Operand)} {vs:List Value} (us:List (List Value)) (ht:P.underlying t=some (.slice e)) (hE:elT P e sz by'=true) (hsz:0<sz) (hm:m*sz≤16777216) (hpp:parts.map (·.1)=(rowAt sz 0 m).map (·.1)) (hev:evs n l (parts.map (·.2))=some vs)
    (hc:CellsAre vs us) (hl:AllLen sz us) (hlen:us.length=m) (h0:m≠0)
    (k:∀b w',w.heap.size≤b→b<w'.heap.size→Md [] w w'→Blk w' b us.flatten e→wpList P ops Q rest (over A D ((d,.slice (some ⟨b,0,none⟩) m m) :: l)) w') :
    wpList P ops Q (⟨some d,.buildSlice t m parts.toArray,ty,ps,af,none⟩ :: rest) (over A D l) w:=by
  refine wl_plain rfl ?_
  obtain⟨i,z,K,R,O,T,S⟩:=elT_spec hE
  have M:=evs_eval (A:=A) (D:=D) hev
  have G:parts.map (fun p=>(p.1,(over A D l).eval p.2))=((rowAt sz 0 m).map (·.1)).zip vs:=by
    rw[← hpp,← M,List.map_map,List.zip_map']
    rfl
  have B:∀C:List Value,C.length=m*sz→Instr.fill (fun i=>some (i*sz,sz)) C.toArray (((rowAt sz 0 m).map (·.1)).zip vs)=some us.flatten.toArray:=by
    intro C E
    have:=fill_gen (place:=fun i=>some (i*sz,sz)) (rowAt sz 0 m) vs us C hc (by rw[← hlen];exact rowAt_sz us 0 hl) (fun p N=>by
      have h:=mem_rowAt N
      refine⟨by rw[h.1,h.2.1],?_⟩
      rw[h.1,h.2.1,E,← Nat.succ_mul]
      exact Nat.mul_le_mul_right _ (by omega))
    have H:=splices_row us 0 [] C hl (by simp) (by rw[E,hlen])
    simp only[List.nil_append]at H
    rw[hlen]at H
    rw[this,H]
  have J:¬(m*sz=0):=Nat.mul_ne_zero h0 (by omega)
  have F:(execOp (over A D l).eval ⟨some d,.buildSlice t m parts.toArray,ty,ps,af,none⟩).run P w = .ok (.value (.slice (some ⟨w.heap.size,0,none⟩) m m)) (w.alloc (.cells us.flatten.toArray e)):=by
    show Sem.run P (do pure (Next.value (← Instr.buildSlice t m ((parts.toArray).map fun x=>(x.1,(over A D l).eval x.2))))) w=_
    rw[List.map_toArray,G]
    have I:((List.range (m*sz)).map fun x=>(z.cells)[x%z.cells.size]!).length=m*sz:=by simp
    have:=B _ I
    simp only[Instr.buildSlice,Sem.run_bind,run_underlying ht,Result.andThen_ok,run_sizeOf K,O]
    have L:Array.map (fun x=>z.cells[x%z.cells.size]!) (Array.range (m*sz))=((List.range (m*sz)).map fun x=>(z.cells)[x%z.cells.size]!).toArray:=by
      apply Array.ext'
      simp
    simp only[show ¬(m*sz > 2 ^ 24)from by omega,if_neg J,if_false]
    simp[zeroValue,typeInfo,K,R,newRow]
    rw[L,this]
    simp
  unfold Oper.wp
  rw[F]
  exact k _ _ (Nat.le_refl _) (by simp) (Md.alloc w _) (Blk.new w us.flatten e)
/-! rows of the run's own -/
theorem Own.blk {e:TypeId} {sz m:Nat} {v:Value} {cs:List Value} (h:Own w e sz v m cs) (h0:0<m):∃b cap cur,v = .slice (some ⟨b,0,none⟩) m cap∧Blk w b cur e∧m≤cap∧cap≤maxLen∧cur.length=cap*sz∧cur.take (m*sz)=cs:=by
  rcases h.2 with⟨rfl,rfl⟩|⟨g,cap,cur,rfl,F,B,C,A,D,E⟩
  · omega
  · exact⟨g,cap,cur.toList,rfl,B,C,A,by simpa using D,E⟩
theorem Own.of_blk {e:TypeId} {sz m b cap:Nat} {cur:List Value} (hB:Blk w b cur e) (h1:m≤cap) (h2:cap≤maxLen) (h3:cur.length=cap*sz):Own w e sz (.slice (some ⟨b,0,none⟩) m cap) m (cur.take (m*sz)):=by
  refine⟨by rw[List.length_take,h3];exact Nat.min_eq_left (Nat.mul_le_mul_right _ h1),.inr ⟨b,cap,cur.toArray,rfl,Nat.zero_le _,hB,h1,h2,by simpa using h3,by simp⟩⟩
variable {α:Type} {T:Dt α} {R R':Nat→Prop}
/-- What can be read of a row: its block may be one that is written. -/
def Lz (T:Dt α) (w:World) (Q:Nat→Prop) (v:Value) (xs:List α):Prop :=
  ∃a cap cs,v = .slice a xs.length cap∧xs.length≤cap∧cap≤maxLen∧(a=none→cap=0)∧(∀p,a=some p→∀j u,cs[j]? = some u→w.cell? (p.add j)=some u)∧Els T w Q cs xs
theorem Ls.lz {v:Value} {xs:List α} (h:Ls T w R v xs):Lz T w R v xs:=by
  obtain⟨a,A,B,C,D,E,F,I,G,H⟩:=h
  exact⟨a,A,B,C,D,E,F,G,H⟩
/-- append(x, y...): x the run's own. -/
theorem st_apZ {x y:Operand} {t e:TypeId} {sz by':Nat} {lo:Nat→Prop} {v u:Value} {xs ys:List α} (hn:T.n=sz) (ht:P.underlying t=some (.slice e)) (hE:elT P e sz by'=true) (hx:ev n l x=some v) (hy:ev n l y=some u)
    (hO:Ow T e lo w R v xs) (hY:Lz T w R u ys) (uR:Up w R) (hlo:∀b,w.heap.size≤b→lo b) (h63:xs.length+ys.length≤9223372036854775807) (hbytes:(xs.length+ys.length)*by'≤140737488355328)
    (k:∀v' w' R'',(∀b,R b→b<w.heap.size→R'' b)→(∀b,R'' b→R b)→Up w' R''→Ow T e lo w' R'' v' (xs ++ ys)→Md (vblock v).toList w w'→(∀b∈(vblock v).toList,¬R'' b)→(∀b,vblock v=some b→b<w.heap.size) →
      (∀b,vblock v'=some b→vblock v=some b∨w.heap.size≤b)→wpList P ops Q rest (over A D ((d,v') :: l)) w') :
    wpList P ops Q (⟨some d,.call {callee:=.builtin .append,args:=#[x,y],argTypes:=#[t,t]},ty,ps,af,none⟩ :: rest) (over A D l) w:=by
  subst hn
  refine wl_plain rfl ?_
  obtain⟨a,H,I,rfl,Z,f,S,W,L⟩:=hY
  have hO':=hO
  obtain⟨⟨O,U,K⟩,C⟩:=hO'
  obtain⟨v',w',X,V,G,Y,J⟩:=run_append_ex (P:=P) (w:=w) (ty':=ty) ht hE T.pos U (a:=a) (k:=ys.length) (c:=H) (news:=I) L.len (fun h=>⟨by have:=S h;omega,S h⟩) W L.one (by simpa [maxLen]using h63) hbytes
  have F:(execOp (over A D l).eval ⟨some d,.call {callee:=.builtin .append,args:=#[x,y],argTypes:=#[t,t]},ty,ps,af,none⟩).run P w = .ok (.value v') w':=by
    simp[execOp,resolve,invoke,builtin,ev_eval hx,ev_eval hy,X]
  unfold Oper.wp
  rw[F]
  have N:∀b,R b→b<w.heap.size→(R b∧vblock v'≠some b):=fun b B g=>⟨B,fun E=>by
    rcases J b E with h|h
    · exact(C b h).2 B
    · omega⟩
  have hn:∀b∈(vblock v).toList,¬(R b∧vblock v'≠some b):=fun b B M=>by
    cases E:vblock v with
    | none=>rw[E]at B;simp at B
    | some c=>rw[E]at B;simp at B;subst B;exact(C _ E).2 M.1
  have g1':Own w' e T.n v' (xs ++ ys).length (O ++ I):=by simpa using V
  refine k v' w' (fun b=>R b∧vblock v'≠some b) N (fun b B=>B.1) (fun b B=>⟨uR b (lv G.size B),fun E=>by have:=g1'.lt b E;omega⟩) ⟨⟨O ++ I,g1',?_⟩,fun b B=>⟨?_,fun M=>M.2 B⟩⟩ G hn U.lt J
  · exact((K.sub N).md G hn).append ((L.sub N).md G hn)
  · rcases J b B with h|h
    · exact(C b h).1
    · exact hlo b h
theorem st_ap {x y:Operand} {t e:TypeId} {sz by':Nat} {lo:Nat→Prop} {v u:Value} {xs ys:List α} (hn:T.n=sz) (ht:P.underlying t=some (.slice e)) (hE:elT P e sz by'=true) (hx:ev n l x=some v) (hy:ev n l y=some u)
    (hO:Ow T e lo w R v xs) (hY:Ls T w R' u ys) (hR:∀b,R' b→b<w.heap.size→R b) (uR:Up w R) (hlo:∀b,w.heap.size≤b→lo b) (h63:xs.length+ys.length≤9223372036854775807) (hbytes:(xs.length+ys.length)*by'≤140737488355328)
    (k:∀v' w' R'',(∀b,R b→b<w.heap.size→R'' b)→(∀b,R'' b→R b)→Up w' R''→Ow T e lo w' R'' v' (xs ++ ys)→Md (vblock v).toList w w'→(∀b∈(vblock v).toList,¬R'' b)→(∀b,vblock v=some b→b<w.heap.size) →
      (∀b,vblock v'=some b→vblock v=some b∨w.heap.size≤b)→wpList P ops Q rest (over A D ((d,v') :: l)) w') :
    wpList P ops Q (⟨some d,.call {callee:=.builtin .append,args:=#[x,y],argTypes:=#[t,t]},ty,ps,af,none⟩ :: rest) (over A D l) w :=
  st_apZ hn ht hE hx hy hO (hY.sub hR).lz uR hlo h63 hbytes k
theorem Ow.into {e:TypeId} {lo:Nat→Prop} {i:Nat} {v:Value} {xs:List α} {c:List Value} {z:α} (hO:Ow T e lo w R v xs) (hz:T.rep w R c z) (hi:i<xs.length) :
    ∃b cap cur,v = .slice (some ⟨b,0,none⟩) xs.length cap∧Blk w b cur e∧i*T.n+c.length≤cur.length∧¬R b∧∀w',Md [b] w w'→Blk w' b (splice cur (i*T.n) c) e→Ow T e lo w' R v (xs.set i z):=by
  obtain⟨⟨G,P,C⟩,A⟩:=hO
  obtain⟨b,cap,cur,rfl,Q,H,N,I,O⟩:=P.blk (by omega)
  have D:=T.len hz
  have K:i*T.n+T.n≤xs.length*T.n:=by rw[← Nat.succ_mul];exact Nat.mul_le_mul_right _ hi
  have E:xs.length*T.n≤cur.length:=by rw[I];exact Nat.mul_le_mul_right _ H
  have J:∀F∈[b],¬R F:=fun F B=>by simp at B;subst B;exact(A _ rfl).2
  refine⟨b,cap,cur,rfl,Q,by omega,(A _ rfl).2,fun w' L B=>⟨⟨(splice cur (i*T.n) c).take (xs.length*T.n),by simpa using Own.of_blk (m:=xs.length) B H N (by rw[splice_len (by omega),I]),?_⟩,A⟩⟩
  have M:(splice cur (i*T.n) c).take (xs.length*T.n)=G.take (i*T.n) ++ c ++ G.drop (i*T.n+T.n):=by
    unfold splice
    rw[D,← O,List.take_append,List.take_of_length_le (by simp;omega),List.take_take,Nat.min_eq_left (by omega),List.drop_take]
    congr 2
    simp
    omega
  rw[M]
  exact(C.md L J).set (T.md hz L J) hi
/-- x[i] = y, elements of more cells, x the run's own. -/
theorem st_storeOwA {x y:Operand} {t e:TypeId} {lo:Nat→Prop} {i k:Nat} {v:Value} {xs:List α} {c:List Value} {z:α} (hk:k=i*T.n) (hx:ev n l x=some (elemp v k)) (hy:ev n l y=some (.agg c.toArray)) (hT:isAggN P t c.length=true)
    (hO:Ow T e lo w R v xs) (hz:T.rep w R c z) (hi:i<xs.length)
    (kk:∀w',Md (vblock v).toList w w'→(∀b∈(vblock v).toList,¬R b)→Ow T e lo w' R v (xs.set i z)→wpList P ops Q rest (over A D l) w') :
    wpList P ops Q (⟨none,.store t x y,ty,ps,af,none⟩ :: rest) (over A D l) w:=by
  subst hk
  obtain⟨b,E,F,rfl,J,G,H,I⟩:=hO.into hz hi
  refine st_storeAgg (b:=b) (j:=i*T.n) (by rw[hx];simp[elemp,Addr.add_mk]) hy hT (T.one hz) J G fun w' C K=>?_
  exact kk w' (by simpa [vblock]using C) (fun L B=>by simp[vblock]at B;subst B;exact H) (I w' C K)
theorem Ls.of_blk {e:TypeId} {b m:Nat} {cs:List Value} {xs:List α} (hB:Blk w b cs e) (hE:Els T w R cs xs) (hm:xs.length=m) (h2:m≤maxLen) (hR:R b):Ls T w R (.slice (some ⟨b,0,none⟩) m m) xs:=by
  subst hm
  exact⟨_,_,cs,rfl,Nat.le_refl _,h2,by simp,fun p B _=>by cases B;exact hR,fun p B j u C=>by cases B;rw[Addr.add_mk,Nat.zero_add,hB.cell];exact C,hE⟩
/-- A built slice goes on as the run's own. -/
theorem Ow.of_blk {e:TypeId} {lo:Nat→Prop} {b m:Nat} {cs:List Value} {xs:List α} (hB:Blk w b cs e) (hE:Els T w R cs xs) (hm:xs.length=m) (h2:m≤maxLen) (hlo:lo b) (hR:¬R b):Ow T e lo w R (.slice (some ⟨b,0,none⟩) m m) xs:=by
  subst hm
  have B:=hE.len
  have:=Own.of_blk (sz:=T.n) (m:=xs.length) hB (Nat.le_refl _) h2 B
  rw[← B,List.take_length]at this
  exact⟨⟨cs,this,hE⟩,fun C A=>by simp[vblock]at A;subst A;exact⟨hlo,hR⟩⟩
/-- []T{} -/
theorem st_build0 {t e:TypeId} {sz by':Nat} (ht:P.underlying t=some (.slice e)) (hE:elT P e sz by'=true)
    (k:∀b w',w.heap.size≤b→b<w'.heap.size→Md [] w w'→Blk w' b [] e→wpList P ops Q rest (over A D ((d,.slice (some ⟨b,0,none⟩) 0 0) :: l)) w') :
    wpList P ops Q (⟨some d,.buildSlice t 0 #[],ty,ps,af,none⟩ :: rest) (over A D l) w:=by
  refine wl_plain rfl ?_
  obtain⟨i,z,E,I,H,G,F⟩:=elT_spec hE
  have B:(execOp (over A D l).eval ⟨some d,.buildSlice t 0 #[],ty,ps,af,none⟩).run P w = .ok (.value (.slice (some ⟨w.heap.size,0,none⟩) 0 0)) (w.alloc (.cells ([]:List Value).toArray e)):=by
    show Sem.run P (do pure (Next.value (← Instr.buildSlice t 0 ((#[]:Array (Nat × Operand)).map fun x=>(x.1,(over A D l).eval x.2))))) w=_
    have C:(Array.map (fun x=>(default:Value)) (Array.range 0)) = #[]:=by simp[Array.range]
    simp[Instr.buildSlice,run_underlying ht,run_sizeOf E,Instr.fill,newRow,C]
  unfold Oper.wp
  rw[B]
  exact k _ _ (Nat.le_refl _) (by simp) (Md.alloc w _) (Blk.new w [] e)
theorem made_reps (zc:List Value) (m:Nat) (h0:0<zc.length):(madeCells zc.toArray (m*zc.length)).toList=(List.replicate m zc).flatten:=by
  induction m with
  | zero=>simp[madeCells]
  | succ m ih =>
    rw[List.replicate_succ',List.flatten_append,← ih]
    simp only[madeCells,List.flatten_cons,List.flatten_nil,List.append_nil]
    apply List.ext_getElem
    · simp[Nat.succ_mul]
    · intro j B C
      simp at B C
      by_cases hj:j<m*zc.length
      · rw[List.getElem_append_left (by simpa using hj)];simp
      · rw[List.getElem_append_right (by simpa using hj)]
        simp only[Array.toList_map,Array.toList_range,List.getElem_map,List.getElem_range,List.length_map,List.length_range]
        have e:j%zc.length=j-m*zc.length:=by
          rw[show j=(j-m*zc.length)+m*zc.length by omega,Nat.add_mul_mod_self_right,Nat.add_sub_cancel]
          exact Nat.mod_eq_of_lt (by omega)
        have A:j-m*zc.length<zc.length:=by omega
        simp[e,A]
theorem els_reps {zc:List Value} {z:α} (m:Nat) (h:∀w R,T.rep w R zc z):Els T w R (List.replicate m zc).flatten (List.replicate m z):=by
  induction m with
  | zero=>rfl
  | succ m ih=>exact⟨zc,_,by simp[List.replicate_succ],h _ _,ih⟩
/-- make([]T, m) -/
theorem st_mkG {x:Operand} {t e:TypeId} {sz by' m:Nat} {kd:IntKind} {lo:Nat→Prop} {z:α} {zs:List Value} (hn:T.n=sz) (ht:P.underlying t=some (.slice e)) (hE:elT P e sz by'=true) (hz:zcells P e=some zs) (hx:ev n l x=some (.int kd (m:Int)))
    (hrep:∀w R,T.rep w R zs z) (uR:Up w R) (hlo:∀b,w.heap.size≤b→lo b) (hm:m≤9223372036854775807∧m*by'≤140737488355328)
    (k:∀v' w' R'',(∀b,R b→b<w.heap.size→R'' b)→(∀b,R'' b→R b)→Up w' R''→Ow T e lo w' R'' v' (List.replicate m z)→Md [] w w'→(∀b,vblock v'=some b→w.heap.size≤b)→wpList P ops Q rest (over A D ((d,v') :: l)) w') :
    wpList P ops Q (⟨some d,.makeSlice t x x,ty,ps,af,none⟩ :: rest) (over A D l) w:=by
  subst hn
  refine wl_plain rfl ?_
  obtain⟨i,M,K,G,S,B,V⟩:=elT_spec hE
  have J:M.cells=zs.toArray:=by
    unfold zcells at hz
    simp only[K,G,Option.some.injEq]at hz
    rw[← hz]
  have H:zs.length=T.n:=T.len (hrep w R)
  obtain⟨w',O,L,E⟩:=run_make_full (P:=P) w 0 t e i M T.n ht K G S kd kd m (by rw[B];have:=hm.2;rw[Nat.mul_comm]at this;omega) (by simp only[maxLen];exact hm.1) (Nat.zero_le _)
  have F:(execOp (over A D l).eval ⟨some d,.makeSlice t x x,ty,ps,af,none⟩).run P w = .ok (.value (.slice (some ⟨w.heap.size,0,none⟩) m m)) w':=by
    simp[execOp,ev_eval hx,O]
  unfold Oper.wp
  rw[F]
  have C:Own w' e T.n (.slice (some ⟨w.heap.size,0,none⟩) m m) (List.replicate m z).length (List.replicate m zs).flatten:=by
    rw[J,← H,made_reps zs m (by rw[H];exact T.pos)]at L
    rw[← H]
    simpa [Own]using L
  have U:w.heap.size<w'.heap.size:=Own.lt C _ rfl
  have I:w.heap.size≤w'.heap.size:=E.size
  refine k _ _ (fun b=>R b∧b≠w.heap.size) (fun b B H=>⟨B,by omega⟩) (fun b B=>B.1) (fun b B=>⟨uR b (by omega),by omega⟩) ⟨⟨_,C,els_reps m hrep⟩,fun b B=>?_⟩ ⟨E.os,E.tape,E.output,E.size,fun k hk _=>E.block k hk (by simp)⟩ (fun b B=>?_)
  · simp[vblock]at B;subst B;exact⟨hlo _ (Nat.le_refl _),fun N=>N.2 rfl⟩
  · have hb':w.heap.size=b:=by simpa [vblock]using B
    omega
theorem Ls.of_seg {β:Type} {f:β→Value} {h1:∀x,(f x).oneCell'=true} {ok:β→Prop} {b o m:Nat} {cs:List Value} {ty':TypeId} {xs:List β} (hB:Blk w b cs ty') (hR:R b) (hm:xs.length=m) (h2:m≤maxLen) (hc:(cs.drop o).take m=xs.map f) (ho:∀x∈xs,ok x):Ls (tOne f h1 ok) w R (.slice (some ⟨b,o,none⟩) m m) xs:=by
  subst hm
  refine⟨_,_,xs.map f,rfl,Nat.le_refl _,h2,by simp,fun p B _=>by cases B;exact hR,fun p B j u A=>?_,els_one ho⟩
  cases B
  rw[Addr.add_mk,hB.cell]
  rw[← hc,List.getElem?_take]at A
  split at A
  · rw[List.getElem?_drop]at A;exact A
  · cases A
end
end Go.Wk
namespace Go.Wk
open Go Go.RowKit
section
variable {P:Program} {Q:Exit→Act→World→Prop} {n:Nat} {A:Fr n} {D:List Deferred} {l:List (Nat × Value)} {w:World}

def Next1 {X0:Type} (n:Nat) (D:List Deferred) (inv:X0→List (Nat × Value)) (W:X0→World→Prop) (mu:X0→Nat) (m:Nat) (a:Act) (w:World):Prop :=
  ∃y0:X0,∃B:Fr n,a=over B D (inv y0)∧W y0 w∧mu y0<m
theorem loop1 {X0:Type} {c:Code} (inv:X0→List (Nat × Value)) (W:X0→World→Prop) (mu:X0→Nat) (x0:X0) (h0:Fits n l (inv x0)) (hw:W x0 w)
    (round:∀(x0:X0) (B:Fr n) (w':World),W x0 w'→c.wp P (Exit.then (Next1 n D inv W mu (mu x0)) Q) (over B D (inv x0)) w') :
    (Code.loop c).wp P Q (over A D l) w:=by
  refine c_loop (X:=X0) (fun p=>inv p) (fun p w=>W p w) (fun p=>mu p) x0 h0 hw (fun p B w' h=>wp_mono (round p B w' h) ?_)
  intro e I J h
  cases e with
  | normal=>obtain⟨H,C,E,F,G⟩:=h;exact⟨H,C,E,F,G⟩
  | _=>exact h
theorem next1 {X0:Type} {inv:X0→List (Nat × Value)} {W:X0→World→Prop} {mu:X0→Nat} {m:Nat} (x0:X0) (hm:mu x0<m) (hf:Fits n l (inv x0)) (hw:W x0 w) :
    Next1 n D inv W mu m (over A D l) w:=⟨x0,_,(over_fits (A:=A) (D:=D) hf).symm,hw,hm⟩

def Next2 {X0 X1:Type} (n:Nat) (D:List Deferred) (inv:X0→X1→List (Nat × Value)) (W:X0→X1→World→Prop) (mu:X0→X1→Nat) (m:Nat) (a:Act) (w:World):Prop :=
  ∃y0:X0,∃y1:X1,∃B:Fr n,a=over B D (inv y0 y1)∧W y0 y1 w∧mu y0 y1<m
theorem loop2 {X0 X1:Type} {c:Code} (inv:X0→X1→List (Nat × Value)) (W:X0→X1→World→Prop) (mu:X0→X1→Nat) (x0:X0) (x1:X1) (h0:Fits n l (inv x0 x1)) (hw:W x0 x1 w)
    (round:∀(x0:X0) (x1:X1) (B:Fr n) (w':World),W x0 x1 w'→c.wp P (Exit.then (Next2 n D inv W mu (mu x0 x1)) Q) (over B D (inv x0 x1)) w') :
    (Code.loop c).wp P Q (over A D l) w:=by
  refine c_loop (X:=X0 × X1) (fun p=>inv p.1 p.2) (fun p w=>W p.1 p.2 w) (fun p=>mu p.1 p.2) (x0,x1) h0 hw (fun p B w' h=>wp_mono (round (p.1) (p.2) B w' h) ?_)
  intro e J K h
  cases e with
  | normal=>obtain⟨H,I,C,E,F,G⟩:=h;exact⟨(H,I),C,E,F,G⟩
  | _=>exact h
theorem next2 {X0 X1:Type} {inv:X0→X1→List (Nat × Value)} {W:X0→X1→World→Prop} {mu:X0→X1→Nat} {m:Nat} (x0:X0) (x1:X1) (hm:mu x0 x1<m) (hf:Fits n l (inv x0 x1)) (hw:W x0 x1 w) :
    Next2 n D inv W mu m (over A D l) w:=⟨x0,x1,_,(over_fits (A:=A) (D:=D) hf).symm,hw,hm⟩

def Next3 {X0 X1 X2:Type} (n:Nat) (D:List Deferred) (inv:X0→X1→X2→List (Nat × Value)) (W:X0→X1→X2→World→Prop) (mu:X0→X1→X2→Nat) (m:Nat) (a:Act) (w:World):Prop :=
  ∃y0:X0,∃y1:X1,∃y2:X2,∃B:Fr n,a=over B D (inv y0 y1 y2)∧W y0 y1 y2 w∧mu y0 y1 y2<m
theorem loop3 {X0 X1 X2:Type} {c:Code} (inv:X0→X1→X2→List (Nat × Value)) (W:X0→X1→X2→World→Prop) (mu:X0→X1→X2→Nat) (x0:X0) (x1:X1) (x2:X2) (h0:Fits n l (inv x0 x1 x2)) (hw:W x0 x1 x2 w)
    (round:∀(x0:X0) (x1:X1) (x2:X2) (B:Fr n) (w':World),W x0 x1 x2 w'→c.wp P (Exit.then (Next3 n D inv W mu (mu x0 x1 x2)) Q) (over B D (inv x0 x1 x2)) w') :
    (Code.loop c).wp P Q (over A D l) w:=by
  refine c_loop (X:=X0 × X1 × X2) (fun p=>inv p.1 p.2.1 p.2.2) (fun p w=>W p.1 p.2.1 p.2.2 w) (fun p=>mu p.1 p.2.1 p.2.2) (x0,x1,x2) h0 hw (fun p B w' h=>wp_mono (round (p.1) (p.2.1) (p.2.2) B w' h) ?_)
  intro e K L h
  cases e with
  | normal=>obtain⟨H,I,J,C,E,F,G⟩:=h;exact⟨(H,I,J),C,E,F,G⟩
  | _=>exact h
theorem next3 {X0 X1 X2:Type} {inv:X0→X1→X2→List (Nat × Value)} {W:X0→X1→X2→World→Prop} {mu:X0→X1→X2→Nat} {m:Nat} (x0:X0) (x1:X1) (x2:X2) (hm:mu x0 x1 x2<m) (hf:Fits n l (inv x0 x1 x2)) (hw:W x0 x1 x2 w) :
    Next3 n D inv W mu m (over A D l) w:=⟨x0,x1,x2,_,(over_fits (A:=A) (D:=D) hf).symm,hw,hm⟩

def Next5 {X0 X1 X2 X3 X4:Type} (n:Nat) (D:List Deferred) (inv:X0→X1→X2→X3→X4→List (Nat × Value)) (W:X0→X1→X2→X3→X4→World→Prop) (mu:X0→X1→X2→X3→X4→Nat) (m:Nat) (a:Act) (w:World):Prop :=
  ∃y0:X0,∃y1:X1,∃y2:X2,∃y3:X3,∃y4:X4,∃B:Fr n,a=over B D (inv y0 y1 y2 y3 y4)∧W y0 y1 y2 y3 y4 w∧mu y0 y1 y2 y3 y4<m
theorem loop5 {X0 X1 X2 X3 X4:Type} {c:Code} (inv:X0→X1→X2→X3→X4→List (Nat × Value)) (W:X0→X1→X2→X3→X4→World→Prop) (mu:X0→X1→X2→X3→X4→Nat) (x0:X0) (x1:X1) (x2:X2) (x3:X3) (x4:X4) (h0:Fits n l (inv x0 x1 x2 x3 x4)) (hw:W x0 x1 x2 x3 x4 w)
    (round:∀(x0:X0) (x1:X1) (x2:X2) (x3:X3) (x4:X4) (B:Fr n) (w':World),W x0 x1 x2 x3 x4 w'→c.wp P (Exit.then (Next5 n D inv W mu (mu x0 x1 x2 x3 x4)) Q) (over B D (inv x0 x1 x2 x3 x4)) w') :
    (Code.loop c).wp P Q (over A D l) w:=by
  refine c_loop (X:=X0 × X1 × X2 × X3 × X4) (fun p=>inv p.1 p.2.1 p.2.2.1 p.2.2.2.1 p.2.2.2.2) (fun p w=>W p.1 p.2.1 p.2.2.1 p.2.2.2.1 p.2.2.2.2 w) (fun p=>mu p.1 p.2.1 p.2.2.1 p.2.2.2.1 p.2.2.2.2) (x0,x1,x2,x3,x4) h0 hw (fun p B w' h=>wp_mono (round (p.1) (p.2.1) (p.2.2.1) (p.2.2.2.1) (p.2.2.2.2) B w' h) ?_)
  intro e M N h
  cases e with
  | normal=>obtain⟨H,I,J,K,L,C,E,F,G⟩:=h;exact⟨(H,I,J,K,L),C,E,F,G⟩
  | _=>exact h
theorem next5 {X0 X1 X2 X3 X4:Type} {inv:X0→X1→X2→X3→X4→List (Nat × Value)} {W:X0→X1→X2→X3→X4→World→Prop} {mu:X0→X1→X2→X3→X4→Nat} {m:Nat} (x0:X0) (x1:X1) (x2:X2) (x3:X3) (x4:X4) (hm:mu x0 x1 x2 x3 x4<m) (hf:Fits n l (inv x0 x1 x2 x3 x4)) (hw:W x0 x1 x2 x3 x4 w) :
    Next5 n D inv W mu m (over A D l) w:=⟨x0,x1,x2,x3,x4,_,(over_fits (A:=A) (D:=D) hf).symm,hw,hm⟩

/-! returns -/
def ResIs (P:Program) (w:World) (n:Nat) (l:List (Nat × Value)):List ResultVar→List Value→Prop
  | [],[]=>True
  | .tmp t :: r,v :: vs=>ev n l (.tmp t)=some v∧ResIs P w n l r vs
  | .cell t ty :: r,v :: vs=>(∃p,ev n l (.tmp t)=some (.pointer (some p))∧(loadVar ty p).run P w = .ok v w)∧ResIs P w n l r vs
  | _,_=>False
theorem results_run {fn:Func} {rs:List ResultVar} {vs:List Value} (hr:fn.results=rs.toArray) (h:ResIs P w n l rs vs) :
    (results fn (over A D l).tmps).run P w = .ok (if h:vs.length=1 then vs[0]else .tuple vs.toArray) w:=by
  have F:∀(rs:List ResultVar) (vs:List Value),ResIs P w n l rs vs→(rs.mapM (fun x:ResultVar=>(match x with
      | .tmp t=>pure ((over A D l).tmps.getD t undef)
      | .cell a t=>do loadVar t (← asAddr ((over A D l).tmps.getD a undef)):Sem Value))).run P w = .ok vs w:=by
    intro rs
    induction rs with
    | nil=>intro vs h;cases vs with
      | nil=>simp
      | cons v vs=>simp[ResIs]at h
    | cons r rs ih =>
      intro vs h
      cases vs with
      | nil=>cases r <;> simp[ResIs]at h
      | cons v vs =>
        cases r with
        | tmp t =>
          obtain⟨B,C⟩:=h
          have E:=getD_of (A:=A) (D:=D) B
          simp only[List.mapM_cons,Sem.run_bind,Sem.run_pure,Result.andThen_ok,ih vs C,E]
        | cell t ty =>
          obtain⟨⟨p,B,H⟩,C⟩:=h
          have E:=getD_of (A:=A) (D:=D) B
          have I:(asAddr (.pointer (some p))).run P w = .ok p w:=by simp[asAddr]
          simp only[List.mapM_cons,Sem.run_bind,Sem.run_pure,Result.andThen_ok,ih vs C,E,I,H]
  have:=F rs vs h
  unfold results
  rw[hr]
  simp only[List.mapM_toArray,Sem.run_bind,Sem.run_map]
  rw[show(fun x:ResultVar=>(match x with
      | .tmp t=>pure ((over A D l).tmps.getD t undef)
      | .cell a t=>do loadVar t (← asAddr ((over A D l).tmps.getD a undef)):Sem Value))=_ from rfl]at this
  refine Eq.trans (congrArg (fun r:Result (List Value)=>(r.andThen fun a G=>Result.ok a.toArray G).andThen fun a G=>Sem.run P (pure (if h:a.size=1 then a[0]else Value.tuple a)) G) this) ?_
  simp
theorem retL {fn:Func} {R:Ending→World→Prop} {e:Exit} {rs:List ResultVar} {vs:List Value} (he:isEnd e) (hr:fn.results=rs.toArray) (h:ResIs P w n l rs vs) (hl:Nat.beq vs.length 1=false) (hR:R (.returned (.tuple vs.toArray)) w):bodyPost P fn R e (over A [] l) w :=
  bp he over_defers (results_run (A:=A) (D:=[]) hr h) (by rw[dif_neg (by intro hh;rw[hh]at hl;cases hl)];exact hR)
theorem ret1L {fn:Func} {R:Ending→World→Prop} {e:Exit} {rs:List ResultVar} {v:Value} (he:isEnd e) (hr:fn.results=rs.toArray) (h:ResIs P w n l rs [v]) (hR:R (.returned v) w):bodyPost P fn R e (over A [] l) w :=
  bp he over_defers (results_run (A:=A) (D:=[]) hr h) hR
theorem load_agg {t ty':TypeId} {b:Nat} {cs:List Value} (hT:isAggN P t cs.length=true) (hB:Blk w b cs ty'):(loadVar t ⟨b,0,none⟩).run P w = .ok (.agg cs.toArray) w:=run_loadVar_blk hT hB
end
end Go.Wk
namespace Go.Wk
open Go Go.RowKit Go.ChangeShapes Go.WideShapes Go.ChangeAt Go.Deep

section
variable {H:Type} {enc:TypeId × Value→H} {P:Program} {w:World} {t e:TypeId} {v:Value} {d:DataW H} {ps:List MemPlace}

/-- Each of these values is bytes. -/
def Rows (w:World) (v:Value) (vs:List Value) (ls:List (List UInt8)):Prop:=Sl w v vs∧vs.length=ls.length∧∀(i:Nat) (u:Value) (l:Ly),vs[i]? = some u→ls[i]? = some l→By w u l
end
end Go.Wk
namespace Go.Wk
open Go Go.RowKit

section
variable {P:Program} {ops:Array Oper} {md:Region.Mode} {C:World→Prop} {Q:Exit→Act→World→Prop} {E:Array Bool→Act→World→Prop}

def wpAnyT (P:Program) (md:Region.Mode) (ops:Array Oper) (C:World→Prop) (E:Array Bool→Act→World→Prop):Nat→Array Bool→Act→World→Prop
  | 0,listed,a,w=>E listed a w
  | f+1,listed,a,w=>Region.ready md ops listed≠[]∧∀i∈Region.ready md ops listed,opC P ops C i (wpAnyT P md ops C E f (listed.setIfInBounds i true)) a w

theorem wpAny_of_T {t:Nat} (hE:∀listed a w,E listed a w→wpAny P md ops Q t listed a w):∀(f:Nat) (listed:Array Bool) (a:Act) (w:World),wpAnyT P md ops C E f listed a w→wpAny P md ops Q (f+t) listed a w
  | 0,listed,a,w,h=>by rw[Nat.zero_add];exact hE _ _ _ h
  | f+1,listed,a,w,h=>by
    rw[show f+1+t=(f+t)+1 by omega]
    refine⟨fun h0=>absurd h0 h.1,fun i hi=>?_⟩
    have h1:=h.2 i hi
    unfold opC at h1
    unfold wpOp
    split
    · rename_i ho;rw[ho]at h1;exact wpAny_of_T hE f _ a w h1
    · rename_i o ho
      rw[ho]at h1
      simp only at h1
      split
      · rename_i hw;rw[if_pos hw]at h1;exact .inl (wp_out (fun a' w' hx=>wpAny_of_T hE f _ a' w' hx.2) h1)
      · rename_i hw;rw[if_neg hw]at h1;exact wpAny_of_T hE f _ _ w h1

def Closed (md:Region.Mode) (ops:Array Oper) (listed:Array Bool):Prop:=∀k ok,ops[k]? = some ok→listed.getD k false=true→∀e∈ok.after,Region.binds md e=true→listed.getD e.on false=true
theorem Closed.set {listed:Array Bool} {i:Nat} (h:Closed md ops listed) (hi:i∈Region.ready md ops listed):Closed md ops (listed.setIfInBounds i true):=by
  intro k I hk G e F E
  have B:listed.getD e.on false=true→(listed.setIfInBounds i true).getD e.on false=true:=fun D=>by
    by_cases hei:e.on=i
    · rw[hei]at D ⊢
      rcases Nat.lt_or_ge i listed.size with C|C
      · simp[C]
      · simp[Array.getElem?_eq_none C]at D
    · rw[getD_set_ne false (Ne.symm hei)];exact D
  by_cases hki:k=i
  · subst hki
    obtain⟨_,o,H,A⟩:=mem_ready.1 hi
    rw[hk]at H
    cases H
    exact B (A e F E)
  · rw[getD_set_ne false (Ne.symm hki)]at G
    exact B (h k I hk G e F E)
def reachB (md:Region.Mode) (ops:Array Oper) (i:Nat):Nat→Nat→Bool
  | 0,_=>false
  | f+1,j=>match ops[j]? with
    | some o=>o.after.any fun e=>Region.binds md e && (Nat.beq e.on i || reachB md ops i f e.on)
    | none=>false
theorem reach_spec {i:Nat} {listed:Array Bool} (hC:Closed md ops listed):∀(f j:Nat) (oj:Oper),ops[j]? = some oj→reachB md ops i f j=true→(∀e∈oj.after,Region.binds md e=true→listed.getD e.on false=true)→listed.getD i false=true
  | 0,j,oj,_,h,_=>by simp[reachB]at h
  | f+1,j,oj,hj,h,hall=>by
    simp only[reachB,hj,Array.any_eq_true,Bool.and_eq_true,Bool.or_eq_true]at h
    obtain⟨k,hk,hb,h2⟩:=h
    have hm:oj.after[k]∈oj.after:=Array.getElem_mem hk
    have h3:=hall _ hm hb
    rcases h2 with h2|h2
    · rw[← Nat.eq_of_beq_eq_true h2];exact h3
    · cases ho:ops[oj.after[k].on]? with
      | none=>cases f<;>simp[reachB,ho]at h2
      | some ok=>exact reach_spec hC f _ ok ho h2 (hC _ ok ho h3)
/-- Each operation of the end comes behind i. -/
def Behind (md:Region.Mode) (ops:Array Oper) (tl:List Nat) (i:Nat):Prop:=∀j∈tl,reachB md ops i ops.size j=true
theorem wpAnyT_first {tl:List Nat} {i:Nat} {oi:Oper} {v:Value} (hi:ops[i]? = some oi) (hsel:∀(j:Nat) (o:Oper) cs b,ops[j]? = some o→o.op≠.select cs b)
    (hT:Behind md ops tl i) (hE:∀listed a w,E listed a w→∀j∈Region.ready md ops listed,j∈tl) :
    ∀(f:Nat) (listed:Array Bool) (a:Act) (w:World),
      (∀j oj,ops[j]? = some oj→j≠i→listed.getD j true=false→(∀e∈oj.after,Region.binds md e=true→e.on≠i)→oi.apart ops oj=true) →
      Closed md ops listed→i∈Region.ready md ops listed→C w→Qv P ops C oi v a →
      wpAnyT P md ops C E f (listed.setIfInBounds i true) (a.put oi.dst v) w→wpAnyT P md ops C E (f+1) listed a w:=by
  intro f
  induction f with
  | zero =>
    intro listed a w _ K I S T H
    refine⟨fun h=>(by rw[h]at I;cases I),fun j L=>?_⟩
    by_cases hji:j=i
    · subst hji;exact T.opC hi S H
    · have U:=hE _ _ _ H j (ready_mono L hji)
      obtain⟨_,oj,D,A⟩:=mem_ready.1 L
      have F:=reach_spec K _ j oj D (hT j U) A
      have M:=(mem_ready.1 I).1
      exfalso
      rcases Nat.lt_or_ge i listed.size with J|J
      · simp[J]at M F;rw[M]at F;cases F
      · simp[Array.getElem?_eq_none J]at F
  | succ f ih =>
    intro listed a w B K I S T H
    refine⟨fun h=>(by rw[h]at I;cases I),fun j L=>?_⟩
    by_cases hji:j=i
    · subst hji;exact T.opC hi S H
    · have U:=H.2 j (ready_mono L hji)
      obtain⟨G,oj,D,A⟩:=mem_ready.1 L
      have O:∀e∈oj.after,Region.binds md e=true→e.on≠i:=fun e g W X=>by
        have F:=A e g W
        have M:=(mem_ready.1 I).1
        rw[X]at F
        rcases Nat.lt_or_ge i listed.size with J|J
        · simp[J]at M F;rw[M]at F;cases F
        · simp[Array.getElem?_eq_none J]at F
      have N:=B j oj D hji G O
      obtain⟨_,_,c⟩:=Oper.apart_spec N
      have hfree':∀k R,ops[k]? = some R→k≠i→(listed.setIfInBounds j true).getD k true=false →
          (∀e∈R.after,Region.binds md e=true→e.on≠i)→oi.apart ops R=true:=fun k R hk Y Q Z=>by
        refine B k R hk Y ?_ Z
        by_cases hjk:j=k
        · subst hjk;exact G
        · rw[getD_set_ne true hjk]at Q;exact Q
      refine opC_put D N (fun cs b=>hsel j oj cs b D) (fun b u l W V d=>?_) S U
      refine ih (listed.setIfInBounds j true) _ l hfree' (K.set L) (ready_mono I (Ne.symm hji)) V ((T.same W).keep (fun cs b=>hsel i oi cs b hi) c) ?_
      rw[Array.setIfInBounds_comm _ _ hji]
      exact d
theorem wpAnyT_mono {C':World→Prop} (hC:∀x,C' x→C x):∀(f:Nat) (listed:Array Bool) (a:Act) (w:World),wpAnyT P md ops C' E f listed a w→wpAnyT P md ops C E f listed a w
  | 0,_,_,_,h=>h
  | f+1,listed,a,w,h=>⟨h.1,fun i hi=>by
      have h1:=h.2 i hi
      unfold opC at *
      split
      · rename_i ho;rw[ho]at h1;exact wpAnyT_mono hC f _ a w h1
      · rename_i o ho
        rw[ho]at h1
        simp only at h1
        split
        · rename_i hw;rw[if_pos hw]at h1;exact wp_mono_K (fun a' w' hx=>⟨hC _ hx.1,wpAnyT_mono hC f _ a' w' hx.2⟩) h1
        · rename_i hw;rw[if_neg hw]at h1;exact wpAnyT_mono hC f _ _ w h1⟩
def behindB (md:Region.Mode) (ops:Array Oper) (tl:List Nat) (i:Nat):Bool:=tl.all fun j=>reachB md ops i ops.size j
theorem behindB_spec {tl:List Nat} {i:Nat} (h:behindB md ops tl i=true):Behind md ops tl i:=fun j hj=>List.all_eq_true.1 h j hj
def chainB (md:Region.Mode) (ops:Array Oper):List Nat→Array Bool→Bool
  | [],listed=>(Region.ready md ops listed).isEmpty
  | j :: r,listed=>(ops[j]?).isSome && decide (Region.ready md ops listed=[j]) && chainB md ops r (listed.setIfInBounds j true)
def tailOps (l:List Oper):List Nat→List Oper
  | []=>[]
  | j :: r=>match l[j]? with
    | some o=>o :: tailOps l r
    | none=>tailOps l r
theorem chain_any:∀(tl:List Nat) (listed:Array Bool) (a:Act) (w:World),chainB md ops tl listed=true→wpList P ops Q (tailOps ops.toList tl) a w→wpAny P md ops Q tl.length listed a w
  | [],listed,a,w,hB,h=>⟨by simpa [chainB]using hB,h⟩
  | j :: r,listed,a,w,hB,h=>by
    simp only[chainB,Bool.and_eq_true,decide_eq_true_eq]at hB
    obtain⟨⟨h0,h1⟩,h2⟩:=hB
    obtain⟨o,ho⟩:=Option.isSome_iff_exists.1 h0
    have hol:ops.toList[j]? = some o:=by simpa using ho
    simp only[tailOps,hol]at h
    refine⟨fun B=>(by rw[h1]at B;cases B),fun i C=>?_⟩
    rw[h1]at C
    have A:i=j:=by simpa using C
    subst A
    unfold wpOp
    unfold wpList at h
    simp only[ho]
    split at h
    · rename_i hw
      rw[if_pos hw]
      exact h.imp (fun E=>Oper.wp_mono (fun D G F=>chain_any r _ D G h2 F) E) id
    · rename_i hw
      rw[if_neg hw]
      exact chain_any r _ _ w h2 h
def mixBT (md:Region.Mode) (ops:Array Oper) (tl:List Nat):List (Nat × Bool)→Array Bool→Bool
  | [],listed=>chainB md ops tl listed
  | (i,q) :: r,listed=>(ops[i]?).isSome && (if q then(Region.ready md ops listed).contains i && Region.free md ops listed i && behindB md ops tl i else decide (Region.ready md ops listed=[i])) && mixBT md ops tl r (listed.setIfInBounds i true)
theorem chain_in {tl:List Nat} {listed:Array Bool} (h:chainB md ops tl listed=true):∀j∈Region.ready md ops listed,j∈tl:=by
  intro j A
  cases tl with
  | nil=>simp only[chainB,List.isEmpty_iff]at h;rw[h]at A;cases A
  | cons k r =>
    simp only[chainB,Bool.and_eq_true,decide_eq_true_eq]at h
    rw[h.1.2]at A
    simp at A
    simp[A]
theorem wpAnyT_of_mix {tl:List Nat} (hs:Region.noSelect ops=true):∀{C:World→Prop} (ord:List (Nat × Bool)) (listed:Array Bool) (a:Act) (w:World),Closed md ops listed→C w→mixBT md ops tl ord listed=true →
    wpMix P ops C (fun a w=>wpList P ops Q (tailOps ops.toList tl) a w) (ordOps ops.toList ord) a w →
    wpAnyT P md ops C (fun listed a w=>chainB md ops tl listed=true∧wpList P ops Q (tailOps ops.toList tl) a w) ord.length listed a w
  | _,[],listed,a,w,_,_,hB,h=>⟨hB,h⟩
  | _,(i,q) :: r,listed,a,w,hcl,hC,hB,h=>by
    simp only[mixBT,Bool.and_eq_true]at hB
    obtain⟨⟨h0,h1⟩,h2⟩:=hB
    obtain⟨o,ho⟩:=Option.isSome_iff_exists.1 h0
    have hol:ops.toList[i]? = some o:=by simpa using ho
    simp only[ordOps,hol]at h
    cases q with
    | true =>
      simp only[if_true,Bool.and_eq_true]at h1
      simp only[wpMix]at h
      have B:i∈Region.ready md ops listed:=by simpa using h1.1.1
      have F:=behindB_spec h1.2
      split at h
      · rename_i hw
        obtain⟨v,K,hk⟩:=h
        exact wpAnyT_first ho (Region.noSelect_spec hs) F (fun _ _ _ A=>chain_in A.1) r.length listed a w (Region.free_spec ho h1.1.2) hcl B hC (.inl ⟨hw,K⟩) (wpAnyT_of_mix hs r _ _ _ (hcl.set B) hC h2 hk)
      · rename_i hw
        exact wpAnyT_first ho (Region.noSelect_spec hs) F (fun _ _ _ A=>chain_in A.1) r.length listed a w (Region.free_spec ho h1.1.2) hcl B hC (.inr ⟨by simpa using hw,rfl⟩) (wpAnyT_of_mix hs r _ _ _ (hcl.set B) hC h2 h)
    | false =>
      simp only[Bool.false_eq_true,if_false,decide_eq_true_eq]at h1
      simp only[wpMix]at h
      refine⟨fun E=>(by rw[h1]at E;cases E),fun j G=>?_⟩
      rw[h1]at G
      have D:j=i:=by simpa using G
      subst D
      have hcl':=hcl.set (i:=j) (by rw[h1];simp)
      unfold opC
      simp only[ho]
      split at h
      · rename_i hw
        rw[if_pos hw]
        exact wp_mono_K (fun M N A=>⟨A.1,by obtain⟨L,H,I,J⟩:=A.2;exact wpAnyT_mono I _ _ _ _ (wpAnyT_of_mix hs r _ _ _ hcl' H h2 J)⟩) h
      · rename_i hw
        rw[if_neg hw]
        exact wpAnyT_of_mix hs r _ _ _ hcl' hC h2 h
def mixOkT (md:Region.Mode) (ops:Array Oper) (ord:List (Nat × Bool)) (tl:List Nat):Bool:=Region.noSelect ops && decide (ord.length+tl.length=ops.size) && mixBT md ops tl ord (Array.replicate ops.size false)
/-- A region that draws: 'ord' in any order that its edges let, then 'tl' in its one order. -/
theorem c_mixT {id:Nat} {lo:List Oper} {a:Act} {w:World} (ord:List (Nat × Bool)) (tl:List Nat) (C:World→Prop) (hm:P.follows .mixedOrders=true) (hB:mixOkT .any lo.toArray ord tl=true)
    (h:∀w',Md [] w w'→C w'∧wpMix P lo.toArray C (fun a w=>wpList P lo.toArray Q (tailOps lo tl) a w) (ordOps lo ord) a w'):(Code.region id lo.toArray true).wp P Q a w:=by
  simp only[mixOkT,Bool.and_eq_true,decide_eq_true_eq]at hB
  obtain⟨⟨G,H⟩,I⟩:=hB
  obtain⟨J,hk⟩:=h _ (Md.drew w)
  refine wp_region_any hm ?_
  have:=wpAnyT_of_mix (md:=.any) (C:=C) (Q:=Q) (tl:=tl) G ord _ a _ (fun k K hk D=>by simp[Array.getD_eq_getD_getElem?,Array.getElem?_replicate]at D;split at D<;>simp at D) J I (by simpa using hk)
  have B:=wpAny_of_T (Q:=Q) (t:=tl.length) (E:=fun A a w=>chainB .any lo.toArray tl A=true∧wpList P lo.toArray Q (tailOps lo.toArray.toList tl) a w) (fun A a w F=>chain_any tl A a w F.1 F.2) _ _ _ _ this
  rwa [H]at B
end
end Go.Wk
namespace Go.Wk
open Go Go.RowKit

theorem getE {α:Type} {l:List α} {i:Nat} (h:i<l.length):∃x,l[i]? = some x:=⟨l[i],by simp[h]⟩
theorem b8_of (n:Nat):(Value.int .u8 ((n%256:Nat):Int))=b8 (UInt8.ofNat n):=by simp[b8,UInt8.toNat_ofNat']
theorem one_idc (l:Ly):∀u∈idc l,u.oneCell'=true:=by
  intro u A
  simp only[idc,List.mem_cons,List.not_mem_nil,or_false]at A
  rcases A with h|h|h|h|h|h|h|h|h|h|h|h|h|h|h|h <;> (subst h;rfl)
theorem one_cells {cs:List Value} (h:cs.all (fun u=>u.oneCell')=true):∀u∈cs,u.oneCell'=true:=by simpa using h
def idZ:List UInt8:=List.replicate 16 0
theorem drop_get {α:Type} {l:List α} {i:Nat} {x:α} (h:l[i]? = some x):l.drop i=x :: l.drop (i+1):=by
  obtain⟨A,B⟩:=List.getElem?_eq_some_iff.1 h
  rw[List.drop_eq_getElem_cons A,B]
theorem drop_end {α:Type} {l:List α} {i:Nat} (h:l.length≤i):l.drop i=[]:=List.drop_eq_nil_of_le h
/-- One of S, or new since w. -/
def Fsh (S:List Nat) (w:World) (b:Nat):Prop:=b∈S∨w.heap.size≤b
theorem Fsh.new {S S':List Nat} {w w':World} (M:Md S w w'):∀b,w'.heap.size≤b→Fsh S' w b:=fun _ hb=>.inr (lv M.size hb)
theorem Fsh.up {w:World} {Q:Nat→Prop} (u:Up w Q):∀b,Fsh [] w b→Q b:=fun b hb=>hb.elim (fun h=>by simp at h) (u b)
theorem Fsh.wid {S:List Nat} {w:World} {b:Nat} (h:Fsh [] w b):Fsh S w b:=h.elim (fun h=>by simp at h) .inr
theorem Fsh.lift {S S':List Nat} {w w':World} (M:Md S w w'):∀b,Fsh [] w' b→Fsh S' w b:=fun _ hb=>hb.elim (fun h=>by simp at h) (fun h=>.inr (lv M.size h))
theorem nin_cons {x b:Nat} {l:List Nat} (h:x≠b) (k:x∉l):x∉b :: l:=by simp[h,k]
theorem nin_app {x:Nat} {l m:List Nat} (h:x∉l) (k:x∉m):x∉l ++ m:=by simp[h,k]
theorem all_cons {P:Nat→Prop} {b:Nat} {l:List Nat} (h:P b) (k:∀i∈l,P i):∀i∈b :: l,P i:=by
  intro i A
  rcases List.mem_cons.1 A with A|A
  · rw[A];exact h
  · exact k i A
theorem all_app {P:Nat→Prop} {l m:List Nat} (h:∀i∈l,P i) (k:∀i∈m,P i):∀i∈l ++ m,P i:=by intro i A;exact(List.mem_append.1 A).elim (h i) (k i)
theorem all_nil {P:Nat→Prop}:∀i∈([]:List Nat),P i:=by simp
theorem all_row {P:Nat→Prop} {v:Value} (h:∀b,vblock v=some b→P b):∀i∈(vblock v).toList,P i:=by
  intro i A
  cases hv:vblock v with
  | none=>rw[hv]at A;simp at A
  | some b=>rw[hv]at A;simp at A;subst A;exact h _ hv
/-- Q' lets what Q let and was there, and no more than Q. -/
def NewQ (w w':World) (Q Q':Nat→Prop):Prop:=(∀b,Q b→b<w.heap.size→Q' b)∧(∀b,Q' b→Q b)∧Up w' Q'
section
variable {α β:Type} {T:Dt α} {U:Dt β} {w w':World} {Q Q':Nat→Prop} {v:Value} {xs:List α}
theorem Ls.head {hi:Nat} (h:Ls T w Q v xs) (h2:hi≤xs.length):Ls T w Q (subz T.n v 0 hi) (xs.take hi):=by simpa using h.part 0 hi (Nat.zero_le _) h2
theorem Ls.tail {lo:Nat} (h:Ls T w Q v xs) (h1:lo≤xs.length):Ls T w Q (subz T.n v lo xs.length) (xs.drop lo):=by simpa using h.part lo xs.length h1 (Nat.le_refl _)
theorem Ow.reP {e:Nat} {lo lo':Nat→Prop} (h:Ow T e lo w Q v xs) (hl:∀b,vblock v=some b→lo' b):Ow T e lo' w Q v xs:=⟨h.1,fun b hb=>⟨hl b hb,(h.2 b hb).2⟩⟩
theorem Ow.lower {e:Nat} {lo lo':Nat→Prop} (h:Ow T e lo w Q v xs) (hl:∀b,lo b→lo' b):Ow T e lo' w Q v xs:=⟨h.1,fun b hb=>⟨hl b (h.2 b hb).1,(h.2 b hb).2⟩⟩
theorem Ow.freeze {e:Nat} {lo:Nat→Prop} (h:Ow T e lo w Q v xs):∃Q':Nat→Prop,(∀b,Q b→Q' b)∧(∀b,Q' b→Q b∨vblock v=some b)∧Ls T w Q' v xs :=
  ⟨fun b=>Q b∨vblock v=some b,fun _=>.inl,fun _=>id,(h.reP (lo':=fun b=>vblock v=some b) fun _ hb=>hb).ls (fun _=>.inl) (fun _=>.inr)⟩
theorem Ow.subF {e:Nat} {lo:Nat→Prop} {v':Value} (h:Ow T e lo w Q v xs) (s:∀b,Q b→Q' b) (t:∀b,Q' b→Q b∨vblock v'=some b) (dj:∀b,vblock v=some b→b∉(vblock v').toList):Ow T e lo w Q' v xs:=by
  obtain⟨⟨C,D,E⟩,B⟩:=h
  exact⟨⟨C,D,E.sub fun b A _=>s b A⟩,fun b A=>⟨(B b A).1,fun F=>(t b F).elim (B b A).2 fun G=>dj b A (by rw[G];simp)⟩⟩
theorem Ow.back {e:Nat} {lo:Nat→Prop} (h:Ow T e lo w Q v xs) (t:∀b,Q b→Q' b) (n:∀b,vblock v=some b→¬Q' b):Ow T e lo w Q' v xs:=by
  obtain⟨⟨B,C,D⟩,E⟩:=h
  exact⟨⟨B,C,D.sub fun b A _=>t b A⟩,fun b A=>⟨(E b A).1,n b A⟩⟩
theorem nfz {b:Nat} {v:Value} (h:b∉(vblock v).toList) (k:vblock v=some b):False:=h (by rw[k];simp)
theorem Ls.offS {S:List Nat} {i:Nat} {x:α} (h:Ls T w Q v xs) (hi:xs[i]? = some x) (hs:∀b∈S,¬Q b):∀b,vblock v=some b→b∉S:=by
  obtain⟨a,B,E,rfl,F,G,H,C,I,J⟩:=h
  intro b A D
  cases a with
  | none=>simp[vblock]at A
  | some p =>
    simp[vblock]at A
    subst A
    exact hs _ D (C p rfl (by rintro rfl;simp at hi))
theorem At.md {S:List Nat} {k:Nat} {c:List Value} (h:At w v k c) (m:Md S w w') (hs:∀b,vblock v=some b→b∉S):At w' v k c:=by
  obtain⟨p,l,A,rfl,B⟩:=h
  exact⟨p,l,A,rfl,fun j u C=>m.cell (B j u C) (by rw[Addr.add_block];exact hs _ rfl)⟩
theorem Ow.blk_ne {e ty b:Nat} {lo:Nat→Prop} {cs:List Value} (h:Ow T e lo w Q v xs) (hB:Blk w b cs ty) (hne:Nat.beq e ty=false):∀b',vblock v=some b'→b'≠b:=by
  obtain⟨⟨B,A,C⟩,D⟩:=h
  exact A.ne hB hne
theorem apart_bo {e ty b:Nat} {lo:Nat→Prop} {cs:List Value} (hB:Blk w b cs ty) (h:Ow T e lo w Q v xs) (hne:Nat.beq e ty=false):∀b',vblock v=some b'→b'∉[b] :=
  fun b' hb=>by simpa using h.blk_ne hB hne b' hb
theorem apart_ow {e ty b:Nat} {lo:Nat→Prop} {cs:List Value} (h:Ow T e lo w Q v xs) (hB:Blk w b cs ty) (hne:Nat.beq e ty=false):b∉(vblock v).toList:=by
  intro A
  cases hv:vblock v with
  | none=>rw[hv]at A;simp at A
  | some c=>rw[hv]at A;simp at A;exact h.blk_ne hB hne c hv A.symm
theorem Own.ne_own {e e' sz sz' m m':Nat} {v v':Value} {cs cs':List Value} (h:Own w e sz v m cs) (k:Own w e' sz' v' m' cs') (hne:Nat.beq e e'=false):∀b,vblock v=some b→vblock v'≠some b:=by
  intro b C A
  rcases h.2 with⟨rfl,_⟩|⟨g,F,G,rfl,_,H,_⟩
  · simp[vblock]at C
  rcases k.2 with⟨rfl,_⟩|⟨I,D,E,rfl,_,B,_⟩
  · simp[vblock]at A
  simp[vblock]at C A
  subst C;subst A
  rw[H]at B
  simp at B
  rw[B.2]at hne
  simp at hne
theorem apart_dj {v v':Value} (h:∀x,vblock v=some x→vblock v'≠some x):∀b,vblock v'=some b→b∉(vblock v).toList:=by
  intro b B A
  cases hv:vblock v with
  | none=>rw[hv]at A;simp at A
  | some c=>rw[hv]at A;simp at A;subst A;exact h _ hv B
theorem apart_oo {e e':Nat} {lo lo':Nat→Prop} {v':Value} {ys:List β} (h:Ow T e lo w Q v xs) (k:Ow U e' lo' w Q' v' ys) (hne:Nat.beq e e'=false):∀b,vblock v'=some b→b∉(vblock v).toList:=by
  intro b C A
  obtain⟨⟨E,B,G⟩,H⟩:=h
  obtain⟨⟨F,D,I⟩,J⟩:=k
  cases hv:vblock v with
  | none=>rw[hv]at A;simp at A
  | some c=>rw[hv]at A;simp at A;subst A;exact B.ne_own D hne _ hv C
end
section
variable {P:Program} {Q:Exit→Act→World→Prop} {n:Nat} {A:Fr n} {D:List Deferred} {l:List (Nat × Value)} {w:World}
end
end Go.Wk
namespace Go.Wk
open Go Go.RowKit
def sizeOk (n:Int):Bool:=decide (n=1∨n=2∨n=4∨n=8)
/-- The number that bytes are, the lowest first. -/
def leN:List UInt8→Nat
  | []=>0
  | b :: r=>b.toNat+256*leN r
def getF (l:Ly) (a n:Int):Nat × Bool :=
  if sizeOk n=true∧0≤a∧a+n≤l.length then(leN ((l.drop a.toNat).take n.toNat),true)else(0,false)
theorem leN_lt (l:Ly):leN l<256 ^ l.length:=by
  induction l with
  | nil=>simp[leN]
  | cons b r ih =>
    simp only[leN,List.length_cons,Nat.pow_succ]
    have:=UInt8.toNat_lt b
    omega
theorem leN_lt_of {l:Ly} {k:Nat} (h:l.length≤k):leN l<256 ^ k:=ly (leN_lt l) (Nat.pow_le_pow_right (by omega) h)
theorem leN_step {l:Ly} {i k:Nat} {x:UInt8} (h:l[i]? = some x):leN ((l.drop i).take (k+1))=x.toNat+256*leN ((l.drop (i+1)).take k):=by
  rw[drop_get h];rfl
theorem getF_no {l:Ly} {a n:Int} (h:¬(sizeOk n=true∧0≤a∧a+n≤l.length)):getF l a n=(0,false):=if_neg h
theorem sizeOk_iff {n:Int}:sizeOk n=true↔(n=1∨n=2∨n=4∨n=8):=by simp[sizeOk]
theorem sizeOk_le {n:Int} (h:sizeOk n=true):1≤n∧n≤8:=by rw[sizeOk_iff]at h;omega
end Go.Wk
namespace Go.Wk
open Go Go.RowKit
def nums21 (l:List Nat):List Value:=[.int .u64 ((l.getD 0 0:Nat):Int),.int .u64 ((l.getD 1 0:Nat):Int),.int .u64 ((l.getD 2 0:Nat):Int),.int .u64 ((l.getD 3 0:Nat):Int),.int .u64 ((l.getD 4 0:Nat):Int),.int .u64 ((l.getD 5 0:Nat):Int),.int .u64 ((l.getD 6 0:Nat):Int),.int .u64 ((l.getD 7 0:Nat):Int),.int .u64 ((l.getD 8 0:Nat):Int),.int .u64 ((l.getD 9 0:Nat):Int),.int .u64 ((l.getD 10 0:Nat):Int),.int .u64 ((l.getD 11 0:Nat):Int),.int .u64 ((l.getD 12 0:Nat):Int),.int .u64 ((l.getD 13 0:Nat):Int),.int .u64 ((l.getD 14 0:Nat):Int),.int .u64 ((l.getD 15 0:Nat):Int),.int .u64 ((l.getD 16 0:Nat):Int),.int .u64 ((l.getD 17 0:Nat):Int),.int .u64 ((l.getD 18 0:Nat):Int),.int .u64 ((l.getD 19 0:Nat):Int),.int .u64 ((l.getD 20 0:Nat):Int)]
theorem nums21_map {l:List Nat} (h:l.length=21):nums21 l=l.map fun x=>.int .u64 (x:Int):=by
  apply List.ext_getElem
  · simp[nums21,h]
  · intro i C E
    simp[nums21]at C
    simp only[List.getElem_map]
    have B:i<l.length:=by omega
    rcases Nat.lt_or_ge i 7 with D|D
    · rcases(show i=0∨i=1∨i=2∨i=3∨i=4∨i=5∨i=6 by omega)with rfl|rfl|rfl|rfl|rfl|rfl|rfl <;> simp[nums21,List.getD,B]
    · skip
      rcases Nat.lt_or_ge i 14 with A|A
      · rcases(show i=7∨i=8∨i=9∨i=10∨i=11∨i=12∨i=13 by omega)with rfl|rfl|rfl|rfl|rfl|rfl|rfl <;> simp[nums21,List.getD,B]
      · skip
        rcases(show i=14∨i=15∨i=16∨i=17∨i=18∨i=19∨i=20 by omega)with rfl|rfl|rfl|rfl|rfl|rfl|rfl <;> simp[nums21,List.getD,B]
theorem nums21_set {l:List Nat} {k v:Nat} (h:l.length=21) (hk:k<21):nums21 (l.set k v)=(nums21 l).set k (.int .u64 (v:Int)):=by
  rw[nums21_map h,nums21_map (by simpa using h),List.map_set]
def tNums21:Dt (List Nat) where
  n:=21
  pos:=by decide
  rep _ _ cs x:=cs=nums21 x∧x.length=21∧∀y∈x,y<18446744073709551616
  len:=by rintro _ _ _ _ ⟨rfl,_⟩;rfl
  one:=by
    rintro _ _ _ _ ⟨rfl,h,_⟩ u hu
    rw[nums21_map h]at hu
    obtain⟨x,_,rfl⟩:=List.mem_map.1 hu
    rfl
  md:=fun h _ _=>h
  sub:=fun h _=>h
theorem ones_app {a b:List Value} (h:a.all (fun u=>u.oneCell')=true) (h2:b.all (fun u=>u.oneCell')=true):(a ++ b).all (fun u=>u.oneCell')=true:=by rw[List.all_append,h,h2];rfl
theorem ones_1 {v:Value} (h:v.oneCell'=true):[v].all (fun u=>u.oneCell')=true:=by simp[h]
theorem ones_idc (l:Ly):(idc l).all (fun u=>u.oneCell')=true:=List.all_eq_true.2 (one_idc l)
theorem nums_zero (n:Nat):(List.replicate n 0).length=n∧∀y∈List.replicate n 0,y<18446744073709551616:=⟨by simp,by simp⟩
theorem nums_set {l:List Nat} {n k v:Nat} (h:l.length=n∧∀y∈l,y<18446744073709551616) (hv:v<18446744073709551616):(l.set k v).length=n∧∀y∈l.set k v,y<18446744073709551616 :=
  ⟨by simpa using h.1,fun y hy=>(List.mem_or_eq_of_mem_set hy).elim (h.2 y) (fun e=>e ▸ hv)⟩
theorem nums_bd {l:List Nat} {n:Nat} (h:l.length=n∧∀y∈l,y<18446744073709551616) (k:Nat):l.getD k 0<18446744073709551616:=by
  rw[List.getD_eq_getElem?_getD]
  cases hk:l[k]? with
  | none=>simp
  | some y=>simpa using h.2 y (List.mem_of_getElem? hk)
structure Pr where
  name:List UInt8
  value:List UInt8
def Pr.cells (x:Pr):List Value :=
  [(str x.name)] ++ ([(str x.value)])
def tPr:Dt Pr:=tPull (fun x=>(x.name,x.value)) (tProd tStr tStr)
theorem tPr_un {w:World} {Q:Nat→Prop} {cs:List Value} {x:Pr} (h:tPr.rep w Q cs x):∃(_:True),cs=x.cells:=by
  obtain⟨_,_,rfl,⟨rfl,_⟩,⟨rfl,_⟩⟩:=h
  exact⟨trivial,rfl⟩
theorem tPr_mk {w:World} {Q:Nat→Prop} {x:Pr}:tPr.rep w Q (x.cells) x :=
  ⟨_,_,rfl,⟨rfl,tV⟩,⟨rfl,tV⟩⟩
theorem Pr.one {x:Pr}:(x.cells).all (fun u=>u.oneCell')=true:=(ones_app rfl rfl)
structure Rec where
  seq:Nat
  real:Nat
  mono:Nat
  boot:List UInt8
  fields:List Pr
def Rec.cells (x:Rec) (v0:Value):List Value :=
  [(.int .u64 x.seq)] ++ ([(.int .u64 x.real)] ++ ([(.int .u64 x.mono)] ++ ((idc x.boot) ++ ([v0]))))
def Rec.ok (x:Rec):Prop:=x.seq<18446744073709551616∧x.real<18446744073709551616∧x.mono<18446744073709551616∧x.boot.length=16
theorem Rec.one {x:Rec} {v0:Value} (h0:v0.oneCell'=true):(x.cells v0).all (fun u=>u.oneCell')=true:=(ones_app rfl (ones_app rfl (ones_app rfl (ones_app (ones_idc _) (ones_1 h0)))))
structure Frame where
  kind:Nat
  flags:Nat
  size:Nat
structure Dat where
  hash:Nat
  nextHash:Nat
  nextField:Nat
  entry:Nat
  array:Nat
  count:Nat
  payload:List UInt8
def Dat.cells (x:Dat) (v0:Value):List Value :=
  [(.int .u64 x.hash)] ++ ([(.int .u64 x.nextHash)] ++ ([(.int .u64 x.nextField)] ++ ([(.int .u64 x.entry)] ++ ([(.int .u64 x.array)] ++ ([(.int .u64 x.count)] ++ ([v0]))))))
def Dat.ok (x:Dat):Prop:=x.hash<18446744073709551616∧x.nextHash<18446744073709551616∧x.nextField<18446744073709551616∧x.entry<18446744073709551616∧x.array<18446744073709551616∧x.count<18446744073709551616
structure Fld where
  hash:Nat
  nextHash:Nat
  dat:Nat
  payload:List UInt8
def Fld.cells (x:Fld) (v0:Value):List Value :=
  [(.int .u64 x.hash)] ++ ([(.int .u64 x.nextHash)] ++ ([(.int .u64 x.dat)] ++ ([v0])))
def Fld.ok (x:Fld):Prop:=x.hash<18446744073709551616∧x.nextHash<18446744073709551616∧x.dat<18446744073709551616
structure Itm where
  pos:Nat
  hash:Nat
def Itm.cells (x:Itm):List Value :=
  [(.int .u64 x.pos)] ++ ([(.int .u64 x.hash)])
def tItm:Dt Itm:=tPull (fun x=>(x.pos,x.hash)) (tProd tU64 tU64)
def Itm.ok (x:Itm):Prop:=x.pos<18446744073709551616∧x.hash<18446744073709551616
theorem tItm_un {w:World} {Q:Nat→Prop} {cs:List Value} {x:Itm} (h:tItm.rep w Q cs x):∃(_:True),cs=x.cells∧Itm.ok x:=by
  obtain⟨_,_,rfl,⟨rfl,A⟩,⟨rfl,B⟩⟩:=h
  exact⟨trivial,rfl,⟨A,B⟩⟩
theorem tItm_mk {w:World} {Q:Nat→Prop} {x:Itm} (c0:Itm.ok x):tItm.rep w Q (x.cells) x :=
  ⟨_,_,rfl,⟨rfl,c0.1⟩,⟨rfl,c0.2⟩⟩
theorem Itm.one {x:Itm}:(x.cells).all (fun u=>u.oneCell')=true:=(ones_app rfl rfl)
structure Ent where
  seq:Nat
  real:Nat
  mono:Nat
  boot:List UInt8
  xor:Nat
  items:List Itm
def Ent.cells (x:Ent) (v0:Value):List Value :=
  [(.int .u64 x.seq)] ++ ([(.int .u64 x.real)] ++ ([(.int .u64 x.mono)] ++ ((idc x.boot) ++ ([(.int .u64 x.xor)] ++ ([v0])))))
def Ent.ok (x:Ent):Prop:=x.seq<18446744073709551616∧x.real<18446744073709551616∧x.mono<18446744073709551616∧x.boot.length=16∧x.xor<18446744073709551616
structure Arr where
  next:Nat
  items:List Nat
def Arr.cells (x:Arr) (v0:Value):List Value :=
  [(.int .u64 x.next)] ++ ([v0])
def Arr.ok (x:Arr):Prop:=x.next<18446744073709551616
structure Slt where
  first:Nat
  tail:Nat
def Slt.cells (x:Slt):List Value :=
  [(.int .u64 x.first)] ++ ([(.int .u64 x.tail)])
def tSlt:Dt Slt:=tPull (fun x=>(x.first,x.tail)) (tProd tU64 tU64)
def Slt.ok (x:Slt):Prop:=x.first<18446744073709551616∧x.tail<18446744073709551616
theorem tSlt_un {w:World} {Q:Nat→Prop} {cs:List Value} {x:Slt} (h:tSlt.rep w Q cs x):∃(_:True),cs=x.cells∧Slt.ok x:=by
  obtain⟨_,_,rfl,⟨rfl,A⟩,⟨rfl,B⟩⟩:=h
  exact⟨trivial,rfl,⟨A,B⟩⟩
theorem tSlt_mk {w:World} {Q:Nat→Prop} {x:Slt} (c0:Slt.ok x):tSlt.rep w Q (x.cells) x :=
  ⟨_,_,rfl,⟨rfl,c0.1⟩,⟨rfl,c0.2⟩⟩
theorem Slt.one {x:Slt}:(x.cells).all (fun u=>u.oneCell')=true:=(ones_app rfl rfl)
structure RHead where
  compat:Nat
  incompat:Nat
  state:Nat
  file:List UInt8
  machine:List UInt8
  boot:List UInt8
  seq:List UInt8
  n:List Nat
  tailArray:Nat
  tailItems:Nat
  tailEntry:Nat
structure PHead where
  compat:Nat
  incompat:Nat
  state:Nat
  file:List UInt8
  machine:List UInt8
  boot:List UInt8
  seq:List UInt8
  n:List Nat
  tailArray:Nat
  tailItems:Nat
  tailEntry:Nat
def PHead.cells (x:PHead):List Value :=
  [(.int .u32 x.compat)] ++ ([(.int .u32 x.incompat)] ++ ([(.int .i64 x.state)] ++ ((idc x.file) ++ ((idc x.machine) ++ ((idc x.boot) ++ ((idc x.seq) ++ ((nums21 x.n) ++ ([(.int .u32 x.tailArray)] ++ ([(.int .u32 x.tailItems)] ++ ([(.int .u64 x.tailEntry)]))))))))))
def tPHead:Dt PHead:=tPull (fun x=>(x.compat,x.incompat,x.state,x.file,x.machine,x.boot,x.seq,x.n,x.tailArray,x.tailItems,x.tailEntry)) (tProd tU32 (tProd tU32 (tProd tNat (tProd tId (tProd tId (tProd tId (tProd tId (tProd (tNums21) (tProd tU32 (tProd tU32 tU64))))))))))
def PHead.ok (x:PHead):Prop:=x.compat<4294967296∧x.incompat<4294967296∧x.state<9223372036854775808∧x.file.length=16∧x.machine.length=16∧x.boot.length=16∧x.seq.length=16∧(x.n.length=21∧∀y∈x.n,y<18446744073709551616)∧x.tailArray<4294967296∧x.tailItems<4294967296∧x.tailEntry<18446744073709551616
theorem tPHead_un {w:World} {Q:Nat→Prop} {cs:List Value} {x:PHead} (h:tPHead.rep w Q cs x):∃(_:True),cs=x.cells∧PHead.ok x:=by
  obtain⟨_,_,rfl,⟨rfl,B⟩,⟨_,_,rfl,⟨rfl,C⟩,⟨_,_,rfl,⟨rfl,D⟩,⟨_,_,rfl,⟨rfl,E⟩,⟨_,_,rfl,⟨rfl,F⟩,⟨_,_,rfl,⟨rfl,G⟩,⟨_,_,rfl,⟨rfl,H⟩,⟨_,_,rfl,⟨rfl,I⟩,⟨_,_,rfl,⟨rfl,J⟩,⟨_,_,rfl,⟨rfl,K⟩,⟨rfl,A⟩⟩⟩⟩⟩⟩⟩⟩⟩⟩⟩:=h
  exact⟨trivial,rfl,⟨B,C,D,E,F,G,H,I,J,K,A⟩⟩
theorem tPHead_mk {w:World} {Q:Nat→Prop} {x:PHead} (c0:PHead.ok x):tPHead.rep w Q (x.cells) x :=
  ⟨_,_,rfl,⟨rfl,c0.1⟩,⟨_,_,rfl,⟨rfl,c0.2.1⟩,⟨_,_,rfl,⟨rfl,c0.2.2.1⟩,⟨_,_,rfl,⟨rfl,c0.2.2.2.1⟩,⟨_,_,rfl,⟨rfl,c0.2.2.2.2.1⟩,⟨_,_,rfl,⟨rfl,c0.2.2.2.2.2.1⟩,⟨_,_,rfl,⟨rfl,c0.2.2.2.2.2.2.1⟩,⟨_,_,rfl,⟨rfl,c0.2.2.2.2.2.2.2.1⟩,⟨_,_,rfl,⟨rfl,c0.2.2.2.2.2.2.2.2.1⟩,⟨_,_,rfl,⟨rfl,c0.2.2.2.2.2.2.2.2.2.1⟩,⟨rfl,c0.2.2.2.2.2.2.2.2.2.2⟩⟩⟩⟩⟩⟩⟩⟩⟩⟩⟩
theorem PHead.one {x:PHead}:(x.cells).all (fun u=>u.oneCell')=true:=(ones_app rfl (ones_app rfl (ones_app rfl (ones_app (ones_idc _) (ones_app (ones_idc _) (ones_app (ones_idc _) (ones_app (ones_idc _) (ones_app rfl (ones_app rfl (ones_app rfl rfl))))))))))
structure Cfg where
  file:List UInt8
  machine:List UInt8
  seq:List UInt8
  dataSlots:Nat
  fieldSlots:Nat
  most:Nat
  keyed:Bool
def Cfg.cells (x:Cfg):List Value :=
  (idc x.file) ++ ((idc x.machine) ++ ((idc x.seq) ++ ([(.int .i64 x.dataSlots)] ++ ([(.int .i64 x.fieldSlots)] ++ ([(.int .i64 x.most)] ++ ([(.bool x.keyed)]))))))
def Cfg.ok (x:Cfg):Prop:=x.file.length=16∧x.machine.length=16∧x.seq.length=16∧x.dataSlots<9223372036854775808∧x.fieldSlots<9223372036854775808∧x.most<9223372036854775808
theorem Cfg.one {x:Cfg}:(x.cells).all (fun u=>u.oneCell')=true:=(ones_app (ones_idc _) (ones_app (ones_idc _) (ones_app (ones_idc _) (ones_app rfl (ones_app rfl (ones_app rfl rfl))))))
structure Known where
  text:List UInt8
  pos:Nat
  slot:Nat
  count:Nat
  arrays:List Nat
structure Mk where
  c:Cfg
  h:RHead
  depth:Nat
  b:List UInt8
  datas:List Known
  fields:List Known
  main:List Nat
structure Sq where
  l:List Int
  pos:Nat
def Sq.cells (x:Sq) (v0:Value):List Value :=
  [v0] ++ ([(.int .i64 x.pos)])
def Sq.ok (x:Sq):Prop:=x.pos<9223372036854775808
end Go.Wk
namespace Go.Wk
open Go Go.RowKit
def low:Nat→Nat→List UInt8
  | _,0=>[]
  | v,n+1=>UInt8.ofNat (v%256) :: low (v/256) n
theorem low_len (v n:Nat):(low v n).length=n:=by
  induction n generalizing v with
  | zero=>rfl
  | succ n ih=>simp[low,ih]
def nums:List Nat→List UInt8
  | []=>[]
  | v :: r=>low v 8 ++ nums r
theorem nums_len (l:List Nat):(nums l).length=8*l.length:=by
  induction l with
  | nil=>rfl
  | cons v r ih=>simp[nums,low_len,ih];omega
theorem nums_step {l:List Nat} {i x:Nat} (h:l[i]? = some x):nums (l.drop i)=low x 8 ++ nums (l.drop (i+1)):=by rw[drop_get h];rfl
theorem nums_end {l:List Nat} {i:Nat} (h:¬i<l.length):nums (l.drop i)=[]:=by rw[drop_end (by omega)];rfl
/-- Zeros to the next multiple of eight. -/
def pad8 (l:Ly):List UInt8:=l ++ List.replicate ((8-l.length%8)%8) 0
theorem pad8_len (l:Ly):(pad8 l).length=(l.length+7)/8*8:=by simp[pad8];omega
/-- An object's bytes. -/
def putF (kind:Nat) (body:Ly):List UInt8 :=
  if kind<1∨7<kind then[]else pad8 ([UInt8.ofNat kind,0,0,0,0,0,0,0] ++ nums [16+body.length] ++ body)
def putDataF (d:Dat):List UInt8:=putF 1 (nums [d.hash,d.nextHash,d.nextField,d.entry,d.array,d.count] ++ d.payload)
def putFieldF (d:Fld):List UInt8:=putF 2 (nums [d.hash,d.nextHash,d.dat] ++ d.payload)
def putArrayF (a:Arr):List UInt8:=putF 6 (nums [a.next] ++ nums a.items)
def slotsF:List Slt→List UInt8
  | []=>[]
  | s :: r=>nums [s.first,s.tail] ++ slotsF r
def putTableF (kind:Nat) (l:List Slt):List UInt8:=if kind≠4∧kind≠5 then[]else putF kind (slotsF l)
def itemsF:List Itm→List UInt8
  | []=>[]
  | s :: r=>nums [s.pos,s.hash] ++ itemsF r
def putEntryF (e:Ent):List UInt8:=putF 3 (nums [e.seq,e.real,e.mono] ++ e.boot ++ nums [e.xor] ++ itemsF e.items)
def headF (h:RHead) (depth:Nat):List UInt8 :=
  [76,80,75,83,72,72,82,72] ++ low h.compat 4 ++ low h.incompat 4 ++ [UInt8.ofNat h.state,0,0,0,0,0,0,0] ++ h.file ++ h.machine ++ h.boot ++ h.seq ++ nums h.n ++ nums [depth] ++ low h.tailArray 4 ++ low h.tailItems 4 ++ nums [h.tailEntry]
theorem putF_len {k:Nat} {b:Ly} (h:1≤k∧k≤7):(putF k b).length=(16+b.length+7)/8*8:=by
  unfold putF
  rw[if_neg (by omega),pad8_len]
  simp[nums_len]
  omega
theorem slots_step {l:List Slt} {i:Nat} {x:Slt} (h:l[i]? = some x):slotsF (l.drop i)=nums [x.first,x.tail] ++ slotsF (l.drop (i+1)):=by rw[drop_get h];rfl
theorem slots_end {l:List Slt} {i:Nat} (h:¬i<l.length):slotsF (l.drop i)=[]:=by rw[drop_end (by omega)];rfl
theorem slots_len (l:List Slt):(slotsF l).length=16*l.length:=by
  induction l with
  | nil=>rfl
  | cons v r ih=>simp[slotsF,nums_len,ih];omega
theorem items_step {l:List Itm} {i:Nat} {x:Itm} (h:l[i]? = some x):itemsF (l.drop i)=nums [x.pos,x.hash] ++ itemsF (l.drop (i+1)):=by rw[drop_get h];rfl
theorem items_end {l:List Itm} {i:Nat} (h:¬i<l.length):itemsF (l.drop i)=[]:=by rw[drop_end (by omega)];rfl
theorem items_len (l:List Itm):(itemsF l).length=16*l.length:=by
  induction l with
  | nil=>rfl
  | cons v r ih=>simp[itemsF,nums_len,ih];omega
theorem putDataF_len (d:Dat):(putDataF d).length=(16+(48+d.payload.length)+7)/8*8:=by unfold putDataF;rw[putF_len (by omega)];simp[nums_len]
theorem putFieldF_len (d:Fld):(putFieldF d).length=(16+(24+d.payload.length)+7)/8*8:=by unfold putFieldF;rw[putF_len (by omega)];simp[nums_len]
theorem putArrayF_len (a:Arr):(putArrayF a).length=(16+(8+8*a.items.length)+7)/8*8:=by unfold putArrayF;rw[putF_len (by omega)];simp[nums_len]
theorem putEntryF_len (e:Ent) (h:e.boot.length=16):(putEntryF e).length=(16+(48+16*e.items.length)+7)/8*8:=by unfold putEntryF;rw[putF_len (by omega)];simp[nums_len,items_len,h];omega
theorem putTableF_len (kind:Nat) (l:List Slt) (h:kind=4∨kind=5):(putTableF kind l).length=(16+16*l.length+7)/8*8:=by unfold putTableF;rw[if_neg (by omega),putF_len (by omega),slots_len]
theorem putTableF_lenA (kind:Nat) (l:List Slt):(putTableF kind l).length≤24+16*l.length∧(kind=4∨kind=5→(putTableF kind l).length=(16+16*l.length+7)/8*8):=by
  refine⟨?_,fun h=>putTableF_len kind l h⟩
  by_cases h:kind=4∨kind=5
  · rw[putTableF_len kind l h];omega
  · unfold putTableF;rw[if_pos (by omega)];simp
end Go.Wk
namespace Go.Wk
open Go Go.RowKit
theorem bits_bd64 (op:BinOp) (a b:Int):0≤bits op .u64 a b∧bits op .u64 a b<18446744073709551616:=by
  unfold bits
  cases op <;> simp only[wrap_u64_mod] <;> omega
theorem pack_bd (t:T3):0≤pack t∧pack t<18446744073709551616:=bits_bd64 _ _ _
theorem lkF_bd:∀(k:Nat) (t:T3) (l:Ly),0≤lkF k t l∧lkF k t l<18446744073709551616
  | 0,t,l=>by unfold lkF;split<;>exact pack_bd _
  | k+1,t,l=>by
    unfold lkF
    split
    · exact lkF_bd k _ _
    · split<;>exact pack_bd _
theorem lookup_bd (l:Ly):0≤lookup l∧lookup l<18446744073709551616:=lkF_bd _ _ _
theorem sip_bd (key l:Ly):0≤sip key l∧sip key l<18446744073709551616:=by
  unfold sip sipEnd S4.all xor64
  exact bits_bd64 _ _ _
def lookN (l:Ly):Nat:=(lookup l).toNat
def hashN (k:Bool) (key l:Ly):Nat:=if k then(sip key l).toNat else lookN l
theorem hashN_eq (k:Bool) (key l:Ly):((hashN k key l:Nat):Int)=if k then sip key l else lookup l:=by
  unfold hashN lookN
  have A:=lookup_bd l
  have B:=sip_bd key l
  cases k <;> simp <;> omega
theorem hashN_lt (k:Bool) (key l:Ly):hashN k key l<18446744073709551616:=by
  have B:=lookup_bd l
  have C:=sip_bd key l
  have A:=hashN_eq k key l
  cases k <;> simp at A <;> omega
theorem lookN_eq (l:Ly):((lookN l:Nat):Int)=lookup l:=by have A:=lookup_bd l;unfold lookN;omega
theorem lookN_lt (l:Ly):lookN l<18446744073709551616:=by have A:=lookup_bd l;unfold lookN;omega
def xorF (v:Nat):List (List UInt8)→Nat
  | []=>v
  | b :: r=>xorF (v ^^^ lookN b) r
theorem xor_step {v:Nat} {l:List (List UInt8)} {i:Nat} {x:Ly} (h:l[i]? = some x):xorF v (l.drop i)=xorF (v ^^^ lookN x) (l.drop (i+1)):=by rw[drop_get h];rfl
theorem xor_end {v:Nat} {l:List (List UInt8)} {i:Nat} (h:¬i<l.length):xorF v (l.drop i)=v:=by rw[drop_end (by omega)];rfl
theorem xor64_lt {a b:Nat} (ha:a<18446744073709551616) (hb:b<18446744073709551616):a ^^^ b<18446744073709551616:=Nat.xor_lt_two_pow (n:=64) ha hb
def payload (p:Pr):List UInt8:=p.name ++ [61] ++ p.value
theorem payload_len (p:Pr):(payload p).length=p.name.length+1+p.value.length:=by simp[payload];omega
end Go.Wk
namespace Go.Wk
open Go Go.RowKit
def roomF (k:Int):Nat:=if k<0 then 0 else if 6<k then 256 else min (4*2 ^ k.toNat) 256
def putG:Nat→List UInt8→Nat→Nat→Nat→List UInt8
  | 0,b,_,_,_=>b
  | n+1,b,p,v,i=>putG n (b.set (p+i) (UInt8.ofNat (v/2 ^ (8*i)))) p v (i+1)
/-- A number of eight bytes at a place. -/
def putN (b:Ly) (p v:Nat):List UInt8:=putG 8 b p v 0
theorem putG_len (n:Nat) (b:Ly) (p v i:Nat):(putG n b p v i).length=b.length:=by
  induction n generalizing b i with
  | zero=>rfl
  | succ n ih=>simp[putG,ih]
theorem putN_len (b:Ly) (p v:Nat):(putN b p v).length=b.length:=putG_len 8 b p v 0
def Mk.put (m:Mk) (p v:Nat):Mk:={m with b:=putN m.b p v}
theorem put_len (m:Mk) (p v:Nat):(m.put p v).b.length=m.b.length:=putN_len _ _ _
def Mk.setN (m:Mk) (k v:Nat):Mk:={m with h:={m.h with n:=m.h.n.set k v}}
def Mk.num (m:Mk) (k:Nat):Nat:=m.h.n.getD k 0
def Mk.object (m:Mk) (o:Ly):Nat × Mk :=
  let m1:={m with b:=m.b ++ o}
  let m2:=m1.setN 6 m.b.length
  (m.b.length,m2.setN 7 ((m2.num 7+1)%18446744073709551616))
def hangL (slot:Nat):List Known→Nat→Nat→Nat × Nat
  | [],n,q=>(n,q)
  | k :: r,n,q=>if k.slot=slot then hangL slot r (n+1) k.pos else hangL slot r n q
def Mk.hang (m:Mk) (l:List Known) (table p slot:Nat):Nat × Mk :=
  match hangL slot l 0 0 with
  | (n,q)=>(n,(if n=0 then m.put (table+16*slot) p else m.put (q+24) p).put (table+16*slot+8) p)
def findK (name:Ly):List Known→Option Nat
  | []=>none
  | k :: r=>if k.text=name then some k.pos else findK name r
def findI (s:Ly):List Known→Nat→Option Nat
  | [],_=>none
  | k :: r,i=>if k.text=s then some i else findI s r (i+1)
def Mk.field (m:Mk) (name:Ly):Nat × Mk :=
  match findK name m.fields with
  | some p=>(p,m)
  | none =>
    match m.object (putFieldF {hash:=hashN m.c.keyed m.c.file name,nextHash:=0,dat:=0,payload:=name})with
    | (p,m1)=>match m1.hang m1.fields (m1.num 4) p (hashN m.c.keyed m.c.file name%m1.c.fieldSlots)with
      | (n,m2) =>
        let m3:={m2 with depth:=max m1.depth n}
        let m4:=m3.setN 16 ((m3.num 16+1)%18446744073709551616)
        (p,{m4 with fields:=m4.fields ++ [({text:=name,pos:=p,slot:=hashN m.c.keyed m.c.file name%m1.c.fieldSlots,count:=0,arrays:=[]}:Known)]})
def Mk.data (m:Mk) (x:Pr):Nat × Mk :=
  match findI (payload x) m.datas 0 with
  | some i=>(i,m)
  | none =>
    match m.object (putDataF {hash:=hashN m.c.keyed m.c.file (payload x),nextHash:=0,nextField:=0,entry:=0,array:=0,count:=0,payload:=payload x})with
    | (p,m1)=>match m1.hang m1.datas (m1.num 2) p (hashN m.c.keyed m.c.file (payload x)%m1.c.dataSlots)with
      | (n,m2) =>
        let m3:=m2.setN 19 (max (m2.num 19) n)
        let m4:=m3.setN 15 ((m3.num 15+1)%18446744073709551616)
        let m5:={m4 with datas:=m4.datas ++ [({text:=payload x,pos:=p,slot:=hashN m.c.keyed m.c.file (payload x)%m1.c.dataSlots,count:=0,arrays:=[]}:Known)]}
        match m5.field x.name with
        | (k,m6) =>
          let m7:=m6.put (p+32) (getF m6.b (k+32:Nat) 8).1
          let m8:=m7.put (k+32) p
          (m8.datas.length-1,m8)
theorem setN_same (m:Mk) (k v:Nat):(m.setN k v).b=m.b∧(m.setN k v).c=m.c∧(m.setN k v).datas=m.datas∧(m.setN k v).fields=m.fields∧(m.setN k v).main=m.main:=⟨rfl,rfl,rfl,rfl,rfl⟩
theorem getD_set_ne' {l:List Nat} {i j v:Nat} (h:i≠j):(l.set i v).getD j 0=l.getD j 0:=by simp[List.getD,List.getElem?_set_ne h]
theorem num_setN {m:Mk} {k v j:Nat} (h:k≠j):(m.setN k v).num j=m.num j:=getD_set_ne' h
theorem object_spec (m:Mk) (o:Ly):(m.object o).1=m.b.length∧(m.object o).2.b.length=m.b.length+o.length∧(m.object o).2.c.dataSlots=m.c.dataSlots∧(m.object o).2.c.fieldSlots=m.c.fieldSlots∧(m.object o).2.datas.length=m.datas.length∧(m.object o).2.fields.length=m.fields.length ∧
    (m.object o).2.h.n.getD 2 0=m.h.n.getD 2 0∧(m.object o).2.h.n.getD 4 0=m.h.n.getD 4 0 :=
  ⟨rfl,by simp[Mk.object,Mk.setN],rfl,rfl,rfl,rfl,by simp only[Mk.object,Mk.setN];rw[getD_set_ne' (by decide),getD_set_ne' (by decide)],by simp only[Mk.object,Mk.setN];rw[getD_set_ne' (by decide),getD_set_ne' (by decide)]⟩
theorem object_same (m:Mk) (o:Ly):(m.object o).2.c=m.c∧(m.object o).2.datas=m.datas∧(m.object o).2.fields=m.fields∧(m.object o).2.main=m.main:=⟨rfl,rfl,rfl,rfl⟩
theorem hang_eq (m:Mk) (l:List Known) (table p slot:Nat):(m.hang l table p slot).2={m with b:=(m.hang l table p slot).2.b}∧(m.hang l table p slot).2.b.length=m.b.length:=by
  unfold Mk.hang
  generalize hangL slot l 0 0=r
  obtain⟨n,q⟩:=r
  simp only
  split
  · exact⟨rfl,by rw[put_len,put_len]⟩
  · exact⟨rfl,by rw[put_len,put_len]⟩
theorem hang_spec (m:Mk) (l:List Known) (table p slot:Nat):(m.hang l table p slot).2.b.length=m.b.length∧(m.hang l table p slot).2.c.dataSlots=m.c.dataSlots∧(m.hang l table p slot).2.c.fieldSlots=m.c.fieldSlots∧(m.hang l table p slot).2.datas.length=m.datas.length∧(m.hang l table p slot).2.fields.length=m.fields.length ∧
    (m.hang l table p slot).2.h.n.getD 2 0=m.h.n.getD 2 0∧(m.hang l table p slot).2.h.n.getD 4 0=m.h.n.getD 4 0:=by
  obtain⟨A,B⟩:=hang_eq m l table p slot
  refine⟨B,?_,?_,?_,?_,?_,?_⟩ <;> rw[A]
theorem hang_same (m:Mk) (l:List Known) (table p slot:Nat):(m.hang l table p slot).2.c=m.c∧(m.hang l table p slot).2.datas=m.datas∧(m.hang l table p slot).2.fields=m.fields∧(m.hang l table p slot).2.main=m.main∧(m.hang l table p slot).2.depth=m.depth∧(m.hang l table p slot).2.h=m.h:=by
  have A:=(hang_eq m l table p slot).1
  refine⟨?_,?_,?_,?_,?_,?_⟩ <;> rw[A]
/-- The places that stand in the maker's rows lie within its bytes. -/
def Mk.fit (m:Mk):Prop:=1≤m.c.dataSlots∧m.c.dataSlots≤64∧1≤m.c.fieldSlots∧m.c.fieldSlots≤64∧m.h.n.getD 2 0+16*m.c.dataSlots≤m.b.length∧m.h.n.getD 4 0+16*m.c.fieldSlots≤m.b.length ∧
  (∀k∈m.datas,k.pos+64≤m.b.length)∧(∀k∈m.fields,k.pos+40≤m.b.length)
theorem fit_mono {m m':Mk} (h:m.fit) (h1:m'.c.dataSlots=m.c.dataSlots∧m'.c.fieldSlots=m.c.fieldSlots∧m'.h.n.getD 2 0=m.h.n.getD 2 0∧m'.h.n.getD 4 0=m.h.n.getD 4 0∧m.b.length≤m'.b.length)
    (hd:∀k∈m'.datas,k∈m.datas∨k.pos+64≤m'.b.length) (hf:∀k∈m'.fields,k∈m.fields∨k.pos+40≤m'.b.length):m'.fit:=by
  obtain⟨G,H,I,J,K,L,A,B⟩:=h
  obtain⟨C,D,E,F,M⟩:=h1
  refine⟨by omega,by omega,by omega,by omega,by rw[C,E];omega,by rw[D,F];omega,fun k hk=>?_,fun k hk=>?_⟩
  · rcases hd k hk with h|h
    · have:=A k h;omega
    · exact h
  · rcases hf k hk with h|h
    · have:=B k h;omega
    · exact h
theorem findK_mem {s:Ly} {l:List Known} {p:Nat} (h:findK s l=some p):∃k∈l,k.pos=p∧k.text=s:=by
  induction l with
  | nil=>simp[findK]at h
  | cons x l ih =>
    simp only[findK]at h
    split at h
    · rename_i hx;exact⟨x,by simp,by simpa using h,hx⟩
    · obtain⟨k,hk,A⟩:=ih h;exact⟨k,by simp[hk],A⟩
theorem findI_lt {s:Ly} {l:List Known} {j i:Nat} (h:findI s l j=some i):j≤i∧i<j+l.length:=by
  induction l generalizing j with
  | nil=>simp[findI]at h
  | cons x l ih =>
    simp only[findI]at h
    split at h
    · simp at h;simp;omega
    · have:=ih h;simp;omega
theorem field_all (m:Mk) (name:Ly) (h:m.fit):((m.field name).1+40≤(m.field name).2.b.length∧m.b.length≤(m.field name).2.b.length∧(m.field name).2.b.length≤m.b.length+(48+name.length)∧(m.field name).2.datas.length=m.datas.length∧(m.field name).2.fields.length≤m.fields.length+1 ∧
    (m.field name).2.c.dataSlots=m.c.dataSlots∧(m.field name).2.c.fieldSlots=m.c.fieldSlots∧(m.field name).2.h.n.getD 2 0=m.h.n.getD 2 0∧(m.field name).2.h.n.getD 4 0=m.h.n.getD 4 0∧(m.field name).2.h.n.getD 8 0=m.h.n.getD 8 0) ∧
    ((m.field name).2.c=m.c∧(m.field name).2.datas=m.datas∧(m.field name).2.main=m.main)∧(m.field name).2.fit:=by
  unfold Mk.field
  cases hk:findK name m.fields with
  | some p =>
    obtain⟨k,D,U,_⟩:=findK_mem hk
    have:=h.2.2.2.2.2.2.2 k D
    exact⟨⟨by simp only;omega,Nat.le_refl _,by simp only;omega,rfl,by simp only;omega,rfl,rfl,rfl,rfl,rfl⟩,⟨rfl,rfl,rfl⟩,h⟩
  | none =>
    simp only
    have C:=object_spec m (putFieldF {hash:=hashN m.c.keyed m.c.file name,nextHash:=0,dat:=0,payload:=name})
    have I:=object_same m (putFieldF {hash:=hashN m.c.keyed m.c.file name,nextHash:=0,dat:=0,payload:=name})
    have J:(m.object (putFieldF {hash:=hashN m.c.keyed m.c.file name,nextHash:=0,dat:=0,payload:=name})).2.h.n.getD 8 0=m.h.n.getD 8 0:=by
      simp only[Mk.object,Mk.setN];rw[getD_set_ne' (by decide),getD_set_ne' (by decide)]
    rw[putFieldF_len]at C
    simp only at C
    generalize m.object (putFieldF {hash:=hashN m.c.keyed m.c.file name,nextHash:=0,dat:=0,payload:=name})=r at *
    obtain⟨p,A⟩:=r
    simp only at C I J ⊢
    have K:=hang_spec A A.fields (A.num 4) p (hashN m.c.keyed m.c.file name%A.c.fieldSlots)
    have L:=hang_same A A.fields (A.num 4) p (hashN m.c.keyed m.c.file name%A.c.fieldSlots)
    generalize A.hang A.fields (A.num 4) p (hashN m.c.keyed m.c.file name%A.c.fieldSlots)=r at *
    obtain⟨n,B⟩:=r
    simp only at K L ⊢
    obtain⟨V,W,X,Y,Z,a,d,e⟩:=C
    obtain⟨M,E,N,O⟩:=I
    obtain⟨f,g,i,j,l,o,t⟩:=K
    obtain⟨P,F,Q,R,u,S⟩:=L
    simp only[Mk.setN,List.length_append,List.length_singleton]
    have G:(B.h.n.set 16 ((B.num 16+1)%18446744073709551616)).getD 2 0=m.h.n.getD 2 0:=by rw[getD_set_ne' (by decide)];omega
    have H:(B.h.n.set 16 ((B.num 16+1)%18446744073709551616)).getD 4 0=m.h.n.getD 4 0:=by rw[getD_set_ne' (by decide)];omega
    have T:(B.h.n.set 16 ((B.num 16+1)%18446744073709551616)).getD 8 0=m.h.n.getD 8 0:=by rw[getD_set_ne' (by decide),S,J]
    refine⟨⟨by omega,by omega,by omega,by omega,by omega,by omega,by omega,G,H,T⟩,⟨by rw[P,M],by rw[F,E],by rw[R,O]⟩,?_⟩
    refine fit_mono h ⟨by simp only;omega,by simp only;omega,G,H,by simp only;omega⟩ (fun k hk=>?_) (fun k hk=>?_)
    · simp only[F,E]at hk;exact .inl hk
    · simp only[Q,N,List.mem_append,List.mem_singleton]at hk
      rcases hk with hk|rfl
      · exact .inl hk
      · right;simp only;omega
section
variable {m y:Mk} {v1 v2 v3 v4:Value} {w:World} {b t i v j:Nat}
end
section
variable {P:Program}
end
end Go.Wk
namespace Go.Wk
open Go Go.RowKit
theorem roomF_le (k:Int):roomF k≤256:=by unfold roomF;split;omega;split<;>omega
def roomsL:List Nat→Nat→Nat→Nat→Nat × Nat
  | [],_,a,r=>(a,r)
  | _ :: l,k,_,r=>roomsL l (k+1) r (r+roomF (k:Int))
def lastN (l:List Nat):Nat:=l.getD (l.length-1) 0
def Mk.link (m:Mk) (arrays:List Nat) (n src item:Nat):List Nat × Nat × Mk :=
  match roomsL arrays 0 0 0 with
  | (ahead,room) =>
    if n=room then
      match m.object (putArrayF {next:=0,items:=List.replicate (roomF (arrays.length:Int)) 0})with
      | (p,m1) =>
        let m2:=m1.setN 18 ((m1.num 18+1)%18446744073709551616)
        (arrays ++ [p],n-room+1,(if arrays.length=0 then m2.put src p else m2.put (lastN arrays+16) p).put (lastN (arrays ++ [p])+24+8*(n-room)) item)
    else(arrays,n-ahead+1,m.put (lastN arrays+24+8*(n-ahead)) item)
theorem roomF_ge {k:Int} (h:0≤k):4≤roomF k:=by
  unfold roomF
  rw[if_neg (by omega)]
  split
  · omega
  · have:1≤2 ^ k.toNat:=Nat.one_le_two_pow
    omega
theorem roomF_ge4 (k:Int):k<0∨4≤roomF k:=by by_cases h:0≤k;exact .inr (roomF_ge h);exact .inl (by omega)
theorem lastN_eq {l:List Nat} {x:Nat} (h:l[l.length-1]? = some x):lastN l=x:=by simp[lastN,List.getD,h]
/-- A chain of arrays that n items stand in: the places lie within, the last one has room, or all are full. -/
def chainFit (len:Nat) (arrays:List Nat) (n:Nat):Prop :=
  (∀(k a:Nat),arrays[k]? = some a→a+24+8*roomF (k:Int)≤len)∧(roomsL arrays 0 0 0).1≤n∧n≤(roomsL arrays 0 0 0).2
/-- The whole of a new maker. -/
def newMk (c:Cfg) (tail:Nat):Mk :=
  let b1:=List.replicate 272 0 ++ putTableF 4 (List.replicate c.dataSlots {first:=0,tail:=0})
  let b2:=b1 ++ putTableF 5 (List.replicate c.fieldSlots {first:=0,tail:=0})
  {c:=c,depth:=0,b:=b2,datas:=[],fields:=[],main:=[],
    h:={compat:=2,incompat:=if c.keyed then 4 else 0,state:=1,file:=c.file,machine:=c.machine,boot:=List.replicate 16 0,seq:=c.seq,tailArray:=0,tailItems:=0,tailEntry:=0,
           n:=(((((((((List.replicate 20 0).set 0 272).set 2 288).set 3 (16*c.dataSlots)).set 4 (b1.length+16)).set 5 (16*c.fieldSlots)).set 6 b1.length).set 7 2).set 9 tail)}}
/-- The file's bytes. -/
def imageM (m:Mk) (st:Nat):List UInt8:=headF {m.h with state:=st,n:=m.h.n.set 1 (m.b.length-272)} m.depth ++ m.b.drop 272
end Go.Wk
namespace Go.Wk
open Go Go.RowKit
def Pr.pb (p:Pr):PairB:=(p.name,p.value)
section
variable {P:Program} {n:Nat} {A:Fr n} {D:List Deferred} {l:List (Nat × Value)} {w:World} {d:Option Tmp} {ty:TypeId} {ps:String} {af:Array Edge} {g:Option (Nat × Bool)}
theorem r_eqlPr {x y:Operand} {t f u:TypeId} {p q:Pr} (hp:pairT P t f=true) (hf:P.underlying f=some .string) (hx:ev n l x=some (.agg (Pr.cells p).toArray)) (hy:ev n l y=some (.agg (Pr.cells q).toArray)) :
    RunV P ⟨d,.binOp .eql t x y u,ty,ps,af,g⟩ (over A D l).eval w (.bool (decide (p.pb=q.pb))):=r_eqlP (p:=p.pb) (q:=q.pb) hp hf hx hy
end
def joinF (p:Pr):List UInt8 × Nat:=if isName p.name=false then([],1)else if 256<p.value.length then([],21)else(payload p,0)
theorem joinF_bd {p:Pr} (h:(joinF p).2=0):p.name.length≤1000000∧p.value.length≤1000000:=by
  unfold joinF at h
  split at h
  · cases h
  · rename_i h1
    split at h
    · cases h
    · have:=(name_len (s:=p.name) (by simpa using h1)).2;omega
theorem joinF_right {p:Pr}:(joinF p).2=0↔right p.pb=true:=by
  unfold joinF right Pr.pb
  by_cases h1:isName p.name=false
  · simp[h1]
  · rw[if_neg h1]
    have A:isName p.name=true:=by simpa using h1
    rw[A]
    by_cases h3:256<p.value.length
    · simp[h3]
    · simp[h3];omega
def rankF (t:Ly):List Pr→Nat→Nat
  | [],k=>k
  | q :: r,k=>if Op.bytesLess (payload q) t=true then rankF t r (k+1)else k
theorem rank_step {t:Ly} {o:List Pr} {k:Nat} {q:Pr} (h:o[k]? = some q):rankF t (o.drop k) k=if Op.bytesLess (payload q) t=true then rankF t (o.drop (k+1)) (k+1)else k:=by
  rw[drop_get h];rfl
theorem rank_end {t:Ly} {o:List Pr} {k:Nat} (h:¬k<o.length):rankF t (o.drop k) k=k:=by rw[drop_end (by omega)];rfl
theorem pr_getD {l:List Pr} {i:Nat} {x:Pr} (h:l[i]? = some x):l.getD i {name:=[],value:=[]}=x:=by simp[List.getD,h]
def shiftF:Nat→Nat→List Pr→List Pr
  | 0,_,o=>o
  | n+1,j,o=>shiftF n (j-1) (o.set j (o.getD (j-1) {name:=[],value:=[]}))
theorem shift_step {j k:Nat} {o:List Pr} (h:k<j):shiftF (j-k) j o=shiftF (j-1-k) (j-1) (o.set j (o.getD (j-1) {name:=[],value:=[]})):=by
  rw[show j-k=(j-1-k)+1 by omega];rfl
theorem shift_end {j k:Nat} {o:List Pr} (h:¬k<j):shiftF (j-k) j o=o:=by rw[show j-k=0 by omega];rfl
/-- A pair into the sorted list: not a second time. -/
def insF (p:Pr) (o:List Pr):List Pr :=
  let k:=rankF (payload p) o 0
  if k<o.length∧(o.getD k {name:=[],value:=[]}).pb=p.pb then o else(shiftF (o.length-k) o.length (o ++ [{name:=[],value:=[]}])).set k p
def goL:List Pr→List Pr→List Pr × Nat
  | [],o=>if 16<o.length then([],21)else(o,0)
  | p :: r,o=>if(joinF p).2≠0 then([],(joinF p).2)else goL r (insF p o)
def listF (l:List Pr):List Pr × Nat:=if l.length=0 then([],16)else goL l []
theorem goL_end {l o:List Pr} {i:Nat} (h:¬i<l.length):goL (l.drop i) o=if 16<o.length then([],21)else(o,0):=by rw[drop_end (by omega)];rfl
theorem goL_step {l o:List Pr} {i:Nat} {p:Pr} (h:l[i]? = some p):goL (l.drop i) o=if(joinF p).2≠0 then([],(joinF p).2)else goL (l.drop (i+1)) (insF p o):=by
  rw[drop_get h];rfl
end Go.Wk
