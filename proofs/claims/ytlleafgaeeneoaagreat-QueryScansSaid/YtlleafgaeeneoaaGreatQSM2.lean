/- Part 2 of what the walk of a law stands on: More, LeP, Types, RefP, HashN, MakerP, MakerQ, FldR, SeqP, Loops2, MakerR, MakerS, Anys, InsP, FieldQ, FldS, CompR, HeadR, HeadQ, ViewP, AtP, AtQ, MatP, MatL, MatH, VHold, ImgP, LinkP, LinkQ, LinkV, VSI, RefV, RefV2, AtR, RatP, MakeP, LastP, RecP. No statement is proved here. -/
import Derived.Test.YtlleafgaeeneoaaGreatQSM1
import Derived.Test.YtlleafgaeeneoaaGreatRows
set_option linter.unusedVariables false
set_option linter.unusedSimpArgs false
namespace Go.Wk
open Go Go.RowKit
theorem dY {α:Type} {l:List α} {i:Nat} (h:i<l.length):∃x,l[i]? = some x:=⟨l[i],by simp[h]⟩
theorem OV (n:Nat):(Value.int .u8 ((n%256:Nat):Int))=b8 (UInt8.ofNat n):=by simp[b8,UInt8.toNat_ofNat']
theorem ND (l:Ly):∀u∈iY l,u.oneCell'=true:=by
  intro u A;simp only[iY,List.mem_cons,List.not_mem_nil,or_false]at A
  rcases A with h|h|h|h|h|h|h|h|h|h|h|h|h|h|h|h <;> (subst h;rfl)
theorem aV {cs:List Value} (h:cs.all (fun u=>u.oneCell')=true):∀u∈cs,u.oneCell'=true:=by simpa using h
def pY:List UInt8:=List.replicate 16 0
theorem cH {α:Type} {l:List α} {i:Nat} {x:α} (h:l[i]? = some x):l.drop i=x :: l.drop (i+1):=by obtain⟨A,B⟩:=List.getElem?_eq_some_iff.1 h;rw[List.drop_eq_getElem_cons A,B]
theorem er {α:Type} {l:List α} {i:Nat} (h:l.length<=i):l.drop i=[]:=List.drop_eq_nil_of_le h
theorem af8 {α:Type} {l:List α} {i:Nat} {x:α} (h:l[i]? = some x):l.take (i+1)=l.take i ++ [x]:=by rw[List.take_add_one,h];rfl
def bA (S:List Nat) (w:World) (b:Nat):Prop:=b∈S\/w.heap.size<=b
theorem bA.new {S S':List Nat} {w a:World} (c:Md S w a):∀b,a.heap.size<=b->bA S' w b:=fun _ hb=>.inr (lv c.size hb)
theorem bA.up {w:World} {Q:Nat->Prop} (u:Up w Q):∀b,bA [] w b->Q b:=fun b hb=>hb.elim (fun h=>by simp at h) (u b)
theorem bA.wid {S:List Nat} {w:World} {b:Nat} (h:bA [] w b):bA S w b:=h.elim (fun h=>by simp at h) .inr
theorem bA.lift {S S':List Nat} {w a:World} (c:Md S w a):∀b,bA [] a b->bA S' w b:=fun _ hb=>hb.elim (fun h=>by simp at h) (fun h=>.inr (lv c.size h))
theorem bH {x b:Nat} {l:List Nat} (h:x≠b) (k:x∉l):x∉b :: l:=by simp[h,k]
theorem cB {x:Nat} {l m:List Nat} (h:x∉l) (k:x∉m):x∉l ++ m:=by simp[h,k]
theorem dz {P:Nat->Prop} {b:Nat} {l:List Nat} (h:P b) (k:∀i∈l,P i):∀i∈b :: l,P i:=by
  intro i A
  rcases List.mem_cons.1 A with A|A
  · rw[A];exact h
  exact k i A
theorem e6 {P:Nat->Prop} {l m:List Nat} (h:∀i∈l,P i) (k:∀i∈m,P i):∀i∈l ++ m,P i:=by intro i A;exact(List.mem_append.1 A).elim (h i) (k i)
theorem all_nil {P:Nat->Prop}:∀i∈([]:List Nat),P i:=by simp
theorem jA {P:Nat->Prop} {v:Value} (h:∀b,ah v=some b->P b):∀i∈(ah v).toList,P i:=by
  intro i A;cases hv:ah v with
  | none=>rw[hv]at A;simp at A
  | some b=>rw[hv]at A;simp at A;subst A;exact h _ hv
def pC (w w':World) (Q Q':Nat->Prop):Prop:=(∀b,Q b->b<w.heap.size->Q' b)/\(∀b,Q' b->Q b)/\Up w' Q'
section
variable {α β:Type} {T:Dt α} {U:Dt β} {w w':World} {Q Q':Nat->Prop} {v:Value} {xs:List α}
theorem Ls.head {hi:Nat} (h:Ls T w Q v xs) (a:hi<=xs.length):Ls T w Q (lY T.n v 0 hi) (xs.take hi):=by simpa using h.part 0 hi (Nat.zero_le _) a
theorem Ls.tail {lo:Nat} (h:Ls T w Q v xs) (h1:lo<=xs.length):Ls T w Q (lY T.n v lo xs.length) (xs.drop lo):=by simpa using h.part lo xs.length h1 (Nat.le_refl _)
theorem Ow.eM {e:Nat} {lo lo':Nat->Prop} (h:Ow T e lo w Q v xs) (a:∀b,ah v=some b->lo' b):Ow T e lo' w Q v xs:=⟨h.1,fun b hb=>⟨a b hb,(h.2 b hb).2⟩⟩
theorem Ow.lower {e:Nat} {lo lo':Nat->Prop} (h:Ow T e lo w Q v xs) (a:∀b,lo b->lo' b):Ow T e lo' w Q v xs:=⟨h.1,fun b hb=>⟨a b (h.2 b hb).1,(h.2 b hb).2⟩⟩
theorem Ow.freeze {e:Nat} {lo:Nat->Prop} (h:Ow T e lo w Q v xs):∃a:Nat->Prop,(∀b,Q b->a b)/\(∀b,a b->Q b\/ah v=some b)/\Ls T w a v xs :=
  ⟨fun b=>Q b\/ah v=some b,fun _=>.inl,fun _=>id,(h.eM (lo':=fun b=>ah v=some b) fun _ hb=>hb).ls (fun _=>.inl) (fun _=>.inr)⟩
theorem Ow.jW {e:Nat} {lo:Nat->Prop} {d:Value} (h:Ow T e lo w Q v xs) (s:∀b,Q b->Q' b) (t:∀b,Q' b->Q b\/ah d=some b) (i:∀b,ah v=some b->b∉(ah d).toList):Ow T e lo w Q' v xs:=by obtain⟨⟨C,D,f⟩,c⟩:=h;exact⟨⟨C,D,f.sub fun b a _=>s b a⟩,fun b a=>⟨(c b a).1,fun g=>(t b g).elim (c b a).2 fun G=>i b a (by rw[G];simp)⟩⟩
theorem ER {b m:Nat} {s:Ly} (h:By w (.slice (some ⟨b,0,none⟩) m m) s):∃a:Nat->Prop,(∀x,Q x->a x)/\(∀x,a x->Q x\/x=b)/\Ls eC w a (.slice (some ⟨b,0,none⟩) m m) s :=
  ⟨fun x=>Q x\/x=b,fun _=>.inl,fun _=>id,Ls.of_by h fun x c _=>.inr (by simp[ah]at c;exact c.symm)⟩
theorem Ow.back {e:Nat} {lo:Nat->Prop} (h:Ow T e lo w Q v xs) (t:∀b,Q b->Q' b) (n:∀b,ah v=some b->¬Q' b):Ow T e lo w Q' v xs:=by obtain⟨⟨B,C,D⟩,E⟩:=h;exact⟨⟨B,C,D.sub fun b A _=>t b A⟩,fun b A=>⟨(E b A).1,n b A⟩⟩
theorem GY {b:Nat} {v:Value} (h:b∉(ah v).toList) (k:ah v=some b):False:=h (by rw[k];simp)
theorem Ls.yY {S:List Nat} {i:Nat} {x:α} (h:Ls T w Q v xs) (hi:xs[i]? = some x) (d:∀b∈S,¬Q b):∀b,ah v=some b->b∉S:=by
  obtain⟨c,e,f,rfl,g,G,H,C,j,k⟩:=h;intro b a D;cases c with
  | none=>simp[ah]at a
  | some p =>
    simp[ah]at a;subst a;exact d _ D (C p q (by rintro rfl;simp at hi))
theorem At.md {S:List Nat} {k:Nat} {c:List Value} (h:At w v k c) (m:Md S w w') (e:∀b,ah v=some b->b∉S):At w' v k c:=by obtain⟨p,l,a,rfl,d⟩:=h;exact⟨p,l,a,q,fun f g C=>m.cell (d f g C) (by rw[Addr.add_block];exact e _ q)⟩
theorem Ow.fG {e ty b:Nat} {lo:Nat->Prop} {cs:List Value} (h:Ow T e lo w Q v xs) (d:bC w b cs ty) (f:Nat.beq e ty=false):∀a,ah v=some a->a≠b:=by obtain⟨⟨g,c,C⟩,D⟩:=h;exact c.ne d f
theorem acf {e ty b:Nat} {lo:Nat->Prop} {cs:List Value} (c:bC w b cs ty) (h:Ow T e lo w Q v xs) (d:Nat.beq e ty=false):∀a,ah v=some a->a∉[b] :=
  fun a hb=>by simpa using h.fG c d a hb
theorem wA {e ty b:Nat} {lo:Nat->Prop} {cs:List Value} (h:Ow T e lo w Q v xs) (d:bC w b cs ty) (f:Nat.beq e ty=false):b∉(ah v).toList:=by
  intro a;cases hv:ah v with
  | none=>rw[hv]at a;simp at a
  | some c=>rw[hv]at a;simp at a;exact h.fG d f c hv a.symm
theorem Own.ajs {e e' sz i m m':Nat} {v d:Value} {cs f:List Value} (h:Own w e sz v m cs) (k:Own w e' i d m' f) (c:Nat.beq e e'=false):∀b,ah v=some b->ah d≠some b:=by
  intro b C a
  rcases h.2 with⟨rfl,_⟩|⟨g,F,G,rfl,_,H,_⟩
  · simp[ah]at C
  rcases k.2 with⟨rfl,_⟩|⟨I,D,E,rfl,_,B,_⟩
  · simp[ah]at a
  simp[ah]at C a;subst C;subst a;rw[H]at B;simp at B;rw[B.2]at c;simp at c
theorem cQ {v d:Value} (h:∀x,ah v=some x->ah d≠some x):∀b,ah d=some b->b∉(ah v).toList:=by
  intro b e a;cases hv:ah v with
  | none=>rw[hv]at a;simp at a
  | some c=>rw[hv]at a;simp at a;subst a;exact h _ hv e
theorem lF {v a:Value} (h:∀x,ah v=some x->ah a≠some x):∀x,ah a=some x->ah v≠some x:=fun x c b=>h x b c
theorem acg {e e':Nat} {lo lo':Nat->Prop} {d:Value} {ys:List β} (h:Ow T e lo w Q v xs) (k:Ow U e' lo' w Q' d ys) (g:Nat.beq e e'=false):∀b,ah d=some b->b∉(ah v).toList:=by
  intro b C a;obtain⟨⟨i,f,G⟩,H⟩:=h;obtain⟨⟨j,D,l⟩,m⟩:=k;cases hv:ah v with
  | none=>rw[hv]at a;simp at a
  | some c=>rw[hv]at a;simp at a;subst a;exact f.ajs D g _ hv C
theorem aB {e ty b:Nat} {lo:Nat->Prop} {cs:List Value} (c:bC w b cs ty) (h:Ow T e lo w Q v xs) (d:Nat.beq e ty=false:=by decide):∀a,ah v=some a->a∉[b]:=acf c h d
theorem aW {e ty b:Nat} {lo:Nat->Prop} {cs:List Value} (h:Ow T e lo w Q v xs) (a:bC w b cs ty) (c:Nat.beq e ty=false:=by decide):b∉(ah v).toList:=wA h a c
theorem aO {e e':Nat} {lo lo':Nat->Prop} {a:Value} {ys:List β} (h:Ow T e lo w Q v xs) (k:Ow U e' lo' w Q' a ys) (c:Nat.beq e e'=false:=by decide):∀b,ah a=some b->b∉(ah v).toList:=acg h k c
end
section
variable {P:Program} {Q:Exit->Act->World->Prop} {n:Nat} {A:Fr n} {D:List Deferred} {l:List (Nat × Value)} {w:World}
def Joins (n:Nat) (D:List Deferred) (l1:Bool->List (Nat × Value)) (R:Bool->World->Prop) (a:Act) (w:World):Prop:=∃(b:Bool) (B:Fr n),a=aQ B D (l1 b)/\R b w
theorem Ub {id:Nat} {lo:List Oper} (f:Bool->List (Nat × Value)) (R:Bool->World->Prop)
    (h:wpList P lo.toArray (fun d c a=>d = .normal/\Joins n D f R c a) lo (aQ A D l) w)
    (k:∀(b:Bool) (e:Fr n) (a:World),R b a->Q .normal (aQ e D (f b)) a):(Code.region id lo.toArray false).wp P Q (aQ A D l) w:=by
  refine wp_mono (aH (Q:=fun d c a=>d = .normal/\Joins n D f R c a) h) ?_;rintro d c a ⟨rfl,b,e,rfl,C⟩;exact k b e a C
theorem jn {a:Bool->List (Nat × Value)} {R:Bool->World->Prop} (b:Bool) (d:Fits n l (a b)) (c:R b w):Joins n D a R (aQ A D l) w :=
  ⟨b,_,(cV (A:=A) (D:=D) d).symm,c⟩
theorem vI {G:Prop} (b:Bool) (h1:b=true->G) (a:b=false->G):G:=by cases b<;>simp_all
end
end Go.Wk
namespace Go.Wk
open Go Go.RowKit
def oI (n:Int):Bool:=decide (n=1\/n=2\/n=4\/n=8)
def EK:List UInt8->Nat
  | []=>0
  | b :: r=>b.toNat+256*EK r
def lO (l:Ly) (a n:Int):Nat × Bool :=
  if oI n=true/\0<=a/\a+n<=l.length then(EK ((l.drop a.toNat).take n.toNat),true)else(0,false)
theorem ajn (l:Ly):EK l<256 ^ l.length:=by
  induction l with
  | nil=>simp[EK]
  | cons b r ih =>
    simp only[EK,List.length_cons,Nat.pow_succ];have:=UInt8.toNat_lt b;omega
theorem uL {l:Ly} {k:Nat} (h:l.length<=k):EK l<256 ^ k:=lj (ajn l) (Nat.pow_le_pow_right Xx h)
theorem QY {l:Ly} {i k:Nat} {x:UInt8} (h:l[i]? = some x):EK ((l.drop i).take (k+1))=x.toNat+256*EK ((l.drop (i+1)).take k):=by rw[cH h];rfl
theorem AP {l:Ly} {a n:Int} (h:¬(oI n=true/\0<=a/\a+n<=l.length)):lO l a n=(0,false):=if_neg h
theorem fA {n:Int}:oI n=true↔(n=1\/n=2\/n=4\/n=8):=by simp[oI]
theorem zo {n:Int} (h:oI n=true):1<=n/\n<=8:=by rw[fA]at h;omega
end Go.Wk
namespace Go.Wk
open Go Go.RowKit
def oD (l:List Nat):List Value:=[.int .u64 ((l.getD 0 0:Nat):Int),.int .u64 ((l.getD 1 0:Nat):Int),.int .u64 ((l.getD 2 0:Nat):Int),.int .u64 ((l.getD 3 0:Nat):Int),.int .u64 ((l.getD 4 0:Nat):Int),.int .u64 ((l.getD 5 0:Nat):Int),.int .u64 ((l.getD 6 0:Nat):Int),.int .u64 ((l.getD 7 0:Nat):Int),.int .u64 ((l.getD 8 0:Nat):Int),.int .u64 ((l.getD 9 0:Nat):Int),.int .u64 ((l.getD 10 0:Nat):Int),.int .u64 ((l.getD 11 0:Nat):Int),.int .u64 ((l.getD 12 0:Nat):Int),.int .u64 ((l.getD 13 0:Nat):Int),.int .u64 ((l.getD 14 0:Nat):Int),.int .u64 ((l.getD 15 0:Nat):Int),.int .u64 ((l.getD 16 0:Nat):Int),.int .u64 ((l.getD 17 0:Nat):Int),.int .u64 ((l.getD 18 0:Nat):Int),.int .u64 ((l.getD 19 0:Nat):Int)]
theorem rX {l:List Nat} (h:l.length=20):oD l=l.map fun x=>.int .u64 (x:Int):=by
  apply List.ext_getElem
  · simp[oD,h]
  intro i C E;simp[oD]at C;simp only[List.getElem_map];have B:i<l.length:=by omega
  rcases Nat.lt_or_ge i 7 with D|D
  · rcases(show i=0\/i=1\/i=2\/i=3\/i=4\/i=5\/i=6 by omega)with rfl|rfl|rfl|rfl|rfl|rfl|rfl <;> simp[oD,List.getD,B]
  skip
  rcases Nat.lt_or_ge i 14 with A|A
  · rcases(show i=7\/i=8\/i=9\/i=10\/i=11\/i=12\/i=13 by omega)with rfl|rfl|rfl|rfl|rfl|rfl|rfl <;> simp[oD,List.getD,B]
  skip
  rcases(show i=14\/i=15\/i=16\/i=17\/i=18\/i=19 by omega)with rfl|rfl|rfl|rfl|rfl|rfl <;> simp[oD,List.getD,B]
theorem FB {l:List Nat} {k v:Nat} (h:l.length=20) (hk:k<20):oD (l.set k v)=(oD l).set k (.int .u64 (v:Int)):=by rw[rX h,rX (by simpa using h),List.map_set]
def ah6:Dt (List Nat) where
  n:=20
  pos:=by decide
  oN _ _ cs x:=cs=oD x/\x.length=20/\∀y∈x,y<18446744073709551616
  len:=by rintro _ _ _ _ ⟨rfl,_⟩;rfl
  one:=by rintro _ _ _ _ ⟨rfl,h,_⟩ u hu;rw[rX h]at hu;obtain⟨x,_,rfl⟩:=List.mem_map.1 hu;rfl
  md:=fun h _ _=>h
  sub:=fun h _=>h
def oE (l:List Nat):List Value:=[.int .u64 ((l.getD 0 0:Nat):Int),.int .u64 ((l.getD 1 0:Nat):Int),.int .u64 ((l.getD 2 0:Nat):Int),.int .u64 ((l.getD 3 0:Nat):Int),.int .u64 ((l.getD 4 0:Nat):Int),.int .u64 ((l.getD 5 0:Nat):Int),.int .u64 ((l.getD 6 0:Nat):Int),.int .u64 ((l.getD 7 0:Nat):Int),.int .u64 ((l.getD 8 0:Nat):Int),.int .u64 ((l.getD 9 0:Nat):Int),.int .u64 ((l.getD 10 0:Nat):Int),.int .u64 ((l.getD 11 0:Nat):Int),.int .u64 ((l.getD 12 0:Nat):Int),.int .u64 ((l.getD 13 0:Nat):Int),.int .u64 ((l.getD 14 0:Nat):Int),.int .u64 ((l.getD 15 0:Nat):Int),.int .u64 ((l.getD 16 0:Nat):Int),.int .u64 ((l.getD 17 0:Nat):Int),.int .u64 ((l.getD 18 0:Nat):Int),.int .u64 ((l.getD 19 0:Nat):Int),.int .u64 ((l.getD 20 0:Nat):Int)]
theorem vQ {l:List Nat} (h:l.length=21):oE l=l.map fun x=>.int .u64 (x:Int):=by
  apply List.ext_getElem
  · simp[oE,h]
  intro i C E;simp[oE]at C;simp only[List.getElem_map];have B:i<l.length:=by omega
  rcases Nat.lt_or_ge i 7 with D|D
  · rcases(show i=0\/i=1\/i=2\/i=3\/i=4\/i=5\/i=6 by omega)with rfl|rfl|rfl|rfl|rfl|rfl|rfl <;> simp[oE,List.getD,B]
  skip
  rcases Nat.lt_or_ge i 14 with A|A
  · rcases(show i=7\/i=8\/i=9\/i=10\/i=11\/i=12\/i=13 by omega)with rfl|rfl|rfl|rfl|rfl|rfl|rfl <;> simp[oE,List.getD,B]
  skip
  rcases(show i=14\/i=15\/i=16\/i=17\/i=18\/i=19\/i=20 by omega)with rfl|rfl|rfl|rfl|rfl|rfl|rfl <;> simp[oE,List.getD,B]
theorem VG {l:List Nat} {k v:Nat} (h:l.length=21) (hk:k<21):oE (l.set k v)=(oE l).set k (.int .u64 (v:Int)):=by rw[vQ h,vQ (by simpa using h),List.map_set]
def ah7:Dt (List Nat) where
  n:=21
  pos:=by decide
  oN _ _ cs x:=cs=oE x/\x.length=21/\∀y∈x,y<18446744073709551616
  len:=by rintro _ _ _ _ ⟨rfl,_⟩;rfl
  one:=by rintro _ _ _ _ ⟨rfl,h,_⟩ u hu;rw[vQ h]at hu;obtain⟨x,_,rfl⟩:=List.mem_map.1 hu;rfl
  md:=fun h _ _=>h
  sub:=fun h _=>h
theorem bT {a b:List Value} (h:a.all (fun c=>c.oneCell')=true) (d:b.all (fun c=>c.oneCell')=true):(a ++ b).all (fun c=>c.oneCell')=true:=by rw[List.all_append,h,d];rfl
theorem mW {v:Value} (h:v.oneCell'=true):[v].all (fun u=>u.oneCell')=true:=by simp[h]
theorem jI (l:Ly):(iY l).all (fun u=>u.oneCell')=true:=List.all_eq_true.2 (ND l)
theorem mJ (n:Nat):(List.replicate n 0).length=n/\∀y∈List.replicate n 0,y<18446744073709551616:=⟨by simp,by simp⟩
theorem xh {l:List Nat} {n k v:Nat} (h:l.length=n/\∀y∈l,y<18446744073709551616) (b:v<18446744073709551616):(l.set k v).length=n/\∀y∈l.set k v,y<18446744073709551616 :=
  ⟨by simpa using h.1,fun y c=>(List.mem_or_eq_of_mem_set c).elim (h.2 y) (fun a=>a ▸ b)⟩
theorem gq {l:List Nat} {n:Nat} (h:l.length=n/\∀y∈l,y<18446744073709551616) (k:Nat):l.getD k 0<18446744073709551616:=by
  rw[List.getD_eq_getElem?_getD];cases hk:l[k]? with
  | none=>simp
  | some y=>simpa using h.2 y (List.mem_of_getElem? hk)
structure Pr where
  name:List UInt8
  value:List UInt8
def Pr.cells (x:Pr):List Value :=
  [(str x.name)] ++ ([(str x.value)])
def pU:Dt Pr:=uh (fun x=>(x.name,x.value)) (fR ij ij)
theorem pV {w:World} {Q:Nat->Prop} {cs:List Value} {x:Pr} (h:pU.oN w Q cs x):∃(_:True),cs=x.cells:=by obtain⟨_,_,rfl,⟨rfl,_⟩,⟨rfl,_⟩⟩:=h;exact⟨trivial,q⟩
theorem GJ {w:World} {Q:Nat->Prop} {x:Pr}:pU.oN w Q (x.cells) x :=
  ⟨_,_,q,⟨q,tV⟩,⟨q,tV⟩⟩
theorem Pr.one {x:Pr}:(x.cells).all (fun u=>u.oneCell')=true:=(bT q q)
structure Rec where
  seq:Nat
  bK:Nat
  mono:Nat
  bD:List UInt8
  ak:List Pr
def Rec.cells (x:Rec) (v0:Value):List Value :=
  [(.int .u64 x.seq)] ++ ([(.int .u64 x.bK)] ++ ([(.int .u64 x.mono)] ++ ((iY x.bD) ++ ([v0]))))
def ab7:Dt Rec:=uh (fun x=>(x.seq,x.bK,x.mono,x.bD,x.ak)) (fR cZ (fR cZ (fR cZ (fR tId (qR pU)))))
def Rec.ok (x:Rec):Prop:=x.seq<18446744073709551616/\x.bK<18446744073709551616/\x.mono<18446744073709551616/\x.bD.length=16
theorem ah9 {w:World} {Q:Nat->Prop} {cs:List Value} {x:Rec} (h:ab7.oN w Q cs x):∃a,cs=x.cells a/\Rec.ok x/\Ls pU w Q a x.ak:=by obtain⟨_,_,rfl,⟨rfl,b⟩,⟨_,_,rfl,⟨rfl,c⟩,⟨_,_,rfl,⟨rfl,C⟩,⟨_,_,rfl,⟨rfl,D⟩,⟨a,rfl,d⟩⟩⟩⟩⟩:=h;exact⟨a,q,⟨b,c,C,D⟩,d⟩
theorem ah8 {w:World} {Q:Nat->Prop} {x:Rec} {v0:Value} (c0:Rec.ok x) (c1:Ls pU w Q v0 x.ak):ab7.oN w Q (x.cells v0) x :=
  ⟨_,_,q,⟨q,c0.1⟩,⟨_,_,q,⟨q,c0.2.1⟩,⟨_,_,q,⟨q,c0.2.2.1⟩,⟨_,_,q,⟨q,c0.2.2.2⟩,⟨_,q,c1⟩⟩⟩⟩⟩
theorem Rec.one {x:Rec} {v0:Value} (a:v0.oneCell'=true):(x.cells v0).all (fun b=>b.oneCell')=true:=(bT q (bT q (bT q (bT (jI _) (mW a)))))
structure Frame where
  kind:Nat
  flags:Nat
  size:Nat
structure fV where
  bY:Nat
  b9:Nat
  dr:Nat
  entry:Nat
  array:Nat
  bw:Nat
  au:List UInt8
def fV.cells (x:fV) (v0:Value):List Value :=
  [(.int .u64 x.bY)] ++ ([(.int .u64 x.b9)] ++ ([(.int .u64 x.dr)] ++ ([(.int .u64 x.entry)] ++ ([(.int .u64 x.array)] ++ ([(.int .u64 x.bw)] ++ ([v0]))))))
def fV.ok (x:fV):Prop:=x.bY<18446744073709551616/\x.b9<18446744073709551616/\x.dr<18446744073709551616/\x.entry<18446744073709551616/\x.array<18446744073709551616/\x.bw<18446744073709551616
theorem fV.one {x:fV} {v0:Value} (a:v0.oneCell'=true):(x.cells v0).all (fun b=>b.oneCell')=true:=(bT q (bT q (bT q (bT q (bT q (bT q (mW a)))))))
structure jh where
  bY:Nat
  b9:Nat
  dat:Nat
  au:List UInt8
def jh.cells (x:jh) (v0:Value):List Value :=
  [(.int .u64 x.bY)] ++ ([(.int .u64 x.b9)] ++ ([(.int .u64 x.dat)] ++ ([v0])))
def jh.ok (x:jh):Prop:=x.bY<18446744073709551616/\x.b9<18446744073709551616/\x.dat<18446744073709551616
theorem jh.one {x:jh} {v0:Value} (a:v0.oneCell'=true):(x.cells v0).all (fun b=>b.oneCell')=true:=(bT q (bT q (bT q (mW a))))
structure lJ where
  pos:Nat
  bY:Nat
def lJ.cells (x:lJ):List Value :=
  [(.int .u64 x.pos)] ++ ([(.int .u64 x.bY)])
def AF:Dt lJ:=uh (fun x=>(x.pos,x.bY)) (fR cZ cZ)
def lJ.ok (x:lJ):Prop:=x.pos<18446744073709551616/\x.bY<18446744073709551616
theorem xR {w:World} {Q:Nat->Prop} {cs:List Value} {x:lJ} (h:AF.oN w Q cs x):∃(_:True),cs=x.cells/\lJ.ok x:=by obtain⟨_,_,rfl,⟨rfl,A⟩,⟨rfl,B⟩⟩:=h;exact⟨trivial,q,⟨A,B⟩⟩
theorem Z4 {w:World} {Q:Nat->Prop} {x:lJ} (c0:lJ.ok x):AF.oN w Q (x.cells) x :=
  ⟨_,_,q,⟨q,c0.1⟩,⟨q,c0.2⟩⟩
theorem lJ.one {x:lJ}:(x.cells).all (fun u=>u.oneCell')=true:=(bT q q)
structure gU where
  seq:Nat
  bK:Nat
  mono:Nat
  bD:List UInt8
  xor:Nat
  aF:List lJ
def gU.cells (x:gU) (v0:Value):List Value :=
  [(.int .u64 x.seq)] ++ ([(.int .u64 x.bK)] ++ ([(.int .u64 x.mono)] ++ ((iY x.bD) ++ ([(.int .u64 x.xor)] ++ ([v0])))))
def gU.ok (x:gU):Prop:=x.seq<18446744073709551616/\x.bK<18446744073709551616/\x.mono<18446744073709551616/\x.bD.length=16/\x.xor<18446744073709551616
theorem gU.one {x:gU} {v0:Value} (a:v0.oneCell'=true):(x.cells v0).all (fun b=>b.oneCell')=true:=(bT q (bT q (bT q (bT (jI _) (bT q (mW a))))))
structure iL where
  next:Nat
  aF:List Nat
def iL.cells (x:iL) (v0:Value):List Value :=
  [(.int .u64 x.next)] ++ ([v0])
def iL.ok (x:iL):Prop:=x.next<18446744073709551616
theorem iL.one {x:iL} {v0:Value} (a:v0.oneCell'=true):(x.cells v0).all (fun b=>b.oneCell')=true:=(bT q (mW a))
structure o9 where
  first:Nat
  tail:Nat
def o9.cells (x:o9):List Value :=
  [(.int .u64 x.first)] ++ ([(.int .u64 x.tail)])
def HU:Dt o9:=uh (fun x=>(x.first,x.tail)) (fR cZ cZ)
def o9.ok (x:o9):Prop:=x.first<18446744073709551616/\x.tail<18446744073709551616
theorem NZ {w:World} {Q:Nat->Prop} {cs:List Value} {x:o9} (h:HU.oN w Q cs x):∃(_:True),cs=x.cells/\o9.ok x:=by obtain⟨_,_,rfl,⟨rfl,A⟩,⟨rfl,B⟩⟩:=h;exact⟨trivial,q,⟨A,B⟩⟩
theorem NY {w:World} {Q:Nat->Prop} {x:o9} (c0:o9.ok x):HU.oN w Q (x.cells) x :=
  ⟨_,_,q,⟨q,c0.1⟩,⟨q,c0.2⟩⟩
structure ej where
  gD:Nat
  bN:Nat
  state:Nat
  cg:List UInt8
  dG:List UInt8
  bD:List UInt8
  seq:List UInt8
  n:List Nat
  cK:Nat
  dc:Nat
  dI:Nat
def ej.cells (x:ej):List Value :=
  [(.int .u32 x.gD)] ++ ([(.int .u32 x.bN)] ++ ([(.int .i64 x.state)] ++ ((iY x.cg) ++ ((iY x.dG) ++ ((iY x.bD) ++ ((iY x.seq) ++ ((oD x.n) ++ ([(.int .u32 x.cK)] ++ ([(.int .u32 x.dc)] ++ ([(.int .u64 x.dI)]))))))))))
def WN:Dt ej:=uh (fun x=>(x.gD,x.bN,x.state,x.cg,x.dG,x.bD,x.seq,x.n,x.cK,x.dc,x.dI)) (fR tU32 (fR tU32 (fR eI (fR tId (fR tId (fR tId (fR tId (fR (ah6) (fR tU32 (fR tU32 cZ))))))))))
def ej.ok (x:ej):Prop:=x.gD<4294967296/\x.bN<4294967296/\x.state<9223372036854775808/\x.cg.length=16/\x.dG.length=16/\x.bD.length=16/\x.seq.length=16/\(x.n.length=20/\∀y∈x.n,y<18446744073709551616)/\x.cK<4294967296/\x.dc<4294967296/\x.dI<18446744073709551616
theorem ab6 {w:World} {Q:Nat->Prop} {cs:List Value} {x:ej} (h:WN.oN w Q cs x):∃(_:True),cs=x.cells/\ej.ok x:=by obtain⟨_,_,rfl,⟨rfl,B⟩,⟨_,_,rfl,⟨rfl,C⟩,⟨_,_,rfl,⟨rfl,D⟩,⟨_,_,rfl,⟨rfl,E⟩,⟨_,_,rfl,⟨rfl,F⟩,⟨_,_,rfl,⟨rfl,G⟩,⟨_,_,rfl,⟨rfl,H⟩,⟨_,_,rfl,⟨rfl,I⟩,⟨_,_,rfl,⟨rfl,J⟩,⟨_,_,rfl,⟨rfl,K⟩,⟨rfl,A⟩⟩⟩⟩⟩⟩⟩⟩⟩⟩⟩:=h;exact⟨trivial,q,⟨B,C,D,E,F,G,H,I,J,K,A⟩⟩
theorem ab5 {w:World} {Q:Nat->Prop} {x:ej} (c0:ej.ok x):WN.oN w Q (x.cells) x :=
  ⟨_,_,q,⟨q,c0.1⟩,⟨_,_,q,⟨q,c0.2.1⟩,⟨_,_,q,⟨q,c0.2.2.1⟩,⟨_,_,q,⟨q,c0.2.2.2.1⟩,⟨_,_,q,⟨q,c0.2.2.2.2.1⟩,⟨_,_,q,⟨q,c0.2.2.2.2.2.1⟩,⟨_,_,q,⟨q,c0.2.2.2.2.2.2.1⟩,⟨_,_,q,⟨q,c0.2.2.2.2.2.2.2.1⟩,⟨_,_,q,⟨q,c0.2.2.2.2.2.2.2.2.1⟩,⟨_,_,q,⟨q,c0.2.2.2.2.2.2.2.2.2.1⟩,⟨q,c0.2.2.2.2.2.2.2.2.2.2⟩⟩⟩⟩⟩⟩⟩⟩⟩⟩⟩
theorem ej.one {x:ej}:(x.cells).all (fun u=>u.oneCell')=true:=(bT q (bT q (bT q (bT (jI _) (bT (jI _) (bT (jI _) (bT (jI _) (bT q (bT q (bT q q))))))))))
structure bF where
  gD:Nat
  bN:Nat
  state:Nat
  cg:List UInt8
  dG:List UInt8
  bD:List UInt8
  seq:List UInt8
  n:List Nat
  cK:Nat
  dc:Nat
  dI:Nat
def bF.cells (x:bF):List Value :=
  [(.int .u32 x.gD)] ++ ([(.int .u32 x.bN)] ++ ([(.int .i64 x.state)] ++ ((iY x.cg) ++ ((iY x.dG) ++ ((iY x.bD) ++ ((iY x.seq) ++ ((oE x.n) ++ ([(.int .u32 x.cK)] ++ ([(.int .u32 x.dc)] ++ ([(.int .u64 x.dI)]))))))))))
def WM:Dt bF:=uh (fun x=>(x.gD,x.bN,x.state,x.cg,x.dG,x.bD,x.seq,x.n,x.cK,x.dc,x.dI)) (fR tU32 (fR tU32 (fR eI (fR tId (fR tId (fR tId (fR tId (fR (ah7) (fR tU32 (fR tU32 cZ))))))))))
def bF.ok (x:bF):Prop:=x.gD<4294967296/\x.bN<4294967296/\x.state<9223372036854775808/\x.cg.length=16/\x.dG.length=16/\x.bD.length=16/\x.seq.length=16/\(x.n.length=21/\∀y∈x.n,y<18446744073709551616)/\x.cK<4294967296/\x.dc<4294967296/\x.dI<18446744073709551616
theorem ab4 {w:World} {Q:Nat->Prop} {cs:List Value} {x:bF} (h:WM.oN w Q cs x):∃(_:True),cs=x.cells/\bF.ok x:=by obtain⟨_,_,rfl,⟨rfl,B⟩,⟨_,_,rfl,⟨rfl,C⟩,⟨_,_,rfl,⟨rfl,D⟩,⟨_,_,rfl,⟨rfl,E⟩,⟨_,_,rfl,⟨rfl,F⟩,⟨_,_,rfl,⟨rfl,G⟩,⟨_,_,rfl,⟨rfl,H⟩,⟨_,_,rfl,⟨rfl,I⟩,⟨_,_,rfl,⟨rfl,J⟩,⟨_,_,rfl,⟨rfl,K⟩,⟨rfl,A⟩⟩⟩⟩⟩⟩⟩⟩⟩⟩⟩:=h;exact⟨trivial,q,⟨B,C,D,E,F,G,H,I,J,K,A⟩⟩
theorem ab3 {w:World} {Q:Nat->Prop} {x:bF} (c0:bF.ok x):WM.oN w Q (x.cells) x :=
  ⟨_,_,q,⟨q,c0.1⟩,⟨_,_,q,⟨q,c0.2.1⟩,⟨_,_,q,⟨q,c0.2.2.1⟩,⟨_,_,q,⟨q,c0.2.2.2.1⟩,⟨_,_,q,⟨q,c0.2.2.2.2.1⟩,⟨_,_,q,⟨q,c0.2.2.2.2.2.1⟩,⟨_,_,q,⟨q,c0.2.2.2.2.2.2.1⟩,⟨_,_,q,⟨q,c0.2.2.2.2.2.2.2.1⟩,⟨_,_,q,⟨q,c0.2.2.2.2.2.2.2.2.1⟩,⟨_,_,q,⟨q,c0.2.2.2.2.2.2.2.2.2.1⟩,⟨q,c0.2.2.2.2.2.2.2.2.2.2⟩⟩⟩⟩⟩⟩⟩⟩⟩⟩⟩
theorem bF.one {x:bF}:(x.cells).all (fun u=>u.oneCell')=true:=(bT q (bT q (bT q (bT (jI _) (bT (jI _) (bT (jI _) (bT (jI _) (bT q (bT q (bT q q))))))))))
structure dx where
  b:List UInt8
  h:bF
def dx.cells (x:dx) (v0:Value):List Value :=
  [v0] ++ ((bF.cells x.h))
def dO:Dt dx:=uh (fun x=>(x.b,x.h)) (fR (qR eC) WM)
def dx.ok (x:dx):Prop:=bF.ok x.h
theorem eu {w:World} {Q:Nat->Prop} {cs:List Value} {x:dx} (h:dO.oN w Q cs x):∃a,cs=x.cells a/\dx.ok x/\Ls eC w Q a x.b:=by obtain⟨_,_,rfl,⟨a,rfl,d⟩,C⟩:=h;obtain⟨_,rfl,c⟩:=ab4 C;exact⟨a,q,c,d⟩
theorem dw {w:World} {Q:Nat->Prop} {x:dx} {v0:Value} (c0:dx.ok x) (c1:Ls eC w Q v0 x.b):dO.oN w Q (x.cells v0) x :=
  ⟨_,_,q,⟨_,q,c1⟩,(ab3 c0)⟩
structure nA where
  cg:List UInt8
  dG:List UInt8
  seq:List UInt8
  ay:Nat
  aC:Nat
  bG:Nat
  cC:Bool
def nA.cells (x:nA):List Value :=
  (iY x.cg) ++ ((iY x.dG) ++ ((iY x.seq) ++ ([(.int .i64 x.ay)] ++ ([(.int .i64 x.aC)] ++ ([(.int .i64 x.bG)] ++ ([(.bool x.cC)]))))))
def ajW:Dt nA:=uh (fun x=>(x.cg,x.dG,x.seq,x.ay,x.aC,x.bG,x.cC)) (fR tId (fR tId (fR tId (fR eI (fR eI (fR eI amb))))))
def nA.ok (x:nA):Prop:=x.cg.length=16/\x.dG.length=16/\x.seq.length=16/\x.ay<9223372036854775808/\x.aC<9223372036854775808/\x.bG<9223372036854775808
theorem ah5 {w:World} {Q:Nat->Prop} {cs:List Value} {x:nA} (h:ajW.oN w Q cs x):∃(_:True),cs=x.cells/\nA.ok x:=by obtain⟨_,_,rfl,⟨rfl,A⟩,⟨_,_,rfl,⟨rfl,B⟩,⟨_,_,rfl,⟨rfl,C⟩,⟨_,_,rfl,⟨rfl,D⟩,⟨_,_,rfl,⟨rfl,E⟩,⟨_,_,rfl,⟨rfl,F⟩,⟨rfl,_⟩⟩⟩⟩⟩⟩⟩:=h;exact⟨trivial,q,⟨A,B,C,D,E,F⟩⟩
theorem ah4 {w:World} {Q:Nat->Prop} {x:nA} (c0:nA.ok x):ajW.oN w Q (x.cells) x :=
  ⟨_,_,q,⟨q,c0.1⟩,⟨_,_,q,⟨q,c0.2.1⟩,⟨_,_,q,⟨q,c0.2.2.1⟩,⟨_,_,q,⟨q,c0.2.2.2.1⟩,⟨_,_,q,⟨q,c0.2.2.2.2.1⟩,⟨_,_,q,⟨q,c0.2.2.2.2.2⟩,⟨q,tV⟩⟩⟩⟩⟩⟩⟩
theorem nA.one {x:nA}:(x.cells).all (fun u=>u.oneCell')=true:=(bT (jI _) (bT (jI _) (bT (jI _) (bT q (bT q (bT q q))))))
structure aN where
  bQ:List UInt8
  pos:Nat
  bV:Nat
  bw:Nat
  aT:List Nat
def aN.cells (x:aN) (v0:Value):List Value :=
  [(str x.bQ)] ++ ([(.int .u64 x.pos)] ++ ([(.int .i64 x.bV)] ++ ([(.int .i64 x.bw)] ++ ([v0]))))
def cw:Dt aN:=uh (fun x=>(x.bQ,x.pos,x.bV,x.bw,x.aT)) (fR ij (fR cZ (fR eI (fR eI (qR cZ)))))
def aN.ok (x:aN):Prop:=x.pos<18446744073709551616/\x.bV<9223372036854775808/\x.bw<9223372036854775808
theorem jj {w:World} {Q:Nat->Prop} {cs:List Value} {x:aN} (h:cw.oN w Q cs x):∃a,cs=x.cells a/\aN.ok x/\Ls cZ w Q a x.aT:=by obtain⟨_,_,rfl,⟨rfl,_⟩,⟨_,_,rfl,⟨rfl,b⟩,⟨_,_,rfl,⟨rfl,c⟩,⟨_,_,rfl,⟨rfl,C⟩,⟨a,rfl,D⟩⟩⟩⟩⟩:=h;exact⟨a,q,⟨b,c,C⟩,D⟩
theorem uW {w:World} {Q:Nat->Prop} {x:aN} {v0:Value} (c0:aN.ok x) (c1:Ls cZ w Q v0 x.aT):cw.oN w Q (x.cells v0) x :=
  ⟨_,_,q,⟨q,tV⟩,⟨_,_,q,⟨q,c0.1⟩,⟨_,_,q,⟨q,c0.2.1⟩,⟨_,_,q,⟨q,c0.2.2⟩,⟨_,q,c1⟩⟩⟩⟩⟩
theorem aN.one {x:aN} {v0:Value} (a:v0.oneCell'=true):(x.cells v0).all (fun b=>b.oneCell')=true:=(bT q (bT q (bT q (bT q (mW a)))))
structure Mk where
  c:nA
  h:ej
  depth:Nat
  b:List UInt8
  ai:List aN
  ak:List aN
  main:List Nat
def Mk.cells (x:Mk) (v0:Value) (v1:Value) (v2:Value) (v3:Value):List Value :=
  (nA.cells x.c) ++ ((ej.cells x.h) ++ ([(.int .u64 x.depth)] ++ ([v0] ++ ([v1] ++ ([v2] ++ ([v3]))))))
def tMk:Dt Mk:=uh (fun x=>(x.c,x.h,x.depth,x.b,x.ai,x.ak,x.main)) (fR ajW (fR WN (fR cZ (fR (qR eC) (fR (qR cw) (fR (qR cw) (qR cZ)))))))
def Mk.ok (x:Mk):Prop:=nA.ok x.c/\ej.ok x.h/\x.depth<18446744073709551616
theorem ajX {w:World} {Q:Nat->Prop} {cs:List Value} {x:Mk} (h:tMk.oN w Q cs x):∃a c d e,cs=x.cells a c d e/\Mk.ok x/\Ls eC w Q a x.b/\Ls cw w Q c x.ai/\Ls cw w Q d x.ak/\Ls cZ w Q e x.main:=by obtain⟨_,_,rfl,C,⟨_,_,rfl,D,⟨_,_,rfl,⟨rfl,i⟩,⟨_,_,rfl,⟨a,rfl,j⟩,⟨_,_,rfl,⟨c,rfl,G⟩,⟨_,_,rfl,⟨d,rfl,H⟩,⟨e,rfl,k⟩⟩⟩⟩⟩⟩⟩:=h;obtain⟨_,rfl,f⟩:=ah5 C;obtain⟨_,rfl,g⟩:=ab6 D;exact⟨a,c,d,e,q,⟨f,g,i⟩,j,G,H,k⟩
theorem af5 {w:World} {Q:Nat->Prop} {x:Mk} {v0:Value} {v1:Value} {a:Value} {c:Value} (c0:Mk.ok x) (c1:Ls eC w Q v0 x.b) (c2:Ls cw w Q v1 x.ai) (c3:Ls cw w Q a x.ak) (c4:Ls cZ w Q c x.main):tMk.oN w Q (x.cells v0 v1 a c) x :=
  ⟨_,_,q,(ah4 c0.1),⟨_,_,q,(ab5 c0.2.1),⟨_,_,q,⟨q,c0.2.2⟩,⟨_,_,q,⟨_,q,c1⟩,⟨_,_,q,⟨_,q,c2⟩,⟨_,_,q,⟨_,q,c3⟩,⟨_,q,c4⟩⟩⟩⟩⟩⟩⟩
theorem Mk.one {x:Mk} {v0:Value} {v1:Value} {a:Value} {b:Value} (c:v0.oneCell'=true) (h1:v1.oneCell'=true) (d:a.oneCell'=true) (e:b.oneCell'=true):(x.cells v0 v1 a b).all (fun f=>f.oneCell')=true:=(bT (nA.one) (bT (ej.one) (bT q (bT (mW c) (bT (mW h1) (bT (mW d) (mW e)))))))
structure Sq where
  l:List Int
  pos:Nat
def Sq.cells (x:Sq) (v0:Value):List Value :=
  [v0] ++ ([(.int .i64 x.pos)])
def Sq.ok (x:Sq):Prop:=x.pos<9223372036854775808
end Go.Wk
namespace Go.Wk
open Go Go.RowKit
def low:Nat->Nat->List UInt8
  | _,0=>[]
  | v,n+1=>UInt8.ofNat (v%256) :: low (v/256) n
theorem iq (v n:Nat):(low v n).length=n:=by
  induction n generalizing v with
  | zero=>rfl
  | succ n ih=>simp[low,ih]
def nums:List Nat->List UInt8
  | []=>[]
  | v :: r=>low v 8 ++ nums r
theorem ez (l:List Nat):(nums l).length=8*l.length:=by
  induction l with
  | nil=>rfl
  | cons v r ih=>simp[nums,iq,ih];omega
theorem Rc (v:Nat) {n i:Nat} (h:i<n):low v (n-i)=UInt8.ofNat (v%256) :: low (v/256) (n-(i+1)):=by rw[show n-i=(n-(i+1))+1 by omega];rfl
theorem YE (v:Nat) {n i:Nat} (h:¬i<n):low v (n-i)=[]:=by rw[show n-i=0 by omega];rfl
theorem aa3 {l:List Nat} {i x:Nat} (h:l[i]? = some x):nums (l.drop i)=low x 8 ++ nums (l.drop (i+1)):=by rw[cH h];rfl
theorem RL {l:List Nat} {i:Nat} (h:¬i<l.length):nums (l.drop i)=[]:=by rw[er Xx];rfl
def FO (l:Ly):List UInt8:=l ++ List.replicate ((8-l.length%8)%8) 0
theorem aaQ {l:Ly} (h:l.length%8≠0):FO l=FO (l ++ [0]):=by unfold FO;rw[List.append_assoc,List.length_append];congr 1;rw[show(8-l.length%8)%8=(8-(l.length+[(0:UInt8)].length)%8)%8+1 by simp;omega,List.replicate_succ];rfl
theorem aeJ {l:Ly} (h:l.length%8=0):FO l=l:=by simp[FO,h]
theorem aeK (l:Ly):(FO l).length=(l.length+7)/8*8:=by simp[FO];omega
def pZ (kind:Nat) (body:Ly):List UInt8 :=
  if kind<1\/7<kind then[]else FO ([UInt8.ofNat kind,0,0,0,0,0,0,0] ++ nums [16+body.length] ++ body)
def iu (d:fV):List UInt8:=pZ 1 (nums [d.bY,d.b9,d.dr,d.entry,d.array,d.bw] ++ d.au)
def gu (d:jh):List UInt8:=pZ 2 (nums [d.bY,d.b9,d.dat] ++ d.au)
def fe (a:iL):List UInt8:=pZ 6 (nums [a.next] ++ nums a.aF)
def pR:List o9->List UInt8
  | []=>[]
  | s :: r=>nums [s.first,s.tail] ++ pR r
def dV (kind:Nat) (l:List o9):List UInt8:=if kind≠4/\kind≠5 then[]else pZ kind (pR l)
def kU:List lJ->List UInt8
  | []=>[]
  | s :: r=>nums [s.pos,s.bY] ++ kU r
def cW (e:gU):List UInt8:=pZ 3 (nums [e.seq,e.bK,e.mono] ++ e.bD ++ nums [e.xor] ++ kU e.aF)
def wQ (h:ej) (depth:Nat):List UInt8 :=
  [76,80,75,83,72,72,82,72] ++ low h.gD 4 ++ low h.bN 4 ++ [UInt8.ofNat h.state,0,0,0,0,0,0,0] ++ h.cg ++ h.dG ++ h.bD ++ h.seq ++ nums h.n ++ nums [depth] ++ low h.cK 4 ++ low h.dc 4 ++ nums [h.dI]
theorem tO {k:Nat} {b:Ly} (h:1<=k/\k<=7):(pZ k b).length=(16+b.length+7)/8*8:=by unfold pZ;rw[if_neg Xx,aeK];simp[ez];omega
theorem WH {l:List o9} {i:Nat} {x:o9} (h:l[i]? = some x):pR (l.drop i)=nums [x.first,x.tail] ++ pR (l.drop (i+1)):=by rw[cH h];rfl
theorem KX {l:List o9} {i:Nat} (h:¬i<l.length):pR (l.drop i)=[]:=by rw[er Xx];rfl
theorem abx (l:List o9):(pR l).length=16*l.length:=by
  induction l with
  | nil=>rfl
  | cons v r ih=>simp[pR,ez,ih];omega
theorem UO {l:List lJ} {i:Nat} {x:lJ} (h:l[i]? = some x):kU (l.drop i)=nums [x.pos,x.bY] ++ kU (l.drop (i+1)):=by rw[cH h];rfl
theorem JE {l:List lJ} {i:Nat} (h:¬i<l.length):kU (l.drop i)=[]:=by rw[er Xx];rfl
theorem uK (l:List lJ):(kU l).length=16*l.length:=by
  induction l with
  | nil=>rfl
  | cons v r ih=>simp[kU,ez,ih];omega
theorem xF (d:fV):(iu d).length=(16+(48+d.au.length)+7)/8*8:=by unfold iu;rw[tO Xx];simp[ez]
theorem vv (d:jh):(gu d).length=(16+(24+d.au.length)+7)/8*8:=by unfold gu;rw[tO Xx];simp[ez]
theorem vu (a:iL):(fe a).length=(16+(8+8*a.aF.length)+7)/8*8:=by unfold fe;rw[tO Xx];simp[ez]
theorem lS (e:gU) (h:e.bD.length=16):(cW e).length=(16+(48+16*e.aF.length)+7)/8*8:=by unfold cW;rw[tO Xx];simp[ez,uK,h];omega
theorem vw (kind:Nat) (l:List o9) (h:kind=4\/kind=5):(dV kind l).length=(16+16*l.length+7)/8*8:=by unfold dV;rw[if_neg Xx,tO Xx,abx]
theorem mY (kind:Nat) (l:List o9):(dV kind l).length<=24+16*l.length/\(kind=4\/kind=5->(dV kind l).length=(16+16*l.length+7)/8*8):=by
  refine⟨?_,fun h=>vw kind l h⟩
  by_cases h:kind=4\/kind=5
  · rw[vw kind l h];omega
  unfold dV;rw[if_pos Xx];simp
theorem abm {h:ej} {j v:Nat} (d:h.n.length=20) (c:j<20):(ej.cells h).set (67+j) (.int .u64 v)=ej.cells {h with n:=h.n.set j v}:=by
  have a:∀(m:List Nat) (t:ej),t.n=m->ej.cells t=([(.int .u32 t.gD)] ++ ([(.int .u32 t.bN)] ++ ([(.int .i64 t.state)] ++ ((iY t.cg) ++ ((iY t.dG) ++ ((iY t.bD) ++ (iY t.seq))))))) ++ (oD m ++ ([(.int .u32 t.cK)] ++ ([(.int .u32 t.dc)] ++ [(.int .u64 t.dI)]))):=by intro m t C;subst C;simp only[ej.cells,List.append_assoc]
  rw[a h.n h q,a (h.n.set j v) {h with n:=h.n.set j v} q,FB d c];have b:([(.int .u32 h.gD)] ++ ([(.int .u32 h.bN)] ++ ([(.int .i64 h.state)] ++ ((iY h.cg) ++ ((iY h.dG) ++ ((iY h.bD) ++ (iY h.seq)))))):List Value).length=67:=rfl;have e:(oD h.n).length=20:=rfl;rw[List.set_append_right _ _ Xx,b,Nat.add_sub_cancel_left,List.set_append_left _ _ Xx]
end Go.Wk
namespace Go.Wk
open Go Go.RowKit
theorem HZ (c:BinOp) (a b:Int):0<=bits c .u64 a b/\bits c .u64 a b<18446744073709551616:=by unfold bits;cases c <;> simp only[O3] <;> omega
theorem YX (t:T3):0<=pack t/\pack t<18446744073709551616:=HZ _ _ _
theorem adE:∀(k:Nat) (t:T3) (l:Ly),0<=YA k t l/\YA k t l<18446744073709551616
  | 0,t,l=>by unfold YA;split<;>exact YX _
  | k+1,t,l=>by
    unfold YA;split
    · exact adE k _ _
    · split<;>exact YX _
theorem uN (l:Ly):0<=lookup l/\lookup l<18446744073709551616:=adE _ _ _
theorem afw (key l:Ly):0<=sip key l/\sip key l<18446744073709551616:=by unfold sip GD S4.all lD;exact HZ _ _ _
def r7 (l:Ly):Nat:=(lookup l).toNat
def cP (k:Bool) (key l:Ly):Nat:=if k then(sip key l).toNat else r7 l
theorem DW (k:Bool) (key l:Ly):((cP k key l:Nat):Int)=if k then sip key l else lookup l:=by unfold cP r7;have A:=uN l;have B:=afw key l;cases k <;> simp <;> omega
theorem DX (k:Bool) (key l:Ly):cP k key l<18446744073709551616:=by have B:=uN l;have C:=afw key l;have A:=DW k key l;cases k <;> simp at A <;> omega
theorem Rb (l:Ly):((r7 l:Nat):Int)=lookup l:=by have A:=uN l;unfold r7;omega
theorem ES (l:Ly):r7 l<18446744073709551616:=by have A:=uN l;unfold r7;omega
def nu (v:Nat):List (List UInt8)->Nat
  | []=>v
  | b :: r=>nu (v ^^^ r7 b) r
theorem TS {v:Nat} {l:List (List UInt8)} {i:Nat} {x:Ly} (h:l[i]? = some x):nu v (l.drop i)=nu (v ^^^ r7 x) (l.drop (i+1)):=by rw[cH h];rfl
theorem BL {v:Nat} {l:List (List UInt8)} {i:Nat} (h:¬i<l.length):nu v (l.drop i)=v:=by rw[er Xx];rfl
theorem GW {a b:Nat} (c:a<18446744073709551616) (hb:b<18446744073709551616):a ^^^ b<18446744073709551616:=Nat.xor_lt_two_pow (n:=64) c hb
def au (p:Pr):List UInt8:=p.name ++ [61] ++ p.value
theorem ic (p:Pr):(au p).length=p.name.length+1+p.value.length:=by simp[au];omega
end Go.Wk
namespace Go.Wk
open Go Go.RowKit
def dA (k:Int):Nat:=if k<0 then 0 else if 6<k then 256 else min (4*2 ^ k.toNat) 256
def HM:Nat->List UInt8->Nat->Nat->Nat->List UInt8
  | 0,b,_,_,_=>b
  | n+1,b,p,v,i=>HM n (b.set (p+i) (UInt8.ofNat (v/2 ^ (8*i)))) p v (i+1)
def ig (b:Ly) (p v:Nat):List UInt8:=HM 8 b p v 0
theorem aeQ (n:Nat) (b:Ly) (p v i:Nat):(HM n b p v i).length=b.length:=by
  induction n generalizing b i with
  | zero=>rfl
  | succ n ih=>simp[HM,ih]
theorem eO (b:Ly) (p v:Nat):(ig b p v).length=b.length:=aeQ 8 b p v 0
def Mk.put (m:Mk) (p v:Nat):Mk:={m with b:=ig m.b p v}
theorem jT (m:Mk) (p v:Nat):(m.put p v).b.length=m.b.length:=eO _ _ _
theorem aaV {n i:Nat} {b:Ly} {p v:Nat} (h:i<n):HM (n-i) b p v i=HM (n-(i+1)) (b.set (p+i) (UInt8.ofNat (v/2 ^ (8*i)))) p v (i+1):=by rw[show n-i=(n-(i+1))+1 by omega];rfl
theorem aeP {n i:Nat} {b:Ly} {p v:Nat} (h:¬i<n):HM (n-i) b p v i=b:=by rw[show n-i=0 by omega];rfl
def Mk.cE (m:Mk) (k v:Nat):Mk:={m with h:={m.h with n:=m.h.n.set k v}}
def Mk.bS (m:Mk) (k:Nat):Nat:=m.h.n.getD k 0
def Mk.bU (m:Mk) (o:Ly):Nat × Mk :=
  let m1:={m with b:=m.b ++ o}
  let m29:=m1.cE 6 m.b.length
  (m.b.length,m29.cE 7 ((m29.bS 7+1)%18446744073709551616))
def nD (bV:Nat):List aN->Nat->Nat->Nat × Nat
  | [],n,q=>(n,q)
  | k :: r,n,q=>if k.bV=bV then nD bV r (n+1) k.pos else nD bV r n q
def Mk.hang (m:Mk) (l:List aN) (table p bV:Nat):Nat × Mk :=
  match nD bV l 0 0 with
  | (n,q)=>(n,(if n=0 then m.put (table+16*bV) p else m.put (q+24) p).put (table+16*bV+8) p)
def oL (name:Ly):List aN->Option Nat
  | []=>none
  | k :: r=>if k.bQ=name then some k.pos else oL name r
def mQ (s:Ly):List aN->Nat->Option Nat
  | [],_=>none
  | k :: r,i=>if k.bQ=s then some i else mQ s r (i+1)
def Mk.field (m:Mk) (name:Ly):Nat × Mk :=
  match oL name m.ak with
  | some p=>(p,m)
  | none =>
    match m.bU (gu {bY:=cP m.c.cC m.c.cg name,b9:=0,dat:=0,au:=name})with
    | (p,m1)=>match m1.hang m1.ak (m1.bS 4) p (cP m.c.cC m.c.cg name%m1.c.aC)with
      | (n,m29) =>
        let m3:={m29 with depth:=max m1.depth n}
        let m4:=m3.cE 16 ((m3.bS 16+1)%18446744073709551616)
        (p,{m4 with ak:=m4.ak ++ [({bQ:=name,pos:=p,bV:=cP m.c.cC m.c.cg name%m1.c.aC,bw:=0,aT:=[]}:aN)]})
def Mk.data (m:Mk) (x:Pr):Nat × Mk :=
  match mQ (au x) m.ai 0 with
  | some i=>(i,m)
  | none =>
    match m.bU (iu {bY:=cP m.c.cC m.c.cg (au x),b9:=0,dr:=0,entry:=0,array:=0,bw:=0,au:=au x})with
    | (p,m1)=>match m1.hang m1.ai (m1.bS 2) p (cP m.c.cC m.c.cg (au x)%m1.c.ay)with
      | (n,m29) =>
        let m3:=m29.cE 19 (max (m29.bS 19) n)
        let m4:=m3.cE 15 ((m3.bS 15+1)%18446744073709551616)
        let m5:={m4 with ai:=m4.ai ++ [({bQ:=au x,pos:=p,bV:=cP m.c.cC m.c.cg (au x)%m1.c.ay,bw:=0,aT:=[]}:aN)]}
        match m5.field x.name with
        | (k,m6) =>
          let m7:=m6.put (p+32) (lO m6.b (k+32:Nat) 8).1
          let m8:=m7.put (k+32) p
          (m8.ai.length-1,m8)
theorem abr (m:Mk) (k v:Nat):(m.cE k v).b=m.b/\(m.cE k v).c=m.c/\(m.cE k v).ai=m.ai/\(m.cE k v).ak=m.ak/\(m.cE k v).main=m.main:=⟨q,q,q,q,q⟩
theorem aX {l:List Nat} {i j v:Nat} (h:i≠j):(l.set i v).getD j 0=l.getD j 0:=by simp[List.getD,List.getElem?_set_ne h]
theorem cJ {m:Mk} {k v j:Nat} (h:k≠j):(m.cE k v).bS j=m.bS j:=aX h
theorem gF (m:Mk) (o:Ly):(m.bU o).1=m.b.length/\(m.bU o).2.b.length=m.b.length+o.length/\(m.bU o).2.c.ay=m.c.ay/\(m.bU o).2.c.aC=m.c.aC/\(m.bU o).2.ai.length=m.ai.length/\(m.bU o).2.ak.length=m.ak.length /\
    (m.bU o).2.h.n.getD 2 0=m.h.n.getD 2 0/\(m.bU o).2.h.n.getD 4 0=m.h.n.getD 4 0 :=
  ⟨q,by simp[Mk.bU,Mk.cE],q,q,q,q,by simp only[Mk.bU,Mk.cE];rw[aX Xy,aX Xy],by simp only[Mk.bU,Mk.cE];rw[aX Xy,aX Xy]⟩
theorem dR (m:Mk) (o:Ly):(m.bU o).2.c=m.c/\(m.bU o).2.ai=m.ai/\(m.bU o).2.ak=m.ak/\(m.bU o).2.main=m.main:=⟨q,q,q,q⟩
theorem kC (m:Mk) (p v:Nat):(m.put p v).b.length=m.b.length/\(m.put p v).c.ay=m.c.ay/\(m.put p v).c.aC=m.c.aC/\(m.put p v).ai.length=m.ai.length/\(m.put p v).ak.length=m.ak.length /\
    (m.put p v).h.n.getD 2 0=m.h.n.getD 2 0/\(m.put p v).h.n.getD 4 0=m.h.n.getD 4 0:=⟨eO _ _ _,q,q,q,q,q,q⟩
theorem AQ (m:Mk) (l:List aN) (table p bV:Nat):(m.hang l table p bV).2={m with b:=(m.hang l table p bV).2.b}/\(m.hang l table p bV).2.b.length=m.b.length:=by
  unfold Mk.hang;generalize nD bV l 0 0=r;obtain⟨n,q⟩:=r;simp only;split
  · exact⟨rfl,by rw[jT,jT]⟩
  exact⟨rfl,by rw[jT,jT]⟩
theorem uJ (m:Mk) (l:List aN) (table p bV:Nat):(m.hang l table p bV).2.b.length=m.b.length/\(m.hang l table p bV).2.c.ay=m.c.ay/\(m.hang l table p bV).2.c.aC=m.c.aC/\(m.hang l table p bV).2.ai.length=m.ai.length/\(m.hang l table p bV).2.ak.length=m.ak.length /\
    (m.hang l table p bV).2.h.n.getD 2 0=m.h.n.getD 2 0/\(m.hang l table p bV).2.h.n.getD 4 0=m.h.n.getD 4 0:=by
  obtain⟨A,B⟩:=AQ m l table p bV;refine⟨B,?_,?_,?_,?_,?_,?_⟩ <;> rw[A]
theorem gV (m:Mk) (l:List aN) (table p bV:Nat):(m.hang l table p bV).2.c=m.c/\(m.hang l table p bV).2.ai=m.ai/\(m.hang l table p bV).2.ak=m.ak/\(m.hang l table p bV).2.main=m.main/\(m.hang l table p bV).2.depth=m.depth/\(m.hang l table p bV).2.h=m.h:=by have A:=(AQ m l table p bV).1;refine⟨?_,?_,?_,?_,?_,?_⟩ <;> rw[A]
theorem J8 {bV i n q:Nat} {l:List aN} {x:aN} (h:l[i]? = some x):nD bV (l.drop i) n q=if x.bV=bV then nD bV (l.drop (i+1)) (n+1) x.pos else nD bV (l.drop (i+1)) n q:=by rw[cH h];rfl
theorem wO {bV i n q:Nat} {l:List aN} (h:¬i<l.length):nD bV (l.drop i) n q=(n,q):=by rw[er Xx];rfl
theorem DF {s:Ly} {i:Nat} {l:List aN} {x:aN} (h:l[i]? = some x):oL s (l.drop i)=if x.bQ=s then some x.pos else oL s (l.drop (i+1)):=by rw[cH h];rfl
theorem yA {s:Ly} {i:Nat} {l:List aN} (h:¬i<l.length):oL s (l.drop i)=none:=by rw[er Xx];rfl
theorem CZ {s:Ly} {i j:Nat} {l:List aN} {x:aN} (h:l[i]? = some x):mQ s (l.drop i) j=if x.bQ=s then some j else mQ s (l.drop (i+1)) (j+1):=by rw[cH h];rfl
theorem yw {s:Ly} {i j:Nat} {l:List aN} (h:¬i<l.length):mQ s (l.drop i) j=none:=by rw[er Xx];rfl
def Mk.fit (m:Mk):Prop:=1<=m.c.ay/\m.c.ay<=64/\1<=m.c.aC/\m.c.aC<=64/\m.h.n.getD 2 0+16*m.c.ay<=m.b.length/\m.h.n.getD 4 0+16*m.c.aC<=m.b.length /\
  (∀k∈m.ai,k.pos+64<=m.b.length)/\(∀k∈m.ak,k.pos+40<=m.b.length)
theorem pF {m m':Mk} (h:m.fit) (h1:m'.c.ay=m.c.ay/\m'.c.aC=m.c.aC/\m'.h.n.getD 2 0=m.h.n.getD 2 0/\m'.h.n.getD 4 0=m.h.n.getD 4 0/\m.b.length<=m'.b.length)
    (hd:∀k∈m'.ai,k∈m.ai\/k.pos+64<=m'.b.length) (hf:∀k∈m'.ak,k∈m.ak\/k.pos+40<=m'.b.length):m'.fit:=by
  obtain⟨G,H,I,J,K,L,A,B⟩:=h;obtain⟨C,D,E,F,M⟩:=h1;refine⟨by omega,by omega,by omega,by omega,by rw[C,E];omega,by rw[D,F];omega,fun k hk=>?_,fun k hk=>?_⟩
  · rcases hd k hk with h|h
    · have:=A k h;omega
    exact h
  rcases hf k hk with h|h
  · have:=B k h;omega
  exact h
theorem yB {s:Ly} {l:List aN} {p:Nat} (h:oL s l=some p):∃k∈l,k.pos=p/\k.bQ=s:=by
  induction l with
  | nil=>simp[oL]at h
  | cons x l ih =>
    simp only[oL]at h;split at h
    · rename_i hx;exact⟨x,by simp,by simpa using h,hx⟩
    · obtain⟨k,hk,A⟩:=ih h;exact⟨k,by simp[hk],A⟩
theorem acQ {s:Ly} {l:List aN} {j i:Nat} (h:mQ s l j=some i):j<=i/\i<j+l.length:=by
  induction l generalizing j with
  | nil=>simp[mQ]at h
  | cons x l ih =>
    simp only[mQ]at h;split at h
    · simp at h;simp;omega
    · have:=ih h;simp;omega
theorem uF (m:Mk) (name:Ly) (h:m.fit):((m.field name).1+40<=(m.field name).2.b.length/\m.b.length<=(m.field name).2.b.length/\(m.field name).2.b.length<=m.b.length+(48+name.length)/\(m.field name).2.ai.length=m.ai.length/\(m.field name).2.ak.length<=m.ak.length+1 /\
    (m.field name).2.c.ay=m.c.ay/\(m.field name).2.c.aC=m.c.aC/\(m.field name).2.h.n.getD 2 0=m.h.n.getD 2 0/\(m.field name).2.h.n.getD 4 0=m.h.n.getD 4 0/\(m.field name).2.h.n.getD 8 0=m.h.n.getD 8 0) /\
    ((m.field name).2.c=m.c/\(m.field name).2.ai=m.ai/\(m.field name).2.main=m.main)/\(m.field name).2.fit:=by
  unfold Mk.field;cases hk:oL name m.ak with
  | some p =>
    obtain⟨k,D,U,_⟩:=yB hk;have:=h.2.2.2.2.2.2.2 k D;exact⟨⟨by simp only;omega,Nat.le_refl _,by simp only;omega,q,by simp only;omega,q,q,q,q,q⟩,⟨q,q,q⟩,h⟩
  | none =>
    simp only;have C:=gF m (gu {bY:=cP m.c.cC m.c.cg name,b9:=0,dat:=0,au:=name});have I:=dR m (gu {bY:=cP m.c.cC m.c.cg name,b9:=0,dat:=0,au:=name});have J:(m.bU (gu {bY:=cP m.c.cC m.c.cg name,b9:=0,dat:=0,au:=name})).2.h.n.getD 8 0=m.h.n.getD 8 0:=(by simp only[Mk.bU,Mk.cE];rw[aX Xy,aX Xy]);rw[vv]at C;simp only at C;generalize m.bU (gu {bY:=cP m.c.cC m.c.cg name,b9:=0,dat:=0,au:=name})=r at *;obtain⟨p,A⟩:=r;simp only at C I J ⊢;have K:=uJ A A.ak (A.bS 4) p (cP m.c.cC m.c.cg name%A.c.aC);have L:=gV A A.ak (A.bS 4) p (cP m.c.cC m.c.cg name%A.c.aC);generalize A.hang A.ak (A.bS 4) p (cP m.c.cC m.c.cg name%A.c.aC)=r at *;obtain⟨n,B⟩:=r;simp only at K L ⊢;obtain⟨V,W,X,Y,Z,a,d,e⟩:=C;obtain⟨M,E,N,O⟩:=I;obtain⟨f,g,i,j,l,o,t⟩:=K;obtain⟨P,F,Q,R,u,S⟩:=L;simp only[Mk.cE,List.length_append,List.length_singleton];have G:(B.h.n.set 16 ((B.bS 16+1)%18446744073709551616)).getD 2 0=m.h.n.getD 2 0:=(by rw[aX Xy];omega);have H:(B.h.n.set 16 ((B.bS 16+1)%18446744073709551616)).getD 4 0=m.h.n.getD 4 0:=(by rw[aX Xy];omega);have T:(B.h.n.set 16 ((B.bS 16+1)%18446744073709551616)).getD 8 0=m.h.n.getD 8 0:=(by rw[aX Xy,S,J]);refine⟨⟨by omega,by omega,by omega,by omega,by omega,by omega,by omega,G,H,T⟩,⟨by rw[P,M],by rw[F,E],by rw[R,O]⟩,?_⟩;refine pF h ⟨by simp only;omega,by simp only;omega,G,H,by simp only;omega⟩ (fun k hk=>?_) (fun k hk=>?_)
    · simp only[F,E]at hk;exact .inl hk
    · simp only[Q,N,List.mem_append,List.mem_singleton]at hk
      rcases hk with hk|rfl
      · exact .inl hk
      · right;simp only;omega
theorem UD (m:Mk) (name:Ly) (h:m.fit):(m.field name).1+40<=(m.field name).2.b.length/\m.b.length<=(m.field name).2.b.length/\(m.field name).2.b.length<=m.b.length+(48+name.length)/\(m.field name).2.ai.length=m.ai.length/\(m.field name).2.ak.length<=m.ak.length+1 /\
    (m.field name).2.c.ay=m.c.ay/\(m.field name).2.c.aC=m.c.aC/\(m.field name).2.h.n.getD 2 0=m.h.n.getD 2 0/\(m.field name).2.h.n.getD 4 0=m.h.n.getD 4 0/\(m.field name).2.h.n.getD 8 0=m.h.n.getD 8 0:=(uF m name h).1
theorem UC (m:Mk) (name:Ly) (h:m.fit):(m.field name).2.c=m.c/\(m.field name).2.ai=m.ai/\(m.field name).2.main=m.main:=(uF m name h).2.1
theorem ZQ (m:Mk) (name:Ly) (h:m.fit):(m.field name).2.fit:=(uF m name h).2.2
section
variable {m y:Mk} {v1 v2 v3 v4:Value} {w:World} {b t i v j:Nat}
theorem ajq (b:m.h.n.length=20) (hi:i<20):(Mk.cells m v1 v2 v3 v4).set (119+i) (.int .u64 v)=Mk.cells {m with h:={m.h with n:=m.h.n.set i v}} v1 v2 v3 v4:=by have a:(nA.cells m.c).length=52:=rfl;have d:(ej.cells m.h).length=90:=rfl;show(nA.cells m.c ++ (ej.cells m.h ++ _)).set _ _=nA.cells m.c ++ (ej.cells _ ++ _);rw[List.set_append_right _ _ Xx,a,show 119+i-52=67+i by omega,List.set_append_left _ _ Xx,abm b hi]
theorem MR (a:bC w b ((Mk.cells m v1 v2 v3 v4).set j (.int .u64 v)) t) (ok:Mk.ok m) (r:v<18446744073709551616) (p:j=119+i) (hi:i<20):∃y,y=({m with h:={m.h with n:=m.h.n.set i v}}:Mk)/\bC w b (Mk.cells y v1 v2 v3 v4) t/\Mk.ok y:=by subst p;rw[ajq ok.2.1.2.2.2.2.2.2.2.1.1 hi]at a;obtain⟨d,⟨e,b,c,l,o,f,g,h,k⟩,C⟩:=ok;exact⟨_,q,a,d,⟨e,b,c,l,o,f,g,xh h r,k⟩,C⟩
theorem jR (a:bC w b ((Mk.cells m v1 v2 v3 v4).set j (.int .u64 v)) t) (ok:Mk.ok m) (e:v<18446744073709551616) (d:j=119+i:=by rfl) (hi:i<20:=by decide) (f:i≠2:=by decide) (g:i≠4:=by decide):∃y,y=({m with h:={m.h with n:=m.h.n.set i v}}:Mk)/\bC w b (Mk.cells y v1 v2 v3 v4) t/\Mk.ok y/\y.b.length=m.b.length/\y.ai.length=m.ai.length/\y.ak.length=m.ak.length/\y.c.ay=m.c.ay/\y.c.aC=m.c.aC/\y.h.n.getD 2 0=m.h.n.getD 2 0/\y.h.n.getD 4 0=m.h.n.getD 4 0:=by obtain⟨y,rfl,h,k⟩:=MR a ok e d hi;exact⟨_,q,h,k,q,q,q,q,q,aX Xx,aX Xx⟩
theorem agG (a:bC w b ((Mk.cells m v1 v2 v3 v4).set j (.int .u64 v)) t) (ok:Mk.ok m) (e:v<18446744073709551616) (d:j=119+i:=by rfl) (hi:i<20:=by decide) (f:i≠4:=by decide):∃y,y=({m with h:={m.h with n:=m.h.n.set i v}}:Mk)/\bC w b (Mk.cells y v1 v2 v3 v4) t/\Mk.ok y/\y.b.length=m.b.length/\y.ai.length=m.ai.length/\y.ak.length=m.ak.length/\y.c.ay=m.c.ay/\y.c.aC=m.c.aC/\y.h.n.getD 4 0=m.h.n.getD 4 0:=by obtain⟨y,rfl,h,k⟩:=MR a ok e d hi;exact⟨_,q,h,k,q,q,q,q,q,aX Xx⟩
theorem agH (a:bC w b ((Mk.cells m v1 v2 v3 v4).set j (.int .u64 v)) t) (ok:Mk.ok m) (e:v<18446744073709551616) (d:j=119+i:=by rfl) (hi:i<20:=by decide) (f:i≠2:=by decide):∃y,y=({m with h:={m.h with n:=m.h.n.set i v}}:Mk)/\bC w b (Mk.cells y v1 v2 v3 v4) t/\Mk.ok y/\y.b.length=m.b.length/\y.ai.length=m.ai.length/\y.ak.length=m.ak.length/\y.c.ay=m.c.ay/\y.c.aC=m.c.aC/\y.h.n.getD 2 0=m.h.n.getD 2 0:=by obtain⟨y,rfl,h,k⟩:=MR a ok e d hi;exact⟨_,q,h,k,q,q,q,q,q,aX Xx⟩
theorem agF {x:Ly} (e:y={m with b:=x}):y.ai.length=m.ai.length/\y.ak.length=m.ak.length/\y.c.ay=m.c.ay/\y.c.aC=m.c.aC/\y.h.n.getD 2 0=m.h.n.getD 2 0/\y.h.n.getD 4 0=m.h.n.getD 4 0:=by subst e;exact⟨q,q,q,q,q,q⟩
theorem wY {x:List aN} (e:y={m with ai:=x}):y.b.length=m.b.length/\y.ak.length=m.ak.length/\y.c.ay=m.c.ay/\y.c.aC=m.c.aC/\y.h.n.getD 2 0=m.h.n.getD 2 0/\y.h.n.getD 4 0=m.h.n.getD 4 0:=by subst e;exact⟨q,q,q,q,q,q⟩
theorem yO {x:List aN} (e:y={m with ak:=x}):y.b.length=m.b.length/\y.ai.length=m.ai.length/\y.c.ay=m.c.ay/\y.c.aC=m.c.aC/\y.h.n.getD 2 0=m.h.n.getD 2 0/\y.h.n.getD 4 0=m.h.n.getD 4 0:=by subst e;exact⟨q,q,q,q,q,q⟩
theorem YJ {x:List Nat} (e:y={m with main:=x}):y.b.length=m.b.length/\y.ai.length=m.ai.length/\y.ak.length=m.ak.length/\y.c.ay=m.c.ay/\y.c.aC=m.c.aC/\y.h.n.getD 2 0=m.h.n.getD 2 0/\y.h.n.getD 4 0=m.h.n.getD 4 0:=by subst e;exact⟨q,q,q,q,q,q,q⟩
theorem adN {x:Nat} (e:y={m with depth:=x}):y.b.length=m.b.length/\y.ai.length=m.ai.length/\y.ak.length=m.ak.length/\y.c.ay=m.c.ay/\y.c.aC=m.c.aC/\y.h.n.getD 2 0=m.h.n.getD 2 0/\y.h.n.getD 4 0=m.h.n.getD 4 0:=by subst e;exact⟨q,q,q,q,q,q,q⟩
theorem VD {x:ej} (e:y={m with h:=x}):y.b.length=m.b.length/\y.ai.length=m.ai.length/\y.ak.length=m.ak.length/\y.c.ay=m.c.ay/\y.c.aC=m.c.aC:=by subst e;exact⟨q,q,q,q,q⟩
end
section
variable {P:Program}
end
end Go.Wk
namespace Go.Wk
open Go Go.RowKit
theorem tY (k:Int):dA k<=256:=by unfold dA;split;omega;split<;>omega
def eW:List Nat->Nat->Nat->Nat->Nat × Nat
  | [],_,a,r=>(a,r)
  | _ :: l,k,_,r=>eW l (k+1) r (r+dA (k:Int))
def iZ (l:List Nat):Nat:=l.getD (l.length-1) 0
def Mk.link (m:Mk) (aT:List Nat) (n src gN:Nat):List Nat × Nat × Mk :=
  match eW aT 0 0 0 with
  | (ahead,room) =>
    if n=room then
      match m.bU (fe {next:=0,aF:=List.replicate (dA (aT.length:Int)) 0})with
      | (p,m1) =>
        let m29:=m1.cE 18 ((m1.bS 18+1)%18446744073709551616)
        (aT ++ [p],n-room+1,(if aT.length=0 then m29.put src p else m29.put (iZ aT+16) p).put (iZ (aT ++ [p])+24+8*(n-room)) gN)
    else(aT,n-ahead+1,m.put (iZ aT+24+8*(n-ahead)) gN)
theorem vY {l:List Nat} {i k a r:Nat} (h:i<l.length):eW (l.drop i) k a r=eW (l.drop (i+1)) (k+1) r (r+dA (k:Int)):=by obtain⟨x,A⟩:=dY h;rw[cH A];rfl
theorem uT {l:List Nat} {i k a r:Nat} (h:¬i<l.length):eW (l.drop i) k a r=(a,r):=by rw[er Xx];rfl
theorem rK {k:Int} (h:0<=k):4<=dA k:=by
  unfold dA;rw[if_neg Xx];split
  · omega
  have:1<=2 ^ k.toNat:=Nat.one_le_two_pow;omega
theorem KN (k:Int):k<0\/4<=dA k:=by by_cases h:0<=k;exact .inr (rK h);exact .inl Xx
theorem lQ {l:List Nat} {x:Nat} (h:l[l.length-1]? = some x):iZ l=x:=by simp[iZ,List.getD,h]
theorem aas {α} {l:List α} {p x:α} (h:(l ++ [p])[(l ++ [p]).length-1]? = some x):x=p:=by simpa using h.symm
theorem Wx (l:List Nat) (k a r:Nat) (h:l≠[]):(eW l k a r).2=(eW l k a r).1+dA ((k+l.length-1:Nat):Int):=by
  induction l generalizing k a r with
  | nil=>exact absurd q h
  | cons x l ih =>
    by_cases hl:l=[]
    · subst hl;simp[eW]
    · simp only[eW,List.length_cons]
      rw[ih (k+1) r (r+dA (k:Int)) hl,show k+1+l.length-1=k+(l.length+1)-1 by omega]
theorem Wy {l:List Nat} {n:Nat} (b:(eW l 0 0 0).1<=n) (a:n<=(eW l 0 0 0).2) (h:n≠(eW l 0 0 0).2):1<=l.length/\n<(eW l 0 0 0).1+dA ((l.length-1:Nat):Int):=by
  cases l with
  | nil=>simp[eW]at a h;omega
  | cons x l =>
    have:=Wx (x :: l) 0 0 0 Oy;simp only[Nat.zero_add]at this;refine⟨by simp,?_⟩;omega
def jE (len:Nat) (aT:List Nat) (n:Nat):Prop :=
  (∀(k a:Nat),aT[k]? = some a->a+24+8*dA (k:Int)<=len)/\(eW aT 0 0 0).1<=n/\n<=(eW aT 0 0 0).2
def iA (c:nA) (tail:Nat):Mk :=
  let b1:=List.replicate 272 0 ++ dV 4 (List.replicate c.ay {first:=0,tail:=0})
  let b2:=b1 ++ dV 5 (List.replicate c.aC {first:=0,tail:=0})
  {c:=c,depth:=0,b:=b2,ai:=[],ak:=[],main:=[],
    h:={gD:=2,bN:=if c.cC then 4 else 0,state:=1,cg:=c.cg,dG:=c.dG,bD:=List.replicate 16 0,seq:=c.seq,cK:=0,dc:=0,dI:=0,
           n:=(((((((((List.replicate 20 0).set 0 272).set 2 288).set 3 (16*c.ay)).set 4 (b1.length+16)).set 5 (16*c.aC)).set 6 b1.length).set 7 2).set 9 tail)}}
theorem af7 {α} {l:List α} {i:Nat} (h:¬i<l.length):l.take i=l:=List.take_of_length_le Xx
theorem OP {v:Value} {b:Nat} (h:∀x,ah v=some x->x≠b):b∉(ah v).toList:=by
  cases hv:ah v with
  | none=>simp
  | some c=>simp;exact fun e=>h c hv e.symm
theorem eJ {v:Value} {b:Nat} (h:∀x,ah v=some x->x≠b):∀x,ah v=some x->x∉[b]:=fun x c a=>h x c (by simpa using a)
def lG (m:Mk) (st:Nat):List UInt8:=wQ {m.h with state:=st,n:=m.h.n.set 1 (m.b.length-272)} m.depth ++ m.b.drop 272
theorem yH (h:ej) (depth:Nat) (ok:ej.ok h):(wQ h depth).length=272:=by obtain⟨_,_,_,A,B,C,D,E,_⟩:=ok;simp[wQ,iq,ez,A,B,C,D,E.1]
end Go.Wk
namespace Go.Wk
open Go Go.RowKit
def Pr.pb (p:Pr):zA:=(p.name,p.value)
section
variable {P:Program} {n:Nat} {A:Fr n} {D:List Deferred} {l:List (Nat × Value)} {w:World} {d:Option Tmp} {ty:TypeId} {ps:String} {af:Array Edge} {g:Option (Nat × Bool)}
theorem ahk {x y:Operand} {t f u:TypeId} {p q:Pr} (b:pairT P t f=true) (a:P.underlying f=some .string) (c:ev n l x=some (.agg (Pr.cells p).toArray)) (e:ev n l y=some (.agg (Pr.cells q).toArray)) :
    bZ P ⟨d,.binOp .eql t x y u,ty,ps,af,g⟩ (aQ A D l).eval w (.bool (decide (p.pb=q.pb))):=ajB (p:=p.pb) (q:=q.pb) b a c e
end
def mI (p:Pr):List UInt8 × Nat:=if ew p.name=false then([],1)else if 256<p.value.length then([],21)else(au p,0)
theorem ad6 {p:Pr} (h:(mI p).2=0):p.name.length<=1000000/\p.value.length<=1000000:=by
  unfold mI at h;split at h
  · cases h
  rename_i h1;split at h
  · cases h
  have:=(fO (s:=p.name) (by simpa using h1)).2;omega
theorem zJ {p:Pr}:(mI p).2=0↔right p.pb=true:=by
  unfold mI right Pr.pb
  by_cases h1:ew p.name=false
  · simp[h1]
  rw[if_neg h1];have A:ew p.name=true:=by simpa using h1
  rw[A]
  by_cases h3:256<p.value.length
  · simp[h3]
  simp[h3];omega
def lC (t:Ly):List Pr->Nat->Nat
  | [],k=>k
  | q :: r,k=>if Op.bytesLess (au q) t=true then lC t r (k+1)else k
theorem KG {t:Ly} {o:List Pr} {k:Nat} {q:Pr} (h:o[k]? = some q):lC t (o.drop k) k=if Op.bytesLess (au q) t=true then lC t (o.drop (k+1)) (k+1)else k:=by rw[cH h];rfl
theorem afg {t:Ly} {o:List Pr} {k:Nat} (h:¬k<o.length):lC t (o.drop k) k=k:=by rw[er Xx];rfl
theorem NJ {l:List Pr} {i:Nat} {x:Pr} (h:l[i]? = some x):l.getD i {name:=[],value:=[]}=x:=by simp[List.getD,h]
def lH:Nat->Nat->List Pr->List Pr
  | 0,_,o=>o
  | n+1,j,o=>lH n (j-1) (o.set j (o.getD (j-1) {name:=[],value:=[]}))
theorem WE {j k:Nat} {o:List Pr} (h:k<j):lH (j-k) j o=lH (j-1-k) (j-1) (o.set j (o.getD (j-1) {name:=[],value:=[]})):=by rw[show j-k=(j-1-k)+1 by omega];rfl
theorem abt {j k:Nat} {o:List Pr} (h:¬k<j):lH (j-k) j o=o:=by rw[show j-k=0 by omega];rfl
def HF (p:Pr) (o:List Pr):List Pr :=
  let k:=lC (au p) o 0
  if k<o.length/\(o.getD k {name:=[],value:=[]}).pb=p.pb then o else(lH (o.length-k) o.length (o ++ [{name:=[],value:=[]}])).set k p
def TT:List Pr->List Pr->List Pr × Nat
  | [],o=>if 16<o.length then([],21)else(o,0)
  | p :: r,o=>if(mI p).2≠0 then([],(mI p).2)else TT r (HF p o)
def ku (l:List Pr):List Pr × Nat:=if l.length=0 then([],16)else TT l []
theorem MG {l o:List Pr} {i:Nat} (h:¬i<l.length):TT (l.drop i) o=if 16<o.length then([],21)else(o,0):=by rw[er Xx];rfl
theorem PV {l o:List Pr} {i:Nat} {p:Pr} (h:l[i]? = some p):TT (l.drop i) o=if(mI p).2≠0 then([],(mI p).2)else TT (l.drop (i+1)) (HF p o):=by rw[cH h];rfl
end Go.Wk
namespace Go.Wk
open Go Go.RowKit
section
variable {P:Program} {n:Nat} {A:Fr n} {D:List Deferred} {l:List (Nat × Value)} {w:World} {d:Option Tmp} {ty:TypeId} {ps:String} {af:Array Edge} {g:Option (Nat × Bool)}
theorem afe {x y:Operand} {t u:TypeId} {k:IntKind} {a b:Int} (c:ev n l x=some (.int k a)) (e:ev n l y=some (.int k b)) (h:b≠0) :
    bZ P ⟨d,.binOp .rem t x y u,ty,ps,af,g⟩ (aQ A D l).eval w (.int k (a.tmod b)):=afd c e h
end
def RG (k:Int) (n:Nat):Nat:=if n<1 then 0 else((k.tmod n+n).tmod n).toNat
theorem MV (k:Int) (n:Nat):n<1\/RG k n<n:=by
  unfold RG
  by_cases h:n<1
  · exact .inl h
  rw[if_neg h];have A:=Int.tmod_lt_of_pos (k.tmod n+n) (show(0:Int)<n by omega);right;omega
theorem aju {k:Int} {n:Nat} (h:¬n<1):0<=k.tmod n+n/\k.tmod n+n<2*n:=by have A:=Int.tmod_lt_of_pos k (show(0:Int)<n by omega);have B:=Int.lt_tmod_of_pos k (show(0:Int)<n by omega);omega
def Sq.bS (s:Sq) (n:Nat):Nat × Sq:=if s.l.length<=s.pos then(0,s)else(RG (s.l.getD s.pos 0) n,{s with pos:=s.pos+1})
def Sq.more (s:Sq):Bool × Sq:=(decide (s.pos<s.l.length),s)
def yR:List (List UInt8):=[[65],[66],[77,69,83,83,65,71,69],[95,80,73,68],[88,95,49],[80,82,73,79,82,73,84,89]]
def uY:List (List UInt8):=[[],[48],[49],[50,50],[97,61,98],[111,110,101,10,116,119,111],[0,255],[116,97,98,9,104,101,114,101],[108,111,110,103,32,108,111,110,103,32,108,111,110,103,32,108,111,110,103,32,108,111,110,103,32,108,111,110,103,32,108,111,110,103],[126,127,128]]
theorem VF:yR.length=6:=rfl
theorem TM:uY.length=10:=rfl
def idF (k:Int):List UInt8:=((List.replicate 16 0).set 0 94).set 15 (UInt8.ofNat (RG k 5))
def Sq.pair (s:Sq):Pr × Sq :=
  match s.bS 6 with
  | (a,s1) =>
    match s1.bS 10 with
    | (b,s2)=>({name:=yR.getD a [],value:=uY.getD b []},s2)
theorem Sq.jw (s:Sq) (n:Nat):(s.bS n).1<=n-1:=by
  unfold Sq.bS;split
  · simp
  simp only
  rcases MV (s.l.getD s.pos 0) n with h|h
  · simp[RG,h]
  omega
def oF:Nat->Sq->List Pr->List Pr × Sq
  | 0,s,o=>(o,s)
  | n+1,s,o=>match s.pair with
    | (p,s1)=>oF n s1 (o ++ [p])
def Sq.pairs (s:Sq) (bG:Nat):List Pr × Sq :=
  match s.bS bG with
  | (n,s1)=>oF (n+1) s1 []
theorem aaS {n:Nat} {s:Sq} {o:List Pr} (h:¬0<n):oF n s o=(o,s):=by rw[show n=0 by omega];rfl
theorem VL {n:Nat} {s:Sq} {o:List Pr} (h:0<n):oF n s o=oF (n-1) s.pair.2 (o ++ [s.pair.1]):=by obtain⟨k,rfl⟩:∃k,n=k+1:=⟨n-1,by omega⟩;rfl
theorem adQ (a:Nat):(yR.getD a []).length<=64:=by
  match a with
  | 0|1|2|3|4|5=>decide
  | n+6=>simp[yR]
theorem abI (a:Nat):(uY.getD a []).length<=256:=by
  match a with
  | 0|1|2|3|4|5|6|7|8|9=>decide
  | n+10=>simp[uY]
theorem YZ (s:Sq):s.pair.1.name.length<=64/\s.pair.1.value.length<=256:=⟨adQ _,abI _⟩
theorem aaR (n:Nat):∀(s:Sq) (o:List Pr),(∀q∈o,q.name.length<=64/\q.value.length<=256)->(∀q∈(oF n s o).1,q.name.length<=64/\q.value.length<=256)/\(oF n s o).1.length=o.length+n:=by
  induction n with
  | zero=>exact fun s o h=>⟨h,rfl⟩
  | succ n ih =>
    intro s o h;have:=ih s.pair.2 (o ++ [s.pair.1]) (fun q A=>by
      rcases List.mem_append.1 A with A|A
      · exact h q A
      · rw[List.mem_singleton.1 A];exact YZ s)
    refine⟨this.1,?_⟩;have B:=this.2;rw[List.length_append,List.length_singleton]at B;rw[show oF (n+1) s o=oF n s.pair.2 (o ++ [s.pair.1])from rfl,B];omega
theorem aeL (s:Sq) (bG:Nat):(∀q∈(s.pairs bG).1,q.name.length<=1000000/\q.value.length<=1000000)/\(s.pairs bG).1.length<=bG+1:=by have h:=aaR ((s.bS bG).1+1) (s.bS bG).2 [] Oy;have B:=s.jw bG;have e:s.pairs bG=oF ((s.bS bG).1+1) (s.bS bG).2 []:=rfl;rw[e];refine⟨fun q A=>⟨by have:=(h.1 q A).1;omega,by have:=(h.1 q A).2;omega⟩,?_⟩;rw[h.2];simp;omega
def Sq.config (s:Sq):nA × Sq :=
  match s.bS 5 with
  | (a,s1)=>match s1.bS 5 with
    | (b,s2)=>match s2.bS 5 with
      | (c,s3)=>match s3.bS 7 with
        | (d,s4)=>match s4.bS 4 with
          | (e,s5)=>match s5.bS 2 with
            | (f,s6)=>({cg:=idF a,dG:=idF b,seq:=idF c,ay:=d+1,aC:=e+1,bG:=32768,cC:=decide (f=1)},s6)
def Sq.record (s:Sq) (seq:Nat):Rec × Sq :=
  match s.pairs 4 with
  | (ps,s1)=>match s1.bS 40 with
    | (a,s2)=>match s2.bS 9 with
      | (b,s3)=>match s3.bS 3 with
        | (c,s4)=>({seq:=seq,bK:=a,mono:=b,bD:=idF c,ak:=(ku ps).1},s4)
end Go.Wk
namespace Go.Wk
open Go Go.RowKit
section
variable {P:Program} {Q:Exit->Act->World->Prop} {n:Nat} {A:Fr n} {D:List Deferred} {l:List (Nat × Value)} {w:World}
def ahS {X0 X1 X2 X3 X4 X5 X6 X7 X8:Type} (n:Nat) (D:List Deferred) (inv:X0->X1->X2->X3->X4->X5->X6->X7->X8->List (Nat × Value)) (W:X0->X1->X2->X3->X4->X5->X6->X7->X8->World->Prop) (mu:X0->X1->X2->X3->X4->X5->X6->X7->X8->Nat) (m:Nat) (a:Act) (w:World):Prop :=
  ∃y0:X0,∃y1:X1,∃y2:X2,∃y3:X3,∃y4:X4,∃y5:X5,∃y6:X6,∃y7:X7,∃y8:X8,∃B:Fr n,a=aQ B D (inv y0 y1 y2 y3 y4 y5 y6 y7 y8)/\W y0 y1 y2 y3 y4 y5 y6 y7 y8 w/\mu y0 y1 y2 y3 y4 y5 y6 y7 y8<m
theorem al5 {a b d e f g i j k:Type} {c:Code} (inv:a->b->d->e->f->g->i->j->k->List (Nat × Value)) (W:a->b->d->e->f->g->i->j->k->World->Prop) (q:a->b->d->e->f->g->i->j->k->Nat) (x0:a) (x1:b) (x2:d) (x3:e) (x4:f) (x5:g) (x6:i) (x7:j) (x8:k) (F:Fits n l (inv x0 x1 x2 x3 x4 x5 x6 x7 x8)) (I:W x0 x1 x2 x3 x4 x5 x6 x7 x8 w)
    (round:∀(x0:a) (x1:b) (x2:d) (x3:e) (x4:f) (x5:g) (x6:i) (x7:j) (x8:k) (o:Fr n) (m:World),W x0 x1 x2 x3 x4 x5 x6 x7 x8 m->c.wp P (Exit.then (ahS n D inv W q (q x0 x1 x2 x3 x4 x5 x6 x7 x8)) Q) (aQ o D (inv x0 x1 x2 x3 x4 x5 x6 x7 x8)) m) :
    (Code.loop c).wp P Q (aQ A D l) w:=by
  refine js (X:=a × b × d × e × f × g × i × j × k) (fun p=>inv p.1 p.2.1 p.2.2.1 p.2.2.2.1 p.2.2.2.2.1 p.2.2.2.2.2.1 p.2.2.2.2.2.2.1 p.2.2.2.2.2.2.2.1 p.2.2.2.2.2.2.2.2) (fun p w=>W p.1 p.2.1 p.2.2.1 p.2.2.2.1 p.2.2.2.2.1 p.2.2.2.2.2.1 p.2.2.2.2.2.2.1 p.2.2.2.2.2.2.2.1 p.2.2.2.2.2.2.2.2 w) (fun p=>q p.1 p.2.1 p.2.2.1 p.2.2.2.1 p.2.2.2.2.1 p.2.2.2.2.2.1 p.2.2.2.2.2.2.1 p.2.2.2.2.2.2.2.1 p.2.2.2.2.2.2.2.2) (x0,x1,x2,x3,x4,x5,x6,x7,x8) F I (fun p o m h=>wp_mono (round (p.1) (p.2.1) (p.2.2.1) (p.2.2.2.1) (p.2.2.2.2.1) (p.2.2.2.2.2.1) (p.2.2.2.2.2.2.1) (p.2.2.2.2.2.2.2.1) (p.2.2.2.2.2.2.2.2) o m h) ?_);intro E J T h;cases E with
  | normal=>obtain⟨H,t,u,v,x,y,z,B,R,C,r,s,G⟩:=h;exact⟨(H,t,u,v,x,y,z,B,R),C,r,s,G⟩
  | _=>exact h
theorem alA {a b c d e f g h i:Type} {inv:a->b->c->d->e->f->g->h->i->List (Nat × Value)} {W:a->b->c->d->e->f->g->h->i->World->Prop} {j:a->b->c->d->e->f->g->h->i->Nat} {m:Nat} (x0:a) (x1:b) (x2:c) (x3:d) (x4:e) (x5:f) (x6:g) (x7:h) (x8:i) (o:j x0 x1 x2 x3 x4 x5 x6 x7 x8<m) (k:Fits n l (inv x0 x1 x2 x3 x4 x5 x6 x7 x8)) (p:W x0 x1 x2 x3 x4 x5 x6 x7 x8 w) :
    ahS n D inv W j m (aQ A D l) w:=⟨x0,x1,x2,x3,x4,x5,x6,x7,x8,_,(cV (A:=A) (D:=D) k).symm,p,o⟩
def abU {X0 X1 X2 X3 X4 X5 X6 X7 X8 X9:Type} (n:Nat) (D:List Deferred) (inv:X0->X1->X2->X3->X4->X5->X6->X7->X8->X9->List (Nat × Value)) (W:X0->X1->X2->X3->X4->X5->X6->X7->X8->X9->World->Prop) (mu:X0->X1->X2->X3->X4->X5->X6->X7->X8->X9->Nat) (m:Nat) (a:Act) (w:World):Prop :=
  ∃y0:X0,∃y1:X1,∃y2:X2,∃y3:X3,∃y4:X4,∃y5:X5,∃y6:X6,∃y7:X7,∃y8:X8,∃y9:X9,∃B:Fr n,a=aQ B D (inv y0 y1 y2 y3 y4 y5 y6 y7 y8 y9)/\W y0 y1 y2 y3 y4 y5 y6 y7 y8 y9 w/\mu y0 y1 y2 y3 y4 y5 y6 y7 y8 y9<m
theorem ajp {a b d e f g i j k m:Type} {c:Code} (inv:a->b->d->e->f->g->i->j->k->m->List (Nat × Value)) (W:a->b->d->e->f->g->i->j->k->m->World->Prop) (r:a->b->d->e->f->g->i->j->k->m->Nat) (x0:a) (x1:b) (x2:d) (x3:e) (x4:f) (x5:g) (x6:i) (x7:j) (x8:k) (x9:m) (J:Fits n l (inv x0 x1 x2 x3 x4 x5 x6 x7 x8 x9)) (K:W x0 x1 x2 x3 x4 x5 x6 x7 x8 x9 w)
    (round:∀(x0:a) (x1:b) (x2:d) (x3:e) (x4:f) (x5:g) (x6:i) (x7:j) (x8:k) (x9:m) (q:Fr n) (o:World),W x0 x1 x2 x3 x4 x5 x6 x7 x8 x9 o->c.wp P (Exit.then (abU n D inv W r (r x0 x1 x2 x3 x4 x5 x6 x7 x8 x9)) Q) (aQ q D (inv x0 x1 x2 x3 x4 x5 x6 x7 x8 x9)) o) :
    (Code.loop c).wp P Q (aQ A D l) w:=by
  refine js (X:=a × b × d × e × f × g × i × j × k × m) (fun p=>inv p.1 p.2.1 p.2.2.1 p.2.2.2.1 p.2.2.2.2.1 p.2.2.2.2.2.1 p.2.2.2.2.2.2.1 p.2.2.2.2.2.2.2.1 p.2.2.2.2.2.2.2.2.1 p.2.2.2.2.2.2.2.2.2) (fun p w=>W p.1 p.2.1 p.2.2.1 p.2.2.2.1 p.2.2.2.2.1 p.2.2.2.2.2.1 p.2.2.2.2.2.2.1 p.2.2.2.2.2.2.2.1 p.2.2.2.2.2.2.2.2.1 p.2.2.2.2.2.2.2.2.2 w) (fun p=>r p.1 p.2.1 p.2.2.1 p.2.2.2.1 p.2.2.2.2.1 p.2.2.2.2.2.1 p.2.2.2.2.2.2.1 p.2.2.2.2.2.2.2.1 p.2.2.2.2.2.2.2.2.1 p.2.2.2.2.2.2.2.2.2) (x0,x1,x2,x3,x4,x5,x6,x7,x8,x9) J K (fun p q o h=>wp_mono (round (p.1) (p.2.1) (p.2.2.1) (p.2.2.2.1) (p.2.2.2.2.1) (p.2.2.2.2.2.1) (p.2.2.2.2.2.2.1) (p.2.2.2.2.2.2.2.1) (p.2.2.2.2.2.2.2.2.1) (p.2.2.2.2.2.2.2.2.2) q o h) ?_);intro I T L h;cases I with
  | normal=>obtain⟨H,u,v,x,y,z,B,E,R,F,C,s,t,G⟩:=h;exact⟨(H,u,v,x,y,z,B,E,R,F),C,s,t,G⟩
  | _=>exact h
theorem ajt {a b c d e f g h i j:Type} {inv:a->b->c->d->e->f->g->h->i->j->List (Nat × Value)} {W:a->b->c->d->e->f->g->h->i->j->World->Prop} {k:a->b->c->d->e->f->g->h->i->j->Nat} {m:Nat} (x0:a) (x1:b) (x2:c) (x3:d) (x4:e) (x5:f) (x6:g) (x7:h) (x8:i) (x9:j) (p:k x0 x1 x2 x3 x4 x5 x6 x7 x8 x9<m) (o:Fits n l (inv x0 x1 x2 x3 x4 x5 x6 x7 x8 x9)) (q:W x0 x1 x2 x3 x4 x5 x6 x7 x8 x9 w) :
    abU n D inv W k m (aQ A D l) w:=⟨x0,x1,x2,x3,x4,x5,x6,x7,x8,x9,_,(cV (A:=A) (D:=D) o).symm,q,p⟩
end
end Go.Wk
namespace Go.Wk
open Go Go.RowKit
def known0:aN:={bQ:=[],pos:=0,bV:=0,bw:=0,aT:=[]}
def gG (ds:List aN) (i:Nat):Nat:=(ds.getD i known0).pos
def lN (ds:List aN) (p:Nat) (order:List Nat):Nat->Nat
  | 0=>0
  | n+1=>if p<gG ds (order.getD n 0)then lN ds p order n else n+1
def mB (ds:List aN) (k:Nat) (order:List Nat):List Nat :=
  let n:=lN ds (gG ds k) order order.length
  order.take n ++ [k] ++ order.drop n
def gI:List Pr->Mk->List (List UInt8)->List Nat->List (List UInt8) × List Nat × Mk
  | [],m,ps,od=>(ps,od,m)
  | x :: r,m,ps,od =>
    match m.data x with
    | (k,m1)=>gI r m1 (ps ++ [(m1.ai.getD k known0).bQ]) (mB m1.ai k od)
def jd (m:Mk) (od:List Nat):List lJ:=od.map fun i=>{pos:=gG m.ai i,bY:=cP m.c.cC m.c.cg (m.ai.getD i known0).bQ}
def kr (e:Nat):List Nat->Mk->Mk
  | [],m=>m
  | i :: r,m =>
    let k:=m.ai.getD i known0
    if k.bw=0 then
      let m29:=(m.put (k.pos+40) e).put (k.pos+56) 1
      kr e r {m29 with ai:=m29.ai.set i {k with bw:=1}}
    else
      match m.link k.aT (k.bw-1) (k.pos+48) e with
      | (a,_,m1) =>
        let m29:=m1.put (k.pos+56) (k.bw+1)
        kr e r {m29 with ai:=m29.ai.set i {k with aT:=a,bw:=k.bw+1}}
def Mk.append (m:Mk) (ak:List Pr) (bK mono:Nat) (bD:Ly):Nat × Nat × Mk :=
  match ku ak with
  | (l,c) =>
    if c≠0 then(0,c,m)
    else if m.bS 9=18446744073709551615 then(0,1,m)
    else
      match gI l m [] []with
      | (ps,od,m1) =>
        let seq:=(m1.bS 9+1)%18446744073709551616
        match m1.bU (cW {seq:=seq,bK:=bK,mono:=mono,bD:=bD,xor:=nu 0 ps,aF:=jd m1 od})with
        | (e,m29) =>
          let n:=m29.bS 8
          match m29.link m29.main n 176 e with
          | (a,t,m3) =>
            let m4:=({m3 with main:=a}:Mk).cE 11 (a.getD 0 0)
            let m5:={m4 with h:={m4.h with cK:=iZ a%4294967296,dc:=t%4294967296}}
            let m6:=kr e od m5
            if m6.c.bG<m6.b.length then(0,15,m)
            else
              let m7:=if n=0 then(m6.cE 10 seq).cE 12 bK else m6
              let m8:=m7.cE 8 ((m7.bS 8+1)%18446744073709551616)
              let m9:=((m8.cE 9 seq).cE 13 bK).cE 14 mono
              (seq,0,{m9 with h:={m9.h with bD:=bD,dI:=e}})
def iW:Nat->Sq->Mk->List Rec->Mk × List Rec × Sq
  | 0,s,m,rs=>(m,rs,s)
  | n+1,s,m,rs =>
    if s.pos<s.l.length then
      match s.record ((m.bS 9+1)%18446744073709551616)with
      | (r,s1) =>
        match m.append r.ak r.bK r.mono r.bD with
        | (_,c,m1)=>if c≠0 then(m1,rs,s1)else iW n s1 m1 (rs ++ [r])
    else(m,rs,s)
def Sq.pK (s:Sq) (bG:Nat):Mk × List Rec × Sq :=
  match s.config with
  | (c,s1) =>
    match s1.bS 6 with
    | (t,s2)=>iW bG s2 (iA c t) []
def mg (l:List Int) (bG:Nat):List UInt8:=lG ((Sq.mk l 0).pK bG).1 1
end Go.Wk
namespace Go.Wk
open Go Go.RowKit
structure ai7 (m m':Mk) (k len:Nat):Prop where
  lt:k<m'.ai.length
  ge:m.b.length<=m'.b.length
  le:m'.b.length<=m.b.length+len
  c:m'.c=m.c
  main:m'.main=m.main
  pre:m'.ai=m.ai\/∃x:aN,m'.ai=m.ai ++ [x]/\x.bw=0/\x.aT=[]/\x.pos+64<=m'.b.length
  fl:m'.ak.length<=m.ak.length+1
  fit:m'.fit
  n8:m'.h.n.getD 8 0=m.h.n.getD 8 0
theorem kX (m:Mk) (p v:Nat):(m.put p v).c=m.c/\(m.put p v).ai=m.ai/\(m.put p v).ak=m.ak/\(m.put p v).main=m.main/\(m.put p v).h=m.h/\(m.put p v).depth=m.depth:=⟨q,q,q,q,q,q⟩
theorem M0 (m:Mk) (x:Pr) (h:m.fit):ai7 m (m.data x).2 (m.data x).1 (400+x.name.length+(au x).length):=by
  unfold Mk.data;cases hk:mQ (au x) m.ai 0 with
  | some i =>
    have:=acQ hk;exact⟨by simp only;omega,Nat.le_refl _,by simp only;omega,q,q,.inl q,by simp only;omega,h,q⟩
  | none =>
    simp only;have D:=gF m (iu {bY:=cP m.c.cC m.c.cg (au x),b9:=0,dr:=0,entry:=0,array:=0,bw:=0,au:=au x});have Q:=dR m (iu {bY:=cP m.c.cC m.c.cg (au x),b9:=0,dr:=0,entry:=0,array:=0,bw:=0,au:=au x});have R:(m.bU (iu {bY:=cP m.c.cC m.c.cg (au x),b9:=0,dr:=0,entry:=0,array:=0,bw:=0,au:=au x})).2.h.n.getD 8 0=m.h.n.getD 8 0:=(by simp only[Mk.bU,Mk.cE];rw[aX Xy,aX Xy]);rw[xF]at D;simp only at D;generalize m.bU (iu {bY:=cP m.c.cC m.c.cg (au x),b9:=0,dr:=0,entry:=0,array:=0,bw:=0,au:=au x})=r at *;obtain⟨p,a⟩:=r;simp only at D Q R ⊢;have J:=uJ a a.ai (a.bS 2) p (cP m.c.cC m.c.cg (au x)%a.c.ay);have T:=gV a a.ai (a.bS 2) p (cP m.c.cC m.c.cg (au x)%a.c.ay);generalize a.hang a.ai (a.bS 2) p (cP m.c.cC m.c.cg (au x)%a.c.ay)=r at *;obtain⟨n,d⟩:=r;simp only at J T ⊢;obtain⟨ae,af,ag,a4,a5,ah,aj,al⟩:=D;obtain⟨N,u,A,O⟩:=Q;obtain⟨c1,c2,c3,c4,am,an,ao⟩:=J;obtain⟨S,B,E,U,ap,f⟩:=T;generalize hx5:({(d.cE 19 (max (d.bS 19) n)).cE 15 (((d.cE 19 (max (d.bS 19) n)).bS 15+1)%18446744073709551616)with ai:=((d.cE 19 (max (d.bS 19) n)).cE 15 (((d.cE 19 (max (d.bS 19) n)).bS 15+1)%18446744073709551616)).ai ++ [({bQ:=au x,pos:=p,bV:=cP m.c.cC m.c.cg (au x)%a.c.ay,bw:=0,aT:=[]}:aN)]}:Mk)=m5;have X:m5.b=d.b/\m5.c=d.c/\m5.ai=d.ai ++ [({bQ:=au x,pos:=p,bV:=cP m.c.cC m.c.cg (au x)%a.c.ay,bw:=0,aT:=[]}:aN)]/\m5.ak=d.ak/\m5.main=d.main:=(by subst hx5;exact⟨q,q,q,q,q⟩);have v:m5.h.n.getD 2 0=m.h.n.getD 2 0:=(by subst hx5;simp only[Mk.cE];rw[aX Xy,aX Xy];omega);have w:m5.h.n.getD 4 0=m.h.n.getD 4 0:=(by subst hx5;simp only[Mk.cE];rw[aX Xy,aX Xy];omega);have aq:m5.h.n.getD 8 0=m.h.n.getD 8 0:=(by subst hx5;simp only[Mk.cE];rw[aX Xy,aX Xy,f,R]);clear hx5;obtain⟨g,e,I,P,l⟩:=X;have ar:m5.b.length=a.b.length:=(by rw[g];omega);have aa:m5.fit:=by
      refine pF h ⟨by rw[e];omega,by rw[e];omega,v,w,by omega⟩ (fun k hk=>?_) (fun k hk=>?_)
      · rw[I,B,u,List.mem_append,List.mem_singleton]at hk
        rcases hk with hk|rfl
        · exact .inl hk
        · right;simp only;omega
      · rw[P,E,A]at hk;exact .inl hk
    have K:=uF m5 x.name aa;generalize m5.field x.name=r at *;obtain⟨k,C⟩:=r;simp only at K ⊢;obtain⟨⟨aw,ax,az,aA,aB,aC,aD,aE,aF,y⟩,⟨z,Y,Z⟩,s4⟩:=K;have av:((C.put (p+32) (lO C.b (k+32:Nat) 8).1).put (k+32) p).b.length=C.b.length:=(by rw[jT,jT]);have o:=kX C (p+32) (lO C.b (k+32:Nat) 8).1;have t:=kX (C.put (p+32) (lO C.b (k+32:Nat) 8).1) (k+32) p;generalize C.put (p+32) (lO C.b (k+32:Nat) 8).1=m7 at *;generalize m7.put (k+32) p=m8 at *;obtain⟨j,V,W,ab,G,_⟩:=o;obtain⟨H,L,M,ad,s,_⟩:=t;have F:m8.ai=m.ai ++ [({bQ:=au x,pos:=p,bV:=cP m.c.cC m.c.cg (au x)%a.c.ay,bw:=0,aT:=[]}:aN)]:=(by rw[L,V,Y,I,B,u]);refine⟨by rw[F];simp,by omega,by omega,by rw[H,j,z,e,S,N],by rw[ad,ab,Z,l,U,O],.inr ⟨_,F,q,q,by simp only;omega⟩,?_,?_,by rw[s,G];omega⟩
    · have:=congrArg List.length P;rw[E,A]at this;rw[M,W];omega
    · refine pF s4 ⟨by rw[H,j],by rw[H,j],by rw[s,G],by rw[s,G],by omega⟩ (fun k hk=>.inl (by rw[L,V]at hk;exact hk)) (fun k hk=>.inl (by rw[M,W]at hk;exact hk))
theorem abp (l:List Nat) (p k a r:Nat):eW (l ++ [p]) k a r=((eW l k a r).2,(eW l k a r).2+dA ((k+l.length:Nat):Int)):=by
  induction l generalizing k a r with
  | nil=>rfl
  | cons x l ih =>
    show eW (l ++ [p]) (k+1) r (r+dA (k:Int))=_;rw[ih];show _=((eW l (k+1) r (r+dA (k:Int))).2,(eW l (k+1) r (r+dA (k:Int))).2+dA ((k+(l.length+1):Nat):Int));rw[show k+1+l.length=k+(l.length+1)by omega]
theorem afm (l:List Nat) (k a r:Nat):r+4*l.length<=(eW l k a r).2/\(l≠[]->r+4*(l.length-1)<=(eW l k a r).1):=by
  induction l generalizing k a r with
  | nil=>simp[eW]
  | cons x l ih =>
    have C:=rK (k:=(k:Int)) Xx;obtain⟨B,A⟩:=ih (k+1) r (r+dA (k:Int));refine⟨?_,fun _=>?_⟩
    · show r+4*(l.length+1)<=(eW l (k+1) r (r+dA (k:Int))).2;omega
    · show r+4*(l.length+1-1)<=(eW l (k+1) r (r+dA (k:Int))).1
      by_cases hl:l=[]
      · subst hl;simp[eW]
      · have:=A hl
        have:0<l.length:=(by cases l with|nil=>exact absurd q hl|cons _ _=>simp);omega
theorem uw {len n:Nat} {a:List Nat} (h:jE len a n):a.length<=n+1:=by
  obtain⟨_,B,_⟩:=h;have A:=(afm a 0 0 0).2
  by_cases ha:a=[]
  · subst ha;simp
  have:=A ha;omega
theorem pE {len b n:Nat} {a:List Nat} (h:jE len a n) (c:len<=b):jE b a n :=
  ⟨fun k x d=>lv (h.1 k x d) c,h.2⟩
theorem chain_nil (len:Nat):jE len [] 0:=⟨by simp,by simp[eW],by simp[eW]⟩
structure abT (m m':Mk) (a:List Nat) (n:Nat):Prop where
  ge:m.b.length<=m'.b.length
  le:m'.b.length<=m.b.length+2100
  c:m'.c=m.c
  ai:m'.ai=m.ai
  ak:m'.ak=m.ak
  main:m'.main=m.main
  chain:jE m'.b.length a (n+1)
  ne:a≠[]
  n8:m'.h.n.getD 8 0=m.h.n.getD 8 0
  n2:m'.h.n.getD 2 0=m.h.n.getD 2 0
  n4:m'.h.n.getD 4 0=m.h.n.getD 4 0
theorem wV (m:Mk) (aT:List Nat) (n src gN:Nat) (h:jE m.b.length aT n):abT m (m.link aT n src gN).2.2 (m.link aT n src gN).1 n:=by
  obtain⟨R,F,T⟩:=h;unfold Mk.link;have d:=fun p=>abp aT p 0 0 0
  rcases hq:eW aT 0 0 0 with⟨A,B⟩
  rw[hq]at F T d;simp only at F T d ⊢;rw[Nat.zero_add]at d;split
  · rename_i hn
    have G:=gF m (fe {next:=0,aF:=List.replicate (dA (aT.length:Int)) 0});have Q:=dR m (fe {next:=0,aF:=List.replicate (dA (aT.length:Int)) 0});have o:(m.bU (fe {next:=0,aF:=List.replicate (dA (aT.length:Int)) 0})).2.h.n.getD 8 0=m.h.n.getD 8 0:=(by simp only[Mk.bU,Mk.cE];rw[aX Xy,aX Xy]);rw[vu]at G;simp only[List.length_replicate]at G;generalize m.bU (fe {next:=0,aF:=List.replicate (dA (aT.length:Int)) 0})=r at *;obtain⟨p,C⟩:=r;simp only at G Q o ⊢;obtain⟨w,y,z,a4,a5,Y,Z,aa⟩:=G;obtain⟨J,V,W,K⟩:=Q;have X:=tY (aT.length:Int);have H:=rK (k:=(aT.length:Int)) Xx;generalize hx2:C.cE 18 ((C.bS 18+1)%18446744073709551616)=m29;have U:m29.b=C.b/\m29.c=C.c/\m29.ai=C.ai/\m29.ak=C.ak/\m29.main=C.main:=(by subst hx2;exact abr _ _ _);have ah:m29.h.n.getD 8 0=C.h.n.getD 8 0:=(by subst hx2;exact cJ Xy);have af:m29.h.n.getD 2 0=C.h.n.getD 2 0:=(by subst hx2;exact cJ Xy);have ag:m29.h.n.getD 4 0=C.h.n.getD 4 0:=(by subst hx2;exact cJ Xy);clear hx2;generalize hx3:(if aT.length=0 then m29.put src p else m29.put (iZ aT+16) p)=m3;have v:m3.b.length=m29.b.length/\m3.c=m29.c/\m3.ai=m29.ai/\m3.ak=m29.ak/\m3.main=m29.main/\m3.h=m29.h:=by
      subst hx3;split
      · exact⟨jT _ _ _,q,q,q,q,q⟩
      · exact⟨jT _ _ _,q,q,q,q,q⟩
    clear hx3;have t:=jT m3 (iZ (aT ++ [p])+24+8*(n-B)) gN;have P:=kX m3 (iZ (aT ++ [p])+24+8*(n-B)) gN;generalize m3.put (iZ (aT ++ [p])+24+8*(n-B)) gN=m4 at *;obtain⟨L,M,N,O,f⟩:=U;obtain⟨ab,g,i,S,l,e⟩:=v;obtain⟨j,s,u,E,a,_⟩:=P;have ad:=congrArg List.length L;have ae:m4.b.length=m.b.length+(16+(8+8*dA (aT.length:Int))+7)/8*8:=(by omega);refine⟨by omega,by omega,by rw[j,g,M,J],by rw[s,i,N,V],by rw[u,S,O,W],by rw[E,l,f,K],⟨fun k x D=>?_,?_,?_⟩,by simp,by rw[a,e];omega,by rw[a,e];omega,by rw[a,e];omega⟩
    · rcases Nat.lt_or_ge k aT.length with hk|hk
      · rw[List.getElem?_append_left hk]at D
        have:=R k x D;omega
      have I:=(List.getElem?_eq_some_iff.1 D).1;simp at I;have:k=aT.length:=(by omega);subst this;rw[List.getElem?_append_right (Nat.le_refl _)]at D;simp at D;subst D;omega
    · rw[d];simp only;omega
    rw[d];simp only;omega
  rename_i hn;have t:=jT m (iZ aT+24+8*(n-A)) gN;have P:=kX m (iZ aT+24+8*(n-A)) gN;generalize m.put (iZ aT+24+8*(n-A)) gN=m4 at *;obtain⟨j,s,u,E,a,_⟩:=P;show abT m m4 aT n;refine⟨by omega,by omega,j,s,u,E,⟨fun k x D=>by have:=R k x D;omega,by rw[hq];simp only;omega,by rw[hq];simp only;omega⟩,?_,by rw[a],by rw[a],by rw[a]⟩;rintro rfl;simp[eW]at hq;omega
def Mk.n8 (m:Mk):Nat:=m.h.n.getD 8 0
def OZ (m:Mk) (bG:Nat):Prop:=∀k∈m.ai,jE m.b.length k.aT (k.bw-1)/\(k.bw=0->k.aT=[])/\k.bQ.length<=400/\k.bw<=bG
structure vF (m:Mk):Prop where
  fit:m.fit
  main:jE m.b.length m.main m.n8
  chains:OZ m (16*m.n8)
  nd:m.ai.length<=16*m.n8
  nf:m.ak.length<=16*m.n8
  nb:64*m.n8<=m.b.length
  small:m.b.length<=40000
  bG:m.c.bG<=40000
  hd:272<=m.b.length
structure kP (m0 m:Mk) (d e:Nat) (j:Nat):Prop where
  fit:m.fit
  c:m.c=m0.c
  n8:m.n8=m0.n8
  chains:OZ m (16*m0.n8+j)
  nd:m.ai.length<=m0.ai.length+d
  nf:m.ak.length<=m0.ak.length+d
  ge:m0.b.length<=m.b.length
  le:m.b.length<=m0.b.length+e
theorem ZB {m:Mk} (h:vF m):kP m m 0 0 0:=⟨h.fit,q,q,h.chains,Nat.le_refl _,Nat.le_refl _,Nat.le_refl _,Nat.le_refl _⟩
theorem IC {m:Mk} {x:Pr} (y:aN) (h:y∈(m.data x).2.ai):y∈m.ai\/y.bQ=au x:=by
  unfold Mk.data at h;split at h
  · exact .inl h
  simp only at h;have F:=dR m (iu {bY:=cP m.c.cC m.c.cg (au x),b9:=0,dr:=0,entry:=0,array:=0,bw:=0,au:=au x});generalize m.bU (iu {bY:=cP m.c.cC m.c.cg (au x),b9:=0,dr:=0,entry:=0,array:=0,bw:=0,au:=au x})=r at *;obtain⟨p,B⟩:=r;simp only at h F;have G:=gV B B.ai (B.bS 2) p (cP m.c.cC m.c.cg (au x)%B.c.ay);generalize B.hang B.ai (B.bS 2) p (cP m.c.cC m.c.cg (au x)%B.c.ay)=r at *;obtain⟨n,C⟩:=r;simp only at h G;generalize hx5:({(C.cE 19 (max (C.bS 19) n)).cE 15 (((C.cE 19 (max (C.bS 19) n)).bS 15+1)%18446744073709551616)with ai:=((C.cE 19 (max (C.bS 19) n)).cE 15 (((C.cE 19 (max (C.bS 19) n)).bS 15+1)%18446744073709551616)).ai ++ [({bQ:=au x,pos:=p,bV:=cP m.c.cC m.c.cg (au x)%B.c.ay,bw:=0,aT:=[]}:aN)]}:Mk)=m5 at h;have I:m5.ai=C.ai ++ [({bQ:=au x,pos:=p,bV:=cP m.c.cC m.c.cg (au x)%B.c.ay,bw:=0,aT:=[]}:aN)]:=by subst hx5;rfl
  clear hx5;have H:(m5.field x.name).2.ai=m5.ai:=by
    unfold Mk.field;split
    · rfl
    · simp only
      have D:=dR m5 (gu {bY:=cP m5.c.cC m5.c.cg x.name,b9:=0,dat:=0,au:=x.name});generalize m5.bU (gu {bY:=cP m5.c.cC m5.c.cg x.name,b9:=0,dat:=0,au:=x.name})=r at *;obtain⟨q,A⟩:=r;simp only at D ⊢;have E:=gV A A.ak (A.bS 4) q (cP m5.c.cC m5.c.cg x.name%A.c.aC);generalize A.hang A.ak (A.bS 4) q (cP m5.c.cC m5.c.cg x.name%A.c.aC)=r at *;obtain⟨M,L⟩:=r;simp only at E ⊢;show L.ai=m5.ai;rw[E.2.1,D.2.1]
  generalize m5.field x.name=r at *;obtain⟨k,A⟩:=r;simp only at h H;have J:=(kX A (p+32) (lO A.b (k+32:Nat) 8).1).2.1;have K:=(kX (A.put (p+32) (lO A.b (k+32:Nat) 8).1) (k+32) p).2.1;rw[K,J,H,I,List.mem_append,List.mem_singleton,G.2.1,F.2.1]at h
  rcases h with h|rfl
  · exact .inl h
  exact .inr rfl
theorem BQ {b m:Mk} {d e j:Nat} {x:Pr} (h:kP b m d e j) (v:x.name.length<=64/\x.value.length<=256):kP b (m.data x).2 (d+1) (e+900) j/\(m.data x).1<(m.data x).2.ai.length/\(m.data x).2.main=m.main:=by
  have g:=M0 m x h.fit;have G:=fun y=>IC (m:=m) (x:=x) y;have u:=ic x;generalize m.data x=r at *;obtain⟨k,H⟩:=r;simp only at g G ⊢;have D:=g.ge;have q:=g.le;have s:=h.ge;have P:=h.le;have Q:=h.nd;have R:=h.nf;have t:=g.fl;have T:H.ai.length<=m.ai.length+1:=by rcases g.pre with e|⟨x,e,_⟩ <;> rw[e] <;> simp
  refine⟨⟨g.fit,g.c.trans h.c,(show H.h.n.getD 8 0=b.n8 from g.n8.trans h.n8),fun y a=>?_,by omega,by omega,by omega,by omega⟩,g.lt,g.main⟩;have f:y∈m.ai\/(y.bw=0/\y.aT=[]):=by
    rcases g.pre with e|⟨x,e,C,B,_⟩
    · rw[e]at a;exact .inl a
    · rw[e,List.mem_append,List.mem_singleton]at a
      rcases a with a|rfl
      · exact .inl a
      · exact .inr ⟨C,B⟩
  rcases f with E|⟨C,B⟩
  · obtain⟨i,l,o,p⟩:=h.chains y E
    exact⟨pE i D,l,o,p⟩
  refine⟨by rw[C,B];exact chain_nil _,fun _=>B,?_,by omega⟩
  rcases G y a with E|J
  · exact(h.chains y E).2.2.1
  rw[J];omega
theorem BV {g m m':Mk} {d e e' j j':Nat} (h:kP g m d e j) (a:m'.c=m.c) (q:m'.n8=m.n8) (o:m'.h.n.getD 2 0=m.h.n.getD 2 0) (p:m'.h.n.getD 4 0=m.h.n.getD 4 0) (hd:m'.ai=m.ai) (f:m'.ak=m.ak)
    (hg:m.b.length<=m'.b.length) (hl:m'.b.length<=m.b.length+e') (hj:j<=j'):kP g m' d (e+e') j':=by
  have:=h.ge;have:=h.le;refine⟨pF h.fit ⟨by rw[a],by rw[a],o,p,hg⟩ (fun k hk=>.inl (hd ▸ hk)) (fun k hk=>.inl (f ▸ hk)),a.trans h.c,q.trans h.n8,fun k hk=>?_,by rw[hd];exact h.nd,by rw[f];exact h.nf,by omega,by omega⟩;rw[hd]at hk;obtain⟨i,l,C,D⟩:=h.chains k hk;exact⟨pE i hg,l,C,by omega⟩
theorem BU {c m:Mk} {d e j L:Nat} {o:Ly} (h:kP c m d e j) (f:o.length<=L):kP c (m.bU o).2 d (e+L) j:=by
  have a:=gF m o;have b:=dR m o;have C:(m.bU o).2.h.n.getD 8 0=m.h.n.getD 8 0:=by simp only[Mk.bU,Mk.cE];rw[aX Xy,aX Xy]
  exact BV h b.1 C a.2.2.2.2.2.2.1 a.2.2.2.2.2.2.2 b.2.1 b.2.2.1 (by rw[a.2.1];omega) (by rw[a.2.1];omega) (Nat.le_refl _)
theorem LK {a m:Mk} {d e j:Nat} (p v:Nat) (h:kP a m d e j):kP a (m.put p v) d e j :=
  BV (e':=0) h q q q q q q (by rw[jT];exact Nat.le_refl _) (by rw[jT];exact Nat.le_refl _) (Nat.le_refl _)
theorem BS {a m:Mk} {d e j n src gN:Nat} {aT:List Nat} (h:kP a m d e j) (f:jE m.b.length aT n):kP a (m.link aT n src gN).2.2 d (e+2100) j:=by have g:=wV m aT n src gN f;exact BV h g.c g.n8 g.n2 g.n4 g.ai g.ak g.ge g.le (Nat.le_refl _)
theorem Xe {f m:Mk} {d e j i:Nat} {k:aN} (h:kP f m d e j) (hi:i<m.ai.length) (p:k.pos=(m.ai.getD i known0).pos) (o:k.bQ=(m.ai.getD i known0).bQ)
    (hk:jE m.b.length k.aT (k.bw-1)/\(k.bw=0->k.aT=[])/\k.bw<=16*f.n8+(j+1)):kP f {m with ai:=m.ai.set i k} d e (j+1):=by
  have C:m.ai[i]? = some (m.ai.getD i known0):=by simp[List.getD,hi]
  have g:=List.mem_of_getElem? C;refine⟨pF h.fit ⟨q,q,q,q,Nat.le_refl _⟩ (fun y a=>?_) (fun y a=>.inl a),h.c,h.n8,fun y a=>?_,by simpa using h.nd,h.nf,h.ge,h.le⟩
  · rcases List.mem_or_eq_of_mem_set a with a|rfl
    · exact .inl a
    right;have:=h.fit.2.2.2.2.2.2.1 _ g;simp only;omega
  rcases List.mem_or_eq_of_mem_set a with a|rfl
  · obtain⟨D,l,n,G⟩:=h.chains y a;exact⟨D,l,n,by omega⟩
  exact⟨hk.1,hk.2.1,by rw[o];exact(h.chains _ g).2.2.1,hk.2.2⟩
def jN (e:Nat) (i:Nat) (m:Mk):Mk :=
  let k:=m.ai.getD i known0
  if k.bw=0 then
    let m29:=(m.put (k.pos+40) e).put (k.pos+56) 1
    {m29 with ai:=m29.ai.set i {k with bw:=1}}
  else
    match m.link k.aT (k.bw-1) (k.pos+48) e with
    | (a,_,m1) =>
      let m29:=m1.put (k.pos+56) (k.bw+1)
      {m29 with ai:=m29.ai.set i {k with aT:=a,bw:=k.bw+1}}
theorem nK (e i:Nat) (r:List Nat) (m:Mk):kr e (i :: r) m=kr e r (jN e i m):=by
  unfold jN;rw[kr];simp only;split
  · rfl
  rfl
theorem PY {q m:Mk} {d e j i en:Nat} (h:kP q m d e j) (hi:i<m.ai.length):kP q (jN en i m) d (e+2100) (j+1)/\(jN en i m).main=m.main/\(jN en i m).ai.length=m.ai.length:=by
  have s:m.ai[i]? = some (m.ai.getD i known0):=by simp[List.getD,hi]
  have u:=List.mem_of_getElem? s;obtain⟨o,v,x,P⟩:=h.chains _ u;unfold jN;simp only;generalize hk:m.ai.getD i known0=k at *;split
  · rename_i h0
    have g:=LK (k.pos+56) 1 (LK (k.pos+40) en h);have p:=kX m (k.pos+40) en;have D:=kX (m.put (k.pos+40) en) (k.pos+56) 1;have H:((m.put (k.pos+40) en).put (k.pos+56) 1).b.length=m.b.length:=(by rw[jT,jT]);generalize m.put (k.pos+40) en=C at *;generalize C.put (k.pos+56) 1=m29 at *;have f:m29.ai=m.ai:=D.2.1.trans p.2.1;have a:=Xe (i:=i) (k:={k with bw:=1}) g (by rw[f];exact hi) (by rw[f,hk]) (by rw[f,hk]) ⟨by simp only;rw[v h0];exact chain_nil _,fun n=>by simp at n,by simp only;omega⟩;refine⟨⟨a.fit,a.c,a.n8,a.chains,a.nd,a.nf,a.ge,lv a.le Xx⟩,D.2.2.2.1.trans p.2.2.2.1,by simp[f]⟩
  rename_i h0;have g:=BS (src:=k.pos+48) (gN:=en) h o;have l:=wV m k.aT (k.bw-1) (k.pos+48) en o;generalize m.link k.aT (k.bw-1) (k.pos+48) en=r at *;obtain⟨w,Q,C⟩:=r;simp only at g l ⊢;have t:=LK (k.pos+56) (k.bw+1) g;have D:=kX C (k.pos+56) (k.bw+1);have H:=jT C (k.pos+56) (k.bw+1);generalize C.put (k.pos+56) (k.bw+1)=m29 at *;have f:m29.ai=m.ai:=D.2.1.trans l.ai;have G:=l.chain;rw[show k.bw-1+1=k.bw by omega,<- H]at G;have a:=Xe (i:=i) (k:={k with aT:=w,bw:=k.bw+1}) t (by rw[f];exact hi) (by rw[f,hk]) (by rw[f,hk]) ⟨G,fun n=>by simp at n,by simp only;omega⟩;exact⟨a,D.2.2.2.1.trans l.main,by simp[f]⟩
theorem DU {c:Mk} {d en:Nat}:∀(a:List Nat) (m:Mk) (e j:Nat),kP c m d e j->(∀i∈a,i<m.ai.length) ->
    kP c (kr en a m) d (e+2100*a.length) (j+a.length)/\(kr en a m).main=m.main/\(kr en a m).ai.length=m.ai.length
  | [],m,e,j,h,_=>⟨h,q,q⟩
  | i :: r,m,e,j,h,hi=>by
    obtain⟨o,p,b⟩:=PY (en:=en) h (hi i Oy);obtain⟨k,l,n⟩:=DU r (jN en i m) (e+2100) (j+1) o fun x s=>by rw[b];exact hi x (by simp[s])
    rw[nK];refine⟨?_,l.trans p,n.trans b⟩;have g:e+2100*(i :: r).length=e+2100+2100*r.length:=(by simp;omega);have f:j+(i :: r).length=j+1+r.length:=(by simp;omega);rw[g,f];exact k
def BD (q:Pr):Prop:=q.name.length<=64/\q.value.length<=256
theorem SY:∀(n j:Nat) (o:List Pr),(∀q∈o,BD q)->∀q∈lH n j o,BD q
  | 0,_,_,h=>h
  | n+1,j,o,h=>by
    unfold lH;refine SY n (j-1) _ fun q a=>?_
    rcases List.mem_or_eq_of_mem_set a with a|rfl
    · exact h q a
    · rw[List.getD_eq_getElem?_getD]
      cases hg:o[j-1]? with
      | none=>exact⟨by simp,by simp⟩
      | some y=>exact h y (List.mem_of_getElem? hg)
theorem ajh {p:Pr} {o:List Pr} (c:BD p) (h:∀q∈o,BD q):∀q∈HF p o,BD q:=by
  unfold HF;simp only;split
  · exact h
  intro q b
  rcases List.mem_or_eq_of_mem_set b with b|rfl
  · refine SY _ _ _ (fun y a=>?_) q b
    rcases List.mem_append.1 a with a|a
    · exact h y a
    simp at a;subst a;exact⟨by simp,by simp⟩
  exact c
theorem adk:∀(l o:List Pr),(∀q∈o,BD q)->∀(x:List Pr) (c:Nat),TT l o=(x,c)->(∀q∈x,BD q)/\x.length<=16
  | [],o,ho,x,c,h=>by
    unfold TT at h;split at h
    · obtain⟨rfl,_⟩:=Prod.mk.inj h;simp
    · obtain⟨rfl,_⟩:=Prod.mk.inj h;exact⟨ho,by omega⟩
  | p :: r,o,ho,x,c,h=>by
    unfold TT at h;split at h
    · obtain⟨rfl,_⟩:=Prod.mk.inj h;simp
    · rename_i h1
      have a:=zJ.1 (Classical.not_not.1 h1);simp only[right,Pr.pb,Bool.and_eq_true]at a;exact adk r _ (ajh ⟨(fO a.1).2,dT a.2⟩ ho) x c h
theorem tu {l x:List Pr} {c:Nat} (h:ku l=(x,c)):(∀q∈x,BD q)/\x.length<=16:=by
  unfold ku at h;split at h
  · obtain⟨rfl,_⟩:=Prod.mk.inj h;simp
  exact adk l [] Oy x c h
theorem JY {ds:List aN} {k i:Nat} {a:List Nat} (h:i∈mB ds k a):i=k\/i∈a:=by
  unfold mB at h;simp only[List.mem_append,List.mem_singleton]at h
  rcases h with(h|h)|h
  · exact .inr (List.mem_of_mem_take h)
  · exact .inl h
  exact .inr (List.mem_of_mem_drop h)
theorem BZ (ds:List aN) (p:Nat) (a:List Nat):∀n,lN ds p a n<=n
  | 0=>Nat.le_refl _
  | n+1=>by
    unfold lN;split
    · have:=BZ ds p a n;omega
    · exact Nat.le_refl _
theorem aaT (ds:List aN) (k:Nat) (a:List Nat):(mB ds k a).length=a.length+1:=by have:=BZ ds (gG ds k) a a.length;unfold mB;simp;omega
structure qd (m0 m:Mk) (ps:List (List UInt8)) (od:List Nat) (n:Nat):Prop where
  app:kP m0 m n (900*n) 0
  main:m.main=m0.main
  idx:∀i∈od,i<m.ai.length
  len:od.length=n/\ps.length=n
  ps:∀t∈ps,t.length<=400
theorem CN {c m:Mk} {ps:List (List UInt8)} {d:List Nat} {n:Nat} {x:Pr} (h:qd c m ps d n) (j:BD x) :
    qd c (m.data x).2 (ps ++ [((m.data x).2.ai.getD (m.data x).1 known0).bQ]) (mB (m.data x).2.ai (m.data x).1 d) (n+1):=by
  obtain⟨C,D,g⟩:=BQ h.app j;have G:=M0 m x h.app.fit;refine⟨by rw[show 900*(n+1)=900*n+900 by omega];exact C,g.trans h.main,fun i b=>?_,⟨by rw[aaT,h.len.1],by simpa using h.len.2⟩,fun t a=>?_⟩
  · rcases JY b with rfl|b
    · exact D
    have:=h.idx i b;have H:m.ai.length<=(m.data x).2.ai.length:=(by rcases G.pre with e|⟨y,e,_⟩ <;> rw[e] <;> simp);omega
  rcases List.mem_append.1 a with a|a
  · exact h.ps t a
  simp at a;subst a;have f:(m.data x).2.ai[(m.data x).1]? = some ((m.data x).2.ai.getD (m.data x).1 known0):=by simp[List.getD,D]
  exact(C.chains _ (List.mem_of_getElem? f)).2.2.1
theorem uz {b:Mk}:∀(l:List Pr) (m:Mk) (ps:List (List UInt8)) (a:List Nat) (n:Nat),qd b m ps a n->(∀q∈l,BD q) ->
    qd b (gI l m ps a).2.2 (gI l m ps a).1 (gI l m ps a).2.1 (n+l.length)
  | [],m,ps,a,n,h,_=>h
  | x :: r,m,ps,a,n,h,hb=>by have c:=CN h (hb x Oy);have d:=uz r _ _ _ _ c fun q e=>hb q (by simp[e]);rw[show n+(x :: r).length=n+1+r.length by simp;omega];exact d
theorem qh {m:Mk} (h:vF m):qd m m [] [] 0:=⟨ZB h,q,by simp,⟨q,q⟩,by simp⟩
end Go.Wk
namespace Go.Wk
open Go Go.RowKit
section
variable {P:Program} {ops:Array Oper} {md:Region.Mode} {C:World->Prop} {Q:Exit->Act->World->Prop} {QN:Act->World->Prop}
variable {n:Nat} {A:Fr n} {D:List Deferred} {l:List (Nat × Value)} {w:World} {f:Nat} {listed:Array Bool}
theorem rU {R:Act->World->Prop} {id:Nat} {lo:List Oper} {a:Act} (C:World->Prop) (d:P.follows .mixedOrders=true) (hk:∀c b,R c b->Q .normal c b)
  (h:∀b,Md [] w b->lI P .any lo.toArray C R lo.length (Array.replicate lo.length false) a b):(Code.region id lo.toArray true).wp P Q a w:=by
 refine wp_region_any d (pX (C:=C) (QN:=R) hk _ _ _ _ ?_);have:=h _ (Md.drew w);simpa using this
theorem lu {a:Act} (b:(Region.ready md ops listed).isEmpty=true) (h:QN a w):lI P md ops C QN 0 listed a w:=⟨by simpa using b,h⟩
theorem dM {i d:Nat} {c:Op} {ty:TypeId} {ps:String} {af:Array Edge} (v:Value) (hi:ops[i]? = some ⟨some d,c,ty,ps,af,none⟩) (h:Region.noSelect ops=true) (b:((Region.ready md ops listed).contains i && Region.free md ops listed i)=true) (g:C w)
    (hv:∀a,C a->bZ P ⟨some d,c,ty,ps,af,none⟩ (aQ A D l).eval a v) (k:lI P md ops C QN f (listed.setIfInBounds i true) (aQ A D ((d,v) :: l)) w):lI P md ops C QN (f+1) listed (aQ A D l) w:=by
  simp only[Bool.and_eq_true]at b;exact sA hi (Region.noSelect_spec h) f listed _ w (Region.free_spec hi b.2) (by simpa using b.1) g (.inl ⟨by simp[Region.wanted],fun a e=>hv a e⟩) k
theorem VJ {i:Nat} {o:Oper} {a:Act} {j:Act->World->Prop} (hi:ops[i]? = some o) (m:o.guard=none) (h:wpList P ops (fun g l e=>g = .normal/\C e/\j l e) [o] a w):opC P ops C i j a w:=by
  have D:Region.wanted o (yielded ops a.tmps)=true:=by unfold Region.wanted;rw[m]
  unfold opC;simp only[hi];rw[if_pos D];unfold wpList at h;rw[if_pos D]at h
  rcases h with h|h
  · unfold Oper.wp at *
    generalize (execOp a.eval o).run P w=r at *;cases r with
    | ok x e =>
      cases x <;> simp only[Oper.upon]at h ⊢
      case value v=>exact(show _/\_ from h).2
      case skip=>exact(show _/\_ from h).2
      case defer d=>exact(show _/\_ from h).2
      case enter f args =>
        refine h.mono fun g k b=>?_;cases g with
        | returned v=>exact(show _/\_ from b).2
        | panicked c=>exact absurd b.1 Oy
        | outgrown=>obtain⟨_,_,b⟩:=b;exact absurd b.1 Oy
      case row r args=>exact h.mono fun v k b=>(show _/\_ from b).2
    | halt x e =>
      cases x <;> simp only[Oper.upon]at h ⊢
      exact absurd h.1 Oy
  obtain⟨_,_,_,b⟩:=h;exact absurd b.1 Oy
theorem cL {i:Nat} {o:Oper} {a:Act} (b:decide (Region.ready md ops listed=[i])=true) (hi:ops[i]? = some o) (j:o.guard=none)
    (h:wpList P ops (fun g e d=>g = .normal/\C d/\lI P md ops C QN f (listed.setIfInBounds i true) e d) [o] a w):lI P md ops C QN (f+1) listed a w:=by
  have b:=dT b;refine⟨fun c=>(by rw[b]at c;cases c),fun k hk=>?_⟩;rw[b]at hk;have:k=i:=by simpa using hk
  subst this;exact VJ hi j h
theorem qS {i j:Nat} {o g:Oper} {a:Act} (c:decide (Region.ready md ops listed=[i,j])=true) (hi:ops[i]? = some o) (m:o.guard=none) (p:ops[j]? = some g) (n:g.guard=none)
    (h:wpList P ops (fun e d b=>e = .normal/\C b/\lI P md ops C QN f (listed.setIfInBounds i true) d b) [o] a w)
    (h':wpList P ops (fun e d b=>e = .normal/\C b/\lI P md ops C QN f (listed.setIfInBounds j true) d b) [g] a w):lI P md ops C QN (f+1) listed a w:=by
  have c:=dT c;refine⟨fun l=>(by rw[c]at l;cases l),fun k hk=>?_⟩;rw[c]at hk;have:k=i\/k=j:=by simpa using hk
  rcases this with rfl|rfl
  · exact VJ hi m h
  exact VJ p n h'
end
theorem XI {a:Type} {f:a->Value} {h1:∀x,(f x).oneCell'=true} {ok:a->Prop} {w d:World} {R b:Nat->Prop}:∀{xs:List a} {cs:List Value},rQ (ug f h1 ok) w R cs xs->rQ (ug f h1 ok) d b cs xs
 | [],_,h=>h
 | _ :: _,_,⟨c,r,h0,h1,h2⟩=>⟨c,r,h0,h1,XI h2⟩
theorem pJ {a:Type} {f:a->Value} {h1:∀x,(f x).oneCell'=true} {ok:a->Prop} {w b:World} {R j:Nat->Prop} {v:Value} {xs:List a} (h:Lz (ug f h1 ok) w R v xs) (m:Md [] w b):Lz (ug f h1 ok) b j v xs:=by obtain⟨k,c,d,C,h1,D,e,g,G⟩:=h;exact⟨k,c,d,C,h1,D,e,fun p i l n H=>m.cell (g p i l n H) Oy,XI G⟩
theorem mA {a:Type} {f:a->Value} {h1:∀x,(f x).oneCell'=true} {ok:a->Prop} {w:World} {R:Nat->Prop} {b e:Nat} {x:a} (h:bC w b [f x] e) (d:ok x):Lz (ug f h1 ok) w R (.slice (some ⟨b,0,none⟩) 1 1) [x]:=by have c:Ls (ug f h1 ok) w (fun _=>True) (.slice (some ⟨b,0,none⟩) 1 1) [x]:=Ls.cG (cs:=[f x]) h ⟨[f x],[],q,⟨q,d⟩,q⟩ q Xy trivial;exact pJ c.lz (Md.refl _ _)
structure oQ {α:Type} (T:Dt α) (w0:World) (Q0:Nat->Prop) (e:TypeId) (w:World) (R:Nat->Prop) (v:Value) (xs:List α):Prop where
  md:Md [] w0 w
  s:∀b,Q0 b->b<w0.heap.size->R b
  t:∀b,R b->Q0 b
  up:Up w R
  ow:Ow T e (bA [] w0) w R v xs
section
variable {α:Type} {T:Dt α} {P:Program} {ops:Array Oper} {Q:Exit->Act->World->Prop} {n:Nat} {A:Fr n} {D:List Deferred} {l:List (Nat × Value)} {w:World} {rest:List Oper}
theorem oQ.mk0 {a c w:World} {d:Nat->Prop} {e b:Nat} (n:Up a d) (h1:Md [] a c) (f:c.heap.size<=b) (j:b<w.heap.size) (g:Md [] c w) (l:bC w b [] e) :
    ∃R,oQ T a d e w R (.slice (some ⟨b,0,none⟩) 0 0) []:=by
  obtain⟨R,s,t,C,m⟩:=jC (n.md h1) f j g;exact⟨R,h1.k g,fun b h i=>s b h (lj i h1.size),t,m,Ow.cG l q q Xy (.inr (lv h1.size f)) C⟩
theorem oQ.o {c w b:World} {a R:Nat->Prop} {e:TypeId} {v:Value} {xs:List α} (h:oQ T c a e w R v xs) (m:Md [] w b):oQ T c a e b R v xs :=
  ⟨h.md.k m,h.s,h.t,h.up.md m,h.ow.o m⟩
instance anm {w0 w w':World} {Q0 R:Nat->Prop} {e:TypeId} {v:Value} {xs:List α}:Tp w w' (oQ T w0 Q0 e w R v xs) (oQ T w0 Q0 e w' R v xs ):=⟨fun m h=>h.o m⟩
theorem eB {d:Nat} {x y:Operand} {ty:TypeId} {ps:String} {af:Array Edge} {t e:TypeId} {sz i:Nat} {v u:Value} {xs ys:List α} {j:World} {h R:Nat->Prop} (q:T.n=sz) (r:P.underlying t=some (.slice e)) (p:wF P e sz i=true) (z:ev n l x=some v) (B:ev n l y=some u)
    (F:oQ T j h e w R v xs) (hY:Lz T w R u ys) (h63:xs.length+ys.length<=100000) (hb:i<=1000)
    (k:∀c a f,oQ T j h e a f c (xs ++ ys)->Md (ah v).toList w a->wpList P ops Q rest (aQ A D ((d,c) :: l)) a) :
    wpList P ops Q (⟨some d,.call {callee:=.builtin .append,args:=#[x,y],argTypes:=#[t,t]},ty,ps,af,none⟩ :: rest) (aQ A D l) w:=by
  refine ud q r p z B F.ow hY F.up (fun b hb=>.inr (lv F.md.size hb)) Xx ?_ ?_
  · exact lv (Nat.mul_le_mul h63 hb) Xy
  intro c a f m G H o g E I J;refine k c a f ⟨F.md.dh g fun b hb=>(F.ow.2 b hb).1,fun b hb C=>m b (F.s b hb C) (lj C F.md.size),fun b hb=>F.t b (G b hb),H,o⟩ g
end
theorem ahU {ds:List aN} {p q:Nat} {a:List Nat} (h:0<q):lN ds p a q=if p<gG ds (a.getD (q-1) 0)then lN ds p a (q-1)else q:=by obtain⟨n,rfl⟩:∃n,q=n+1:=⟨q-1,by omega⟩;rfl
theorem akq {ds:List aN} {p q:Nat} {a:List Nat} (h:¬0<q):lN ds p a q=q:=by
  obtain rfl:q=0:=by omega
  rfl
theorem pz {ds:List aN} {i:Nat} {x:aN} (h:ds[i]? = some x):gG ds i=x.pos:=by simp[gG,List.getD,h]
theorem wZ {l:List Nat} {i x:Nat} (h:l[i]? = some x):l.getD i 0=x:=by simp[List.getD,h]
theorem ru {ds:List aN} {i:Nat} {x:aN} (h:ds[i]? = some x):ds.getD i known0=x:=by simp[List.getD,h]
theorem ZL (m:Mk) (x:Pr) (h:m.fit):m.ai.length<=(m.data x).2.ai.length:=by rcases(M0 m x h).pre with e|⟨y,e,_⟩ <;> rw[e] <;> simp
theorem CJ {l:List Pr} {m:Mk} {ps:List (List UInt8)} {a:List Nat} {i:Nat} (h:¬i<l.length):gI (l.drop i) m ps a=(ps,a,m):=by rw[er Xx];rfl
theorem Pw {l:List Pr} {m m':Mk} {ps:List (List UInt8)} {a:List Nat} {i k:Nat} {x:Pr} {y:aN} {q:Nat} (h:l[i]? = some x) (hd:m.data x=(k,m')) (c:m'.ai[k]? = some y) (b:lN m'.ai (gG m'.ai k) a a.length=q) :
    gI (l.drop i) m ps a=gI (l.drop (i+1)) m' (ps ++ [y.bQ]) (a.take q ++ [k] ++ a.drop q):=by
  rw[cH h];show(match m.data x with|(k,m1)=>gI (l.drop (i+1)) m1 (ps ++ [(m1.ai.getD k known0).bQ]) (mB m1.ai k a))=_;rw[hd];simp only[ru c];unfold mB;rw[b]
theorem Uf {b m m':Mk} {ps:List (List UInt8)} {a:List Nat} {n k q:Nat} {x:Pr} {y:aN} (h:qd b m ps a n) (d:BD x) (hd:m.data x=(k,m')) (e:m'.ai[k]? = some y) (c:lN m'.ai (gG m'.ai k) a a.length=q) :
    qd b m' (ps ++ [y.bQ]) (a.take q ++ [k] ++ a.drop q) (n+1):=by
  have:=CN h d;rw[hd]at this;simp only[ru e]at this;unfold mB at this;rw[c]at this;exact this
theorem EB {m:Mk} {b:List Nat} {j:Nat} {a:List lJ} (h:¬j<b.length):a ++ jd m (b.drop j)=a:=by rw[er Xx];simp[jd]
theorem QG {m:Mk} {a:List Nat} {j i:Nat} {d:List lJ} {x:aN} (h:a[j]? = some i) (b:m.ai[i]? = some x) :
    d ++ jd m (a.drop j)=(d ++ [{pos:=x.pos,bY:=cP m.c.cC m.c.cg x.bQ}]) ++ jd m (a.drop (j+1)):=by
  rw[cH h];simp only[jd,List.map_cons,pz b,ru b,List.append_assoc,List.singleton_append]
theorem Jd {m:Mk} {a:List Nat} {j e:Nat} (h:¬j<a.length):kr e (a.drop j) m=m:=by rw[er Xx];rfl
theorem UJ {m:Mk} {a:List Nat} {j i e:Nat} (h:a[j]? = some i):kr e (a.drop j) m=kr e (a.drop (j+1)) (jN e i m):=by rw[cH h,nK]
theorem ach {a m:Mk} {d e e' j:Nat} (h:kP a m d e j) (b:e<=e'):kP a m d e' j:=⟨h.fit,h.c,h.n8,h.chains,h.nd,h.nf,h.ge,lv h.le Xx⟩
theorem agz {m:Mk} {e i:Nat} {k:aN} (hk:m.ai[i]? = some k) (a:k.bw=0) :
    jN e i m={(m.put (k.pos+40) e).put (k.pos+56) 1 with ai:=m.ai.set i {k with bw:=1}}:=by
  unfold jN;simp only[ru hk];rw[if_pos a];rfl
theorem ag0 {m b:Mk} {e i t:Nat} {a:List Nat} {k:aN} (hk:m.ai[i]? = some k) (c:¬k.bw=0) (d:m.link k.aT (k.bw-1) (k.pos+48) e=(a,t,b)) :
    jN e i m={b.put (k.pos+56) (k.bw+1)with ai:=b.ai.set i {k with aT:=a,bw:=k.bw+1}}:=by
  unfold jN;simp only[ru hk];rw[if_neg c,d];rfl
theorem kR {m x d g z:Mk} {raw l:List Pr} {c bK mono e t:Nat} {bD:Ly} {ps:List (List UInt8)} {f a:List Nat} (h1:ku raw=(l,c)) (n:¬c≠0) (o:¬m.bS 9=18446744073709551615) (p:gI l m [] []=(ps,f,x))
    (h5:x.bU (cW {seq:=(x.bS 9+1)%18446744073709551616,bK:=bK,mono:=mono,bD:=bD,xor:=nu 0 ps,aF:=jd x f})=(e,d)) (h6:d.link d.main (d.bS 8) 176 e=(a,t,g))
    (h7:kr e f (let i:=({g with main:=a}:Mk).cE 11 (a.getD 0 0);{i with h:={i.h with cK:=iZ a%4294967296,dc:=t%4294967296}})=z) :
    m.append raw bK mono bD=if z.c.bG<z.b.length then(0,15,m)else
      (let seq:=(x.bS 9+1)%18446744073709551616
      let j:=if d.bS 8=0 then(z.cE 10 seq).cE 12 bK else z
      let q:=j.cE 8 ((j.bS 8+1)%18446744073709551616)
      let k:=((q.cE 9 seq).cE 13 bK).cE 14 mono
      (seq,0,{k with h:={k.h with bD:=bD,dI:=e}})):=by
  unfold Mk.append;simp only[h1];rw[if_neg n,if_neg o];simp only[p,h5,h6];simp only at h7;rw[h7]
end Go.Wk
namespace Go.Wk
open Go Go.RowKit
section
variable {P:Program} {ops:Array Oper} {Q:Exit->Act->World->Prop} {rest:List Oper}
variable {n:Nat} {A:Fr n} {D:List Deferred} {l:List (Nat × Value)} {w:World}
variable {d:Tmp} {ty:TypeId} {ps:String} {af:Array Edge} {g:Option (Nat × Bool)}
end
section
variable {P:Program} {ops:Array Oper} {Q:Exit->Act->World->Prop} {rest:List Oper}
variable {n:Nat} {A:Fr n} {D:List Deferred} {l:List (Nat × Value)} {w:World}
variable {d:Tmp} {ty:TypeId} {ps:String} {af:Array Edge}
end
section
variable {P:Program} {n:Nat} {A:Fr n} {D:List Deferred} {l:List (Nat × Value)} {w:World} {d:Option Tmp} {ty:TypeId} {ps:String} {af:Array Edge} {g:Option (Nat × Bool)}
end
end Go.Wk
namespace Go.Wk
open Go Go.Op
theorem acs:∀a:List UInt8,bytesLess a a=false
  | []=>rfl
  | x :: a=>by simp[bytesLess,acs a]
theorem OW:∀{a b c:Ly},bytesLess a b=true->bytesLess b c=true->bytesLess a c=true
  | _,[],_,h,_=>by unfold bytesLess at h;cases h
  | _,_ :: _,[],_,h=>by unfold bytesLess at h;cases h
  | [],_ :: _,_ :: _,_,_=>rfl
  | x :: a,y :: b,z :: c,h1,h2=>by
    simp only[bytesLess,Bool.or_eq_true,decide_eq_true_eq,Bool.and_eq_true,beq_iff_eq]at *
    rcases h1 with h1|⟨rfl,h1⟩<;>rcases h2 with h2|⟨rfl,h2⟩
    · exact .inl (UInt8.lt_trans h1 h2)
    · exact .inl h1
    · exact .inl h2
    · exact .inr ⟨q,OW h1 h2⟩
theorem acu:∀{a b:Ly},bytesLess a b=false->bytesLess b a=false->a=b
  | [],[],_,_=>rfl
  | [],_ :: _,h,_=>by unfold bytesLess at h;cases h
  | _ :: _,[],_,h=>by unfold bytesLess at h;cases h
  | x :: a,y :: b,h1,h2=>by
    simp only[bytesLess,Bool.or_eq_false_iff,decide_eq_false_iff_not,Bool.and_eq_false_iff,beq_eq_false_iff_ne]at *;have e:x=y:=(by have c:=h1.1;have d:=h2.1;exact UInt8.le_antisymm (UInt8.not_lt.1 d) (UInt8.not_lt.1 c));subst e;have c:=h1.2.resolve_left Oy;have d:=h2.2.resolve_left Oy;rw[acu c d]
theorem abK {p q:zA} (c:right p=true) (d:right q=true) (h:whole p=whole q):p=q:=by have a:=(o7 ((mH p).2 c)).2;have b:=(o7 ((mH q).2 d)).2;rw[<- a,h,b]
end Go.Wk
namespace Go.Wk
open Go Go.RowKit
section
variable {P:Program} {n:Nat} {A:Fr n} {D:List Deferred} {l:List (Nat × Value)} {w:World} {d:Option Tmp} {ty:TypeId} {ps:String} {af:Array Edge} {g:Option (Nat × Bool)}
end
def eqT:List (List UInt8)->List (List UInt8)->Bool
  | [],_=>true
  | p :: r,q :: s=>if p=q then eqT r s else false
  | _ :: _,[]=>false
def pQ (a b:List (List UInt8)):Bool:=if a.length=b.length then eqT a b else false
theorem MF {a b:List (List UInt8)} {i:Nat} (h:¬i<a.length):eqT (a.drop i) b=true:=by rw[er Xx];rfl
theorem wG {a b:List (List UInt8)} {i:Nat} {p q:Ly} (h:a[i]? = some p) (k:b[i]? = some q):eqT (a.drop i) (b.drop i)=if p=q then eqT (a.drop (i+1)) (b.drop (i+1))else false:=by rw[cH h,cH k];rfl
def ado (p:Pr):List Pr->Bool
  | []=>false
  | q :: r=>if p.pb=q.pb then true else ado p r
def allIn (b:List Pr):List Pr->Bool
  | []=>true
  | p :: r=>if ado p b=true then allIn b r else false
theorem zf {p q:Pr}:p.pb=q.pb↔p=q:=by cases p;cases q;simp[Pr.pb]
theorem adp {p:Pr} {l:List Pr}:ado p l=true↔p∈l:=by
  induction l with
  | nil=>simp[ado]
  | cons q r ih =>
    unfold ado;split
    · rename_i h;rw[zf]at h;simp[h]
    · rename_i h;rw[zf]at h;simp[h,ih]
end Go.Wk
namespace Go.Wk
open Go Go.RowKit
section
variable {P:Program} {ops:Array Oper} {Q:Exit->Act->World->Prop} {rest:List Oper}
variable {n:Nat} {A:Fr n} {D:List Deferred} {l:List (Nat × Value)} {w:World}
variable {d:Tmp} {op:Op} {ty:TypeId} {ps:String} {af:Array Edge} {g:Option (Nat × Bool)}
theorem TB {x:Operand} {t e:TypeId} {b o m c:Nat} {cs zs:List Value} (B:P.underlying t=some (.slice e)) (a:dU P e=some zs) (h1:∀d∈zs,d.oneCell'=true) (E:ev n l x=some (.slice (some ⟨b,o,none⟩) m c)) (F:0<m)
    (hB:bC w b cs e) (hj:o+m*zs.length<=cs.length) (k:∀j us,Md [b] w j->us.length=m*zs.length->bC j b (fB cs o us) e->wpList P ops Q rest (aQ A D l) j) :
    wpList P ops Q (⟨none,.call {callee:=.builtin .clear,args:=#[x],argTypes:=#[t]},ty,ps,af,none⟩ :: rest) (aQ A D l) w:=by
  refine fU q ?_;unfold dU at a;split at a
  · rename_i i hi
    split at a
    · rename_i z hzz
      simp only[Option.some.injEq]at a;subst a;have p:(Builtin.zeroCells z.cells m).toList.length=m*z.cells.toList.length:=(by simp[Builtin.zeroCells]);have y:∀d∈(Builtin.zeroCells z.cells m).toList,d.oneCell'=true:=by
        intro d r;simp only[Builtin.zeroCells,Array.toList_map,List.mem_map]at r;obtain⟨g,u,rfl⟩:=r;have G:g<m*z.cells.size:=(by simpa using u);have v:0<z.cells.size:=by
          rcases Nat.eq_zero_or_pos z.cells.size with h|h
          · rw[h]at G;omega
          · exact h
        have H:=Nat.mod_lt g v;rw[getElem!_pos z.cells (g%z.cells.size) H];exact h1 _ Oy
      have C:=run_storeCells_at P b o e (Builtin.zeroCells z.cells m).toList 0 cs.toArray w hB (by simp only[p];simpa using hj) y;obtain⟨f,rfl⟩:∃f,m=f+1:=⟨m-1,by omega⟩;have s:(execOp (aQ A D l).eval ⟨none,.call {callee:=.builtin .clear,args:=#[x],argTypes:=#[t]},ty,ps,af,none⟩).run P w = .ok (.value (.tuple #[])) (w.setRow b (fB cs o (Builtin.zeroCells z.cells (f+1)).toList).toArray):=(by simp[execOp,resolve,invoke,builtin,bM E,Builtin.clear_,run_underlying B,zeroValue,typeInfo,hi,hzz,fB]at C ⊢;simp[C]);unfold Oper.wp;rw[s];exact k _ _ (Md.setRow w b _) p hB.setRow
    cases a
  cases a
end
section
variable {P:Program} {n:Nat} {A:Fr n} {D:List Deferred} {l:List (Nat × Value)} {w:World} {d:Option Tmp} {ty:TypeId} {ps:String} {af:Array Edge} {g:Option (Nat × Bool)}
theorem Zm {x:Operand} {t u e:TypeId} {a:Option Addr} {m c:Nat} (i:ev n l x=some (.slice a m c)) (f:P.underlying t=some (.slice e)) :
    bZ P ⟨d,.binOp .eql t x (.const (.slice none 0 0)) u,ty,ps,af,g⟩ (aQ A D l).eval w (.bool a.isNone):=by
  have h:=Go.Lib.run_eql_slice_nil (P:=P) w t e a m c 0 0 f;have b:(aQ A D l).eval (.const (.slice none 0 0)) = .slice none 0 0:=rfl;have C:(eqGuard .eql t x (.const (.slice none 0 0)) (.slice a m c) (.slice none 0 0)).run P w = .ok () w:=by unfold eqGuard;simp
  simp[bZ,execOp,bM i,b,C,h]
end
section
variable {w w':World} {b cap:Nat} {xs:List Pr}
end
end Go.Wk
namespace Go.Wk
open Go Go.RowKit
theorem aft {v:Nat} {x:UInt8} (h:v<72057594037927936):v*2 ^ 8%18446744073709551616 ||| x.toNat=x.toNat+256*v:=by have A:=UInt8.toNat_lt x;rw[Nat.mod_eq_of_lt Xx,Nat.mul_comm,<- Nat.two_pow_add_eq_or_of_lt (by simpa using A)];omega
theorem AO {l:Ly} {a k:Nat} (hk:k=4\/k=8) (h:a+k<=l.length):lO l a k=(EK ((l.drop a).take k),true):=by unfold lO;rw[if_pos ⟨by rw[fA];omega,by omega,by omega⟩];simp
def at4 (l:Ly) (a:Nat):Nat:=EK ((l.drop a).take 4)
def dW (l:Ly) (a:Nat):Nat:=EK ((l.drop a).take 8)
theorem BX (l:Ly) (a:Nat):at4 l a<4294967296:=uL (k:=4) Ym
theorem LU (l:Ly) (a:Nat):dW l a<18446744073709551616:=uL (k:=8) Ym
section
variable {P:Program} {ops:Array Oper} {Q:Exit->Act->World->Prop} {rest:List Oper}
variable {n:Nat} {A:Fr n} {D:List Deferred} {l:List (Nat × Value)} {w:World}
variable {d:Tmp} {op:Op} {ty:TypeId} {ps:String} {af:Array Edge} {g:Option (Nat × Bool)}
theorem lX {f:FuncId} {c:Operand} {xs:List Operand} {e:Array TypeId} {vs cs:List Value} {R:Ending->World->Prop} (j:ev n l c=some (.func (.func f) #[] cs.toArray)) (m:cu P f=true) (i:evs n l xs=some vs) (o:Calls P f (vs ++ cs).toArray w R)
    (k:∀a b,R a b->∃v,a = .returned v/\wpList P ops Q rest (aQ A D ((d,v) :: l)) b) :
    wpList P ops Q (⟨some d,.call {callee:=.value c,args:=xs.toArray,argTypes:=e},ty,ps,af,none⟩ :: rest) (aQ A D l) w:=by
  refine fU q ?_;unfold Oper.wp;have h:=mP (A:=A) (D:=D) i;have g:(execOp (aQ A D l).eval ⟨some d,.call {callee:=.value c,args:=xs.toArray,argTypes:=e},ty,ps,af,none⟩).run P w = .ok (.enter f (vs ++ cs).toArray) w:=by simp only[execOp,resolve,bM j,Deferred.ofValue,List.map_toArray,h];simp[invoke,po m]
  rw[g];refine o.mono fun a b C=>?_;obtain⟨v,rfl,hk⟩:=k a b C;exact hk
theorem vV {f:FuncId} {x:Operand} {v:Value} {a:Option Tmp} (b:ev n l x=some v) :
    bZ P ⟨a,.makeFunc (.func f) #[] #[x],ty,ps,af,g⟩ (aQ A D l).eval w (.func (.func f) #[] #[v]):=by
  simp[bZ,execOp,bM b,Instr.makeFunc]
end
def z16:List UInt8:=List.replicate 16 0
def jQ (b:Ly) (c i k j:Nat):bF :=
  {gD:=c,bN:=i,state:=(b.getD 16 0).toNat,cg:=if 0<k then(b.drop 24).take 16 else z16,dG:=if 1<k then(b.drop 40).take 16 else z16,bD:=if 2<k then(b.drop 56).take 16 else z16,seq:=if 3<k then(b.drop 72).take 16 else z16,
    n:=(List.range 21).map fun q=>if q<j then dW b (88+8*q)else 0,cK:=0,dc:=0,dI:=0}
def gP (b:Ly):bF:={jQ b (at4 b 8) (at4 b 12) 4 21 with cK:=at4 b 256,dc:=at4 b 260,dI:=dW b 264}
theorem GL {b:Ly} {o:Nat} (h:o+16<=b.length):((b.drop o).take 16).length=16:=by simp;omega
theorem pH {x:Ly} (h:x.length=16) (a c:List Value) (z:Ly):fB (a ++ (iY z ++ c)) a.length (x.map b8)=a ++ (iY x ++ c):=by
  unfold fB;have B:(iY z).length=16:=rfl;have A:(x.map b8).length=16:=by simp[h]
  rw[List.take_left,A,<- List.append_assoc a,List.drop_left' (by simp[B]),<- oV h,List.append_assoc]
theorem adw {b:Ly} {c i k:Nat} (hk:k<4) (d:272<=b.length):fB (bF.cells (jQ b c i k 0)) (3+k*16) (((b.drop (24+16*k)).take 16).map b8)=bF.cells (jQ b c i (k+1) 0):=by
  have a:((b.drop (24+16*k)).take 16).length=16:=GL Xx
  rcases(show k=0\/k=1\/k=2\/k=3 by omega)with rfl|rfl|rfl|rfl
  · exact pH a [.int .u32 c,.int .u32 i,.int .i64 (((b.getD 16 0).toNat:Nat):Int)] _ z16
  · exact pH a ([.int .u32 c,.int .u32 i,.int .i64 (((b.getD 16 0).toNat:Nat):Int)] ++ iY ((b.drop 24).take 16)) _ z16
  · exact pH a ([.int .u32 c,.int .u32 i,.int .i64 (((b.getD 16 0).toNat:Nat):Int)] ++ iY ((b.drop 24).take 16) ++ iY ((b.drop 40).take 16)) _ z16
  exact pH a ([.int .u32 c,.int .u32 i,.int .i64 (((b.getD 16 0).toNat:Nat):Int)] ++ iY ((b.drop 24).take 16) ++ iY ((b.drop 40).take 16) ++ iY ((b.drop 56).take 16)) _ z16
theorem adt {h:bF} {j v:Nat} (d:h.n.length=21) (c:j<21):(bF.cells h).set (67+j) (.int .u64 v)=bF.cells {h with n:=h.n.set j v}:=by
  have a:∀(m:List Nat) (t:bF),t.n=m->bF.cells t=([(.int .u32 t.gD)] ++ ([(.int .u32 t.bN)] ++ ([(.int .i64 t.state)] ++ ((iY t.cg) ++ ((iY t.dG) ++ ((iY t.bD) ++ (iY t.seq))))))) ++ (oE m ++ ([(.int .u32 t.cK)] ++ ([(.int .u32 t.dc)] ++ [(.int .u64 t.dI)]))):=by intro m t C;subst C;simp only[bF.cells,List.append_assoc]
  rw[a h.n h q,a (h.n.set j v) {h with n:=h.n.set j v} q,VG d c];have b:([(.int .u32 h.gD)] ++ ([(.int .u32 h.bN)] ++ ([(.int .i64 h.state)] ++ ((iY h.cg) ++ ((iY h.dG) ++ ((iY h.bD) ++ (iY h.seq)))))):List Value).length=67:=rfl;have e:(oE h.n).length=21:=rfl;rw[List.set_append_right _ _ Xx,b,Nat.add_sub_cancel_left,List.set_append_left _ _ Xx]
theorem ajr {b:Ly} {j:Nat} (d:j<21):((List.range 21).map fun q=>if q<j then dW b (88+8*q)else 0).set j (dW b (88+8*j))=(List.range 21).map fun q=>if q<j+1 then dW b (88+8*q)else 0:=by
  apply List.ext_getElem
  · simp
  intro q a c;simp at a
  by_cases h:q=j
  · subst h;simp
  rw[List.getElem_set_ne (Ne.symm h)];simp only[List.getElem_map,List.getElem_range]
  by_cases h3:q<j
  · rw[if_pos h3,if_pos Xx]
  rw[if_neg h3,if_neg Xx]
theorem aau {b:Ly} {c i j:Nat} (a:j<21):(bF.cells (jQ b c i 4 j)).set (67+j) (.int .u64 ((dW b (88+8*j):Nat):Int))=bF.cells (jQ b c i 4 (j+1)):=by rw[adt (by simp[jQ]) a];unfold jQ;simp only[ajr a]
theorem S1 {b:Ly} (h:272<=b.length):bF.ok (gP b):=by
  refine⟨BX _ _,BX _ _,?_,GL Xx,GL Xx,GL Xx,GL Xx,⟨by simp[gP,jQ],?_⟩,BX _ _,BX _ _,LU _ _⟩
  · have:=UInt8.toNat_lt (b.getD 16 0);show(b.getD 16 0).toNat<_;omega
  intro y A;simp only[gP,jQ,List.mem_map,List.mem_range]at A;obtain⟨q,B,rfl⟩:=A;rw[if_pos B];exact LU _ _
def ptrs (b o sz:Nat) (n:Nat):List Value:=(List.range n).map fun k=>.pointer (some ⟨b,o+k*sz,none⟩)
theorem S2 {b o sz n k:Nat} (h:k<n):(ptrs b o sz n)[k]? = some (.pointer (some ⟨b,o+k*sz,none⟩)):=by simp[ptrs,h]
end Go.Wk
namespace Go.Wk
open Go Go.RowKit
def andNot (a b:Nat):Nat:=(BitVec.ofNat 32 a &&& ~~~(BitVec.ofNat 32 b)).toNat
section
variable {P:Program} {n:Nat} {A:Fr n} {D:List Deferred} {l:List (Nat × Value)} {w:World} {d:Option Tmp} {ty:TypeId} {ps:String} {af:Array Edge} {g:Option (Nat × Bool)}
theorem abe {x y:Operand} {t u:TypeId} {a b:Nat} (L:Nat) (f:lim .u32=L) (hk:IntKind.u32.signed=false) (c:ev n l x=some (.int .u32 (a:Int))) (e:ev n l y=some (.int .u32 (b:Int))) (h:a<L/\b<L) :
    bZ P ⟨d,.binOp .andNot t x y u,ty,ps,af,g⟩ (aQ A D l).eval w (.int .u32 ((andNot a b:Nat):Int)):=(aeY c e).jy (by
  unfold bits andNot;simp only[BitVec.ofInt_natCast];exact wrapN .u32 _ (show(BitVec.ofNat 32 a &&& ~~~(BitVec.ofNat 32 b)).toNat<4294967296 from(BitVec.ofNat 32 a &&& ~~~(BitVec.ofNat 32 b)).isLt))
end
def hz0:bF:={gD:=0,bN:=0,state:=0,cg:=pY,dG:=pY,bD:=pY,seq:=pY,n:=List.replicate 21 0,cK:=0,dc:=0,dI:=0}
def KU:List UInt8:=[76,80,75,83,72,72,82,72]
def vt (b p:Ly):Bool:=if p.length<=b.length then decide (b.take p.length=p)else false
def yo (h:bF):Nat × Bool:=if(h.n.getD 0 0+h.n.getD 1 0)%18446744073709551616<h.n.getD 0 0 then(0,false)else((h.n.getD 0 0+h.n.getD 1 0)%18446744073709551616,true)
def jX (h:bF) (at_ size end_:Nat):Nat :=
  if at_%8≠0 then 3
  else if size=0\/size%16≠0 then 5
  else if at_<h.n.getD 0 0\/at_-h.n.getD 0 0<16\/end_<at_\/end_-at_<size then 2 else 0
def qH (h:bF) (len:Nat):Nat :=
  if andNot h.bN 4≠0 then 7
  else if 2<h.state then 8
  else if h.n.getD 0 0<272\/h.n.getD 0 0%8≠0\/h.n.getD 1 0%8≠0 then 5
  else if(yo h).2=false\/len<(yo h).1 then 2
  else if jX h (h.n.getD 2 0) (h.n.getD 3 0) (yo h).1≠0 then jX h (h.n.getD 2 0) (h.n.getD 3 0) (yo h).1
  else jX h (h.n.getD 4 0) (h.n.getD 5 0) (yo h).1
def kE (b:Ly):bF × Nat :=
  if b.length<272 then(hz0,22)
  else if vt b KU=false then(hz0,6)
  else if qH (gP b) b.length≠0 then(hz0,qH (gP b) b.length)else(gP b,0)
theorem kQ {h:bF} {len r:Nat} {s:Bool} (a:yo h=(r,s)):qH h len=(if andNot h.bN 4≠0 then 7 else if 2<h.state then 8 else if h.n.getD 0 0<272\/h.n.getD 0 0%8≠0\/h.n.getD 1 0%8≠0 then 5
    else if s=false\/len<r then 2 else if jX h (h.n.getD 2 0) (h.n.getD 3 0) r≠0 then jX h (h.n.getD 2 0) (h.n.getD 3 0) r else jX h (h.n.getD 4 0) (h.n.getD 5 0) r):=by
  unfold qH;rw[a]
theorem mZ {b:Ly} {h:bF} {p:Bool} {c:Nat} (h1:¬b.length<272) (a:vt b [76,80,75,83,72,72,82,72]=p) (d:¬p=false) (e:gP b=h) (f:qH h b.length=c) (g:c≠0):kE b=(hz0,c):=by subst e;subst f;unfold kE;rw[if_neg h1,if_neg (by rw[show KU=[76,80,75,83,72,72,82,72]from rfl,a];exact d),if_pos g]
theorem afh {b:Ly} {h:bF} {p:Bool} (h1:¬b.length<272) (a:vt b [76,80,75,83,72,72,82,72]=p) (c:¬p=false) (d:gP b=h) (e:qH h b.length=0):kE b=(h,0):=by subst d;unfold kE;rw[if_neg h1,if_neg (by rw[show KU=[76,80,75,83,72,72,82,72]from rfl,a];exact c),if_neg Xx]
theorem SH {b:Ly} (h:b.length<272):kE b=(hz0,22):=by unfold kE;rw[if_pos h]
theorem Wm {b:Ly} (h1:¬b.length<272) (a:vt b [76,80,75,83,72,72,82,72]=false):kE b=(hz0,6):=by unfold kE;rw[if_neg h1,if_pos (show vt b KU=false from a)]
def Po {α:Type} (T:Dt α) (ty:TypeId) (w:World) (Q:Nat->Prop) (v:Value):Option α->Prop
  | none=>v = .pointer none
  | some x=>Pt T ty w Q v x
section
variable {α:Type} {T:Dt α} {ty:TypeId} {w w':World} {Q Q':Nat->Prop} {v:Value} {ox:Option α}
variable {P:Program} {n:Nat} {A:Fr n} {D:List Deferred} {l:List (Nat × Value)} {d:Option Tmp} {ty2:TypeId} {ps:String} {af:Array Edge} {g:Option (Nat × Bool)}
end
def lR (b:Ly):Option dx × Nat:=if(kE b).2≠0 then(none,(kE b).2)else(some {b:=b.take (yo (kE b).1).1,h:=(kE b).1},0)
theorem zn {b:Ly} {h:bF} (a:kE b=(h,0)):272<=b.length/\gP b=h/\qH h b.length=0:=by
  unfold kE at a;split at a
  · have:=congrArg Prod.snd a;simp at this
  rename_i h1;split at a
  · have:=congrArg Prod.snd a;simp at this
  split at a
  · rename_i h2;have:=congrArg Prod.snd a;exact absurd this h2
  rename_i h2;have c:=congrArg Prod.fst a;simp only at c;subst c;exact⟨by omega,q,by omega⟩
theorem afi {b:Ly} {h:bF} {e:Nat} {s:Bool} (d:kE b=(h,0)) (c:yo h=(e,s)):e<=b.length/\s=true:=by
  obtain⟨_,_,a⟩:=zn d;rw[kQ c]at a;split at a
  · omega
  split at a
  · omega
  split at a
  · omega
  split at a
  · omega
  rename_i h4;rw[not_or]at h4;exact⟨by omega,by simpa using h4.1⟩
theorem JV {b:Ly} {x:Option dx} (h:lR b=(x,0)):∃y,x=some y/\bF.ok y.h/\y.b.length<=b.length:=by
  unfold lR at h;split at h
  · rename_i h1;exact absurd (congrArg Prod.snd h) h1
  rename_i h1;have C:kE b=((kE b).1,0):=by rw[<- Classical.not_not.1 h1]
  obtain⟨A,B,_⟩:=zn C;exact⟨_,(congrArg Prod.fst h).symm,by rw[<- B];exact S1 A,by simp;omega⟩
end Go.Wk
namespace Go.Wk
open Go Go.RowKit
section
variable {P:Program} {n:Nat} {A:Fr n} {D:List Deferred} {l:List (Nat × Value)} {w:World} {ops:Array Oper} {rest:List Oper} {Q:Exit->Act->World->Prop}
variable {d:Tmp} {op:Op} {ty:TypeId} {ps:String} {af:Array Edge}
theorem mv {x:Operand} {v:Value} (h:ev n l x=some v) (k:wpList P ops Q rest (aQ A D ((d,v) :: l)) w):wpList P ops Q (⟨some d,.move x,ty,ps,af,none⟩ :: rest) (aQ A D l) w:=st v (aM h) k
theorem ck {x:Operand} {v:Value} (h:ev n l x=some v) (k:wpList P ops Q rest (aQ A D ((d,v) :: l)) w):wpList P ops Q (⟨some d,.assign x,ty,ps,af,none⟩ :: rest) (aQ A D l) w:=st v (eX h) k
theorem nt {K:Act->World->Prop} {a:Act} (h:K a w):wpList P ops (Exit.then K Q) [] a w:=aA (aj h)
theorem mz {C:World->Prop} {QN:Act->World->Prop} {rest:List (Bool × Oper)} {v:Value} (b:∀a,C a->bZ P ⟨some d,op,ty,ps,af,none⟩ (aQ A D l).eval a v) (k:fD P ops C QN rest (aQ A D ((d,v) :: l)) w):fD P ops C QN ((true,⟨some d,op,ty,ps,af,none⟩) :: rest) (aQ A D l) w:=Go.Wk.m v b k
theorem sk {j t:Nat} {o:Oper} {b a:Bool} (hb:b = !a) (k:wpList P ops Q rest (aQ A D ((d,undef) :: l)) w) (c:ops[j]? = some o:=by rfl) (e:o.dst=some t:=by rfl) (f:ev n l (.tmp t)=some (.bool b):=by rfl) :
    wpList P ops Q (⟨some d,op,ty,ps,af,some (j,a)⟩ :: rest) (aQ A D l) w:=ah3 c e f hb k
theorem sg {j t:Nat} {o:Oper} {b a:Bool} {v:Value} (hb:b=a) (e:bZ P ⟨some d,op,ty,ps,af,some (j,a)⟩ (aQ A D l).eval w v) (k:wpList P ops Q rest (aQ A D ((d,v) :: l)) w) (c:ops[j]? = some o:=by rfl) (f:o.dst=some t:=by rfl) (g:ev n l (.tmp t)=some (.bool b):=by rfl) :
    wpList P ops Q (⟨some d,op,ty,ps,af,some (j,a)⟩ :: rest) (aQ A D l) w:=af4 v c f g hb e k
theorem sf {x:Operand} {s:TypeId} {f b o a:Nat} (e:ev n l x=some (.pointer (some ⟨b,o,none⟩))) (c:aP P s f=some a) (k:wpList P ops Q rest (aQ A D ((d,.pointer (some ⟨b,o+a,none⟩)) :: l)) w):wpList P ops Q (⟨some d,.fieldAddr s x f,ty,ps,af,none⟩ :: rest) (aQ A D l) w:=st _ (aJ e c) k
theorem sl {x:Operand} {t ty':TypeId} {b j:Nat} {cs:List Value} {u:Value} (f:ev n l x=some (.pointer (some ⟨b,j,none⟩))) (c:iI P t=true) (a:bC w b cs ty') (e:cs[j]? = some u) (k:wpList P ops Q rest (aQ A D ((d,u) :: l)) w):wpList P ops Q (⟨some d,.load t x,ty,ps,af,none⟩ :: rest) (aQ A D l) w:=st _ (aG f c a e) k
theorem sn {x:Operand} {p:Addr} (h:ev n l x=some (.pointer (some p))) (k:wpList P ops Q rest (aQ A D ((d,.pointer (some p)) :: l)) w):wpList P ops Q (⟨some d,.nilCheck x,ty,ps,af,none⟩ :: rest) (aQ A D l) w:=st _ (cA h) k
theorem se {x:Operand} {i:Nat} {vs:Array Value} {v:Value} (h:ev n l x=some (.tuple vs)) (a:vs[i]? = some v) (k:wpList P ops Q rest (aQ A D ((d,v) :: l)) w):wpList P ops Q (⟨some d,.extract x i,ty,ps,af,none⟩ :: rest) (aQ A D l) w:=st _ (jJ h a) k
theorem sL {x:Operand} {v:Value} {m:Nat} {t e:TypeId} (c:ev n l x=some v) (b:P.underlying t=some (.slice e)) (a:OE v m) (k:wpList P ops Q rest (aQ A D ((d,.int .i64 m) :: l)) w):wpList P ops Q (⟨some d,.call {callee:=.builtin .len,args:=#[x],argTypes:=#[t]},ty,ps,af,none⟩ :: rest) (aQ A D l) w:=st _ (j9 c b a) k
theorem mo {C:World->Prop} {QN:Act->World->Prop} {rest:List (Bool × Oper)} {x:Operand} {v:Value} (h:ev n l x=some v) (k:fD P ops C QN rest (aQ A D ((d,v) :: l)) w):fD P ops C QN ((true,⟨some d,.move x,ty,ps,af,none⟩) :: rest) (aQ A D l) w:=Go.Wk.m v (fun _ _=>aM h) k
theorem ns {id:Nat} {lo:List Oper} {y:Code} {a:Act} (h:wpList P lo.toArray (Exit.then (fun a w=>y.wp P Q a w) Q) lo a w):(Code.seq (.region id lo.toArray false) y).wp P Q a w:=aD (aH h)
theorem an {x:Operand} {v:Value} {K:Act->World->Prop} (h:ev n l x=some v) (k:K (aQ A D ((d,v)::l)) w):wpList P ops (Exit.then K Q) [⟨some d,.assign x,ty,ps,af,none⟩] (aQ A D l) w:=ck h (nt k)
theorem ar {x:Operand} {v:Value} {R:Exit->Act->World->Prop} (h:ev n l x=some v) (k:R .ret (aQ A D ((d,v)::l)) w):wpList P ops (Exit.then (fun a w=>Code.ret.wp P R a w) Q) [⟨some d,.assign x,ty,ps,af,none⟩] (aQ A D l) w:=ck h (nt (iM k))
theorem m2 {x y:Operand} {v u:Value} {e:Tmp} {ty' c a} (h:ev n l x=some v) (b:ev n ((d,v)::l) y=some u) (k:wpList P ops Q rest (aQ A D ((e,u)::(d,v)::l)) w):wpList P ops Q (⟨some d,.move x,ty,ps,af,none⟩::⟨some e,.move y,ty',c,a,none⟩::rest) (aQ A D l) w:=mv h (mv b k)
theorem nm {id:Nat} {lo:List Oper} {y:Code} {x:Operand} {v:Value} (h:ev n l x=some v) (k:wpList P (⟨some d,.move x,ty,ps,af,none⟩::lo).toArray (Exit.then (fun a w=>y.wp P Q a w) Q) lo (aQ A D ((d,v)::l)) w):(Code.seq (.region id (⟨some d,.move x,ty,ps,af,none⟩::lo).toArray false) y).wp P Q (aQ A D l) w:=ns (mv h k)
theorem rv {v:Value} {p:Value->Prop} (h:p v):∃u,Ending.returned v=.returned u/\p u:=⟨v,q,h⟩
theorem rA {d:Option Tmp} {g:Option (Nat × Bool)} {x y:Operand} {t u:TypeId} {a b:Nat} (c:ev n l x=some (.int .i64 (a:Int))) (e:ev n l y=some (.int .i64 (b:Int))) (h:a+b<9223372036854775808):bZ P ⟨d,.binOp .add t x y u,ty,ps,af,g⟩ (aQ A D l).eval w (.int .i64 ((a+b:Nat):Int)):=iF 9223372036854775808 q c e h
theorem rS {d:Option Tmp} {g:Option (Nat × Bool)} {x y:Operand} {t u:TypeId} {a b:Nat} (c:ev n l x=some (.int .i64 (a:Int))) (e:ev n l y=some (.int .i64 (b:Int))) (h:b<=a/\a<9223372036854775808):bZ P ⟨d,.binOp .sub t x y u,ty,ps,af,g⟩ (aQ A D l).eval w (.int .i64 ((a-b:Nat):Int)):=qP 9223372036854775808 q c e h
abbrev SN:Value:=.slice none 0 0
theorem tT {Q R S:Nat->Prop} (a:∀b,Q b->R b) (c:∀b,S b->Q b):∀b,S b->R b:=fun b h=>a b (c b h)
theorem sS {S:List Nat} {u w:World} {Q R T:Nat->Prop} (a:∀b,R b->b<w.heap.size->T b) (c:∀b,Q b->b<u.heap.size->R b) (e:Md S u w):∀b,Q b->b<u.heap.size->T b:=fun b h d=>a b (c b h d) (Nat.lt_of_lt_of_le d e.size)
theorem nQ {Q R:Nat->Prop} {b:Nat} (h:¬Q b) (c:∀b,R b->Q b):¬R b:=fun x=>h (c _ x)
theorem rF {a:Type} {T:Dt a} {e:TypeId} {lo:Nat->Prop} {w:World} {Q:Nat->Prop} {v:Value} {xs:List a} (h:Ow T e lo w Q v xs):∀i∈(ah v).toList,lo i:=jA fun x b=>(h.2 x b).1
theorem rN {a:Type} {T:Dt a} {e:TypeId} {lo:Nat->Prop} {w:World} {Q:Nat->Prop} {v:Value} {xs:List a} (h:Ow T e lo w Q v xs):∀i∈(ah v).toList,¬Q i:=jA fun x b=>(h.2 x b).2
theorem hI {p:Nat->Prop} {b:Nat} (h:p b):∀x∈[b],p x:=by intro x a;simp at a;subst a;exact h
end
end Go.Wk
namespace Go.Wk
open Go Go.RowKit
structure Stop where
  code:Nat
def Stop.cells (x:Stop):List Value :=
  [(.int .i64 x.code)]
structure iV where
  kind:Nat
  flags:Nat
  size:Nat
def iV.cells (x:iV):List Value :=
  [(.int .i64 x.kind)] ++ ([(.int .i64 x.flags)] ++ ([(.int .u64 x.size)]))
def iV.ok (x:iV):Prop:=x.kind<9223372036854775808/\x.flags<9223372036854775808/\x.size<18446744073709551616
theorem iV.one {x:iV}:(x.cells).all (fun u=>u.oneCell')=true:=(bT q (bT q q))
def fr0:iV:={kind:=0,flags:=0,size:=0}
def nH (b:Ly) (p:Nat):Nat:=(b.getD p 0).toNat
theorem ji {b:Ly} {p:Nat} {x:UInt8} (h:b[p]? = some x):nH b p=x.toNat:=by simp[nH,List.getD,h]
theorem sW {b:Ly} {p v:Nat} {s:Bool} {i:Int} (h:lO b i 8=(v,s)) (hi:i=(p:Int)) (hb:p+8<=b.length):dW b p=v:=by subst hi;have A:=AO (k:=8) (.inr q) hb;rw[show((8:Nat):Int)=8 from rfl]at A;rw[A]at h;exact congrArg Prod.fst h
theorem ZH (b:Ly) (p:Nat):nH b p<256:=UInt8.toNat_lt _
def dH (b:Ly) (p:Nat):iV × Nat :=
  if p%8≠0 then(fr0,3)
  else if b.length<p\/b.length-p<16 then(fr0,2)
  else if nH b p<1\/7<nH b p then(fr0,4)
  else if nH b (p+1)≠0 then(fr0,7)
  else if dW b (p+8)<16 then(fr0,5)
  else if b.length-p<dW b (p+8)then(fr0,2)
  else({kind:=nH b p,flags:=0,size:=dW b (p+8)},0)
theorem adi {b:Ly} {p:Nat} (h:p%8≠0):dH b p=(fr0,3):=by unfold dH;rw[if_pos h]
theorem PN {b:Ly} {p:Nat} (h:¬p%8≠0) (a:b.length<p\/b.length-p<16):dH b p=(fr0,2):=by unfold dH;rw[if_neg h,if_pos a]
theorem qZ {b:Ly} {p:Nat} {x y:UInt8} {z:Nat} {s:iV} (es:s={kind:=x.toNat,flags:=y.toNat,size:=z}) (h:¬p%8≠0) (e:¬(b.length<p\/b.length-p<16)) (a:nH b p=x.toNat) (c:nH b (p+1)=y.toNat) (d:dW b (p+8)=z) :
    dH b p=if s.kind<1\/7<s.kind then(fr0,4)else if s.flags≠0 then(fr0,7)else if s.size<16 then(fr0,5)else if b.length-p<s.size then(fr0,2)else(s,0):=by
  subst es;unfold dH;rw[if_neg h,if_neg e,a,c,d];by_cases hf:y.toNat=0
  · rw[hf]
  simp only[if_pos (show y.toNat≠0 from hf)]
theorem UG {b:Ly} {p:Nat} {f:iV} (h:dH b p=(f,0)):16<=f.size/\p+f.size<=b.length/\f.kind<256/\f.flags=0:=by
  unfold dH at h;have:=ZH b p
  repeat' split at h
  all_goals first|(have:=congrArg Prod.snd h;simp at this;done)|skip
  have:=congrArg Prod.fst h;simp only at this;subst this;refine⟨?_,?_,?_,q⟩ <;> (simp only;omega)
def qT:fV:={bY:=0,b9:=0,dr:=0,entry:=0,array:=0,bw:=0,au:=[]}
def wB:iL:={next:=0,aF:=[]}
def fZ (b:Ly) (p n:Nat):List Nat:=(List.range n).map fun i=>dW b (p+8*i)
theorem kV (b:Ly) (p n:Nat):(fZ b p n).length=n:=by simp[fZ]
theorem qp (b:Ly) (p n:Nat):fZ b p (n+1)=fZ b p n ++ [dW b (p+8*n)]:=by simp[fZ,List.range_succ]
theorem RI (b:Ly) (p n:Nat):fZ b p (n+1)=dW b p :: fZ b (p+8) n:=by
  induction n generalizing p with
  | zero=>simp[fZ]
  | succ n ih =>
    rw[qp,ih,List.cons_append,qp,show p+8*(n+1)=p+8+8*n by omega]
def lU (b:Ly) (p:Nat):fV × Nat :=
  if(dH b p).2≠0 then(qT,(dH b p).2)
  else if(dH b p).1.kind≠1 then(qT,4)
  else if(dH b p).1.size<=64 then(qT,5)
  else({bY:=dW b (p+16),b9:=dW b (p+24),dr:=dW b (p+32),entry:=dW b (p+40),array:=dW b (p+48),bw:=dW b (p+56),au:=(b.drop (p+64)).take ((dH b p).1.size-64)},0)
def kD (b:Ly) (p:Nat):iL × Nat :=
  if(dH b p).2≠0 then(wB,(dH b p).2)
  else if(dH b p).1.kind≠6 then(wB,4)
  else if(dH b p).1.size<=24\/((dH b p).1.size-24)%8≠0 then(wB,5)
  else({next:=dW b (p+16),aF:=fZ b (p+24) (((dH b p).1.size-24)/8)},0)
def fF (s:Nat) (b:Ly) (p:Nat):fV × Nat:=if p<s\/b.length<=p then(qT,2)else lU b p
def iy (s:Nat) (b:Ly) (p:Nat):iL × Nat:=if p<s\/b.length<=p then(wB,2)else kD b p
def qK (s:Nat) (b:Ly) (p:Nat):Nat:=if p<s\/b.length<=p then 2 else 0
theorem qi {b:Ly} {p c:Nat} {f:iV} (h:dH b p=(f,c)) (a:¬c≠0):16<=f.size/\p+f.size<=b.length/\f.kind<256/\f.flags=0:=UG (by rw[h,Classical.not_not.1 a])
def jZ (b:Ly) (p kind ahead gN:Nat):List UInt8 × Nat :=
  if(dH b p).2≠0 then([],(dH b p).2)
  else if(dH b p).1.kind≠kind then([],4)
  else if(dH b p).1.size<=16+ahead\/((dH b p).1.size-(16+ahead))%gN≠0 then([],5)
  else((b.take (p+(dH b p).1.size)).drop (p+16),0)
theorem sZ {b x:Ly} {p kind ahead gN c:Nat} (h:jZ b p kind ahead gN=(x,c)) (e:c=0):(dH b p).2=0/\(dH b p).1.kind=kind/\16+ahead<(dH b p).1.size/\((dH b p).1.size-(16+ahead))%gN=0/\x=(b.take (p+(dH b p).1.size)).drop (p+16)/\x.length=(dH b p).1.size-16/\p+(dH b p).1.size<=b.length:=by
  subst e;unfold jZ at h;split at h
  · have:=congrArg Prod.snd h;simp at this;contradiction
  rename_i h1;have d:16<=(dH b p).1.size/\p+(dH b p).1.size<=b.length/\(dH b p).1.kind<256/\(dH b p).1.flags=0:=qi (f:=(dH b p).1) (c:=(dH b p).2) q h1;split at h
  · have:=congrArg Prod.snd h;simp at this
  rename_i h2;split at h
  · have:=congrArg Prod.snd h;simp at this
  rename_i h3;rw[not_or]at h3;have a:=congrArg Prod.fst h;simp only at a;subst a;refine⟨by omega,by omega,by omega,by omega,q,?_,d.2.1⟩;simp only[List.length_drop,List.length_take];omega
theorem agd {b:Ly} {o e i:Nat} (h:i+8<=e-o) (c:e<=b.length):dW ((b.take e).drop o) i=dW b (o+i):=by
  unfold dW;congr 1;apply List.ext_getElem?;intro a;simp only[List.getElem?_take,List.getElem?_drop];by_cases hj:a<8
  · rw[if_pos hj,if_pos hj,if_pos (show o+(i+a)<e by omega),Nat.add_assoc]
  rw[if_neg hj,if_neg hj]
theorem FC {b:Ly} {o e n i:Nat} (h:i+8*n<=e-o) (a:e<=b.length):fZ ((b.take e).drop o) i n=fZ b (o+i) n:=by unfold fZ;apply List.map_congr_left;intro k hk;have:=List.mem_range.1 hk;rw[agd Xx a,Nat.add_assoc]
theorem RJ {b:Ly} {l:List Nat} {i v:Nat} {s:Bool} (a:l=fZ b 0 (i/8)) (hi:i%8=0) (hb:i+8<=b.length) (h:lO b (i:Int) 8=(v,s)):l ++ [v]=fZ b 0 ((i+8)/8):=by rw[show(i+8)/8=i/8+1 by omega,qp,a,<- sW h q hb];congr 3;omega
theorem VZ {b x:Ly} {p c:Nat} (h:jZ b p 6 8 8=(x,c)) (a:c≠0):kD b p=(wB,c):=by
  unfold jZ at h;unfold kD;split at h
  · rename_i h1;rw[if_pos h1,show(dH b p).2=c from congrArg Prod.snd h]
  rename_i h1;rw[if_neg h1];split at h
  · rename_i h2;rw[if_pos h2,show 4=c from congrArg Prod.snd h]
  rename_i h2;rw[if_neg h2];split at h
  · rename_i h3;rw[if_pos (by simpa using h3),show 5=c from congrArg Prod.snd h]
  exact absurd (congrArg Prod.snd h).symm a
theorem Wa {b x:Ly} {p c:Nat} {l:List Nat} (h:jZ b p 6 8 8=(x,c)) (g:¬c≠0) (d:fZ x 0 (x.length/8)=l):l.length=x.length/8/\1<l.length/\kD b p=({next:=l.getD 0 0,aF:=l.drop 1},0):=by
  obtain⟨i,j,G,H,e,f,C⟩:=sZ h (Classical.not_not.1 g);have a:l=fZ b (p+16) (((dH b p).1.size-16)/8):=by rw[<- d,f,e,FC Xx C]
  have D:((dH b p).1.size-16)/8=((dH b p).1.size-24)/8+1:=Xx;refine⟨by rw[<- d,kV],by rw[a,kV];omega,?_⟩;unfold kD;rw[if_neg Xx,if_neg Xx,if_neg Xx,a,D,RI];rfl
theorem aiC {s p c:Nat} {b:Ly} (h:qK s b p=c) (a:c≠0):(iy s b p).2=c:=by
  unfold qK at h;unfold iy;split at h
  · rename_i h1;rw[if_pos h1];exact h
  exact absurd h.symm a
theorem vH {s p c:Nat} {b:Ly} {x:iL} (a:qK s b p=0) (h:kD b p=(x,c)):iy s b p=(x,c):=by
  unfold qK at a;unfold iy;split at a
  · cases a
  rename_i h1;rw[if_neg h1];exact h
theorem abg (b:Ly) (p:Nat) (h:(kD b p).2≠0):(kD b p).1=wB:=by
  unfold kD at h ⊢;split
  · rfl
  split
  · rfl
  split
  · rfl
  rename_i h1 h2 h3;rw[if_neg h1,if_neg h2,if_neg h3]at h;exact absurd q h
theorem aiD {s p c:Nat} {b:Ly} (h:(iy s b p).2=c) (a:c≠0):iy s b p=(wB,c):=by
  refine Prod.ext ?_ h;rw[<- h]at a;unfold iy at a ⊢;split
  · rfl
  rename_i h1;rw[if_neg h1]at a;exact abg b p a
theorem aiK {s p c:Nat} {b:Ly} (h:qK s b p=c) (a:c≠0):(fF s b p).2=c:=by
  unfold qK at h;unfold fF;split at h
  · rename_i h1;rw[if_pos h1];exact h
  exact absurd h.symm a
theorem acz {s p c:Nat} {b:Ly} {x:fV} (a:qK s b p=0) (h:lU b p=(x,c)):fF s b p=(x,c):=by
  unfold qK at a;unfold fF;split at a
  · cases a
  rename_i h1;rw[if_neg h1];exact h
theorem abh (b:Ly) (p:Nat) (h:(lU b p).2≠0):(lU b p).1=qT:=by
  unfold lU at h ⊢;split
  · rfl
  split
  · rfl
  split
  · rfl
  rename_i h1 h2 h3;rw[if_neg h1,if_neg h2,if_neg h3]at h;exact absurd q h
theorem aiL {s p c:Nat} {b:Ly} (h:(fF s b p).2=c) (a:c≠0):fF s b p=(qT,c):=by
  refine Prod.ext ?_ h;rw[<- h]at a;unfold fF at a ⊢;split
  · rfl
  rename_i h1;rw[if_neg h1]at a;exact abh b p a
def kY (b:Ly) (p kind n:Nat):List Nat × List UInt8 × Nat :=
  if(dH b p).2≠0 then([],[],(dH b p).2)
  else if(dH b p).1.kind≠kind then([],[],4)
  else if(dH b p).1.size<=16+8*n then([],[],5)
  else(fZ b (p+16) n,(b.drop (p+16+8*n)).take ((dH b p).1.size-(16+8*n)),0)
theorem zO {b:Ly} {p n c:Nat} {f:iV} {l:List Nat} {kind:Nat} (h:dH b p=(f,c)) (a:¬c≠0) (e:¬f.kind≠kind) (g:¬f.size<=16+8*n) (i:l=fZ ((b.take (p+f.size)).drop (p+16)) 0 n):kY b p kind n=(l,((b.take (p+f.size)).drop (p+16)).drop (8*n),0):=by
  have d:=qi h a;unfold kY;rw[h];simp only;rw[if_neg a,if_neg e,if_neg g,i,FC Xx d.2.1];refine Prod.ext q (Prod.ext ?_ q);simp only;apply List.ext_getElem?;intro j;simp only[List.getElem?_take,List.getElem?_drop];by_cases hj:j<f.size-(16+8*n)
  · rw[if_pos hj,if_pos Xx];congr 1;omega
  rw[if_neg hj,if_neg Xx]
theorem MW {b:Ly} {l:List Nat} {i v:Nat} {s:Bool} (a:l=fZ b 0 i) (hb:8*i+8<=b.length) (h:lO b ((8*i:Nat):Int) 8=(v,s)):l ++ [v]=fZ b 0 (i+1):=by rw[qp,a,<- sW h q hb,Nat.zero_add]
theorem vX {b x:Ly} {p c:Nat} {l:List Nat} (h:kY b p 1 6=(l,x,c)):(c≠0->lU b p=(qT,c))/\(¬c≠0->l.length=6/\lU b p=({bY:=l.getD 0 0,b9:=l.getD 1 0,dr:=l.getD 2 0,entry:=l.getD 3 0,array:=l.getD 4 0,bw:=l.getD 5 0,au:=x},0)):=by
  unfold kY at h;unfold lU;split at h
  · rename_i h1
    simp only[Prod.mk.injEq]at h;refine⟨fun _=>by rw[if_pos h1,h.2.2],fun A=>absurd (h.2.2 ▸ h1) A⟩
  rename_i h1;rw[if_neg h1];split at h
  · rename_i h2
    simp only[Prod.mk.injEq]at h;exact⟨fun _=>by rw[if_pos h2,h.2.2],fun A=>absurd (h.2.2 ▸ (by decide:(4:Nat)≠0)) A⟩
  rename_i h2;rw[if_neg h2];split at h
  · rename_i h3
    simp only[Prod.mk.injEq]at h;exact⟨fun _=>by rw[if_pos Xx,h.2.2],fun A=>absurd (h.2.2 ▸ (by decide:(5:Nat)≠0)) A⟩
  rename_i h3;simp only[Prod.mk.injEq]at h;obtain⟨rfl,rfl,rfl⟩:=h;refine⟨fun A=>absurd q A,fun _=>⟨kV _ _ _,?_⟩⟩;rw[if_neg Xx];simp[fZ,List.range_succ]
end Go.Wk
namespace Go.Wk
open Go Go.RowKit
def wL:jh:={bY:=0,b9:=0,dat:=0,au:=[]}
def lV (b:Ly) (p:Nat):jh × Nat :=
  if(dH b p).2≠0 then(wL,(dH b p).2)
  else if(dH b p).1.kind≠2 then(wL,4)
  else if(dH b p).1.size<=40 then(wL,5)
  else({bY:=dW b (p+16),b9:=dW b (p+24),dat:=dW b (p+32),au:=(b.drop (p+40)).take ((dH b p).1.size-40)},0)
def kT (s:Nat) (b:Ly) (p:Nat):jh × Nat:=if p<s\/b.length<=p then(wL,2)else lV b p
theorem aja {s p c:Nat} {b:Ly} (h:qK s b p=c) (a:c≠0):(kT s b p).2=c:=by
  unfold qK at h;unfold kT;split at h
  · rename_i h1;rw[if_pos h1];exact h
  exact absurd h.symm a
theorem acT {s p c:Nat} {b:Ly} {x:jh} (a:qK s b p=0) (h:lV b p=(x,c)):kT s b p=(x,c):=by
  unfold qK at a;unfold kT;split at a
  · cases a
  rename_i h1;rw[if_neg h1];exact h
theorem abi (b:Ly) (p:Nat) (h:(lV b p).2≠0):(lV b p).1=wL:=by
  unfold lV at h ⊢;split
  · rfl
  split
  · rfl
  split
  · rfl
  rename_i h1 h2 h3;rw[if_neg h1,if_neg h2,if_neg h3]at h;exact absurd q h
theorem ajb {s p c:Nat} {b:Ly} (h:(kT s b p).2=c) (a:c≠0):kT s b p=(wL,c):=by
  refine Prod.ext ?_ h;rw[<- h]at a;unfold kT at a ⊢;split
  · rfl
  rename_i h1;rw[if_neg h1]at a;exact abi b p a
theorem FZ {b x:Ly} {p c:Nat} {l:List Nat} (h:kY b p 2 3=(l,x,c)):(c≠0->lV b p=(wL,c))/\(¬c≠0->l.length=3/\lV b p=({bY:=l.getD 0 0,b9:=l.getD 1 0,dat:=l.getD 2 0,au:=x},0)):=by
  unfold kY at h;unfold lV;split at h
  · rename_i h1
    simp only[Prod.mk.injEq]at h;refine⟨fun _=>by rw[if_pos h1,h.2.2],fun A=>absurd (h.2.2 ▸ h1) A⟩
  rename_i h1;rw[if_neg h1];split at h
  · rename_i h2
    simp only[Prod.mk.injEq]at h;exact⟨fun _=>by rw[if_pos h2,h.2.2],fun A=>absurd (h.2.2 ▸ (by decide:(4:Nat)≠0)) A⟩
  rename_i h2;rw[if_neg h2];split at h
  · rename_i h3
    simp only[Prod.mk.injEq]at h;exact⟨fun _=>by rw[if_pos Xx,h.2.2],fun A=>absurd (h.2.2 ▸ (by decide:(5:Nat)≠0)) A⟩
  rename_i h3;simp only[Prod.mk.injEq]at h;obtain⟨rfl,rfl,rfl⟩:=h;refine⟨fun A=>absurd q A,fun _=>⟨kV _ _ _,?_⟩⟩;rw[if_neg Xx];simp[fZ,List.range_succ]
theorem nY {b:Ly} {p n i v:Nat} (h:(fZ b p n)[i]? = some v):v=dW b (p+8*i)/\i<n:=by
  unfold fZ at h;rw[List.getElem?_map]at h
  by_cases hi:i<n
  · rw[List.getElem?_range hi]at h
    exact⟨(Option.some.inj h).symm,hi⟩
  rw[List.getElem?_eq_none (by simpa using hi)]at h;cases h
def oW (b:Ly) (p n:Nat):List lJ:=(List.range n).map fun i=>{pos:=dW b (p+16*i),bY:=dW b (p+16*i+8)}
theorem zI (b:Ly) (p n:Nat):(oW b p n).length=n:=by simp[oW]
theorem ML (b:Ly) (p n:Nat):oW b p (n+1)=oW b p n ++ [{pos:=dW b (p+16*n),bY:=dW b (p+16*n+8)}]:=by simp[oW,List.range_succ]
def xO:List lJ->Bool
  | a :: b :: r=>decide (a.pos<b.pos) && xO (b :: r)
  | _=>true
theorem uS:∀l:List lJ,xO l=true↔∀c x y,l[c]? = some x->l[c+1]? = some y->x.pos<y.pos
  | []=>by simp[xO]
  | [a]=>by simp[xO]
  | a :: b :: r=>by
    rw[xO,Bool.and_eq_true,decide_eq_true_eq,uS (b :: r)];constructor
    · rintro⟨h1,h2⟩ c x y d e
      cases c with
      | zero=>simp at d e;subst d;subst e;exact h1
      | succ c=>exact h2 c x y (by simpa using d) (by simpa using e)
    · intro h
      exact⟨h 0 a b q q,fun c x y d e=>h (c+1) x y (by simpa using d) (by simpa using e)⟩
def Un:gU:={seq:=0,bK:=0,mono:=0,bD:=pY,xor:=0,aF:=[]}
def HC (x:Ly):gU:={seq:=dW x 0,bK:=dW x 8,mono:=dW x 16,bD:=(x.drop 24).take 16,xor:=dW x 40,aF:=oW x 48 ((x.length-48)/16)}
def MD (x:Ly):gU × Nat:=if dW x 0=0 then(Un,13)else if xO (HC x).aF=false then(Un,11)else(HC x,0)
def o6 (b:Ly) (p:Nat):gU × Nat :=
  if(jZ b p 3 48 16).2≠0 then(Un,(jZ b p 3 48 16).2)else MD (jZ b p 3 48 16).1
theorem aiS {b x:Ly} {p c:Nat} (h:jZ b p 3 48 16=(x,c)) (a:c≠0):o6 b p=(Un,c):=by unfold o6;rw[h,if_pos a]
theorem ME {b x:Ly} {p c:Nat} (h:jZ b p 3 48 16=(x,c)) (a:¬c≠0):o6 b p=MD x:=by unfold o6;rw[h,if_neg a]
structure BN (x:Ly) (e:gU) (i:Nat):Prop where
  seq:e.seq=dW x 0
  bK:e.bK=dW x 8
  mono:e.mono=dW x 16
  bD:e.bD=(x.drop 24).take 16
  xor:e.xor=dW x 40
  aF:e.aF=oW x 48 ((i-6)/2)
theorem BN.eq {x:Ly} {e:gU} {i:Nat} (h:BN x e i) (hi:i=x.length/8) (j:x.length%8=0) (g:48<=x.length):e=HC x:=by obtain⟨s,r,m,G,f,H⟩:=e;obtain⟨a,b,C,D,c,d⟩:=h;simp only at a b C D c d;subst hi;unfold HC;rw[a,b,C,D,c,d,show(x.length/8-6)/2=(x.length-48)/16 by omega]
theorem BN.step {x:Ly} {e e':gU} {i n v u:Nat} {l:List Nat} (h:BN x e i) (hi:i%2=0) (j:6<=i) (b:l=fZ x 0 n) (f:l[i]? = some v) (c:l[i+1]? = some u) (a:e'={e with aF:=e.aF ++ [{pos:=v,bY:=u}]}):BN x e' (i+2):=by subst b;subst a;have g:=(nY f).1;have d:=(nY c).1;refine⟨h.seq,h.bK,h.mono,h.bD,h.xor,?_⟩;show e.aF ++ _=_;rw[show(i+2-6)/2=(i-6)/2+1 by omega,ML,h.aF,g,d,show 48+16*((i-6)/2)=0+8*i by omega,show 0+8*(i+1)=0+8*i+8 by omega]
theorem aiQ {x:Ly} (h:dW x 0=0):MD x=(Un,13):=by unfold MD;rw[if_pos h]
theorem aiP {x:Ly} {e:gU} {i:Nat} {y z:lJ} (b:e=HC x) (h:¬e.seq=0) (a:1<=i) (c:e.aF[i]? = some y) (d:e.aF[i-1]? = some z) (f:y.pos<=z.pos):MD x=(Un,11):=by
  subst b;unfold MD;rw[if_neg (show ¬dW x 0=0 from h),if_pos];cases hr:xO (HC x).aF with
  | false=>rfl
  | true =>
    have:=(uS _).1 hr (i-1) z y d (by rw[Nat.sub_add_cancel a];exact c);omega
theorem acH {x:Ly} {e:gU} {i:Nat} (g:e=HC x) (h:¬e.seq=0) (hi:e.aF.length<=i) (j:∀a,1<=a->a<i->∀y z,e.aF[a]? = some y->e.aF[a-1]? = some z->z.pos<y.pos):MD x=(e,0):=by
  have d:xO e.aF=true:=by rw[uS];intro a f c C b;have D:=(List.getElem?_eq_some_iff.1 b).1;exact j (a+1) Xx Xx c f b (by simpa using C)
  subst g;unfold MD;rw[if_neg (show ¬dW x 0=0 from h),if_neg (by rw[d];simp)]
theorem acG {e:gU} {v:Value} {ys:Ly} (a:ys.length=16):fB (gU.cells e v) 3 (ys.map b8)=gU.cells {e with bD:=ys} v :=
  pH a [.int .u64 e.seq,.int .u64 e.bK,.int .u64 e.mono] _ e.bD
theorem ZE {x:Ly} (h:40<=x.length):(((x.take 40).drop 24).map b8).take 16=((x.drop 24).take 16).map b8/\((x.drop 24).take 16).length=16:=by
  have e:(x.take 40).drop 24=(x.drop 24).take 16:=by rw[List.drop_take]
  have A:((x.drop 24).take 16).length=16:=by simp;omega
  refine⟨?_,A⟩;rw[e,List.take_of_length_le Ym]
theorem ZP {x:Ly} {e s:gU} {a b c d:Nat} {n:Nat} {l:List Nat} (j:l=fZ x 0 n) (f:l[0]? = some a) (h1:l[1]? = some b) (g:l[2]? = some c) (h:l[5]? = some d) (i:e={seq:=a,bK:=b,mono:=c,bD:=pY,xor:=d,aF:=[]}) (k:s={e with bD:=(x.drop 24).take 16}):BN x s 6:=by subst j;subst i;subst k;exact⟨(nY f).1,(nY h1).1,(nY g).1,q,(nY h).1,q⟩
def ko (s:Nat) (b:Ly) (p:Nat):gU × Nat:=if p<s\/b.length<=p then(Un,2)else o6 b p
theorem aiR {s p c:Nat} {b:Ly} (h:qK s b p=c) (a:c≠0):(ko s b p).2=c:=by
  unfold qK at h;unfold ko;split at h
  · rename_i h1;rw[if_pos h1];exact h
  exact absurd h.symm a
theorem acF {s p c:Nat} {b:Ly} {x:gU} (a:qK s b p=0) (h:o6 b p=(x,c)):ko s b p=(x,c):=by
  unfold qK at a;unfold ko;split at a
  · cases a
  rename_i h1;rw[if_neg h1];exact h
end Go.Wk
namespace Go.Wk
open Go Go.RowKit
theorem XD {s p c:Nat} {b:Ly} {d:fV} (h:fF s b p=(d,c)):d.au.length<=b.length:=by
  unfold fF at h;split at h
  · cases h;simp[qT]
  unfold lU at h
  repeat' split at h
  all_goals (cases h;simp[qT];try omega)
def k9 (k:Bool) (f:Ly) (s:Nat) (b:Ly) (p:Nat):fV × Nat :=
  if(fF s b p).2≠0 then(qT,(fF s b p).2)
  else if(fF s b p).1.bY=cP k f (fF s b p).1.au then fF s b p
  else(qT,9)
theorem aj4 {k:Bool} {f b:Ly} {s p c:Nat} (h:(fF s b p).2=c) (a:c≠0):(k9 k f s b p).2=c:=by unfold k9;rw[h,if_pos a]
theorem Ze {k:Bool} {f b:Ly} {s p n:Nat} {d:fV} (h:fF s b p=(d,0)) (a:cP k f d.au=n) (e:d.bY=n):k9 k f s b p=(d,0):=by unfold k9;rw[h,if_neg Oy,if_pos (e.trans a.symm)]
theorem alG {k:Bool} {f b:Ly} {s p n:Nat} {d:fV} (h:fF s b p=(d,0)) (a:cP k f d.au=n) (e:¬d.bY=n):(k9 k f s b p).2=9:=by unfold k9;rw[h,if_neg Oy,if_neg (fun h=>e (h.trans a))]
theorem ahd {k:Bool} {f b:Ly} {s p c:Nat} {d:fV} (h:k9 k f s b p=(d,c)):d.au.length<=b.length:=by
  unfold k9 at h;split at h
  · cases h;simp[qT]
  split at h
  · exact XD h
  cases h;simp[qT]
def alF (k:Bool) (f:Ly) (s:Nat) (b:Ly) (p:Nat):List UInt8 × Nat:=((k9 k f s b p).1.au,(k9 k f s b p).2)
def iH (l:Ly):Pr × Nat:=({name:=(nj l).1,value:=(nj l).2},(gE l).toNat)
theorem KY (l:Ly):0<=gE l/\gE l<100:=by
  unfold gE
  repeat' split
  all_goals omega
theorem GH (l:Ly):gE l=(((gE l).toNat:Nat):Int):=(Int.toNat_of_nonneg (KY l).1).symm
theorem KZ (l:Ly):(gE l).toNat<9223372036854775808:=by have:=KY l;omega
end Go.Wk
namespace Go.Wk
open Go Go.RowKit
structure eT where
  name:List UInt8
  values:List (List UInt8)
def eT.cells (x:eT) (v0:Value):List Value :=
  [(str x.name)] ++ ([v0])
def jM:Dt eT:=uh (fun x=>(x.name,x.values)) (fR ij (qR ij))
theorem nU {w:World} {Q:Nat->Prop} {cs:List Value} {x:eT} (h:jM.oN w Q cs x):∃a,cs=x.cells a/\Ls ij w Q a x.values:=by obtain⟨_,_,rfl,⟨rfl,_⟩,⟨a,rfl,b⟩⟩:=h;exact⟨a,q,b⟩
theorem uV {w:World} {Q:Nat->Prop} {x:eT} {v0:Value} (c0:Ls ij w Q v0 x.values):jM.oN w Q (x.cells v0) x :=
  ⟨_,_,q,⟨q,tV⟩,⟨_,q,c0⟩⟩
theorem eT.one {x:eT} {v0:Value} (a:v0.oneCell'=true):(x.cells v0).all (fun b=>b.oneCell')=true:=(bT q (mW a))
structure eL where
  rows:List (List eT)
def eL.cells (x:eL) (v0:Value):List Value :=
  [v0]
theorem eL.one {x:eL} {v0:Value} (a:v0.oneCell'=true):(x.cells v0).all (fun b=>b.oneCell')=true:=(mW a)
def HK {α:Type} (p:α->Bool):List α->Nat
  | []=>0
  | x :: r=>if p x=true then HK p r+1 else 0
section
variable {α:Type} {p:α->Bool} {l:List α} {i:Nat} {x:α}
theorem aj8 (p:α->Bool) (l:List α):HK p l<=l.length:=by
  induction l with
  | nil=>simp[HK]
  | cons x r ih=>unfold HK;split <;> simp <;> omega
theorem aj9 (h:l[i]? = some x) (a:p x=false):HK p l<=i:=by
  induction l generalizing i with
  | nil=>simp at h
  | cons y r ih =>
    unfold HK;cases i with
    | zero=>simp at h;subst h;simp[a]
    | succ i=>have:=ih (by simpa using h);split <;> omega
theorem pos_at (h:l[HK p l]? = some x):p x=false:=by
  induction l with
  | nil=>simp at h
  | cons y r ih =>
    unfold HK at h;split at h
    · exact ih (by simpa using h)
    · rename_i hp;simp at h;subst h;simpa using hp
end
def KC (l:List eT):Prop:=l.Pairwise fun a b=>Op.bytesLess a.name b.name=true
def vU (l:List (List UInt8)) (s:Ly):Nat:=HK (fun x=>Op.bytesLess x s) l
def aag (l:List (List UInt8)) (s:Ly):Bool:=match l[vU l s]? with|some x=>decide (x=s)|none=>false
theorem Zg (l:List (List UInt8)) (s:Ly):vU l s<=l.length:=aj8 _ l
theorem ahf {l:List (List UInt8)} {s x:Ly} {i:Nat} (b:l[i]? = some x) (a:Op.bytesLess x s=false):vU l s<=i:=aj9 b a
theorem AR {l:List (List UInt8)} {s x:Ly} (h:l[vU l s]? = some x):aag l s=decide (x=s):=by unfold aag;rw[h]
theorem QC {l:List (List UInt8)} {s:Ly} (h:¬vU l s<l.length):aag l s=false:=by unfold aag;rw[List.getElem?_eq_none Xx]
def AB (l:List (List UInt8)) (s:Ly):List (List UInt8):=if aag l s=true then l else l.take (vU l s) ++ s :: l.drop (vU l s)
section
variable {eA eS:Nat} {lo:Nat->Prop} {w w':World} {Q Q':Nat->Prop} {v:Value} {xs:List eT} {us:List Value}
end
end Go.Wk
namespace Go.Wk
open Go Go.RowKit
theorem SA (l:List (List UInt8)) (s:Ly):(AB l s).length<=l.length+1:=by
  have:=Zg l s;unfold AB;split
  · omega
  simp;omega
section
variable {l:List (List UInt8)} {k:Nat} {s:Ly} {rows:List (List eT)} {row:List eT}
end
section
variable {eR eA eS br:Nat} {w w1 w2:World} {Q Q2:Nat->Prop} {vr v:Value} {rows:List (List eT)} {row:List eT} {us:List Value}
end
end Go.Wk
namespace Go.Wk
open Go Go.RowKit
def MJ (s:Ly):List (List UInt8)->Nat->Int
  | [],_=>-1
  | x :: r,i=>if s=x then(i:Int)else MJ s r (i+1)
theorem E1 {s:Ly} {l:List (List UInt8)} {i j:Nat} (h:¬i<l.length):MJ s (l.drop i) j = -1:=by rw[er Xx];rfl
theorem JC {s x:Ly} {l:List (List UInt8)} {i:Nat} (h:l[i]? = some x):MJ s (l.drop i) i=if s=x then(i:Int)else MJ s (l.drop (i+1)) (i+1):=by rw[cH h];rfl
def MH (s:Ly):List (List UInt8)->Bool
  | []=>false
  | x :: r=>if s=x then true else MH s r
theorem ad1 (s:Ly) (l:List (List UInt8)) (i:Nat):decide (0<=MJ s l i)=MH s l:=by
  induction l generalizing i with
  | nil=>rfl
  | cons x r ih =>
    unfold MJ MH;split
    · simp
    · exact ih _
theorem Qt {s:Ly} {l:List (List UInt8)}:MH s l=true↔s∈l:=by
  induction l with
  | nil=>simp[MH]
  | cons x r ih=>unfold MH;split <;> rename_i h <;> simp[h,ih]
def vf (a:eT):List Pr->Bool
  | []=>false
  | p :: r=>if p.name=a.name/\MH p.value a.values=true then true else vf a r
theorem wP {a:eT} {l:List Pr} {i:Nat} (h:¬i<l.length):vf a (l.drop i)=false:=by rw[er Xx];rfl
theorem yG {a:eT} {l:List Pr} {i:Nat} {p:Pr} (h:l[i]? = some p):vf a (l.drop i)=if p.name=a.name/\MH p.value a.values=true then true else vf a (l.drop (i+1)):=by rw[cH h];rfl
def MI (l:List Pr):List eT->Nat->Int
  | [],_=>-1
  | a :: r,i=>if vf a l=true then MI l r (i+1)else(i:Int)
theorem DZ {l:List Pr} {xs:List eT} {i j:Nat} (h:¬i<xs.length):MI l (xs.drop i) j = -1:=by rw[er Xx];rfl
theorem JB {l:List Pr} {a:eT} {xs:List eT} {i:Nat} (h:xs[i]? = some a):MI l (xs.drop i) i=if vf a l=true then MI l (xs.drop (i+1)) (i+1)else(i:Int):=by rw[cH h];rfl
def Hg (l:List Pr):List eT->Bool
  | []=>true
  | a :: r=>if vf a l=true then Hg l r else false
theorem adz (l:List Pr) (xs:List eT) (i:Nat):decide (0<=MI l xs i) = !Hg l xs:=by
  induction xs generalizing i with
  | nil=>rfl
  | cons a r ih =>
    unfold MI Hg;split
    · exact ih _
    · simp
def holdsGo (z:Bool) (l:List Pr):List (List eT)->Bool
  | []=>z
  | r :: rest=>if Hg l r=true then true else holdsGo z l rest
theorem yJ {z:Bool} {l:List Pr} {rows:List (List eT)} {i:Nat} (h:¬i<rows.length):holdsGo z l (rows.drop i)=z:=by rw[er Xx];rfl
theorem DY {z:Bool} {l:List Pr} {rows:List (List eT)} {i:Nat} {r:List eT} (h:rows[i]? = some r):holdsGo z l (rows.drop i)=if Hg l r=true then true else holdsGo z l (rows.drop (i+1)):=by rw[cH h];rfl
def pG (m:eL) (l:List Pr):Bool:=holdsGo (decide (m.rows.length=0)) l m.rows
end Go.Wk
namespace Go.Proofs.YtlleafgaeeneoaaGreat
open Go Go.Wk Go.RowKit
set_option linter.unusedVariables false
set_option linter.unusedSimpArgs false
attribute [local irreducible] wpList wpQuiet wpStill fD Code.wp Calls bodyPost
variable {w:World} {Q:Nat->Prop}
noncomputable abbrev Zp:=Tryz.prog
theorem gY:fI Zp 61 2=true:=Xw
theorem qf:fI Zp 98 2=true:=Xw
theorem CP:gw Zp 61 2=true:=Xw
theorem agk:gw Zp 81 1=true:=Xw
theorem II:gw Zp 9 1=true:=Xw
theorem HB:gw Zp 98 2=true:=Xw
theorem ak5:cu Zp 125=true:=Xw
theorem am4:cu Zp 39=true:=Xw
theorem am5:cu Zp 40=true:=Xw
theorem am6:cu Zp 41=true:=Xw
theorem amU:cu Zp 85=true:=Xw
theorem amV:cu Zp 86=true:=Xw
theorem oZ:aP Zp 32 0=some 0:=Xw
theorem mV:aP Zp 61 0=some 0:=Xw
theorem qq:aP Zp 61 1=some 1:=Xw
theorem uP:aP Zp 98 0=some 0:=Xw
theorem xC:aP Zp 98 1=some 1:=Xw
theorem xD:iI Zp 30=true:=Xw
theorem RX:iI Zp 49=true:=Xw
theorem RY:iI Zp 71=true:=Xw
theorem YU:iI Zp 81=true:=Xw
theorem jG:iI Zp 9=true:=Xw
theorem Z5:Zp.underlying 30=some (.slice 81):=Xw
theorem AG:Zp.underlying 49=some (.slice 61):=Xw
theorem iT:Zp.underlying 71=some (.slice 9):=Xw
theorem xW:Zp.underlying 81=some (.slice 98):=Xw
theorem z61:dU Zp 61=some [.string ByteArray.empty,.string ByteArray.empty]:=Xw
theorem aao (j:Up w Q) {v0:Value} {l:List (List UInt8)} (c:Ls ij w Q v0 l) (s:Ly) :
  Calls Zp 125 #[v0,(str s)] w fun B k=>∃e:Int,B = .returned (.int .i64 (e:Int))/\Md [] w k/\(-9223372036854775808<=e/\e<9223372036854775808)/\MJ s l 0=e:=by
 have T:=c.dB;have d:=Md.refl [] w;have E:=j;have o:∀b,Q b->Q b:=fun _ h=>h;have H:∀b,Q b->b<w.heap.size->Q b:=fun _ h _=>h;refine enter (n:=19) Tryz.func125 q q q fun z=>ns (an q (aD (nm q (sL q iT c.di (mv q (nt (aS ?_)))))));obtain⟨e,f⟩:∃r,MJ s l 0=r:=⟨_,q⟩;have P:=f
 try simp only[List.nil_append]at f
 refine nE (fun(i:Nat)=>[(8,(.int .i64 i)),(0,v0),(1,(str s)),(7,(.int .i64 l.length))]) (fun(i:Nat) k=>∃p:Nat->Prop,(∀b,p b->Q b)/\(∀b,Q b->b<w.heap.size->p b)/\Up k p/\Md [] w k/\Ls ij k p v0 l/\MJ s (l.drop i) i=e) (fun(i:Nat)=>l.length-i) (x0:=0) ?_ ?_ ?_
 ·exact⟨q,q,q,q,tV⟩
 ·exact⟨Q,o,H,j,d,c,(by have m:=f;exact m)⟩
 clear d j o H c;rintro i z V ⟨R,o,H,j,d,c,g⟩;refine ns (st _ (dN (a:=i) (b:=l.length) q q) (nt (aD ?_)));refine bJ q (fun x=>?_) (fun x=>?_)
 ·have C:=dT x;refine aL (aj (aD (aS (nm q (an q (ns (m2 q q (mv q (st _ (bf (i:=i) 1 q q iT II c.di Xx) ?_)))))))));obtain⟨y,D⟩:=dY (l:=l) (i:=i) Xx;obtain⟨F,A,G⟩:=c.get D;obtain⟨rfl,_⟩:=A;have G:At _ v0 (i*1) [(str y)]:=G;refine st _ ((bP (kk:=i*1) 0 q q jG G q).to (b:=(str y)) q) (st _ (pO (a:=s) (b:=y) q q) (aA ?_));refine aj ?_;refine bJ q (fun u=>?_) (fun u=>?_)
  ·have t:=dT u;refine nm q (ar q (aU (aI (aI (aU (aI ?_))))));exact bR (v:=(.int .i64 (((i:Nat):Int):Int))) trivial q ⟨q,tV⟩ ⟨((i:Nat):Int),q,d,Xx,(by(try (simp(disch:=first|omega|assumption|simp) only [E1,JC D,SS,reduceIte,C,D,t]at g));simp(disch:=first|omega|assumption|simp) only [SS,reduceIte,f,C,D,<- g])⟩
  have t:=dF u;refine aL (bE (aj (aH (st _ (rA (a:=i) (b:=1) q q Xx) (mv q (nt ?_))))));refine mU (x0:=(i+1)) Xx ⟨(d9 q Xx),q,q,q,tV⟩ ⟨R,o,H,j,d,c,(by have m:=g;simp(disch:=first|omega|assumption|simp) only [E1,JC D,SS,reduceIte,C,D,t]at m;exact m)⟩
 have C:=dF x;refine bW (aY (aY (cO (aj (ns (ar q ?_))))));exact bR (v:=(.int .i64 ((-1):Int))) trivial q ⟨q,tV⟩ ⟨(-1),q,d,Xx,(by(try (simp(disch:=first|omega|assumption|simp) only [E1,SS,reduceIte,C]at g));simp(disch:=first|omega|assumption|simp) only [SS,reduceIte,f,C,<- g])⟩
theorem aal (h:Up w Q) {v0:Value} {l:List (List UInt8)} (f:Ls ij w Q v0 l) (s:Ly) :
  Calls Zp 86 #[v0,(str s)] w fun e j=>∃g:Bool,e = .returned (.bool g)/\Md [] w j/\MH s l=g:=by
 have G:=f.dB;have d:=Md.refl [] w;have o:=h;refine enter (n:=9) Tryz.func86 q q q fun m=>ns (an q (ns (m2 q q (ax ak5 q (aao h f s) ?_))));rintro e H ⟨c,rfl,i,D,C⟩;refine rv ?_;have d:=d.k i;refine st _ (qc (a:=c) (b:=0) q q) (ar q ?_);exact bR (v:=(.bool ((decide (0<=c))))) trivial q ⟨q,tV⟩ ⟨(decide (0<=c)),q,d,(by rw[<- ad1 s l 0,C])⟩
theorem aam (e:Up w Q) {M:Value} (a:eT) (s:Ls ij w Q M a.values) {v1:Value} {l:List Pr} (h1:Ls pU w Q v1 l) :
  Calls Zp 41 #[.agg (eT.cells a M).toArray,v1] w fun aa J=>∃U:Bool,aa = .returned (.bool U)/\Md [] w J/\vf a l=U:=by
 have ao:=h1.dB;have d:=Md.refl [] w;have am:=e;have I:∀b,Q b->Q b:=fun _ h=>h;have E:∀b,Q b->b<w.heap.size->Q b:=fun _ h _=>h;refine enter (n:=26) Tryz.func41 q q q fun ae=>ns (dS (cs:=(eT.cells a M)) q q ?_);intro S au V al m C;have D:=e _ V;have V:=lv d.size V;obtain⟨s,h1,e,d⟩:=k4 m s h1 e d;refine an q (aD (nm q (sL q AG h1.di (mv q (nt (aS ?_))))));obtain⟨U,N⟩:∃r,vf a l=r:=⟨_,q⟩;have ai:=N
 try simp only[List.nil_append]at N
 refine nE (fun(i:Nat)=>[(9,(.int .i64 i)),(2,(.pointer (some ⟨S,0,none⟩))),(7,v1),(8,(.int .i64 l.length))]) (fun(i:Nat) J=>∃L:Nat->Prop,(∀b,L b->Q b)/\(∀b,Q b->b<w.heap.size->L b)/\Up J L/\Md [] w J/\bC J S (eT.cells a M) 98/\Ls pU J L v1 l/\Ls ij J L M a.values/\L S/\vf a (l.drop i)=U) (fun(i:Nat)=>l.length-i) (x0:=0) ?_ ?_ ?_
 ·exact⟨q,q,q,q,tV⟩
 ·exact⟨Q,I,E,e,d,C,h1,s,D,(by have F:=N;exact F)⟩
 clear d e I E D s h1 C;rintro i ae av ⟨ap,I,E,e,d,C,h1,s,D,K⟩;refine ns (st _ (dN (a:=i) (b:=l.length) q q) (nt (aD ?_)));refine bJ q (fun W=>?_) (fun W=>?_)
 ·have B:=dT W;refine aL (aj (aD (aS (ns (st _ (bf (i:=i) 2 q q AG CP h1.di Xx) ?_)))));obtain⟨T,A⟩:=dY (l:=l) (i:=i) Xx;obtain⟨aq,x,R⟩:=h1.get A;obtain⟨_,rfl⟩:=pV x;have R:At _ v1 (i*2) (Pr.cells T):=R;refine st _ (gH (kk:=i*2) (Pr.cells T) 0 q q (by exact gY) R q) (bI z61 ?_);intro X aw P y m G;have k:S≠X:=(by have:=C.lt;omega);obtain⟨o,g,ad,c,ab⟩:=jC e P y m;have D:=g _ D C.lt;have I:=tT I ad;have E:=fun b af z=>g b (E b af z) (lj z d.size);have P:=lv d.size P;have C:=C.o m;have h1:=(h1.sub g).o m;have s:=(s.sub g).o m;have d:=d.k m;have e:=ab;have ag:bA [] w X:=.inr P;have G:bC _ _ (Pr.cells (({name:=[],value:=[]}:Pr))) _:=G;refine aK (us:=(Pr.cells T)) q q (by exact gY) (by exact fun u ah=>aV (Pr.one) u ah) G (lB q) ?_;have f:=G;intro ax m G;have p:∀b∈[X],¬o b:=(hI c);have C:=C.md m Zz;have h1:=h1.md m p;have s:=s.md m p;have e:=e.md m;have d:=d.step m (hI ag);have G:bC _ _ (Pr.cells T) _:=G;refine nt (ns (sf q mV (sl (u:=(str T.name)) q jG G q (sf q uP (sl (u:=(str a.name)) q jG C q (st _ (pO (a:=T.name) (b:=a.name) q q) (mv q ?_)))))));refine bX (t:=18) q (fun j=>?_) (fun j=>?_)
  ·have H:=dT j;refine sg j (aJ q xC) (sg j ((aG q RY C q).to (b:=M) q) (sg j (aJ q qq) (sg j ((aG q jG G q).to (b:=(str T.value)) q) (fM q q q j amV q (aal e s T.value) ?_))));rintro aa ay ⟨ak,rfl,m,Z⟩;refine rv ?_;obtain⟨C,h1,s,e,d⟩:=k5 m C h1 s e d;refine st _ (bg q j q) (nt ?_);refine bJ q (fun Y=>?_) (fun Y=>?_)
   ·have O:=Y;refine ns (ar q (aU (aI (aI (aU (aI ?_))))));exact bR (v:=(.bool true)) trivial q ⟨q,tV⟩ ⟨true,q,d,(by(try (simp(disch:=first|omega|assumption|simp) only [wP,yG A,SS,reduceIte,B,A,H,Z,O]at K));simp(disch:=first|omega|assumption|simp) only [SS,reduceIte,N,B,A,H,Z,O,<- K])⟩
   have O:=Y;refine aL (bE (aj (aH (st _ (rA (a:=i) (b:=1) q q Xx) (mv q (nt ?_))))));refine mU (x0:=(i+1)) Xx ⟨(d9 q Xx),q,q,q,tV⟩ ⟨o,I,E,e,d,C,h1,s,D,(by have F:=K;simp(disch:=first|omega|assumption|simp) only [wP,yG A,SS,reduceIte,B,A,H,Z,O]at F;exact F)⟩
  have H:=dF j;refine sk j (sk j (sk j (sk j (sk j (st _ (aZ q j q) (nt (iw q q (aL (bE (aj (aH (st _ (rA (a:=i) (b:=1) q q Xx) (mv q ?_)))))))))))));refine nt ?_;refine mU (x0:=(i+1)) Xx ⟨(d9 q Xx),q,q,q,tV⟩ ⟨o,I,E,e,d,C,h1,s,D,(by have F:=K;simp(disch:=first|omega|assumption|simp) only [wP,yG A,SS,reduceIte,B,A,H]at F;exact F)⟩
 have B:=dF W;refine bW (aY (aY (cO (aj (ns (ar q ?_))))));exact bR (v:=(.bool false)) trivial q ⟨q,tV⟩ ⟨false,q,d,(by(try (simp(disch:=first|omega|assumption|simp) only [wP,SS,reduceIte,B]at K));simp(disch:=first|omega|assumption|simp) only [SS,reduceIte,N,B,<- K])⟩
theorem UR (c:Up w Q) {d:Value} (a:eT) (f:Ls ij w Q d a.values) {v1:Value} {l:List Pr} (h1:Pt (qR pU) 49 w Q v1 l) :
  Calls Zp 40 #[.agg (eT.cells a d).toArray,v1] w fun h r=>∃i:Bool,h = .returned (.bool i)/\Md [] w r/\(!vf a l)=i:=by
 obtain⟨G,y,rfl,x,h1,p⟩:=h1;obtain⟨v1,rfl,D⟩:=p;have b:=Md.refl [] w;have R:=c;refine enter (n:=8) Tryz.func40 q q q fun s=>ns (dS (cs:=(eT.cells a d)) q q ?_);intro j z C P e o;have H:G≠j:=(by have:=h1.lt;omega);have t:=c _ C;have C:=lv b.size C;obtain⟨f,D,h1,c,b⟩:=k5 e f D h1 c b;refine an q (ns (st _ (bL (eT.cells a d) q (by exact qf) o q) (sl (u:=v1) q RX h1 q (ax am6 q (aam c a f D) ?_))));rintro h T ⟨g,rfl,e,m⟩;refine rv ?_;have b:=b.k e;refine st _ (gR q) (ar q ?_);exact bR (v:=(.bool (!g))) trivial q ⟨q,tV⟩ ⟨!g,q,b,(by rw[m])⟩
theorem aan (f:Up w Q) {v0:Value} {xs:List eT} (d:Ls jM w Q v0 xs) {t:Value} {l:List Pr} (g:Pt (qR pU) 49 w Q t l) :
  Calls Zp 85 #[v0,.func (.func 40) #[] #[t]] w fun B p=>∃o:Int,B = .returned (.int .i64 (o:Int))/\Md [] w p/\(-9223372036854775808<=o/\o<9223372036854775808)/\MI l xs 0=o:=by
 have M:=d.dB;have e:=Md.refl [] w;have L:=f;have z:∀b,Q b->Q b:=fun _ h=>h;have x:∀b,Q b->b<w.heap.size->Q b:=fun _ h _=>h;refine enter (n:=19) Tryz.func85 q q q fun E=>ns (an q (aD (nm q (sL q xW d.di (mv q (nt (aS ?_)))))));obtain⟨o,D⟩:∃r,MI l xs 0=r:=⟨_,q⟩;have K:=D
 try simp only[List.nil_append]at D
 refine nE (fun(i:Nat)=>[(8,(.int .i64 i)),(0,v0),(1,(.func (.func 40) #[] #[t])),(7,(.int .i64 xs.length))]) (fun(i:Nat) p=>∃s:Nat->Prop,(∀b,s b->Q b)/\(∀b,Q b->b<w.heap.size->s b)/\Up p s/\Md [] w p/\Ls jM p s v0 xs/\Pt (qR pU) 49 p s t l/\MI l (xs.drop i) i=o) (fun(i:Nat)=>xs.length-i) (x0:=0) ?_ ?_ ?_
 ·exact⟨q,q,q,q,tV⟩
 ·exact⟨Q,z,x,f,e,d,g,(by have y:=D;exact y)⟩
 clear e f z x d g;rintro i E N ⟨J,z,x,f,e,d,g,H⟩;refine ns (st _ (dN (a:=i) (b:=xs.length) q q) (nt (aD ?_)));refine bJ q (fun P=>?_) (fun P=>?_)
 ·have k:=dT P;refine aL (aj (aD (aS (nm q (an q (ns (m2 q q (mv q (st _ (bf (i:=i) 2 q q xW HB d.di Xx) ?_)))))))));obtain⟨T,m⟩:=dY (l:=xs) (i:=i) Xx;obtain⟨c,I,u⟩:=d.get m;obtain⟨V,rfl,R⟩:=nU I;have u:At _ v0 (i*2) (eT.cells T V):=u;refine st _ (gH (kk:=i*2) (eT.cells T V) 0 q q (by exact qf) u q) (lX (cs:=[t]) q am5 q (UR f T R g) ?_);rintro B O ⟨W,rfl,F,G⟩;refine rv ?_;obtain⟨d,g,f,e⟩:=k4 F d g f e;refine aA ?_;refine aj ?_;refine bJ q (fun A=>?_) (fun A=>?_)
  ·have j:=A;have C:=G.trans j;try simp only[Bool.not_eq_true',Bool.not_eq_false']at C
   refine nm q (ar q (aU (aI (aI (aU (aI ?_))))));exact bR (v:=(.int .i64 (((i:Nat):Int):Int))) trivial q ⟨q,tV⟩ ⟨((i:Nat):Int),q,e,Xx,(by(try (simp(disch:=first|omega|assumption|simp) only [DZ,JB m,SS,reduceIte,k,m,G,j,C]at H));simp(disch:=first|omega|assumption|simp) only [SS,reduceIte,D,k,m,G,j,C,<- H])⟩
  have j:=A;have C:=G.trans j;try simp only[Bool.not_eq_true',Bool.not_eq_false']at C
  refine aL (bE (aj (aH (st _ (rA (a:=i) (b:=1) q q Xx) (mv q (nt ?_))))));refine mU (x0:=(i+1)) Xx ⟨(d9 q Xx),q,q,q,tV⟩ ⟨J,z,x,f,e,d,g,(by have y:=H;simp(disch:=first|omega|assumption|simp) only [DZ,JB m,SS,reduceIte,k,m,G,j,C]at y;exact y)⟩
 have k:=dF P;refine bW (aY (aY (cO (aj (ns (ar q ?_))))));exact bR (v:=(.int .i64 ((-1):Int))) trivial q ⟨q,tV⟩ ⟨(-1),q,e,Xx,(by(try (simp(disch:=first|omega|assumption|simp) only [DZ,SS,reduceIte,k]at H));simp(disch:=first|omega|assumption|simp) only [SS,reduceIte,D,k,<- H])⟩
theorem aak (h:Up w Q) {v0:Value} {xs:List eT} (f:Ls jM w Q v0 xs) {i:Value} {l:List Pr} (m:Pt (qR pU) 49 w Q i l) :
  Calls Zp 39 #[v0,.func (.func 40) #[] #[i]] w fun e o=>∃g:Bool,e = .returned (.bool g)/\Md [] w o/\(!Hg l xs)=g:=by
 have G:=f.dB;have d:=Md.refl [] w;have r:=h;refine enter (n:=9) Tryz.func39 q q q fun p=>ns (an q (ns (m2 q q (ax amU q (aan h f m) ?_))));rintro e H ⟨c,rfl,j,D,C⟩;refine rv ?_;have d:=d.k j;refine st _ (qc (a:=c) (b:=0) q q) (ar q ?_);exact bR (v:=(.bool ((decide (0<=c))))) trivial q ⟨q,tV⟩ ⟨(decide (0<=c)),q,d,(by rw[<- adz l xs 0,C])⟩
theorem UU (j:Up w Q) {A:Value} (m:eL) (d:Ls (qR jM) w Q A m.rows) {v1:Value} {l:List Pr} (h1:Ls pU w Q v1 l) :
  Calls Zp 15 #[.agg (eL.cells m A).toArray,v1] w fun aa B=>∃Y:Bool,aa = .returned (.bool Y)/\Md [] w B/\pG m l=Y:=by
 have x:=h1.dB;have t:=d.dB;have e:=Md.refl [] w;have p:=j;have X:∀b,Q b->Q b:=fun _ h=>h;have S:∀b,Q b->b<w.heap.size->Q b:=fun _ h _=>h;refine enter (n:=23) Tryz.func15 q q q fun ab=>ns (dS (cs:=(eL.cells m A)) q q ?_);intro O z T k H s;have G:=j _ T;have T:=lv e.size T;obtain⟨d,h1,j,e⟩:=k4 H d h1 j e;refine dS (cs:=[v1]) q (dK h1.bB) ?_;intro P ah Z o H E;have af:O≠P:=(by have:=s.lt;omega);have C:=j _ Z;have Z:=lv e.size Z;obtain⟨d,h1,s,j,e⟩:=k5 H d h1 s j e;refine an q (aD (ns (sf q oZ (sl (u:=A) q xD s q (sL q Z5 d.di (mv q (nt (aS ?_))))))));obtain⟨Y,L⟩:∃r,holdsGo (decide (m.rows.length=0)) l m.rows=r:=⟨_,q⟩;have ag:=L
 try simp only[List.nil_append]at L
 refine nE (fun(i:Nat)=>[(10,(.int .i64 i)),(2,(.pointer (some ⟨O,0,none⟩))),(3,(.pointer (some ⟨P,0,none⟩))),(8,A),(9,(.int .i64 m.rows.length))]) (fun(i:Nat) B=>∃F:Nat->Prop,(∀b,F b->Q b)/\(∀b,Q b->b<w.heap.size->F b)/\Up B F/\Md [] w B/\bC B O (eL.cells m A) 32/\bC B P [v1] 49/\Ls (qR jM) B F A m.rows/\Ls pU B F v1 l/\F O/\F P/\holdsGo (decide (m.rows.length=0)) l (m.rows.drop i)=Y) (fun(i:Nat)=>m.rows.length-i) (x0:=0) ?_ ?_ ?_
 ·exact⟨q,q,q,q,q,tV⟩
 ·exact⟨Q,X,S,j,e,s,E,d,h1,G,C,(by have U:=L;exact U)⟩
 clear e j X S G C d h1 s E;rintro i ab ai ⟨ae,X,S,j,e,s,E,d,h1,G,C,N⟩;refine ns (st _ (dN (a:=i) (b:=m.rows.length) q q) (nt (aD ?_)));refine bJ q (fun V=>?_) (fun V=>?_)
 ·have D:=dT V;refine aL (aj (aD (aS (ns (st _ (bf (i:=i) 1 q q Z5 agk d.di Xx) ?_)))));obtain⟨al,K⟩:=dY (l:=m.rows) (i:=i) Xx;obtain⟨y,ad,R⟩:=d.get K;obtain⟨f,rfl,c⟩:=ad;have R:At _ A (i*1) [f]:=R;refine st _ ((bP (kk:=i*1) 0 q q YU R q).to (b:=f) q) (ck q (aA ?_));refine aj (nm q (st _ (vV q) (ax am4 q (aak j c ⟨_,_,q,C,E,_,q,h1⟩) ?_)));rintro aa ak ⟨g,rfl,H,M⟩;refine rv ?_;obtain⟨s,E,d,h1,j,e⟩:=k6 H s E d h1 j e;refine st _ (gR q) (nt ?_);refine bJ q (fun W=>?_) (fun W=>?_)
  ·have I:=wo W;have J:=M.trans I;try simp only[Bool.not_eq_true',Bool.not_eq_false']at J
   refine ns (ar q (aU (aI (aI (aU (aI ?_))))));exact bR (v:=(.bool true)) trivial q ⟨q,tV⟩ ⟨true,q,e,(by(try (simp(disch:=first|omega|assumption|simp) only [yJ,DY K,SS,reduceIte,D,K,M,I,J]at N));rw[pG]<;>simp(disch:=first|omega|assumption|simp) only [SS,reduceIte,L,D,K,M,I,J,<- N])⟩
  have I:=wm W;have J:=M.trans I;try simp only[Bool.not_eq_true',Bool.not_eq_false']at J
  refine aL (bE (aj (aH (st _ (rA (a:=i) (b:=1) q q Xx) (mv q (nt ?_))))));refine mU (x0:=(i+1)) Xx ⟨(d9 q Xx),q,q,q,q,tV⟩ ⟨ae,X,S,j,e,s,E,d,h1,G,C,(by have U:=N;simp(disch:=first|omega|assumption|simp) only [yJ,DY K,SS,reduceIte,D,K,M,I,J]at U;exact U)⟩
 have D:=dF V;refine bW (aY (aY (cO (aj (ns (sf q oZ (sl (u:=A) q xD s q (sL q Z5 d.di (st _ (iQ (a:=m.rows.length) (b:=0) q q) (ar q ?_))))))))));exact bR (v:=(.bool ((decide (m.rows.length=0))))) trivial q ⟨q,tV⟩ ⟨(decide (m.rows.length=0)),q,e,(by(try (simp(disch:=first|omega|assumption|simp) only [yJ,SS,reduceIte,D]at N));rw[pG]<;>simp(disch:=first|omega|assumption|simp) only [SS,reduceIte,L,D,<- N])⟩
end Go.Proofs.YtlleafgaeeneoaaGreat
namespace Go.Wk
open Go Go.RowKit
theorem Ow.lsB {e:TypeId} {w a:World} {Q Q':Nat->Prop} {v:Value} {xs:Ly} (h:Ow eC e (bA [] w) a Q' v xs) (c:Up w Q):Ls eC a Q v xs :=
  Ls.of_by h.read.by fun b hb _=>bA.up c b (h.2 b hb).1
theorem LX (s:Sq):s.config.1.ay<=10/\s.config.1.aC<=10:=by
  rcases h1:s.bS 5 with⟨a,E⟩
  rcases h2:E.bS 5 with⟨b,F⟩
  rcases h3:F.bS 5 with⟨c,C⟩
  rcases h4:C.bS 7 with⟨d,D⟩
  rcases h5:D.bS 4 with⟨e,G⟩
  rcases h6:G.bS 2 with⟨f,H⟩
  have A:=C.jw 7;have B:=D.jw 4;rw[h4]at A;rw[h5]at B;simp only[Sq.config,h1,h2,h3,h4,h5,h6];simp only at A B;omega
end Go.Wk
namespace Go.Wk
open Go Go.RowKit
def wH (P:Program) (s:TypeId) (f:Nat):Option Nat :=
  match P.underlying s with
  | some (.struct fs)=>match fs[f]? with
    | some x=>cond (iI P x.type) (some x.offset) none
    | none=>none
  | _=>none
section
variable {P:Program} {n:Nat} {A:Fr n} {D:List Deferred} {l:List (Nat × Value)} {w:World} {d:Option Tmp} {ty:TypeId} {ps:String} {af:Array Edge} {g:Option (Nat × Bool)}
theorem SF {x:Operand} {s:TypeId} {f b:Nat} {cs:List Value} {u:Value} (a:wH P s f=some b) (e:ev n l x=some (.agg cs.toArray)) (c:cs[b]? = some u) :
    bZ P ⟨d,.field s x f,ty,ps,af,g⟩ (aQ A D l).eval w u:=by
  unfold wH at a;split at a
  · rename_i fs hu
    split at a
    · rename_i y hy
      cases h1:iI P y.type with
      | false=>rw[h1]at a;cases a
      | true =>
        rw[h1]at a;simp only[cond_true,Option.some.injEq]at a;subst a;simp[bZ,execOp,bM e,Instr.field,run_underlying hu,hy,part,nS h1,asAgg,c]
    cases a
  cases a
end
structure iP where
  out:List Nat
  cur:Nat
  ahead:Nat
def iP.cells (x:iP) (v0:Value):List Value :=
  [v0] ++ ([(.int .u64 x.cur)] ++ ([(.int .u64 x.ahead)]))
def iP.ok (x:iP):Prop:=x.cur<18446744073709551616/\x.ahead<18446744073709551616
theorem iP.one {x:iP} {v0:Value} (a:v0.oneCell'=true):(x.cells v0).all (fun b=>b.oneCell')=true:=(bT (mW a) (bT q q))
section
variable {P:Program} {n:Nat} {A:Fr n} {D:List Deferred} {l:List (Nat × Value)} {w:World} {d:Option Tmp} {ty:TypeId} {ps:String} {af:Array Edge} {g:Option (Nat × Bool)}
end
end Go.Wk
namespace Go.Wk
open Go Go.RowKit
def qm (out:List Nat):Nat:=out.getLast?.getD 0
def oM (out:List Nat) (x:Nat):Nat:=if out≠[]/\x<=qm out then 13 else 0
def mr (b:Ly) (bG:Nat):List Nat->List Nat->List Nat × Nat
  | [],out=>(out,0)
  | x :: r,out=>if bG<=out.length then(out,0)else if x=0\/b.length<=x then(out,2)else if oM out x≠0 then(out,13)else mr b bG r (out ++ [x])
def qJ (s:Nat) (b:Ly) (bG p ahead:Nat) (out:List Nat):List Nat × Nat :=
  if bG<=out.length then(out,0)
  else if p=0\/b.length<=p then(out,14)
  else if p<=ahead then(out,12)
  else if(iy s b p).2≠0 then(out,(iy s b p).2)
  else if(mr b bG (iy s b p).1.aF out).2≠0 then mr b bG (iy s b p).1.aF out
  else qJ s b bG (iy s b p).1.next p (mr b bG (iy s b p).1.aF out).1
termination_by b.length-ahead
decreasing_by omega
def vR (b:Ly) (bG:Nat):List Nat->List Nat->List Nat × Nat × Bool
  | [],out=>(out,0,false)
  | x :: r,out=>if bG<=out.length then(out,0,true)else if x=0\/b.length<=x then(out,0,true)else if oM out x≠0 then(out,13,true)else vR b bG r (out ++ [x])
def MY (s:Nat) (b:Ly) (bG p ahead:Nat) (out:List Nat):List Nat × Nat :=
  if bG<=out.length then(out,0)
  else if p=0\/b.length<=p then(out,0)
  else if p<=ahead then(out,12)
  else if(iy s b p).2≠0 then(out,(iy s b p).2)
  else if(vR b bG (iy s b p).1.aF out).2.2=true then((vR b bG (iy s b p).1.aF out).1,(vR b bG (iy s b p).1.aF out).2.1)
  else MY s b bG (iy s b p).1.next p (vR b bG (iy s b p).1.aF out).1
termination_by b.length-ahead
decreasing_by omega
def ofF (s:Nat) (b:Ly) (p:Nat):List Nat × Nat :=
  if(fF s b p).2≠0 then([],(fF s b p).2)
  else if(fF s b p).1.bw=0\/(fF s b p).1.entry=0\/b.length<=(fF s b p).1.entry then([],0)
  else MY s b (fF s b p).1.bw (fF s b p).1.array 0 [(fF s b p).1.entry]
def gO (b:Ly) (x:Nat):Bool:=decide (x=0\/b.length<=x)
def kS (s:Nat) (b:Ly) (l:iP):List Nat × Nat × iP :=
  if l.cur<=l.ahead then([],12,l)else((iy s b l.cur).1.aF,(iy s b l.cur).2,{l with cur:=(iy s b l.cur).1.next,ahead:=l.cur})
def Ye (l:iP) (x:Nat):Nat × iP:=if oM l.out x≠0 then(13,l)else(0,{l with out:=l.out ++ [x]})
theorem ag7 {out:List Nat} {x y:Nat} (h:out[out.length-1]? = some y) (b:x<=y):oM out x≠0:=by
  unfold oM qm;have a:out≠[]:=by rintro rfl;simp at h
  rw[List.getLast?_eq_getElem?,h,if_pos ⟨a,b⟩];decide
theorem ajj {out:List Nat} {x y:Nat} (h:out[out.length-1]? = some y) (a:¬x<=y):oM out x=0:=by unfold oM qm;rw[List.getLast?_eq_getElem?,h,if_neg (fun h=>a h.2)]
theorem ajk {out:List Nat} {x:Nat} (h:¬0<out.length):oM out x=0:=by unfold oM;rw[if_neg (fun A=>A.1 (List.eq_nil_of_length_eq_zero Xx))]
def sR (b:Ly) (out:List Nat):Prop:=out.length<=qm out/\qm out<b.length+1
theorem SK (b:Ly):sR b []:=⟨Nat.le_refl _,Nat.succ_pos _⟩
theorem GA {b:Ly} {out:List Nat} (h:sR b out):out.length<=b.length:=by have:=h.1;have:=h.2;omega
theorem kK {b:Ly} {x:Nat} (h:gO b x=false):x≠0/\x<b.length:=by unfold gO at h;have:=dF h;omega
theorem QV (out:List Nat) (x:Nat):qm (out ++ [x])=x:=by simp[qm]
theorem KL {b:Ly} {l a:iP} {x c:Nat} (h:sR b l.out) (hi:Ye l x=(c,a)) (i:¬c≠0) (d:gO b x=false):sR b a.out/\a.out=l.out ++ [x]/\a.cur=l.cur/\a.ahead=l.ahead/\oM l.out x=0:=by
  have D:=kK d;unfold Ye at hi;split at hi
  · exact absurd (congrArg Prod.fst hi) Xx
  rename_i h2;have f:=congrArg Prod.snd hi;simp only at f;subst f;refine⟨⟨?_,?_⟩,q,q,q,by omega⟩
  · simp only[QV,List.length_append,List.length_singleton]
    have e:oM l.out x=0:=(by omega);unfold oM at e;have C:=h.1
    by_cases d:l.out=[]
    · rw[d];simp;omega
    have:¬x<=qm l.out:=fun g=>by rw[if_pos ⟨d,g⟩]at e;cases e
    omega
  simp only[QV];omega
theorem BW {s c:Nat} {b:Ly} {l d:iP} {aF:List Nat} (a:kS s b l=(aF,c,d)) (f:¬c≠0):l.ahead<l.cur/\d.out=l.out/\d.ahead=l.cur/\d.cur=(iy s b l.cur).1.next/\aF=(iy s b l.cur).1.aF/\(iy s b l.cur).2=0:=by
  unfold kS at a;split at a
  · exact absurd (congrArg (fun x=>x.2.1) a) Ym
  rename_i h;simp only[Prod.mk.injEq]at a;obtain⟨rfl,e,rfl⟩:=a;exact⟨by omega,q,q,q,q,by omega⟩
theorem nP {s c:Nat} {b:Ly} {l d:iP} {aF:List Nat} (a:kS s b l=(aF,c,d)):d.out=l.out:=by unfold kS at a;split at a <;> (simp only[Prod.mk.injEq]at a;obtain⟨_,_,rfl⟩:=a;rfl)
theorem acD {s bG p a:Nat} {b:Ly} {out:List Nat} (h:¬out.length<bG):qJ s b bG p a out=(out,0):=by rw[qJ,if_pos Xx]
theorem agm {s bG p a:Nat} {b:Ly} {out:List Nat} (h:out.length<bG) (c:gO b p=true):qJ s b bG p a out=(out,14):=by rw[qJ,if_neg Xx,if_pos (by simpa [gO]using c)]
theorem acE {s bG c:Nat} {b:Ly} {l e:iP} {aF:List Nat} (h:l.out.length<bG) (f:gO b l.cur=false) (a:kS s b l=(aF,c,e)) (d:c≠0):qJ s b bG l.cur l.ahead l.out=(e.out,c):=by
  have g:=kK f;rw[nP a];rw[qJ,if_neg Xx,if_neg Xx];unfold kS at a;split at a
  · rename_i h1;rw[if_pos h1];simp only[Prod.mk.injEq]at a;rw[a.2.1]
  rename_i h1;rw[if_neg h1];simp only[Prod.mk.injEq]at a;rw[<- a.2.1]at d ⊢;rw[if_pos d]
theorem XJ {s bG c:Nat} {b:Ly} {l a:iP} {aF:List Nat} (h:l.out.length<bG) (i:gO b l.cur=false) (f:kS s b l=(aF,c,a)) (g:¬c≠0) :
    qJ s b bG l.cur l.ahead l.out=if(mr b bG aF l.out).2≠0 then mr b bG aF l.out else qJ s b bG a.cur a.ahead (mr b bG aF l.out).1:=by
  have G:=kK i;obtain⟨D,j,d,e,C,k⟩:=BW f g;rw[qJ,if_neg Xx,if_neg Xx,if_neg Xx,if_neg Xx,d,e,C]
theorem acI {s bG c i:Nat} {b:Ly} {l d:iP} {aF a:List Nat} {r g:List Nat × Nat} (e:qJ s b bG l.cur l.ahead l.out=r) (h:l.out.length<bG) (m:gO b l.cur=false) (f:kS s b l=(aF,c,d)) (k:¬c≠0)
    (h1o:mr b bG (aF.drop 0) d.out=g) (h1:mr b bG (aF.drop i) a=g) (he:mr b bG (aF.drop i) a=(a,0)):qJ s b bG d.cur d.ahead a=r:=by
  have j:mr b bG aF l.out=(a,0):=by rw[<- nP f];exact h1o.trans (h1.symm.trans he)
  rw[XJ h m f k,j,if_neg Oy]at e;exact e
theorem PD {s bG c i k:Nat} {b:Ly} {l f:iP} {aF g a:List Nat} {r j:List Nat × Nat} (d:qJ s b bG l.cur l.ahead l.out=r) (h:l.out.length<bG) (o:gO b l.cur=false) (e:kS s b l=(aF,c,f)) (n:¬c≠0)
    (h1o:mr b bG (aF.drop 0) f.out=j) (h1:mr b bG (aF.drop i) g=j) (he:mr b bG (aF.drop i) g=(a,k)) (hk:k≠0):r=(a,k):=by
  have m:mr b bG aF l.out=(a,k):=by rw[<- nP e];exact h1o.trans (h1.symm.trans he)
  rw[XJ h o e n,m,if_pos hk]at d;exact d.symm
theorem acC {bG i:Nat} {b:Ly} {aF out:List Nat} (h:¬i<aF.length):mr b bG (aF.drop i) out=(out,0):=by rw[List.drop_eq_nil_of_le Xx];rfl
theorem ZN {bG:Nat} {b:Ly} {aF out:List Nat} (h:bG<=out.length):mr b bG aF out=(out,0):=by
  cases aF with
  | nil=>rfl
  | cons x r=>unfold mr;rw[if_pos h]
theorem drop_cons {aF:List Nat} {i x:Nat} (h:aF[i]? = some x):aF.drop i=x :: aF.drop (i+1):=by obtain⟨A,B⟩:=List.getElem?_eq_some_iff.1 h;rw[<- B];exact(List.drop_eq_getElem_cons A)
theorem aiO {bG i x:Nat} {b:Ly} {aF out:List Nat} (h:aF[i]? = some x) (a:¬bG<=out.length) (c:gO b x=true):mr b bG (aF.drop i) out=(out,2):=by rw[drop_cons h,mr,if_neg a,if_pos (by simpa [gO]using c)]
theorem agl {bG i x c:Nat} {b:Ly} {aF:List Nat} {l a:iP} (h:aF[i]? = some x) (e:¬bG<=l.out.length) (f:gO b x=false) (hi:Ye l x=(c,a)) (d:c≠0):mr b bG (aF.drop i) l.out=(a.out,c):=by
  have g:=kK f;rw[drop_cons h,mr,if_neg e,if_neg Xx];unfold Ye at hi;split at hi
  · rename_i h2;rw[if_pos h2];simp only[Prod.mk.injEq]at hi;rw[<- hi.1,<- hi.2]
  exact absurd (congrArg Prod.fst hi).symm d
theorem ZO {bG i x c:Nat} {b:Ly} {aF:List Nat} {l a:iP} (h:aF[i]? = some x) (d:¬bG<=l.out.length) (e:gO b x=false) (hi:Ye l x=(c,a)) (g:¬c≠0):mr b bG (aF.drop i) l.out=mr b bG (aF.drop (i+1)) a.out:=by
  have f:=kK e;rw[drop_cons h,mr,if_neg d,if_neg Xx];unfold Ye at hi;split at hi
  · exact absurd (congrArg Prod.fst hi) Xx
  rename_i h2;rw[if_neg h2];simp only[Prod.mk.injEq]at hi;rw[<- hi.2]
def sF (s:Nat) (b:Ly) (bG p:Nat):List Nat × Nat:=qJ s b bG p 0 []
theorem ajx {s bG p a:Nat} {b:Ly} {out:List Nat} (h:¬out.length<bG):MY s b bG p a out=(out,0):=by rw[MY,if_pos Xx]
theorem ajy {s bG p a:Nat} {b:Ly} {out:List Nat} (h:out.length<bG) (c:gO b p=true):MY s b bG p a out=(out,0):=by rw[MY,if_neg Xx,if_pos (by simpa [gO]using c)]
theorem agO {s bG c:Nat} {b:Ly} {l e:iP} {aF:List Nat} (h:l.out.length<bG) (f:gO b l.cur=false) (a:kS s b l=(aF,c,e)) (d:c≠0):MY s b bG l.cur l.ahead l.out=(e.out,c):=by
  have g:=kK f;rw[nP a];rw[MY,if_neg Xx,if_neg Xx];unfold kS at a;split at a
  · rename_i h1;rw[if_pos h1];simp only[Prod.mk.injEq]at a;rw[a.2.1]
  rename_i h1;rw[if_neg h1];simp only[Prod.mk.injEq]at a;rw[<- a.2.1]at d ⊢;rw[if_pos d]
theorem adX {s bG c:Nat} {b:Ly} {l a:iP} {aF:List Nat} (h:l.out.length<bG) (i:gO b l.cur=false) (f:kS s b l=(aF,c,a)) (g:¬c≠0) :
    MY s b bG l.cur l.ahead l.out=if(vR b bG aF l.out).2.2=true then((vR b bG aF l.out).1,(vR b bG aF l.out).2.1)else MY s b bG a.cur a.ahead (vR b bG aF l.out).1:=by
  have G:=kK i;obtain⟨D,j,d,e,C,k⟩:=BW f g;rw[MY,if_neg Xx,if_neg Xx,if_neg Xx,if_neg Xx,d,e,C]
theorem alE {s bG c i:Nat} {b:Ly} {l d:iP} {aF a:List Nat} {r:List Nat × Nat} {g:List Nat × Nat × Bool} (e:MY s b bG l.cur l.ahead l.out=r) (h:l.out.length<bG) (m:gO b l.cur=false) (f:kS s b l=(aF,c,d)) (k:¬c≠0)
    (h1o:vR b bG (aF.drop 0) d.out=g) (h1:vR b bG (aF.drop i) a=g) (he:vR b bG (aF.drop i) a=(a,0,false)):MY s b bG d.cur d.ahead a=r:=by
  have j:vR b bG aF l.out=(a,0,false):=by rw[<- nP f];exact h1o.trans (h1.symm.trans he)
  rw[adX h m f k,j,if_neg Oy]at e;exact e
theorem MZ {s bG c i k:Nat} {b:Ly} {l f:iP} {aF g a:List Nat} {r:List Nat × Nat} {j:List Nat × Nat × Bool} (d:MY s b bG l.cur l.ahead l.out=r) (h:l.out.length<bG) (o:gO b l.cur=false) (e:kS s b l=(aF,c,f)) (n:¬c≠0)
    (h1o:vR b bG (aF.drop 0) f.out=j) (h1:vR b bG (aF.drop i) g=j) (he:vR b bG (aF.drop i) g=(a,k,true)):r=(a,k):=by
  have m:vR b bG aF l.out=(a,k,true):=by rw[<- nP e];exact h1o.trans (h1.symm.trans he)
  rw[adX h o e n,m,if_pos q]at d;exact d.symm
theorem agN {bG i:Nat} {b:Ly} {aF out:List Nat} (h:¬i<aF.length):vR b bG (aF.drop i) out=(out,0,false):=by rw[List.drop_eq_nil_of_le Xx];rfl
theorem adV {bG i x:Nat} {b:Ly} {aF out:List Nat} (h:aF[i]? = some x) (a:bG<=out.length):vR b bG (aF.drop i) out=(out,0,true):=by rw[drop_cons h,vR,if_pos a]
theorem alD {bG i x:Nat} {b:Ly} {aF out:List Nat} (h:aF[i]? = some x) (a:¬bG<=out.length) (c:gO b x=true):vR b bG (aF.drop i) out=(out,0,true):=by rw[drop_cons h,vR,if_neg a,if_pos (by simpa [gO]using c)]
theorem ajw {bG i x c:Nat} {b:Ly} {aF:List Nat} {l a:iP} (h:aF[i]? = some x) (e:¬bG<=l.out.length) (f:gO b x=false) (hi:Ye l x=(c,a)) (d:c≠0):vR b bG (aF.drop i) l.out=(a.out,c,true):=by
  have g:=kK f;rw[drop_cons h,vR,if_neg e,if_neg Xx];unfold Ye at hi;split at hi
  · rename_i h2;rw[if_pos h2];simp only[Prod.mk.injEq]at hi;rw[<- hi.1,<- hi.2]
  exact absurd (congrArg Prod.fst hi).symm d
theorem adW {bG i x c:Nat} {b:Ly} {aF:List Nat} {l a:iP} (h:aF[i]? = some x) (d:¬bG<=l.out.length) (e:gO b x=false) (hi:Ye l x=(c,a)) (g:¬c≠0):vR b bG (aF.drop i) l.out=vR b bG (aF.drop (i+1)) a.out:=by
  have f:=kK e;rw[drop_cons h,vR,if_neg d,if_neg Xx];unfold Ye at hi;split at hi
  · exact absurd (congrArg Prod.fst hi) Xx
  rename_i h2;rw[if_neg h2];simp only[Prod.mk.injEq]at hi;rw[<- hi.2]
theorem agM {s p c:Nat} {b:Ly} {d:fV} (h:fF s b p=(d,c)) (a:c≠0):ofF s b p=([],c):=by unfold ofF;rw[h];simp only;rw[if_pos a]
theorem FE {s p c:Nat} {b:Ly} {d:fV} (h:fF s b p=(d,c)) (e:¬c≠0) (a:d.bw=0\/gO b d.entry=true):ofF s b p=([],0):=by
  unfold ofF;rw[h];simp only;rw[if_neg e,if_pos]
  rcases a with a|a
  · exact .inl a
  unfold gO at a;have:=dT a;omega
theorem rY {s p c:Nat} {b:Ly} {d:fV} (h:fF s b p=(d,c)) (a:¬c≠0) (g:¬d.bw=0) (e:gO b d.entry=false):ofF s b p=MY s b d.bw d.array 0 [d.entry]:=by have f:=kK e;unfold ofF;rw[h];simp only;rw[if_neg a,if_neg Xx]
theorem afl {b:Ly} {x:Nat} (a:gO b x=false):sR b [x]:=by have c:=kK a;unfold sR qm;simp;omega
end Go.Wk
namespace Go.Wk
open Go Go.RowKit
theorem afr {a b:List Nat} (h:a.length≠b.length):decide (a=b)=false:=decide_eq_false (fun e=>h (by rw[e]))
theorem ahw {a b:List Nat} {i x y:Nat} (h:a[i]? = some x) (c:b[i]? = some y) (e:x≠y):decide (a=b)=false:=decide_eq_false (fun d=>e (by subst d;rw[h]at c;exact Option.some.inj c))
theorem afs {a b:List Nat} {i:Nat} (h:a.take i=b.take i) (h1:a.length<=i) (c:a.length=b.length):decide (a=b)=true:=decide_eq_true (by rw[<- List.take_of_length_le h1,h,List.take_of_length_le Xx])
theorem abq {a b:List Nat} {i x y:Nat} (h:a.take i=b.take i) (h1:a[i]? = some x) (c:b[i]? = some y) (d:x=y):a.take (i+1)=b.take (i+1):=by rw[List.take_add_one,List.take_add_one,h,h1,c,d]
end Go.Wk
namespace Go.Proofs.YtlleafgaeeneoaaGreat
open Go Go.Wk Go.RowKit
set_option linter.unusedVariables false
set_option linter.unusedSimpArgs false
attribute [local irreducible] wpList wpQuiet wpStill fD Code.wp Calls bodyPost
theorem el3:gw Zp 3 1=true:=Xw
theorem mixed:Zp.follows .mixedOrders=true:=Xw
theorem iD:iI Zp 3=true:=Xw
theorem kM:Zp.underlying 22=some (.slice 3):=Xw
theorem VS {w:World} {Q:Nat->Prop} (m:Up w Q) {v0:Value} {a:List Nat} (e:Ls eI w Q v0 a) {v1:Value} {b:List Nat} (h1:Ls eI w Q v1 b) :
  Calls Zp 16 #[v0,v1] w fun U d=>∃N:Bool,U = .returned (.bool N)/\Md [] w d/\decide (a=b)=N:=by
 have k:=e.dB;have o:=h1.dB;have j:=Md.refl [] w;have g:=m;have y:∀b,Q b->Q b:=fun _ h=>h;have x:∀b,Q b->b<w.heap.size->Q b:=fun _ h _=>h;refine enter (n:=26) Tryz.func16 q q q fun O=>ns (an q (aD (nm q (sL q kM e.di (mv q (sL q kM h1.di (st _ (eU (a:=a.length) (b:=b.length) q q) (nt ?_))))))));refine bJ q (fun A=>?_) (fun A=>?_)
 ·have G:=dT A;refine ns (ar q (aI ?_));exact bR (v:=(.bool false)) trivial q ⟨q,tV⟩ ⟨false,q,j,(afr G)⟩
 have G:=dF A;refine aL (aj (aD (ns (an q (aS ?_)))));refine nE (fun(i:Nat)=>[(5,(.int .i64 i)),(0,v0),(1,v1)]) (fun(i:Nat) d=>∃s:Nat->Prop,(∀b,s b->Q b)/\(∀b,Q b->b<w.heap.size->s b)/\Up d s/\Md [] w d/\Ls eI d s v0 a/\Ls eI d s v1 b/\i<=a.length/\a.take i=b.take i) (fun(i:Nat)=>a.length-i) (x0:=0) ?_ ?_ ?_
 ·exact⟨q,q,q,tV⟩
 ·exact⟨Q,y,x,m,j,e,h1,Xx,q⟩
 clear j m y x e h1;rintro i O X ⟨f,y,x,m,j,e,h1,Z,M⟩;refine aD (ns (m2 q q (sL q kM e.di (st _ (dN (a:=i) (b:=a.length) q q) (nt ?_)))));refine bJ q (fun B=>?_) (fun B=>?_)
 ·have R:=dT B;refine aL (aj (aD (aS (aD ?_))));have K:=e;have H:=h1;refine cT (ml 8) [8] (fun d=>Md [] X d) mixed Xw ?_;intro t z;refine⟨z.mono Oy,?_⟩;have S:=z.mono (T:=[]) Oy;refine mo q (mo q (mz (fun d u=>bf (i:=i) 1 q q kM el3 e.di Xx) ?_));obtain⟨I,F⟩:=dY (l:=a) (i:=i) Xx;obtain⟨p,V,C⟩:=K.get F;obtain⟨rfl,Y⟩:=V;have C:At _ v0 (i*1) [(.int .i64 I)]:=C;refine mz (fun d u=>(bP (kk:=i*1) 0 q q iD (C.o u) q).to (b:=(.int .i64 I)) q) (mo q (mo q (mz (fun d u=>bf (i:=i) 1 q q kM el3 h1.di Xx) ?_)));obtain⟨J,P⟩:=dY (l:=b) (i:=i) Xx;obtain⟨r,W,D⟩:=H.get P;obtain⟨rfl,c⟩:=W;have D:At _ v1 (i*1) [(.int .i64 J)]:=D;refine mz (fun d u=>(bP (kk:=i*1) 0 q q iD (D.o u) q).to (b:=(.int .i64 J)) q) (dD ?_);obtain⟨e,h1,m,j⟩:=k4 z e h1 m j;refine st _ (eU (a:=I) (b:=J) q q) (aA ?_);refine aj ?_;refine bJ q (fun E=>?_) (fun E=>?_)
  ·have L:=dT E;refine ns (ar q (aU (aI (aI (aU (aI ?_))))));exact bR (v:=(.bool false)) trivial q ⟨q,tV⟩ ⟨false,q,j,(ahw F P L)⟩
  have L:=dF E;refine aL (bE (aj (aH (mv q (st _ (rA (a:=i) (b:=1) q q Xx) (an q ?_))))));refine mU (x0:=(i+1)) Xx ⟨(d9 q Xx),q,q,tV⟩ ⟨f,y,x,m,j,e,h1,Xx,(abq M F P Xx)⟩
 have R:=dF B;refine bW (aY (aY (cO (aj (ns (ar q ?_))))));exact bR (v:=(.bool true)) trivial q ⟨q,tV⟩ ⟨true,q,j,(afs M Xx Xx)⟩
end Go.Proofs.YtlleafgaeeneoaaGreat
namespace Go.Wk
open Go Go.RowKit
def rn (b:Ly) (j:Nat):List Nat:=(List.range 20).map fun q=>if q<j then dW b (88+8*q)else 0
def qx:ej:={gD:=0,bN:=0,state:=0,cg:=pY,dG:=pY,bD:=pY,seq:=pY,n:=List.replicate 20 0,cK:=0,dc:=0,dI:=0}
end Go.Wk
namespace Go.Wk
open Go Go.RowKit
end Go.Wk
namespace Go.Wk
open Go Go.RowKit
def xN:Rec:={seq:=0,bK:=0,mono:=0,bD:=pY,ak:=[]}
def kZ (k:Bool) (f:Ly) (s:Nat) (b:Ly):List lJ->List Pr->List (List UInt8)->(List Pr × List (List UInt8)) × Nat
  | [],fs,all=>((fs,all),0)
  | x :: r,fs,all =>
    if(k9 k f s b x.pos).2≠0 then(([],[]),(k9 k f s b x.pos).2)
    else if(k9 k f s b x.pos).1.bY≠x.bY then(([],[]),9)
    else if(iH (k9 k f s b x.pos).1.au).2≠0 then(([],[]),(iH (k9 k f s b x.pos).1.au).2)
    else kZ k f s b r (fs ++ [(iH (k9 k f s b x.pos).1.au).1]) (all ++ [(k9 k f s b x.pos).1.au])
section
variable {k:Bool} {f b:Ly} {s p i c:Nat} {l:List lJ} {x:lJ} {d:fV} {fs:List Pr} {all:List (List UInt8)} {q:Pr} {e:gU} {r:Rec}
theorem KI (h:¬i<l.length):kZ k f s b (l.drop i) fs all=((fs,all),0):=by rw[er Xx];rfl
theorem abj (h:l[i]? = some x) (d:(k9 k f s b x.pos).2=c) (a:c≠0):kZ k f s b (l.drop i) fs all=(([],[]),c):=by rw[cH h];unfold kZ;rw[d,if_pos a]
theorem ahp (h:l[i]? = some x) (c:k9 k f s b x.pos=(d,0)) (a:¬d.bY=x.bY):kZ k f s b (l.drop i) fs all=(([],[]),9):=by rw[cH h];unfold kZ;rw[c,if_neg Oy,if_pos a]
theorem SJ (h:l[i]? = some x) (g:k9 k f s b x.pos=(d,0)) (e:d.bY=x.bY) (j:iH d.au=(q,c)) (a:c≠0):kZ k f s b (l.drop i) fs all=(([],[]),c):=by rw[cH h];unfold kZ;rw[g,if_neg Oy,if_neg (by simpa using e),j,if_pos a]
theorem Wn (h:l[i]? = some x) (c:k9 k f s b x.pos=(d,0)) (a:d.bY=x.bY) (e:iH d.au=(q,0)):kZ k f s b (l.drop i) fs all=kZ k f s b (l.drop (i+1)) (fs ++ [q]) (all ++ [d.au]):=by
  rw[cH h];conv=>lhs;unfold kZ
  rw[c,if_neg Oy,if_neg (by simpa using a),e,if_neg Oy]
def nv (k:Bool) (f:Ly) (s:Nat) (b:Ly) (p:Nat):Rec × Nat :=
  if(ko s b p).2≠0 then(xN,(ko s b p).2)
  else if 16<(ko s b p).1.aF.length then(xN,21)
  else if(kZ k f s b (ko s b p).1.aF [] []).2≠0 then(xN,(kZ k f s b (ko s b p).1.aF [] []).2)
  else if(ko s b p).1.xor=nu 0 (kZ k f s b (ko s b p).1.aF [] []).1.2 then({seq:=(ko s b p).1.seq,bK:=(ko s b p).1.bK,mono:=(ko s b p).1.mono,bD:=(ko s b p).1.bD,ak:=(kZ k f s b (ko s b p).1.aF [] []).1.1},0)
  else(xN,10)
theorem ajM (h:(ko s b p).2=c) (a:c≠0):(nv k f s b p).2=c:=by unfold nv;rw[h,if_pos a]
theorem ajL (h:ko s b p=(e,0)) (a:16<e.aF.length):(nv k f s b p).2=21:=by unfold nv;rw[h,if_neg Oy,if_pos a]
theorem Wo {y:List Pr × List (List UInt8)} (h:ko s b p=(e,0)) (g:¬16<e.aF.length) (d:kZ k f s b e.aF [] []=(y,c)) (a:c≠0):(nv k f s b p).2=c:=by unfold nv;rw[h,if_neg Oy,if_neg g,d,if_pos a]
theorem ajK {n:Nat} (h:ko s b p=(e,0)) (c:¬16<e.aF.length) (a:kZ k f s b e.aF [] []=((fs,all),0)) (g:nu 0 all=n) (d:¬e.xor=n):(nv k f s b p).2=10:=by unfold nv;rw[h,if_neg Oy,if_neg c,a,if_neg Oy,if_neg (by rw[g];exact d)]
structure ahT (e:gU) (r:Rec):Prop where
  seq:r.seq=e.seq
  bK:r.bK=e.bK
  mono:r.mono=e.mono
  bD:r.bD=e.bD
theorem afj {n:Nat} (h:ko s b p=(e,0)) (g:¬16<e.aF.length) (j:ahT e r) (d:kZ k f s b e.aF [] []=((r.ak,all),0)) (l:nu 0 all=n) (i:e.xor=n):nv k f s b p=(r,0):=by unfold nv;rw[h,if_neg Oy,if_neg g,d,if_neg Oy,if_pos (by rw[l];exact i)];obtain⟨m,o,G,H,q⟩:=r;obtain⟨a,c,C,D⟩:=j;simp only at a c C D;subst a;subst c;subst C;subst D;rfl
theorem afV {n:Nat} {y:Ly} (h:∀x∈all,x.length<=n) (b:y.length<=n):∀x∈all ++ [y],x.length<=n:=by
  intro x a
  rcases List.mem_append.1 a with A|A
  · exact h x A
  simp at A;subst A;exact b
theorem alT (h:(nv k f s b p).2≠0):(nv k f s b p).1=xN:=by
  unfold nv at h ⊢;split
  · rfl
  split
  · rfl
  split
  · rfl
  split
  · rename_i h1 h2 h3 h4;rw[if_neg h1,if_neg h2,if_neg h3,if_pos h4]at h;exact absurd rfl h
  rfl
theorem ahr (h:(nv k f s b p).2=c) (a:c≠0):nv k f s b p=(xN,c):=by refine Prod.ext ?_ h;exact alT (by rw[h];exact a)
end
end Go.Wk
namespace Go.Wk
open Go Go.RowKit
section
variable {b x:Ly} {p c:Nat}
end
section
variable {k:Bool} {f b:Ly} {s p c n:Nat} {d:fV}
end
section
variable {k:Bool} {f b:Ly} {s p i c n m:Nat} {l:List lJ} {x:lJ} {fs:List Pr} {all:List (List UInt8)} {q:Ly} {w:Pr}
end
end Go.Wk
namespace Go.Wk
open Go Go.RowKit
theorem mR {l:List Nat} {i v:Nat} (h:i<l.length):(l.set i v).getD i 0=v:=by simp[List.getD,h]
def nJ (z:Mk) (n seq bK mono e:Nat) (bD:Ly):Mk :=
  let m7:=if n=0 then(z.cE 10 seq).cE 12 bK else z
  let m8:=m7.cE 8 ((m7.bS 8+1)%18446744073709551616)
  let m9:=((m8.cE 9 seq).cE 13 bK).cE 14 mono
  {m9 with h:={m9.h with bD:=bD,dI:=e}}
theorem uG (z:Mk) (n seq bK mono e:Nat) (bD:Ly):(nJ z n seq bK mono e bD).b=z.b/\(nJ z n seq bK mono e bD).c=z.c/\(nJ z n seq bK mono e bD).ai=z.ai/\(nJ z n seq bK mono e bD).ak=z.ak/\(nJ z n seq bK mono e bD).main=z.main /\
    (nJ z n seq bK mono e bD).h.n.getD 2 0=z.h.n.getD 2 0/\(nJ z n seq bK mono e bD).h.n.getD 4 0=z.h.n.getD 4 0/\(nJ z n seq bK mono e bD).h.n.length=z.h.n.length /\
    (z.h.n.length=20->(nJ z n seq bK mono e bD).n8=(z.n8+1)%18446744073709551616/\(nJ z n seq bK mono e bD).bS 9=seq):=by
  unfold nJ;simp only;generalize hm7:(if n=0 then(z.cE 10 seq).cE 12 bK else z)=m7;have A:m7.b=z.b/\m7.c=z.c/\m7.ai=z.ai/\m7.ak=z.ak/\m7.main=z.main/\m7.h.n.getD 8 0=z.h.n.getD 8 0/\m7.h.n.getD 2 0=z.h.n.getD 2 0/\m7.h.n.getD 4 0=z.h.n.getD 4 0/\m7.h.n.length=z.h.n.length:=by
    subst hm7;split
    · exact⟨q,q,q,q,q,(aX Xy).trans (aX Xy),(aX Xy).trans (aX Xy),(aX Xy).trans (aX Xy),by simp[Mk.cE]⟩
    · exact⟨q,q,q,q,q,q,q,q,q⟩
  obtain⟨C,D,E,F,G,H,I,J,K⟩:=A;clear hm7;refine⟨C,D,E,F,G,?_,?_,?_,fun B=>⟨?_,?_⟩⟩
  · rw[<- I]
    exact(aX Xy).trans ((aX Xy).trans ((aX Xy).trans (aX Xy)))
  · rw[<- J]
    exact(aX Xy).trans ((aX Xy).trans ((aX Xy).trans (aX Xy)))
  · rw[<- K];simp[Mk.cE]
  · have e:m7.bS 8=z.n8:=H
    rw[e];exact(aX Xy).trans ((aX Xy).trans ((aX Xy).trans (mR Xx)))
  exact(aX Xy).trans ((aX Xy).trans (mR (by simp[Mk.cE];omega)))
theorem xY {m:Mk} (h:vF m) {raw:List Pr} {bK mono:Nat} {bD:Ly} (hb:bD.length=16) (h20:(m.append raw bK mono bD).2.2.h.n.length=20):vF (m.append raw bK mono bD).2.2:=by
  rcases hl:ku raw with⟨l,c⟩
  by_cases h2:c≠0
  · have d:m.append raw bK mono bD=(0,c,m):=by unfold Mk.append;simp only[hl];rw[if_pos h2]
    rw[d];exact h
  by_cases h3:m.bS 9=18446744073709551615
  · have d:m.append raw bK mono bD=(0,1,m):=by unfold Mk.append;simp only[hl];rw[if_neg h2,if_pos h3]
    rw[d];exact h
  obtain⟨w,au⟩:=tu hl;have D:=uz l m [] [] 0 (qh h) w
  rcases hd:gI l m [] []with⟨ps,M,x⟩
  rw[hd,Nat.zero_add]at D;simp only at D;have aB:=h.small;have s4:=h.nb;have al:=D.app.ge;have am:=D.app.le;have an:=D.len.1;have ak:=D.app.n8;generalize hE:({seq:=(x.bS 9+1)%18446744073709551616,bK:=bK,mono:=mono,bD:=bD,xor:=nu 0 ps,aF:=jd x M}:gU)=E;have Z:E.bD.length=16:=by subst hE;exact hb
  have ao:E.aF.length=M.length:=by subst hE;simp[jd]
  have ap:=lS E Z;have C:=BU (L:=400) (o:=cW E) D.app Xx;have S:=(gF x (cW E)).2.1;have I:=(dR x (cW E)).2.2.2;have F:=(dR x (cW E)).2.1
  rcases ho:x.bU (cW E)with⟨d,B⟩
  rw[ho]at C S I F;simp only at C S I F;have K:B.h.n.getD 8 0=m.n8:=C.n8;have O:jE B.b.length B.main (B.bS 8):=by rw[show B.bS 8=m.n8 from K,I,D.main];exact pE h.main C.ge
  have u:=wV B B.main (B.bS 8) 176 d O;have G:=BS (src:=176) (gN:=d) C O
  rcases hk:B.link B.main (B.bS 8) 176 d with⟨a,t,P⟩
  rw[hk]at u G;simp only at u G;generalize hY:(let X:=({P with main:=a}:Mk).cE 11 (a.getD 0 0);({X with h:={X.h with cK:=iZ a%4294967296,dc:=t%4294967296}}:Mk))=Y;have A:kP m Y l.length (900*l.length+400+2100+0) 0:=by subst hY;exact BV (e':=0) G q (aX Xy) (aX Xy) (aX Xy) q q (Nat.le_refl _) (Nat.le_refl _) (Nat.le_refl _)
  have ad:Y.b=P.b:=by subst hY;rfl
  have N:Y.ai=P.ai:=by subst hY;rfl
  have v:Y.main=a:=by subst hY;rfl
  obtain⟨e,aj,aD⟩:=DU (en:=d) M Y _ _ A (fun i T=>by rw[N,u.ai,F];exact D.idx i T);have ag:Y.n8=m.n8:=A.n8;have Q:=(DU (en:=d) M Y 0 0 ⟨A.fit,q,q,by rw[ag];exact A.chains,Nat.le_add_right _ 0,Nat.le_add_right _ 0,Nat.le_refl _,Nat.le_refl _⟩ (fun i T=>by rw[N,u.ai,F];exact D.idx i T)).1;have J:=kR (bK:=bK) (mono:=mono) (bD:=bD) hl h2 h3 hd (by rw[hE];exact ho) hk (z:=kr d M Y) (by rw[hY]);generalize kr d M Y=z at *;have J:m.append raw bK mono bD=if z.c.bG<z.b.length then(0,15,m)else((x.bS 9+1)%18446744073709551616,0,nJ z (B.bS 8) ((x.bS 9+1)%18446744073709551616) bK mono d bD):=J;rw[J]at h20 ⊢;split at h20
  · rename_i hm
    rw[if_pos hm];exact h
  rename_i hm;rw[if_neg hm];have av:=e.ge;have aw:=e.le;have ax:=e.nd;have ay:=e.nf;have U:=e.c;have ah:z.n8=m.n8:=e.n8;have H:=h.bG;have az:=h.nd;have aA:=h.nf;have aq:=u.ge;have y:P.b.length<=z.b.length:=by have h:=Q.ge;rw[ad]at h;exact h
  obtain⟨s,V,W,g,aa,p,r,ar,ab⟩:=uG z (B.bS 8) ((x.bS 9+1)%18446744073709551616) bK mono d bD;simp only at h20 ⊢;generalize nJ z (B.bS 8) ((x.bS 9+1)%18446744073709551616) bK mono d bD=R at *;have j:=(ab Xx).1;rw[ah,Nat.mod_eq_of_lt Xx]at j;refine⟨pF e.fit ⟨by rw[V],by rw[V],p,r,by rw[s];exact Nat.le_refl _⟩ (fun k hk=>.inl (W ▸ hk)) (fun k hk=>.inl (g ▸ hk)),?_,?_,?_,?_,?_,?_,?_,?_⟩
  · rw[j,s,aa,aj,v]
    have f:=u.chain;rw[show B.bS 8=m.n8 from K]at f;exact pE f y
  · intro k hk
    rw[W]at hk;obtain⟨ae,af,u3,aC⟩:=e.chains k hk;rw[s,j];exact⟨ae,af,u3,by omega⟩
  · rw[W,j];omega
  · rw[g,j];omega
  · rw[s,j];omega
  · rw[s];rw[U]at hm;omega
  · rw[V,U];exact H
  rw[s];have:=h.hd;omega
theorem xe {c:nA} {t:Nat} (h:c.ay<=10/\c.aC<=10) (h1:1<=c.ay/\1<=c.aC) (i:c.bG<=40000):vF (iA c t):=by
  have D:=(mY 4 (List.replicate c.ay {first:=0,tail:=0})).2 (.inl q);have e:=(mY 5 (List.replicate c.aC {first:=0,tail:=0})).2 (.inr q);have g:(iA c t).b=List.replicate 272 0 ++ dV 4 (List.replicate c.ay {first:=0,tail:=0}) ++ dV 5 (List.replicate c.aC {first:=0,tail:=0}):=rfl;have a:=congrArg List.length g;simp only[List.length_append,List.length_replicate]at D e a;have d:(iA c t).n8=0:=rfl;have C:(iA c t).ai=[]:=rfl;have f:(iA c t).ak=[]:=rfl;refine⟨⟨h1.1,by show c.ay<=64;omega,h1.2,by show c.aC<=64;omega,?_,?_,(fun k hk=>by rw[C]at hk;simp at hk),(fun k hk=>by rw[f]at hk;simp at hk)⟩,by rw[d];exact chain_nil _,(fun k hk=>by rw[C]at hk;simp at hk),by rw[d];exact Nat.le_refl _,by rw[d];exact Nat.le_refl _,by omega,by omega,i,by omega⟩
  · have:(iA c t).h.n.getD 2 0=288:=rfl
    rw[this,a];show 288+16*c.ay<=_;omega
  have:(iA c t).h.n.getD 4 0=(List.replicate 272 (0:UInt8) ++ dV 4 (List.replicate c.ay {first:=0,tail:=0})).length+16:=rfl;rw[this,a,List.length_append,List.length_replicate];show _+16*c.aC<=_;omega
theorem uy (s:Sq):(s.config.1.ay<=10/\s.config.1.aC<=10)/\(1<=s.config.1.ay/\1<=s.config.1.aC)/\s.config.1.bG<=40000:=by
  refine⟨LX s,?_⟩
  rcases h1:s.bS 5 with⟨a,A⟩
  rcases h2:A.bS 5 with⟨b,B⟩
  rcases h3:B.bS 5 with⟨c,C⟩
  rcases h4:C.bS 7 with⟨d,D⟩
  rcases h5:D.bS 4 with⟨e,E⟩
  rcases h6:E.bS 2 with⟨f,F⟩
  simp only[Sq.config,h1,h2,h3,h4,h5,h6];omega
theorem abk (s:Sq) (n:Nat):(∀q∈(s.record n).1.ak,BD q)/\(s.record n).1.ak.length<=16:=by
  rcases h1:s.pairs 4 with⟨A,B⟩
  rcases h2:B.bS 40 with⟨a,C⟩
  rcases h3:C.bS 9 with⟨b,D⟩
  rcases h4:D.bS 3 with⟨c,E⟩
  simp only[Sq.record,h1,h2,h3,h4];exact tu (show ku A=((ku A).1,(ku A).2)from rfl)
theorem zP (s:Sq) (n:Nat):(s.record n).1.bD.length=16:=by
  rcases h1:s.pairs 4 with⟨D,A⟩
  rcases h2:A.bS 40 with⟨a,B⟩
  rcases h3:B.bS 9 with⟨b,C⟩
  rcases h4:C.bS 3 with⟨c,E⟩
  simp only[Sq.record,h1,h2,h3,h4];simp[idF]
theorem EU {bG:Nat} {s:Sq} {m:Mk} {rs:List Rec} (h:¬(rs.length<bG/\s.pos<s.l.length)):iW (bG-rs.length) s m rs=(m,rs,s):=by
  by_cases h1:rs.length<bG
  · obtain⟨n,B⟩:∃n,bG-rs.length=n+1:=⟨bG-rs.length-1,by omega⟩
    rw[B];show(if s.pos<s.l.length then _ else(m,rs,s))=_;rw[if_neg (fun A=>h ⟨h1,A⟩)]
  rw[show bG-rs.length=0 by omega];rfl
theorem aax {bG c e:Nat} {s b:Sq} {m a:Mk} {rs:List Rec} {r:Rec} (h:rs.length<bG) (f:s.pos<s.l.length) (j:s.record ((m.bS 9+1)%18446744073709551616)=(r,b)) (g:m.append r.ak r.bK r.mono r.bD=(e,c,a)) (i:c≠0) :
    iW (bG-rs.length) s m rs=(a,rs,b):=by
  obtain⟨n,d⟩:∃n,bG-rs.length=n+1:=⟨bG-rs.length-1,by omega⟩;rw[d];unfold iW;rw[if_pos f];simp only[j,g];rw[if_pos i]
theorem aay {bG c e:Nat} {s b:Sq} {m a:Mk} {rs:List Rec} {r:Rec} (h:rs.length<bG) (f:s.pos<s.l.length) (j:s.record ((m.bS 9+1)%18446744073709551616)=(r,b)) (g:m.append r.ak r.bK r.mono r.bD=(e,c,a)) (i:¬c≠0) :
    iW (bG-rs.length) s m rs=iW (bG-(rs ++ [r]).length) b a (rs ++ [r]):=by
  obtain⟨n,d⟩:∃n,bG-rs.length=n+1:=⟨bG-rs.length-1,by omega⟩;rw[d];rw[iW,if_pos f];simp only[j,g];rw[if_neg i,show bG-(rs ++ [r]).length=n by simp;omega]
theorem r8 (m:Mk) (o:Ly):(m.bU o).2.h.n.length=m.h.n.length:=by simp[Mk.bU,Mk.cE]
theorem YM (m:Mk) (l:List aN) (t p s:Nat):(m.hang l t p s).2.h=m.h:=by rw[(AQ m l t p s).1]
theorem adS (m:Mk) (x:Ly):(m.field x).2.h.n.length=m.h.n.length:=by
  unfold Mk.field;split
  · rfl
  simp only;have B:=r8 m (gu {bY:=cP m.c.cC m.c.cg x,b9:=0,dat:=0,au:=x});generalize m.bU (gu {bY:=cP m.c.cC m.c.cg x,b9:=0,dat:=0,au:=x})=r at *;obtain⟨p,A⟩:=r;simp only at B ⊢;have C:=YM A A.ak (A.bS 4) p (cP m.c.cC m.c.cg x%A.c.aC);generalize A.hang A.ak (A.bS 4) p (cP m.c.cC m.c.cg x%A.c.aC)=r at *;obtain⟨n,D⟩:=r;simp only at C ⊢;simp only[Mk.cE,List.length_set,C];exact B
theorem agK (m:Mk) (x:Pr):(m.data x).2.h.n.length=m.h.n.length:=by
  unfold Mk.data;split
  · rfl
  simp only;have C:=r8 m (iu {bY:=cP m.c.cC m.c.cg (au x),b9:=0,dr:=0,entry:=0,array:=0,bw:=0,au:=au x});generalize m.bU (iu {bY:=cP m.c.cC m.c.cg (au x),b9:=0,dr:=0,entry:=0,array:=0,bw:=0,au:=au x})=r at *;obtain⟨p,A⟩:=r;simp only at C ⊢;have D:=YM A A.ai (A.bS 2) p (cP m.c.cC m.c.cg (au x)%A.c.ay);generalize A.hang A.ai (A.bS 2) p (cP m.c.cC m.c.cg (au x)%A.c.ay)=r at *;obtain⟨n,B⟩:=r;simp only at D ⊢;generalize hx5:({(B.cE 19 (max (B.bS 19) n)).cE 15 (((B.cE 19 (max (B.bS 19) n)).bS 15+1)%18446744073709551616)with ai:=((B.cE 19 (max (B.bS 19) n)).cE 15 (((B.cE 19 (max (B.bS 19) n)).bS 15+1)%18446744073709551616)).ai ++ [({bQ:=au x,pos:=p,bV:=cP m.c.cC m.c.cg (au x)%A.c.ay,bw:=0,aT:=[]}:aN)]}:Mk)=m5;have E:m5.h.n.length=m.h.n.length:=by subst hx5;simp only[Mk.cE,List.length_set,D];exact C
  have F:=adS m5 x.name;generalize m5.field x.name=r at *;obtain⟨k,G⟩:=r;exact F.trans E
theorem yT:∀(l:List Pr) (m:Mk) (ps:List (List UInt8)) (od:List Nat),(gI l m ps od).2.2.h.n.length=m.h.n.length
  | [],_,_,_=>rfl
  | x :: r,m,ps,od=>(yT r _ _ _).trans (agK m x)
theorem MU (m:Mk) (a:List Nat) (n src gN:Nat):(m.link a n src gN).2.2.h.n.length=m.h.n.length:=by
  unfold Mk.link;generalize eW a 0 0 0=r;obtain⟨A,D⟩:=r;simp only;split
  · have B:=r8 m (fe {next:=0,aF:=List.replicate (dA (a.length:Int)) 0})
    generalize m.bU (fe {next:=0,aF:=List.replicate (dA (a.length:Int)) 0})=r at *;obtain⟨p,C⟩:=r;simp only at B ⊢;split
    · show(C.cE 18 _).h.n.length=_
      simp only[Mk.cE,List.length_set];exact B
    show(C.cE 18 _).h.n.length=_;simp only[Mk.cE,List.length_set];exact B
  rfl
theorem EZ (e:Nat):∀(a:List Nat) (m:Mk),(kr e a m).h.n.length=m.h.n.length
  | [],_=>rfl
  | i :: r,m=>by
    rw[nK,EZ e r];unfold jN;simp only;split
    · rfl
    · exact MU m _ _ _ _
theorem yS (m:Mk) (raw:List Pr) (bK mono:Nat) (bD:Ly):(m.append raw bK mono bD).2.2.h.n.length=m.h.n.length:=by
  rcases hl:ku raw with⟨l,c⟩
  by_cases h2:c≠0
  · have d:m.append raw bK mono bD=(0,c,m):=by unfold Mk.append;simp only[hl];rw[if_pos h2]
    rw[d]
  by_cases h3:m.bS 9=18446744073709551615
  · have d:m.append raw bK mono bD=(0,1,m):=by unfold Mk.append;simp only[hl];rw[if_neg h2,if_pos h3]
    rw[d]
  have D:=yT l m [] []
  rcases hd:gI l m [] []with⟨I,C,x⟩
  rw[hd]at D;have g:=r8 x (cW {seq:=(x.bS 9+1)%18446744073709551616,bK:=bK,mono:=mono,bD:=bD,xor:=nu 0 I,aF:=jd x C})
  rcases ho:x.bU (cW {seq:=(x.bS 9+1)%18446744073709551616,bK:=bK,mono:=mono,bD:=bD,xor:=nu 0 I,aF:=jd x C})with⟨d,A⟩
  rw[ho]at g;have i:=MU A A.main (A.bS 8) 176 d
  rcases hk:A.link A.main (A.bS 8) 176 d with⟨a,t,H⟩
  rw[hk]at i;simp only at D g i;have f:m.append raw bK mono bD=_:=kR (bK:=bK) (mono:=mono) (bD:=bD) hl h2 h3 hd ho hk q;have G:=EZ d C (let e:=({H with main:=a}:Mk).cE 11 (a.getD 0 0);{e with h:={e.h with cK:=iZ a%4294967296,dc:=t%4294967296}});generalize kr d C (let e:=({H with main:=a}:Mk).cE 11 (a.getD 0 0);{e with h:={e.h with cK:=iZ a%4294967296,dc:=t%4294967296}})=z at f G;have f:m.append raw bK mono bD=if z.c.bG<z.b.length then(0,15,m)else((x.bS 9+1)%18446744073709551616,0,nJ z (A.bS 8) ((x.bS 9+1)%18446744073709551616) bK mono d bD):=f;rw[f];split
  · rfl
  show(nJ _ _ _ _ _ _ _).h.n.length=_;rw[(uG _ _ _ _ _ _ _).2.2.2.2.2.2.2.1,G];simp only[Mk.cE,List.length_set];omega
theorem JM:∀(n:Nat) (s:Sq) (m:Mk) (rs:List Rec),vF m->m.h.n.length=20->vF (iW n s m rs).1/\(iW n s m rs).1.h.n.length=20
  | 0,_,_,_,h,h2=>⟨h,h2⟩
  | n+1,s,m,rs,h,h2=>by
    unfold iW;split
    · rcases hr:s.record ((m.bS 9+1)%18446744073709551616)with⟨r,s1⟩
      have hb:r.bD.length=16:=(by have:=zP s ((m.bS 9+1)%18446744073709551616);rw[hr]at this;exact this);have A:=yS m r.ak r.bK r.mono r.bD;have B:=xY (raw:=r.ak) (bK:=r.bK) (mono:=r.mono) h hb (A.trans h2)
      rcases ha:m.append r.ak r.bK r.mono r.bD with⟨e,c,C⟩
      rw[ha]at A B;simp only[ha];split
      · exact⟨B,A.trans h2⟩
      · exact JM n s1 C _ B (A.trans h2)
    · exact⟨h,h2⟩
theorem Rf {s b:Sq} {bG:Nat} {m:Mk} {rs:List Rec} (h:s.pK bG=(m,rs,b)):vF m/\m.h.n.length=20:=by
  have a:=uy s
  rcases h1:s.config with⟨c,B⟩
  rcases h2:B.bS 6 with⟨t,C⟩
  rw[h1]at a;simp only[Sq.pK,h1,h2]at h;have:=JM bG C (iA c t) [] (xe a.1 a.2.1 a.2.2) q;rw[h]at this;exact this
theorem UL {m:Mk} (ok:ej.ok m.h) (hb:m.b.length<=40000):(lG m 1).length<=100000:=by unfold lG;rw[List.length_append,yH {m.h with state:=1,n:=m.h.n.set 1 (m.b.length-272)} m.depth ⟨ok.1,ok.2.1,(by decide:(1:Nat)<9223372036854775808),ok.2.2.2.1,ok.2.2.2.2.1,ok.2.2.2.2.2.1,ok.2.2.2.2.2.2.1,xh ok.2.2.2.2.2.2.2.1 Xx,ok.2.2.2.2.2.2.2.2⟩,List.length_drop];omega
end Go.Wk
namespace Go.Wk
open Go Go.RowKit
section
variable {P:Program} {n:Nat} {A:Fr n} {D:List Deferred} {l:List (Nat × Value)} {w:World} {d:Option Tmp} {ty:TypeId} {ps:String} {af:Array Edge} {g:Option (Nat × Bool)}
end
end Go.Wk
namespace Go.Wk
open Go Go.RowKit
end Go.Wk
