/- Part 2 of what the walk of a law stands on: More, LeP, Types, RefP, HashN, MakerP, MakerQ, FldR, SeqP, Loops2, MakerR, MakerS, Anys, InsP, FieldQ, FldS, CompR, HeadR, HeadQ, ViewP, AtP, AtQ, MatP, MatL, MatH, MatW, MatX, MatV, MatR, MatT, MatB, MatK, MatD, MatE, VTexts, VAlts. No statement is proved here. -/
import Derived.Test.YtlleafgaeeneoaaGreatQAI1
import Derived.Test.YtlleafgaeeneoaaGreatRows
set_option linter.unusedVariables false
set_option linter.unusedSimpArgs false
namespace Go.Wk
open Go Go.RowKit
theorem dQ {α:Type} {l:List α} {i:Nat} (h:i<l.length):∃x,l[i]? = some x:=⟨l[i],by simp[h]⟩
theorem GK (n:Nat):(Value.int .u8 ((n%256:Nat):Int))=b8 (UInt8.ofNat n):=by simp[b8,UInt8.toNat_ofNat']
theorem xY (l:Ly):∀u∈iP l,u.oneCell'=true:=by
  intro u A
  simp only[iP,List.mem_cons,List.not_mem_nil,or_false]at A
  rcases A with h|h|h|h|h|h|h|h|h|h|h|h|h|h|h|h <;> (subst h;rfl)
theorem bn {cs:List Value} (h:cs.all (fun u=>u.oneCell')=true):∀u∈cs,u.oneCell'=true:=by simpa using h
def oq:List UInt8:=List.replicate 16 0
theorem di {α:Type} {l:List α} {i:Nat} {x:α} (h:l[i]? = some x):l.drop i=x :: l.drop (i+1):=by
  obtain⟨A,B⟩:=List.getElem?_eq_some_iff.1 h
  rw[List.drop_eq_getElem_cons A,B]
theorem eO {α:Type} {l:List α} {i:Nat} (h:l.length≤i):l.drop i=[]:=List.drop_eq_nil_of_le h
theorem aaR {α:Type} {l:List α} {i:Nat} {x:α} (h:l[i]? = some x):l.take (i+1)=l.take i ++ [x]:=by rw[List.take_add_one,h];rfl
def bM (S:List Nat) (w:World) (b:Nat):Prop:=b∈S∨w.heap.size≤b
theorem bM.new {S S':List Nat} {w w':World} (M:Md S w w'):∀b,w'.heap.size≤b→bM S' w b:=fun _ hb=>.inr (ly M.size hb)
theorem bM.up {w:World} {Q:Nat→Prop} (u:Up w Q):∀b,bM [] w b→Q b:=fun b hb=>hb.elim (fun h=>by simp at h) (u b)
theorem bM.wid {S:List Nat} {w:World} {b:Nat} (h:bM [] w b):bM S w b:=h.elim (fun h=>by simp at h) .inr
theorem bM.lift {S S':List Nat} {w w':World} (M:Md S w w'):∀b,bM [] w' b→bM S' w b:=fun _ hb=>hb.elim (fun h=>by simp at h) (fun h=>.inr (ly M.size h))
theorem bP {x b:Nat} {l:List Nat} (h:x≠b) (k:x∉l):x∉b :: l:=by simp[h,k]
theorem cL {x:Nat} {l m:List Nat} (h:x∉l) (k:x∉m):x∉l ++ m:=by simp[h,k]
theorem dr {P:Nat→Prop} {b:Nat} {l:List Nat} (h:P b) (k:∀i∈l,P i):∀i∈b :: l,P i:=by
  intro i A
  rcases List.mem_cons.1 A with A|A
  · rw[A];exact h
  exact k i A
theorem e7 {P:Nat→Prop} {l m:List Nat} (h:∀i∈l,P i) (k:∀i∈m,P i):∀i∈l ++ m,P i:=by intro i A;exact(List.mem_append.1 A).elim (h i) (k i)
theorem all_nil {P:Nat→Prop}:∀i∈([]:List Nat),P i:=by simp
theorem iL {P:Nat→Prop} {v:Value} (h:∀b,ah v=some b→P b):∀i∈(ah v).toList,P i:=by
  intro i A
  cases hv:ah v with
  | none=>rw[hv]at A;simp at A
  | some b=>rw[hv]at A;simp at A;subst A;exact h _ hv
def nG (w w':World) (Q Q':Nat→Prop):Prop:=(∀b,Q b→b<w.heap.size→Q' b)∧(∀b,Q' b→Q b)∧Up w' Q'
section
variable {α β:Type} {T:Dt α} {U:Dt β} {w w':World} {Q Q':Nat→Prop} {v:Value} {xs:List α}
theorem Ls.head {hi:Nat} (h:Ls T w Q v xs) (h2:hi≤xs.length):Ls T w Q (jQ T.n v 0 hi) (xs.take hi):=by simpa using h.part 0 hi (Nat.zero_le _) h2
theorem Ls.tail {lo:Nat} (h:Ls T w Q v xs) (h1:lo≤xs.length):Ls T w Q (jQ T.n v lo xs.length) (xs.drop lo):=by simpa using h.part lo xs.length h1 (Nat.le_refl _)
theorem Ow.eF {e:Nat} {lo lo':Nat→Prop} (h:Ow T e lo w Q v xs) (hl:∀b,ah v=some b→lo' b):Ow T e lo' w Q v xs:=⟨h.1,fun b hb=>⟨hl b hb,(h.2 b hb).2⟩⟩
theorem Ow.lower {e:Nat} {lo lo':Nat→Prop} (h:Ow T e lo w Q v xs) (hl:∀b,lo b→lo' b):Ow T e lo' w Q v xs:=⟨h.1,fun b hb=>⟨hl b (h.2 b hb).1,(h.2 b hb).2⟩⟩
theorem Ow.freeze {e:Nat} {lo:Nat→Prop} (h:Ow T e lo w Q v xs):∃Q':Nat→Prop,(∀b,Q b→Q' b)∧(∀b,Q' b→Q b∨ah v=some b)∧Ls T w Q' v xs :=
  ⟨fun b=>Q b∨ah v=some b,fun _=>.inl,fun _=>id,(h.eF (lo':=fun b=>ah v=some b) fun _ hb=>hb).ls (fun _=>.inl) (fun _=>.inr)⟩
theorem Ow.jc {e:Nat} {lo:Nat→Prop} {v':Value} (h:Ow T e lo w Q v xs) (s:∀b,Q b→Q' b) (t:∀b,Q' b→Q b∨ah v'=some b) (dj:∀b,ah v=some b→b∉(ah v').toList):Ow T e lo w Q' v xs:=by
  obtain⟨⟨C,D,E⟩,B⟩:=h
  exact⟨⟨C,D,E.sub fun b A _=>s b A⟩,fun b A=>⟨(B b A).1,fun F=>(t b F).elim (B b A).2 fun G=>dj b A (by rw[G];simp)⟩⟩
theorem zn {b m:Nat} {s:Ly} (h:By w (.slice (some ⟨b,0,none⟩) m m) s):∃Q':Nat→Prop,(∀x,Q x→Q' x)∧(∀x,Q' x→Q x∨x=b)∧Ls eD w Q' (.slice (some ⟨b,0,none⟩) m m) s :=
  ⟨fun x=>Q x∨x=b,fun _=>.inl,fun _=>id,Ls.of_by h fun x hx _=>.inr (by simp[ah]at hx;exact hx.symm)⟩
theorem Ow.back {e:Nat} {lo:Nat→Prop} (h:Ow T e lo w Q v xs) (t:∀b,Q b→Q' b) (n:∀b,ah v=some b→¬Q' b):Ow T e lo w Q' v xs:=by
  obtain⟨⟨B,C,D⟩,E⟩:=h
  exact⟨⟨B,C,D.sub fun b A _=>t b A⟩,fun b A=>⟨(E b A).1,n b A⟩⟩
theorem xE {b:Nat} {v:Value} (h:b∉(ah v).toList) (k:ah v=some b):False:=h (by rw[k];simp)
theorem Ls.wE {S:List Nat} {i:Nat} {x:α} (h:Ls T w Q v xs) (hi:xs[i]? = some x) (hs:∀b∈S,¬Q b):∀b,ah v=some b→b∉S:=by
  obtain⟨a,B,E,rfl,F,G,H,C,I,J⟩:=h
  intro b A D
  cases a with
  | none=>simp[ah]at A
  | some p =>
    simp[ah]at A
    subst A
    exact hs _ D (C p q (by rintro rfl;simp at hi))
theorem At.md {S:List Nat} {k:Nat} {c:List Value} (h:At w v k c) (m:Md S w w') (hs:∀b,ah v=some b→b∉S):At w' v k c:=by
  obtain⟨p,l,A,rfl,B⟩:=h
  exact⟨p,l,A,q,fun j u C=>m.cell (B j u C) (by rw[Addr.add_block];exact hs _ q)⟩
theorem Ow.fq {e ty b:Nat} {lo:Nat→Prop} {cs:List Value} (h:Ow T e lo w Q v xs) (hB:bO w b cs ty) (hne:Nat.beq e ty=false):∀b',ah v=some b'→b'≠b:=by
  obtain⟨⟨B,A,C⟩,D⟩:=h
  exact A.ne hB hne
theorem WE {e ty b:Nat} {lo:Nat→Prop} {cs:List Value} (hB:bO w b cs ty) (h:Ow T e lo w Q v xs) (hne:Nat.beq e ty=false):∀b',ah v=some b'→b'∉[b] :=
  fun b' hb=>by simpa using h.fq hB hne b' hb
theorem u7 {e ty b:Nat} {lo:Nat→Prop} {cs:List Value} (h:Ow T e lo w Q v xs) (hB:bO w b cs ty) (hne:Nat.beq e ty=false):b∉(ah v).toList:=by
  intro A
  cases hv:ah v with
  | none=>rw[hv]at A;simp at A
  | some c=>rw[hv]at A;simp at A;exact h.fq hB hne c hv A.symm
theorem Own.aen {e e' sz sz' m m':Nat} {v v':Value} {cs cs':List Value} (h:Own w e sz v m cs) (k:Own w e' sz' v' m' cs') (hne:Nat.beq e e'=false):∀b,ah v=some b→ah v'≠some b:=by
  intro b C A
  rcases h.2 with⟨rfl,_⟩|⟨g,F,G,rfl,_,H,_⟩
  · simp[ah]at C
  rcases k.2 with⟨rfl,_⟩|⟨I,D,E,rfl,_,B,_⟩
  · simp[ah]at A
  simp[ah]at C A
  subst C;subst A
  rw[H]at B
  simp at B
  rw[B.2]at hne
  simp at hne
theorem cW {v v':Value} (h:∀x,ah v=some x→ah v'≠some x):∀b,ah v'=some b→b∉(ah v).toList:=by
  intro b B A
  cases hv:ah v with
  | none=>rw[hv]at A;simp at A
  | some c=>rw[hv]at A;simp at A;subst A;exact h _ hv B
theorem kS {v v':Value} (h:∀x,ah v=some x→ah v'≠some x):∀x,ah v'=some x→ah v≠some x:=fun x hx hh=>h x hh hx
theorem WG {e e':Nat} {lo lo':Nat→Prop} {v':Value} {ys:List β} (h:Ow T e lo w Q v xs) (k:Ow U e' lo' w Q' v' ys) (hne:Nat.beq e e'=false):∀b,ah v'=some b→b∉(ah v).toList:=by
  intro b C A
  obtain⟨⟨E,B,G⟩,H⟩:=h
  obtain⟨⟨F,D,I⟩,J⟩:=k
  cases hv:ah v with
  | none=>rw[hv]at A;simp at A
  | some c=>rw[hv]at A;simp at A;subst A;exact B.aen D hne _ hv C
theorem aB {e ty b:Nat} {lo:Nat→Prop} {cs:List Value} (hB:bO w b cs ty) (h:Ow T e lo w Q v xs) (hne:Nat.beq e ty=false:=by decide):∀b',ah v=some b'→b'∉[b]:=WE hB h hne
theorem aW {e ty b:Nat} {lo:Nat→Prop} {cs:List Value} (h:Ow T e lo w Q v xs) (hB:bO w b cs ty) (hne:Nat.beq e ty=false:=by decide):b∉(ah v).toList:=u7 h hB hne
theorem aO {e e':Nat} {lo lo':Nat→Prop} {v':Value} {ys:List β} (h:Ow T e lo w Q v xs) (k:Ow U e' lo' w Q' v' ys) (hne:Nat.beq e e'=false:=by decide):∀b,ah v'=some b→b∉(ah v).toList:=WG h k hne
end
section
variable {P:Program} {Q:Exit→Act→World→Prop} {n:Nat} {A:Fr n} {D:List Deferred} {l:List (Nat × Value)} {w:World}
def Joins (n:Nat) (D:List Deferred) (l1:Bool→List (Nat × Value)) (R:Bool→World→Prop) (a:Act) (w:World):Prop:=∃(b:Bool) (B:Fr n),a=bw B D (l1 b)∧R b w
theorem yB {id:Nat} {lo:List Oper} (l1:Bool→List (Nat × Value)) (R:Bool→World→Prop)
    (h:wpList P lo.toArray (fun e a w'=>e = .normal∧Joins n D l1 R a w') lo (bw A D l) w)
    (k:∀(b:Bool) (B:Fr n) (w':World),R b w'→Q .normal (bw B D (l1 b)) w'):(Code.region id lo.toArray false).wp P Q (bw A D l) w:=by
  refine wp_mono (ax (Q:=fun e a w'=>e = .normal∧Joins n D l1 R a w') h) ?_
  rintro e a w' ⟨rfl,b,B,rfl,C⟩
  exact k b B w' C
theorem jn {l1:Bool→List (Nat × Value)} {R:Bool→World→Prop} (b:Bool) (hf:Fits n l (l1 b)) (hR:R b w):Joins n D l1 R (bw A D l) w :=
  ⟨b,_,(dz (A:=A) (D:=D) hf).symm,hR⟩
theorem og {G:Prop} (b:Bool) (h1:b=true→G) (h0:b=false→G):G:=by cases b<;>simp_all
end
end Go.Wk
namespace Go.Wk
open Go Go.RowKit
def nA (n:Int):Bool:=decide (n=1∨n=2∨n=4∨n=8)
def MF:List UInt8→Nat
  | []=>0
  | b :: r=>b.toNat+256*MF r
def pL (l:Ly) (a n:Int):Nat × Bool :=
  if nA n=true∧0≤a∧a+n≤l.length then(MF ((l.drop a.toNat).take n.toNat),true)else(0,false)
theorem aei (l:Ly):MF l<256 ^ l.length:=by
  induction l with
  | nil=>simp[MF]
  | cons b r ih =>
    simp only[MF,List.length_cons,Nat.pow_succ]
    have:=UInt8.toNat_lt b
    omega
theorem sJ {l:Ly} {k:Nat} (h:l.length≤k):MF l<256 ^ k:=lj (aei l) (Nat.pow_le_pow_right Ok h)
theorem IG {l:Ly} {i k:Nat} {x:UInt8} (h:l[i]? = some x):MF ((l.drop i).take (k+1))=x.toNat+256*MF ((l.drop (i+1)).take k):=by
  rw[di h];rfl
theorem xN {l:Ly} {a n:Int} (h:¬(nA n=true∧0≤a∧a+n≤l.length)):pL l a n=(0,false):=if_neg h
theorem eZ {n:Int}:nA n=true↔(n=1∨n=2∨n=4∨n=8):=by simp[nA]
theorem wP {n:Int} (h:nA n=true):1≤n∧n≤8:=by rw[eZ]at h;omega
end Go.Wk
namespace Go.Wk
open Go Go.RowKit
def nj (l:List Nat):List Value:=[.int .u64 ((l.getD 0 0:Nat):Int),.int .u64 ((l.getD 1 0:Nat):Int),.int .u64 ((l.getD 2 0:Nat):Int),.int .u64 ((l.getD 3 0:Nat):Int),.int .u64 ((l.getD 4 0:Nat):Int),.int .u64 ((l.getD 5 0:Nat):Int),.int .u64 ((l.getD 6 0:Nat):Int),.int .u64 ((l.getD 7 0:Nat):Int),.int .u64 ((l.getD 8 0:Nat):Int),.int .u64 ((l.getD 9 0:Nat):Int),.int .u64 ((l.getD 10 0:Nat):Int),.int .u64 ((l.getD 11 0:Nat):Int),.int .u64 ((l.getD 12 0:Nat):Int),.int .u64 ((l.getD 13 0:Nat):Int),.int .u64 ((l.getD 14 0:Nat):Int),.int .u64 ((l.getD 15 0:Nat):Int),.int .u64 ((l.getD 16 0:Nat):Int),.int .u64 ((l.getD 17 0:Nat):Int),.int .u64 ((l.getD 18 0:Nat):Int),.int .u64 ((l.getD 19 0:Nat):Int)]
theorem qy {l:List Nat} (h:l.length=20):nj l=l.map fun x=>.int .u64 (x:Int):=by
  apply List.ext_getElem
  · simp[nj,h]
  intro i C E
  simp[nj]at C
  simp only[List.getElem_map]
  have B:i<l.length:=by omega
  rcases Nat.lt_or_ge i 7 with D|D
  · rcases(show i=0∨i=1∨i=2∨i=3∨i=4∨i=5∨i=6 by omega)with rfl|rfl|rfl|rfl|rfl|rfl|rfl <;> simp[nj,List.getD,B]
  skip
  rcases Nat.lt_or_ge i 14 with A|A
  · rcases(show i=7∨i=8∨i=9∨i=10∨i=11∨i=12∨i=13 by omega)with rfl|rfl|rfl|rfl|rfl|rfl|rfl <;> simp[nj,List.getD,B]
  skip
  rcases(show i=14∨i=15∨i=16∨i=17∨i=18∨i=19 by omega)with rfl|rfl|rfl|rfl|rfl|rfl <;> simp[nj,List.getD,B]
theorem z6 {l:List Nat} {k v:Nat} (h:l.length=20) (hk:k<20):nj (l.set k v)=(nj l).set k (.int .u64 (v:Int)):=by
  rw[qy h,qy (by simpa using h),List.map_set]
def acB:Dt (List Nat) where
  n:=20
  pos:=by decide
  nM _ _ cs x:=cs=nj x∧x.length=20∧∀y∈x,y<18446744073709551616
  len:=by rintro _ _ _ _ ⟨rfl,_⟩;rfl
  one:=by
    rintro _ _ _ _ ⟨rfl,h,_⟩ u hu
    rw[qy h]at hu
    obtain⟨x,_,rfl⟩:=List.mem_map.1 hu
    rfl
  md:=fun h _ _=>h
  sub:=fun h _=>h
def nk (l:List Nat):List Value:=[.int .u64 ((l.getD 0 0:Nat):Int),.int .u64 ((l.getD 1 0:Nat):Int),.int .u64 ((l.getD 2 0:Nat):Int),.int .u64 ((l.getD 3 0:Nat):Int),.int .u64 ((l.getD 4 0:Nat):Int),.int .u64 ((l.getD 5 0:Nat):Int),.int .u64 ((l.getD 6 0:Nat):Int),.int .u64 ((l.getD 7 0:Nat):Int),.int .u64 ((l.getD 8 0:Nat):Int),.int .u64 ((l.getD 9 0:Nat):Int),.int .u64 ((l.getD 10 0:Nat):Int),.int .u64 ((l.getD 11 0:Nat):Int),.int .u64 ((l.getD 12 0:Nat):Int),.int .u64 ((l.getD 13 0:Nat):Int),.int .u64 ((l.getD 14 0:Nat):Int),.int .u64 ((l.getD 15 0:Nat):Int),.int .u64 ((l.getD 16 0:Nat):Int),.int .u64 ((l.getD 17 0:Nat):Int),.int .u64 ((l.getD 18 0:Nat):Int),.int .u64 ((l.getD 19 0:Nat):Int),.int .u64 ((l.getD 20 0:Nat):Int)]
theorem uj {l:List Nat} (h:l.length=21):nk l=l.map fun x=>.int .u64 (x:Int):=by
  apply List.ext_getElem
  · simp[nk,h]
  intro i C E
  simp[nk]at C
  simp only[List.getElem_map]
  have B:i<l.length:=by omega
  rcases Nat.lt_or_ge i 7 with D|D
  · rcases(show i=0∨i=1∨i=2∨i=3∨i=4∨i=5∨i=6 by omega)with rfl|rfl|rfl|rfl|rfl|rfl|rfl <;> simp[nk,List.getD,B]
  skip
  rcases Nat.lt_or_ge i 14 with A|A
  · rcases(show i=7∨i=8∨i=9∨i=10∨i=11∨i=12∨i=13 by omega)with rfl|rfl|rfl|rfl|rfl|rfl|rfl <;> simp[nk,List.getD,B]
  skip
  rcases(show i=14∨i=15∨i=16∨i=17∨i=18∨i=19∨i=20 by omega)with rfl|rfl|rfl|rfl|rfl|rfl|rfl <;> simp[nk,List.getD,B]
theorem MO {l:List Nat} {k v:Nat} (h:l.length=21) (hk:k<21):nk (l.set k v)=(nk l).set k (.int .u64 (v:Int)):=by
  rw[uj h,uj (by simpa using h),List.map_set]
def acC:Dt (List Nat) where
  n:=21
  pos:=by decide
  nM _ _ cs x:=cs=nk x∧x.length=21∧∀y∈x,y<18446744073709551616
  len:=by rintro _ _ _ _ ⟨rfl,_⟩;rfl
  one:=by
    rintro _ _ _ _ ⟨rfl,h,_⟩ u hu
    rw[uj h]at hu
    obtain⟨x,_,rfl⟩:=List.mem_map.1 hu
    rfl
  md:=fun h _ _=>h
  sub:=fun h _=>h
theorem cA {a b:List Value} (h:a.all (fun u=>u.oneCell')=true) (h2:b.all (fun u=>u.oneCell')=true):(a ++ b).all (fun u=>u.oneCell')=true:=by rw[List.all_append,h,h2];rfl
theorem lJ {v:Value} (h:v.oneCell'=true):[v].all (fun u=>u.oneCell')=true:=by simp[h]
theorem jq (l:Ly):(iP l).all (fun u=>u.oneCell')=true:=List.all_eq_true.2 (xY l)
theorem lg (n:Nat):(List.replicate n 0).length=n∧∀y∈List.replicate n 0,y<18446744073709551616:=⟨by simp,by simp⟩
theorem z7 {l:List Nat} {n k v:Nat} (h:l.length=n∧∀y∈l,y<18446744073709551616) (hv:v<18446744073709551616):(l.set k v).length=n∧∀y∈l.set k v,y<18446744073709551616 :=
  ⟨by simpa using h.1,fun y hy=>(List.mem_or_eq_of_mem_set hy).elim (h.2 y) (fun e=>e ▸ hv)⟩
theorem fJ {l:List Nat} {n:Nat} (h:l.length=n∧∀y∈l,y<18446744073709551616) (k:Nat):l.getD k 0<18446744073709551616:=by
  rw[List.getD_eq_getElem?_getD]
  cases hk:l[k]? with
  | none=>simp
  | some y=>simpa using h.2 y (List.mem_of_getElem? hk)
structure Pr where
  name:List UInt8
  value:List UInt8
def Pr.cells (x:Pr):List Value :=
  [(str x.name)] ++ ([(str x.value)])
def nD:Dt Pr:=ri (fun x=>(x.name,x.value)) (fu ij ij)
theorem iy {w:World} {Q:Nat→Prop} {cs:List Value} {x:Pr} (h:nD.nM w Q cs x):∃(_:True),cs=x.cells:=by
  obtain⟨_,_,rfl,⟨rfl,_⟩,⟨rfl,_⟩⟩:=h
  exact⟨trivial,q⟩
theorem lT {w:World} {Q:Nat→Prop} {x:Pr}:nD.nM w Q (x.cells) x :=
  ⟨_,_,q,⟨q,tV⟩,⟨q,tV⟩⟩
theorem Pr.one {x:Pr}:(x.cells).all (fun u=>u.oneCell')=true:=(cA q q)
structure Rec where
  seq:Nat
  dn:Nat
  mono:Nat
  cG:List UInt8
  ay:List Pr
def Rec.cells (x:Rec) (v0:Value):List Value :=
  [(.int .u64 x.seq)] ++ ([(.int .u64 x.dn)] ++ ([(.int .u64 x.mono)] ++ ((iP x.cG) ++ ([v0]))))
def acD:Dt Rec:=ri (fun x=>(x.seq,x.dn,x.mono,x.cG,x.ay)) (fu dw (fu dw (fu dw (fu VT (ql nD)))))
def Rec.ok (x:Rec):Prop:=x.seq<18446744073709551616∧x.dn<18446744073709551616∧x.mono<18446744073709551616∧x.cG.length=16
theorem acE {w:World} {Q:Nat→Prop} {x:Rec} {v0:Value} (c0:Rec.ok x) (c1:Ls nD w Q v0 x.ay):acD.nM w Q (x.cells v0) x :=
  ⟨_,_,q,⟨q,c0.1⟩,⟨_,_,q,⟨q,c0.2.1⟩,⟨_,_,q,⟨q,c0.2.2.1⟩,⟨_,_,q,⟨q,c0.2.2.2⟩,⟨_,q,c1⟩⟩⟩⟩⟩
theorem Rec.one {x:Rec} {v0:Value} (h0:v0.oneCell'=true):(x.cells v0).all (fun u=>u.oneCell')=true:=(cA q (cA q (cA q (cA (jq _) (lJ h0)))))
structure Frame where
  kind:Nat
  flags:Nat
  size:Nat
structure fU where
  cQ:Nat
  bS:Nat
  dW:Nat
  entry:Nat
  array:Nat
  bW:Nat
  aZ:List UInt8
def fU.cells (x:fU) (v0:Value):List Value :=
  [(.int .u64 x.cQ)] ++ ([(.int .u64 x.bS)] ++ ([(.int .u64 x.dW)] ++ ([(.int .u64 x.entry)] ++ ([(.int .u64 x.array)] ++ ([(.int .u64 x.bW)] ++ ([v0]))))))
def fU.ok (x:fU):Prop:=x.cQ<18446744073709551616∧x.bS<18446744073709551616∧x.dW<18446744073709551616∧x.entry<18446744073709551616∧x.array<18446744073709551616∧x.bW<18446744073709551616
theorem fU.one {x:fU} {v0:Value} (h0:v0.oneCell'=true):(x.cells v0).all (fun u=>u.oneCell')=true:=(cA q (cA q (cA q (cA q (cA q (cA q (lJ h0)))))))
structure iR where
  cQ:Nat
  bS:Nat
  dat:Nat
  aZ:List UInt8
def iR.cells (x:iR) (v0:Value):List Value :=
  [(.int .u64 x.cQ)] ++ ([(.int .u64 x.bS)] ++ ([(.int .u64 x.dat)] ++ ([v0])))
def iR.ok (x:iR):Prop:=x.cQ<18446744073709551616∧x.bS<18446744073709551616∧x.dat<18446744073709551616
theorem iR.one {x:iR} {v0:Value} (h0:v0.oneCell'=true):(x.cells v0).all (fun u=>u.oneCell')=true:=(cA q (cA q (cA q (lJ h0))))
structure kQ where
  pos:Nat
  cQ:Nat
def kQ.cells (x:kQ):List Value :=
  [(.int .u64 x.pos)] ++ ([(.int .u64 x.cQ)])
def xH:Dt kQ:=ri (fun x=>(x.pos,x.cQ)) (fu dw dw)
def kQ.ok (x:kQ):Prop:=x.pos<18446744073709551616∧x.cQ<18446744073709551616
theorem vG {w:World} {Q:Nat→Prop} {cs:List Value} {x:kQ} (h:xH.nM w Q cs x):∃(_:True),cs=x.cells∧kQ.ok x:=by
  obtain⟨_,_,rfl,⟨rfl,A⟩,⟨rfl,B⟩⟩:=h
  exact⟨trivial,q,⟨A,B⟩⟩
theorem QI {w:World} {Q:Nat→Prop} {x:kQ} (c0:kQ.ok x):xH.nM w Q (x.cells) x :=
  ⟨_,_,q,⟨q,c0.1⟩,⟨q,c0.2⟩⟩
theorem kQ.one {x:kQ}:(x.cells).all (fun u=>u.oneCell')=true:=(cA q q)
structure gN where
  seq:Nat
  dn:Nat
  mono:Nat
  cG:List UInt8
  xor:Nat
  bJ:List kQ
def gN.cells (x:gN) (v0:Value):List Value :=
  [(.int .u64 x.seq)] ++ ([(.int .u64 x.dn)] ++ ([(.int .u64 x.mono)] ++ ((iP x.cG) ++ ([(.int .u64 x.xor)] ++ ([v0])))))
def gN.ok (x:gN):Prop:=x.seq<18446744073709551616∧x.dn<18446744073709551616∧x.mono<18446744073709551616∧x.cG.length=16∧x.xor<18446744073709551616
theorem gN.one {x:gN} {v0:Value} (h0:v0.oneCell'=true):(x.cells v0).all (fun u=>u.oneCell')=true:=(cA q (cA q (cA q (cA (jq _) (cA q (lJ h0))))))
structure iq where
  next:Nat
  bJ:List Nat
def iq.cells (x:iq) (v0:Value):List Value :=
  [(.int .u64 x.next)] ++ ([v0])
def iq.ok (x:iq):Prop:=x.next<18446744073709551616
theorem iq.one {x:iq} {v0:Value} (h0:v0.oneCell'=true):(x.cells v0).all (fun u=>u.oneCell')=true:=(cA q (lJ h0))
structure mY where
  first:Nat
  tail:Nat
def mY.cells (x:mY):List Value :=
  [(.int .u64 x.first)] ++ ([(.int .u64 x.tail)])
def BF:Dt mY:=ri (fun x=>(x.first,x.tail)) (fu dw dw)
def mY.ok (x:mY):Prop:=x.first<18446744073709551616∧x.tail<18446744073709551616
theorem FW {w:World} {Q:Nat→Prop} {cs:List Value} {x:mY} (h:BF.nM w Q cs x):∃(_:True),cs=x.cells∧mY.ok x:=by
  obtain⟨_,_,rfl,⟨rfl,A⟩,⟨rfl,B⟩⟩:=h
  exact⟨trivial,q,⟨A,B⟩⟩
theorem FV {w:World} {Q:Nat→Prop} {x:mY} (c0:mY.ok x):BF.nM w Q (x.cells) x :=
  ⟨_,_,q,⟨q,c0.1⟩,⟨q,c0.2⟩⟩
structure eK where
  gK:Nat
  cF:Nat
  state:Nat
  dI:List UInt8
  dO:List UInt8
  cG:List UInt8
  seq:List UInt8
  n:List Nat
  dD:Nat
  dK:Nat
  dJ:Nat
def eK.cells (x:eK):List Value :=
  [(.int .u32 x.gK)] ++ ([(.int .u32 x.cF)] ++ ([(.int .i64 x.state)] ++ ((iP x.dI) ++ ((iP x.dO) ++ ((iP x.cG) ++ ((iP x.seq) ++ ((nj x.n) ++ ([(.int .u32 x.dD)] ++ ([(.int .u32 x.dK)] ++ ([(.int .u64 x.dJ)]))))))))))
def NR:Dt eK:=ri (fun x=>(x.gK,x.cF,x.state,x.dI,x.dO,x.cG,x.seq,x.n,x.dD,x.dK,x.dJ)) (fu tU32 (fu tU32 (fu ez (fu VT (fu VT (fu VT (fu VT (fu (acB) (fu tU32 (fu tU32 dw))))))))))
def eK.ok (x:eK):Prop:=x.gK<4294967296∧x.cF<4294967296∧x.state<9223372036854775808∧x.dI.length=16∧x.dO.length=16∧x.cG.length=16∧x.seq.length=16∧(x.n.length=20∧∀y∈x.n,y<18446744073709551616)∧x.dD<4294967296∧x.dK<4294967296∧x.dJ<18446744073709551616
theorem VE {w:World} {Q:Nat→Prop} {cs:List Value} {x:eK} (h:NR.nM w Q cs x):∃(_:True),cs=x.cells∧eK.ok x:=by
  obtain⟨_,_,rfl,⟨rfl,B⟩,⟨_,_,rfl,⟨rfl,C⟩,⟨_,_,rfl,⟨rfl,D⟩,⟨_,_,rfl,⟨rfl,E⟩,⟨_,_,rfl,⟨rfl,F⟩,⟨_,_,rfl,⟨rfl,G⟩,⟨_,_,rfl,⟨rfl,H⟩,⟨_,_,rfl,⟨rfl,I⟩,⟨_,_,rfl,⟨rfl,J⟩,⟨_,_,rfl,⟨rfl,K⟩,⟨rfl,A⟩⟩⟩⟩⟩⟩⟩⟩⟩⟩⟩:=h
  exact⟨trivial,q,⟨B,C,D,E,F,G,H,I,J,K,A⟩⟩
theorem VD {w:World} {Q:Nat→Prop} {x:eK} (c0:eK.ok x):NR.nM w Q (x.cells) x :=
  ⟨_,_,q,⟨q,c0.1⟩,⟨_,_,q,⟨q,c0.2.1⟩,⟨_,_,q,⟨q,c0.2.2.1⟩,⟨_,_,q,⟨q,c0.2.2.2.1⟩,⟨_,_,q,⟨q,c0.2.2.2.2.1⟩,⟨_,_,q,⟨q,c0.2.2.2.2.2.1⟩,⟨_,_,q,⟨q,c0.2.2.2.2.2.2.1⟩,⟨_,_,q,⟨q,c0.2.2.2.2.2.2.2.1⟩,⟨_,_,q,⟨q,c0.2.2.2.2.2.2.2.2.1⟩,⟨_,_,q,⟨q,c0.2.2.2.2.2.2.2.2.2.1⟩,⟨q,c0.2.2.2.2.2.2.2.2.2.2⟩⟩⟩⟩⟩⟩⟩⟩⟩⟩⟩
theorem eK.one {x:eK}:(x.cells).all (fun u=>u.oneCell')=true:=(cA q (cA q (cA q (cA (jq _) (cA (jq _) (cA (jq _) (cA (jq _) (cA q (cA q (cA q q))))))))))
structure bR where
  gK:Nat
  cF:Nat
  state:Nat
  dI:List UInt8
  dO:List UInt8
  cG:List UInt8
  seq:List UInt8
  n:List Nat
  dD:Nat
  dK:Nat
  dJ:Nat
def bR.cells (x:bR):List Value :=
  [(.int .u32 x.gK)] ++ ([(.int .u32 x.cF)] ++ ([(.int .i64 x.state)] ++ ((iP x.dI) ++ ((iP x.dO) ++ ((iP x.cG) ++ ((iP x.seq) ++ ((nk x.n) ++ ([(.int .u32 x.dD)] ++ ([(.int .u32 x.dK)] ++ ([(.int .u64 x.dJ)]))))))))))
def NQ:Dt bR:=ri (fun x=>(x.gK,x.cF,x.state,x.dI,x.dO,x.cG,x.seq,x.n,x.dD,x.dK,x.dJ)) (fu tU32 (fu tU32 (fu ez (fu VT (fu VT (fu VT (fu VT (fu (acC) (fu tU32 (fu tU32 dw))))))))))
def bR.ok (x:bR):Prop:=x.gK<4294967296∧x.cF<4294967296∧x.state<9223372036854775808∧x.dI.length=16∧x.dO.length=16∧x.cG.length=16∧x.seq.length=16∧(x.n.length=21∧∀y∈x.n,y<18446744073709551616)∧x.dD<4294967296∧x.dK<4294967296∧x.dJ<18446744073709551616
theorem VB {w:World} {Q:Nat→Prop} {cs:List Value} {x:bR} (h:NQ.nM w Q cs x):∃(_:True),cs=x.cells∧bR.ok x:=by
  obtain⟨_,_,rfl,⟨rfl,B⟩,⟨_,_,rfl,⟨rfl,C⟩,⟨_,_,rfl,⟨rfl,D⟩,⟨_,_,rfl,⟨rfl,E⟩,⟨_,_,rfl,⟨rfl,F⟩,⟨_,_,rfl,⟨rfl,G⟩,⟨_,_,rfl,⟨rfl,H⟩,⟨_,_,rfl,⟨rfl,I⟩,⟨_,_,rfl,⟨rfl,J⟩,⟨_,_,rfl,⟨rfl,K⟩,⟨rfl,A⟩⟩⟩⟩⟩⟩⟩⟩⟩⟩⟩:=h
  exact⟨trivial,q,⟨B,C,D,E,F,G,H,I,J,K,A⟩⟩
theorem VA {w:World} {Q:Nat→Prop} {x:bR} (c0:bR.ok x):NQ.nM w Q (x.cells) x :=
  ⟨_,_,q,⟨q,c0.1⟩,⟨_,_,q,⟨q,c0.2.1⟩,⟨_,_,q,⟨q,c0.2.2.1⟩,⟨_,_,q,⟨q,c0.2.2.2.1⟩,⟨_,_,q,⟨q,c0.2.2.2.2.1⟩,⟨_,_,q,⟨q,c0.2.2.2.2.2.1⟩,⟨_,_,q,⟨q,c0.2.2.2.2.2.2.1⟩,⟨_,_,q,⟨q,c0.2.2.2.2.2.2.2.1⟩,⟨_,_,q,⟨q,c0.2.2.2.2.2.2.2.2.1⟩,⟨_,_,q,⟨q,c0.2.2.2.2.2.2.2.2.2.1⟩,⟨q,c0.2.2.2.2.2.2.2.2.2.2⟩⟩⟩⟩⟩⟩⟩⟩⟩⟩⟩
theorem bR.one {x:bR}:(x.cells).all (fun u=>u.oneCell')=true:=(cA q (cA q (cA q (cA (jq _) (cA (jq _) (cA (jq _) (cA (jq _) (cA q (cA q (cA q q))))))))))
structure dH where
  b:List UInt8
  h:bR
def dH.cells (x:dH) (v0:Value):List Value :=
  [v0] ++ ((bR.cells x.h))
def dR:Dt dH:=ri (fun x=>(x.b,x.h)) (fu (ql eD) NQ)
def dH.ok (x:dH):Prop:=bR.ok x.h
theorem e6 {w:World} {Q:Nat→Prop} {cs:List Value} {x:dH} (h:dR.nM w Q cs x):∃v0,cs=x.cells v0∧dH.ok x∧Ls eD w Q v0 x.b:=by
  obtain⟨_,_,rfl,⟨v0,rfl,B⟩,C⟩:=h
  obtain⟨_,rfl,A⟩:=VB C
  exact⟨v0,q,A,B⟩
theorem d8 {w:World} {Q:Nat→Prop} {x:dH} {v0:Value} (c0:dH.ok x) (c1:Ls eD w Q v0 x.b):dR.nM w Q (x.cells v0) x :=
  ⟨_,_,q,⟨_,q,c1⟩,(VA c0)⟩
structure mW where
  dI:List UInt8
  dO:List UInt8
  seq:List UInt8
  bC:Nat
  bA:Nat
  bT:Nat
  e5:Bool
def mW.cells (x:mW):List Value :=
  (iP x.dI) ++ ((iP x.dO) ++ ((iP x.seq) ++ ([(.int .i64 x.bC)] ++ ([(.int .i64 x.bA)] ++ ([(.int .i64 x.bT)] ++ ([(.bool x.e5)]))))))
def aeO:Dt mW:=ri (fun x=>(x.dI,x.dO,x.seq,x.bC,x.bA,x.bT,x.e5)) (fu VT (fu VT (fu VT (fu ez (fu ez (fu ez ad5))))))
def mW.ok (x:mW):Prop:=x.dI.length=16∧x.dO.length=16∧x.seq.length=16∧x.bC<9223372036854775808∧x.bA<9223372036854775808∧x.bT<9223372036854775808
theorem acA {w:World} {Q:Nat→Prop} {cs:List Value} {x:mW} (h:aeO.nM w Q cs x):∃(_:True),cs=x.cells∧mW.ok x:=by
  obtain⟨_,_,rfl,⟨rfl,A⟩,⟨_,_,rfl,⟨rfl,B⟩,⟨_,_,rfl,⟨rfl,C⟩,⟨_,_,rfl,⟨rfl,D⟩,⟨_,_,rfl,⟨rfl,E⟩,⟨_,_,rfl,⟨rfl,F⟩,⟨rfl,_⟩⟩⟩⟩⟩⟩⟩:=h
  exact⟨trivial,q,⟨A,B,C,D,E,F⟩⟩
theorem ac9 {w:World} {Q:Nat→Prop} {x:mW} (c0:mW.ok x):aeO.nM w Q (x.cells) x :=
  ⟨_,_,q,⟨q,c0.1⟩,⟨_,_,q,⟨q,c0.2.1⟩,⟨_,_,q,⟨q,c0.2.2.1⟩,⟨_,_,q,⟨q,c0.2.2.2.1⟩,⟨_,_,q,⟨q,c0.2.2.2.2.1⟩,⟨_,_,q,⟨q,c0.2.2.2.2.2⟩,⟨q,tV⟩⟩⟩⟩⟩⟩⟩
theorem mW.one {x:mW}:(x.cells).all (fun u=>u.oneCell')=true:=(cA (jq _) (cA (jq _) (cA (jq _) (cA q (cA q (cA q q))))))
structure cr where
  gF:List UInt8
  pos:Nat
  eu:Nat
  bW:Nat
  bK:List Nat
def cr.cells (x:cr) (v0:Value):List Value :=
  [(str x.gF)] ++ ([(.int .u64 x.pos)] ++ ([(.int .i64 x.eu)] ++ ([(.int .i64 x.bW)] ++ ([v0]))))
def dc:Dt cr:=ri (fun x=>(x.gF,x.pos,x.eu,x.bW,x.bK)) (fu ij (fu dw (fu ez (fu ez (ql dw)))))
def cr.ok (x:cr):Prop:=x.pos<18446744073709551616∧x.eu<9223372036854775808∧x.bW<9223372036854775808
theorem iH {w:World} {Q:Nat→Prop} {cs:List Value} {x:cr} (h:dc.nM w Q cs x):∃v0,cs=x.cells v0∧cr.ok x∧Ls dw w Q v0 x.bK:=by
  obtain⟨_,_,rfl,⟨rfl,_⟩,⟨_,_,rfl,⟨rfl,A⟩,⟨_,_,rfl,⟨rfl,B⟩,⟨_,_,rfl,⟨rfl,C⟩,⟨v0,rfl,D⟩⟩⟩⟩⟩:=h
  exact⟨v0,q,⟨A,B,C⟩,D⟩
theorem qi {w:World} {Q:Nat→Prop} {x:cr} {v0:Value} (c0:cr.ok x) (c1:Ls dw w Q v0 x.bK):dc.nM w Q (x.cells v0) x :=
  ⟨_,_,q,⟨q,tV⟩,⟨_,_,q,⟨q,c0.1⟩,⟨_,_,q,⟨q,c0.2.1⟩,⟨_,_,q,⟨q,c0.2.2⟩,⟨_,q,c1⟩⟩⟩⟩⟩
theorem cr.one {x:cr} {v0:Value} (h0:v0.oneCell'=true):(x.cells v0).all (fun u=>u.oneCell')=true:=(cA q (cA q (cA q (cA q (lJ h0)))))
structure Mk where
  c:mW
  h:eK
  depth:Nat
  b:List UInt8
  aT:List cr
  ay:List cr
  main:List Nat
def Mk.cells (x:Mk) (v0:Value) (v1:Value) (v2:Value) (v3:Value):List Value :=
  (mW.cells x.c) ++ ((eK.cells x.h) ++ ([(.int .u64 x.depth)] ++ ([v0] ++ ([v1] ++ ([v2] ++ ([v3]))))))
def tMk:Dt Mk:=ri (fun x=>(x.c,x.h,x.depth,x.b,x.aT,x.ay,x.main)) (fu aeO (fu NR (fu dw (fu (ql eD) (fu (ql dc) (fu (ql dc) (ql dw)))))))
def Mk.ok (x:Mk):Prop:=mW.ok x.c∧eK.ok x.h∧x.depth<18446744073709551616
theorem aeQ {w:World} {Q:Nat→Prop} {cs:List Value} {x:Mk} (h:tMk.nM w Q cs x):∃v0 v1 v2 v3,cs=x.cells v0 v1 v2 v3∧Mk.ok x∧Ls eD w Q v0 x.b∧Ls dc w Q v1 x.aT∧Ls dc w Q v2 x.ay∧Ls dw w Q v3 x.main:=by
  obtain⟨_,_,rfl,C,⟨_,_,rfl,D,⟨_,_,rfl,⟨rfl,E⟩,⟨_,_,rfl,⟨v0,rfl,F⟩,⟨_,_,rfl,⟨v1,rfl,G⟩,⟨_,_,rfl,⟨v2,rfl,H⟩,⟨v3,rfl,I⟩⟩⟩⟩⟩⟩⟩:=h
  obtain⟨_,rfl,A⟩:=acA C
  obtain⟨_,rfl,B⟩:=VE D
  exact⟨v0,v1,v2,v3,q,⟨A,B,E⟩,F,G,H,I⟩
theorem aeP {w:World} {Q:Nat→Prop} {x:Mk} {v0:Value} {v1:Value} {v2:Value} {v3:Value} (c0:Mk.ok x) (c1:Ls eD w Q v0 x.b) (c2:Ls dc w Q v1 x.aT) (c3:Ls dc w Q v2 x.ay) (c4:Ls dw w Q v3 x.main):tMk.nM w Q (x.cells v0 v1 v2 v3) x :=
  ⟨_,_,q,(ac9 c0.1),⟨_,_,q,(VD c0.2.1),⟨_,_,q,⟨q,c0.2.2⟩,⟨_,_,q,⟨_,q,c1⟩,⟨_,_,q,⟨_,q,c2⟩,⟨_,_,q,⟨_,q,c3⟩,⟨_,q,c4⟩⟩⟩⟩⟩⟩⟩
theorem Mk.one {x:Mk} {v0:Value} {v1:Value} {v2:Value} {v3:Value} (h0:v0.oneCell'=true) (h1:v1.oneCell'=true) (h2:v2.oneCell'=true) (h3:v3.oneCell'=true):(x.cells v0 v1 v2 v3).all (fun u=>u.oneCell')=true:=(cA (mW.one) (cA (eK.one) (cA q (cA (lJ h0) (cA (lJ h1) (cA (lJ h2) (lJ h3)))))))
structure Sq where
  l:List Int
  pos:Nat
def Sq.cells (x:Sq) (v0:Value):List Value :=
  [v0] ++ ([(.int .i64 x.pos)])
def Sq.ok (x:Sq):Prop:=x.pos<9223372036854775808
end Go.Wk
namespace Go.Wk
open Go Go.RowKit
def low:Nat→Nat→List UInt8
  | _,0=>[]
  | v,n+1=>UInt8.ofNat (v%256) :: low (v/256) n
theorem qx (v n:Nat):(low v n).length=n:=by
  induction n generalizing v with
  | zero=>rfl
  | succ n ih=>simp[low,ih]
def nums:List Nat→List UInt8
  | []=>[]
  | v :: r=>low v 8 ++ nums r
theorem gy (l:List Nat):(nums l).length=8*l.length:=by
  induction l with
  | nil=>rfl
  | cons v r ih=>simp[nums,qx,ih];omega
theorem IL (v:Nat) {n i:Nat} (h:i<n):low v (n-i)=UInt8.ofNat (v%256) :: low (v/256) (n-(i+1)):=by
  rw[show n-i=(n-(i+1))+1 by omega];rfl
theorem PE (v:Nat) {n i:Nat} (h:¬i<n):low v (n-i)=[]:=by
  rw[show n-i=0 by omega];rfl
theorem SI {l:List Nat} {i x:Nat} (h:l[i]? = some x):nums (l.drop i)=low x 8 ++ nums (l.drop (i+1)):=by rw[di h];rfl
theorem JB {l:List Nat} {i:Nat} (h:¬i<l.length):nums (l.drop i)=[]:=by rw[eO Ok];rfl
def AY (l:Ly):List UInt8:=l ++ List.replicate ((8-l.length%8)%8) 0
theorem TN {l:Ly} (h:l.length%8≠0):AY l=AY (l ++ [0]):=by
  unfold AY
  rw[List.append_assoc,List.length_append]
  congr 1
  rw[show(8-l.length%8)%8=(8-(l.length+[(0:UInt8)].length)%8)%8+1 by simp;omega,List.replicate_succ]
  rfl
theorem aak {l:Ly} (h:l.length%8=0):AY l=l:=by simp[AY,h]
theorem aal (l:Ly):(AY l).length=(l.length+7)/8*8:=by simp[AY];omega
def zO (kind:Nat) (body:Ly):List UInt8 :=
  if kind<1∨7<kind then[]else AY ([UInt8.ofNat kind,0,0,0,0,0,0,0] ++ nums [16+body.length] ++ body)
def jv (d:fU):List UInt8:=zO 1 (nums [d.cQ,d.bS,d.dW,d.entry,d.array,d.bW] ++ d.aZ)
def iE (d:iR):List UInt8:=zO 2 (nums [d.cQ,d.bS,d.dat] ++ d.aZ)
def js (a:iq):List UInt8:=zO 6 (nums [a.next] ++ nums a.bJ)
def qM:List mY→List UInt8
  | []=>[]
  | s :: r=>nums [s.first,s.tail] ++ qM r
def iF (kind:Nat) (l:List mY):List UInt8:=if kind≠4∧kind≠5 then[]else zO kind (qM l)
def qu:List kQ→List UInt8
  | []=>[]
  | s :: r=>nums [s.pos,s.cQ] ++ qu r
def iD (e:gN):List UInt8:=zO 3 (nums [e.seq,e.dn,e.mono] ++ e.cG ++ nums [e.xor] ++ qu e.bJ)
def HK (h:eK) (depth:Nat):List UInt8 :=
  [76,80,75,83,72,72,82,72] ++ low h.gK 4 ++ low h.cF 4 ++ [UInt8.ofNat h.state,0,0,0,0,0,0,0] ++ h.dI ++ h.dO ++ h.cG ++ h.seq ++ nums h.n ++ nums [depth] ++ low h.dD 4 ++ low h.dK 4 ++ nums [h.dJ]
theorem rX {k:Nat} {b:Ly} (h:1≤k∧k≤7):(zO k b).length=(16+b.length+7)/8*8:=by
  unfold zO
  rw[if_neg Ok,aal]
  simp[gy]
  omega
theorem NK {l:List mY} {i:Nat} {x:mY} (h:l[i]? = some x):qM (l.drop i)=nums [x.first,x.tail] ++ qM (l.drop (i+1)):=by rw[di h];rfl
theorem DT {l:List mY} {i:Nat} (h:¬i<l.length):qM (l.drop i)=[]:=by rw[eO Ok];rfl
theorem UX (l:List mY):(qM l).length=16*l.length:=by
  induction l with
  | nil=>rfl
  | cons v r ih=>simp[qM,gy,ih];omega
theorem LR {l:List kQ} {i:Nat} {x:kQ} (h:l[i]? = some x):qu (l.drop i)=nums [x.pos,x.cQ] ++ qu (l.drop (i+1)):=by rw[di h];rfl
theorem CC {l:List kQ} {i:Nat} (h:¬i<l.length):qu (l.drop i)=[]:=by rw[eO Ok];rfl
theorem RS (l:List kQ):(qu l).length=16*l.length:=by
  induction l with
  | nil=>rfl
  | cons v r ih=>simp[qu,gy,ih];omega
theorem vu (d:fU):(jv d).length=(16+(48+d.aZ.length)+7)/8*8:=by unfold jv;rw[rX Ok];simp[gy]
theorem tE (d:iR):(iE d).length=(16+(24+d.aZ.length)+7)/8*8:=by unfold iE;rw[rX Ok];simp[gy]
theorem t7 (a:iq):(js a).length=(16+(8+8*a.bJ.length)+7)/8*8:=by unfold js;rw[rX Ok];simp[gy]
theorem tC (e:gN) (h:e.cG.length=16):(iD e).length=(16+(48+16*e.bJ.length)+7)/8*8:=by unfold iD;rw[rX Ok];simp[gy,RS,h];omega
theorem tF (kind:Nat) (l:List mY) (h:kind=4∨kind=5):(iF kind l).length=(16+16*l.length+7)/8*8:=by unfold iF;rw[if_neg Ok,rX Ok,UX]
theorem lM (kind:Nat) (l:List mY):(iF kind l).length≤24+16*l.length∧(kind=4∨kind=5→(iF kind l).length=(16+16*l.length+7)/8*8):=by
  refine⟨?_,fun h=>tF kind l h⟩
  by_cases h:kind=4∨kind=5
  · rw[tF kind l h];omega
  unfold iF;rw[if_pos Ok];simp
theorem UM {h:eK} {j v:Nat} (hn:h.n.length=20) (hj:j<20):(eK.cells h).set (67+j) (.int .u64 v)=eK.cells {h with n:=h.n.set j v}:=by
  have e:∀(m:List Nat) (t:eK),t.n=m→eK.cells t=([(.int .u32 t.gK)] ++ ([(.int .u32 t.cF)] ++ ([(.int .i64 t.state)] ++ ((iP t.dI) ++ ((iP t.dO) ++ ((iP t.cG) ++ (iP t.seq))))))) ++ (nj m ++ ([(.int .u32 t.dD)] ++ ([(.int .u32 t.dK)] ++ [(.int .u64 t.dJ)]))):=by
    intro m t C;subst C;simp only[eK.cells,List.append_assoc]
  rw[e h.n h q,e (h.n.set j v) {h with n:=h.n.set j v} q,z6 hn hj]
  have B:([(.int .u32 h.gK)] ++ ([(.int .u32 h.cF)] ++ ([(.int .i64 h.state)] ++ ((iP h.dI) ++ ((iP h.dO) ++ ((iP h.cG) ++ (iP h.seq)))))):List Value).length=67:=rfl
  have A:(nj h.n).length=20:=rfl
  rw[List.set_append_right _ _ Ok,B,Nat.add_sub_cancel_left,List.set_append_left _ _ Ok]
end Go.Wk
namespace Go.Wk
open Go Go.RowKit
theorem BI (op:BinOp) (a b:Int):0≤bits op .u64 a b∧bits op .u64 a b<18446744073709551616:=by
  unfold bits
  cases op <;> simp only[FY] <;> omega
theorem Qh (t:T3):0≤pack t∧pack t<18446744073709551616:=BI _ _ _
theorem YL:∀(k:Nat) (t:T3) (l:Ly),0≤Py k t l∧Py k t l<18446744073709551616
  | 0,t,l=>by unfold Py;split<;>exact Qh _
  | k+1,t,l=>by
    unfold Py
    split
    · exact YL k _ _
    · split<;>exact Qh _
theorem sK (l:Ly):0≤lookup l∧lookup l<18446744073709551616:=YL _ _ _
theorem aaJ (key l:Ly):0≤sip key l∧sip key l<18446744073709551616:=by
  unfold sip AA S4.all kF
  exact BI _ _ _
def qU (l:Ly):Nat:=(lookup l).toNat
def eG (k:Bool) (key l:Ly):Nat:=if k then(sip key l).toNat else qU l
theorem yY (k:Bool) (key l:Ly):((eG k key l:Nat):Int)=if k then sip key l else lookup l:=by
  unfold eG qU
  have A:=sK l
  have B:=aaJ key l
  cases k <;> simp <;> omega
theorem HJ (k:Bool) (key l:Ly):eG k key l<18446744073709551616:=by
  have B:=sK l
  have C:=aaJ key l
  have A:=yY k key l
  cases k <;> simp at A <;> omega
theorem IJ (l:Ly):((qU l:Nat):Int)=lookup l:=by have A:=sK l;unfold qU;omega
theorem IK (l:Ly):qU l<18446744073709551616:=by have A:=sK l;unfold qU;omega
def rq (v:Nat):List (List UInt8)→Nat
  | []=>v
  | b :: r=>rq (v ^^^ qU b) r
theorem KZ {v:Nat} {l:List (List UInt8)} {i:Nat} {x:Ly} (h:l[i]? = some x):rq v (l.drop i)=rq (v ^^^ qU x) (l.drop (i+1)):=by rw[di h];rfl
theorem yj {v:Nat} {l:List (List UInt8)} {i:Nat} (h:¬i<l.length):rq v (l.drop i)=v:=by rw[eO Ok];rfl
theorem KY {a b:Nat} (ha:a<18446744073709551616) (hb:b<18446744073709551616):a ^^^ b<18446744073709551616:=Nat.xor_lt_two_pow (n:=64) ha hb
def aZ (p:Pr):List UInt8:=p.name ++ [61] ++ p.value
theorem gC (p:Pr):(aZ p).length=p.name.length+1+p.value.length:=by simp[aZ];omega
end Go.Wk
namespace Go.Wk
open Go Go.RowKit
def iK (k:Int):Nat:=if k<0 then 0 else if 6<k then 256 else min (4*2 ^ k.toNat) 256
def JP:Nat→List UInt8→Nat→Nat→Nat→List UInt8
  | 0,b,_,_,_=>b
  | n+1,b,p,v,i=>JP n (b.set (p+i) (UInt8.ofNat (v/2 ^ (8*i)))) p v (i+1)
def agD (b:Ly) (p v:Nat):List UInt8:=JP 8 b p v 0
theorem aar (n:Nat) (b:Ly) (p v i:Nat):(JP n b p v i).length=b.length:=by
  induction n generalizing b i with
  | zero=>rfl
  | succ n ih=>simp[JP,ih]
theorem JQ (b:Ly) (p v:Nat):(agD b p v).length=b.length:=aar 8 b p v 0
def Mk.put (m:Mk) (p v:Nat):Mk:={m with b:=agD m.b p v}
theorem jC (m:Mk) (p v:Nat):(m.put p v).b.length=m.b.length:=JQ _ _ _
theorem TV {n i:Nat} {b:Ly} {p v:Nat} (h:i<n):JP (n-i) b p v i=JP (n-(i+1)) (b.set (p+i) (UInt8.ofNat (v/2 ^ (8*i)))) p v (i+1):=by
  rw[show n-i=(n-(i+1))+1 by omega];rfl
theorem aaq {n i:Nat} {b:Ly} {p v:Nat} (h:¬i<n):JP (n-i) b p v i=b:=by rw[show n-i=0 by omega];rfl
def Mk.eH (m:Mk) (k v:Nat):Mk:={m with h:={m.h with n:=m.h.n.set k v}}
def Mk.fH (m:Mk) (k:Nat):Nat:=m.h.n.getD k 0
def Mk.eJ (m:Mk) (o:Ly):Nat × Mk :=
  let m1:={m with b:=m.b ++ o}
  let m29:=m1.eH 6 m.b.length
  (m.b.length,m29.eH 7 ((m29.fH 7+1)%18446744073709551616))
def tu (eu:Nat):List cr→Nat→Nat→Nat × Nat
  | [],n,q=>(n,q)
  | k :: r,n,q=>if k.eu=eu then tu eu r (n+1) k.pos else tu eu r n q
def Mk.hang (m:Mk) (l:List cr) (table p eu:Nat):Nat × Mk :=
  match tu eu l 0 0 with
  | (n,q)=>(n,(if n=0 then m.put (table+16*eu) p else m.put (q+24) p).put (table+16*eu+8) p)
def rE (name:Ly):List cr→Option Nat
  | []=>none
  | k :: r=>if k.gF=name then some k.pos else rE name r
def rD (s:Ly):List cr→Nat→Option Nat
  | [],_=>none
  | k :: r,i=>if k.gF=s then some i else rD s r (i+1)
def Mk.field (m:Mk) (name:Ly):Nat × Mk :=
  match rE name m.ay with
  | some p=>(p,m)
  | none =>
    match m.eJ (iE {cQ:=eG m.c.e5 m.c.dI name,bS:=0,dat:=0,aZ:=name})with
    | (p,m1)=>match m1.hang m1.ay (m1.fH 4) p (eG m.c.e5 m.c.dI name%m1.c.bA)with
      | (n,m29) =>
        let m3:={m29 with depth:=max m1.depth n}
        let m4:=m3.eH 16 ((m3.fH 16+1)%18446744073709551616)
        (p,{m4 with ay:=m4.ay ++ [({gF:=name,pos:=p,eu:=eG m.c.e5 m.c.dI name%m1.c.bA,bW:=0,bK:=[]}:cr)]})
def Mk.data (m:Mk) (x:Pr):Nat × Mk :=
  match rD (aZ x) m.aT 0 with
  | some i=>(i,m)
  | none =>
    match m.eJ (jv {cQ:=eG m.c.e5 m.c.dI (aZ x),bS:=0,dW:=0,entry:=0,array:=0,bW:=0,aZ:=aZ x})with
    | (p,m1)=>match m1.hang m1.aT (m1.fH 2) p (eG m.c.e5 m.c.dI (aZ x)%m1.c.bC)with
      | (n,m29) =>
        let m3:=m29.eH 19 (max (m29.fH 19) n)
        let m4:=m3.eH 15 ((m3.fH 15+1)%18446744073709551616)
        let m5:={m4 with aT:=m4.aT ++ [({gF:=aZ x,pos:=p,eu:=eG m.c.e5 m.c.dI (aZ x)%m1.c.bC,bW:=0,bK:=[]}:cr)]}
        match m5.field x.name with
        | (k,m6) =>
          let m7:=m6.put (p+32) (pL m6.b (k+32:Nat) 8).1
          let m8:=m7.put (k+32) p
          (m8.aT.length-1,m8)
theorem UR (m:Mk) (k v:Nat):(m.eH k v).b=m.b∧(m.eH k v).c=m.c∧(m.eH k v).aT=m.aT∧(m.eH k v).ay=m.ay∧(m.eH k v).main=m.main:=⟨q,q,q,q,q⟩
theorem bQ {l:List Nat} {i j v:Nat} (h:i≠j):(l.set i v).getD j 0=l.getD j 0:=by simp[List.getD,List.getElem?_set_ne h]
theorem zy {m:Mk} {k v j:Nat} (h:k≠j):(m.eH k v).fH j=m.fH j:=bQ h
theorem iW (m:Mk) (o:Ly):(m.eJ o).1=m.b.length∧(m.eJ o).2.b.length=m.b.length+o.length∧(m.eJ o).2.c.bC=m.c.bC∧(m.eJ o).2.c.bA=m.c.bA∧(m.eJ o).2.aT.length=m.aT.length∧(m.eJ o).2.ay.length=m.ay.length ∧
    (m.eJ o).2.h.n.getD 2 0=m.h.n.getD 2 0∧(m.eJ o).2.h.n.getD 4 0=m.h.n.getD 4 0 :=
  ⟨q,by simp[Mk.eJ,Mk.eH],q,q,q,q,by simp only[Mk.eJ,Mk.eH];rw[bQ Jk,bQ Jk],by simp only[Mk.eJ,Mk.eH];rw[bQ Jk,bQ Jk]⟩
theorem fV (m:Mk) (o:Ly):(m.eJ o).2.c=m.c∧(m.eJ o).2.aT=m.aT∧(m.eJ o).2.ay=m.ay∧(m.eJ o).2.main=m.main:=⟨q,q,q,q⟩
theorem iX (m:Mk) (p v:Nat):(m.put p v).b.length=m.b.length∧(m.put p v).c.bC=m.c.bC∧(m.put p v).c.bA=m.c.bA∧(m.put p v).aT.length=m.aT.length∧(m.put p v).ay.length=m.ay.length ∧
    (m.put p v).h.n.getD 2 0=m.h.n.getD 2 0∧(m.put p v).h.n.getD 4 0=m.h.n.getD 4 0:=⟨JQ _ _ _,q,q,q,q,q,q⟩
theorem EU (m:Mk) (l:List cr) (table p eu:Nat):(m.hang l table p eu).2={m with b:=(m.hang l table p eu).2.b}∧(m.hang l table p eu).2.b.length=m.b.length:=by
  unfold Mk.hang
  generalize tu eu l 0 0=r
  obtain⟨n,q⟩:=r
  simp only
  split
  · exact⟨rfl,by rw[jC,jC]⟩
  exact⟨rfl,by rw[jC,jC]⟩
theorem sH (m:Mk) (l:List cr) (table p eu:Nat):(m.hang l table p eu).2.b.length=m.b.length∧(m.hang l table p eu).2.c.bC=m.c.bC∧(m.hang l table p eu).2.c.bA=m.c.bA∧(m.hang l table p eu).2.aT.length=m.aT.length∧(m.hang l table p eu).2.ay.length=m.ay.length ∧
    (m.hang l table p eu).2.h.n.getD 2 0=m.h.n.getD 2 0∧(m.hang l table p eu).2.h.n.getD 4 0=m.h.n.getD 4 0:=by
  obtain⟨A,B⟩:=EU m l table p eu
  refine⟨B,?_,?_,?_,?_,?_,?_⟩ <;> rw[A]
theorem iU (m:Mk) (l:List cr) (table p eu:Nat):(m.hang l table p eu).2.c=m.c∧(m.hang l table p eu).2.aT=m.aT∧(m.hang l table p eu).2.ay=m.ay∧(m.hang l table p eu).2.main=m.main∧(m.hang l table p eu).2.depth=m.depth∧(m.hang l table p eu).2.h=m.h:=by
  have A:=(EU m l table p eu).1
  refine⟨?_,?_,?_,?_,?_,?_⟩ <;> rw[A]
theorem BX {eu i n q:Nat} {l:List cr} {x:cr} (h:l[i]? = some x):tu eu (l.drop i) n q=if x.eu=eu then tu eu (l.drop (i+1)) (n+1) x.pos else tu eu (l.drop (i+1)) n q:=by rw[di h];rfl
theorem uT {eu i n q:Nat} {l:List cr} (h:¬i<l.length):tu eu (l.drop i) n q=(n,q):=by rw[eO Ok];rfl
theorem yP {s:Ly} {i:Nat} {l:List cr} {x:cr} (h:l[i]? = some x):rE s (l.drop i)=if x.gF=s then some x.pos else rE s (l.drop (i+1)):=by rw[di h];rfl
theorem vU {s:Ly} {i:Nat} {l:List cr} (h:¬i<l.length):rE s (l.drop i)=none:=by rw[eO Ok];rfl
theorem yO {s:Ly} {i j:Nat} {l:List cr} {x:cr} (h:l[i]? = some x):rD s (l.drop i) j=if x.gF=s then some j else rD s (l.drop (i+1)) (j+1):=by rw[di h];rfl
theorem vT {s:Ly} {i j:Nat} {l:List cr} (h:¬i<l.length):rD s (l.drop i) j=none:=by rw[eO Ok];rfl
def Mk.fit (m:Mk):Prop:=1≤m.c.bC∧m.c.bC≤64∧1≤m.c.bA∧m.c.bA≤64∧m.h.n.getD 2 0+16*m.c.bC≤m.b.length∧m.h.n.getD 4 0+16*m.c.bA≤m.b.length ∧
  (∀k∈m.aT,k.pos+64≤m.b.length)∧(∀k∈m.ay,k.pos+40≤m.b.length)
theorem om {m m':Mk} (h:m.fit) (h1:m'.c.bC=m.c.bC∧m'.c.bA=m.c.bA∧m'.h.n.getD 2 0=m.h.n.getD 2 0∧m'.h.n.getD 4 0=m.h.n.getD 4 0∧m.b.length≤m'.b.length)
    (hd:∀k∈m'.aT,k∈m.aT∨k.pos+64≤m'.b.length) (hf:∀k∈m'.ay,k∈m.ay∨k.pos+40≤m'.b.length):m'.fit:=by
  obtain⟨G,H,I,J,K,L,A,B⟩:=h
  obtain⟨C,D,E,F,M⟩:=h1
  refine⟨by omega,by omega,by omega,by omega,by rw[C,E];omega,by rw[D,F];omega,fun k hk=>?_,fun k hk=>?_⟩
  · rcases hd k hk with h|h
    · have:=A k h;omega
    exact h
  rcases hf k hk with h|h
  · have:=B k h;omega
  exact h
theorem RG {s:Ly} {l:List cr} {p:Nat} (h:rE s l=some p):∃k∈l,k.pos=p∧k.gF=s:=by
  induction l with
  | nil=>simp[rE]at h
  | cons x l ih =>
    simp only[rE]at h
    split at h
    · rename_i hx;exact⟨x,by simp,by simpa using h,hx⟩
    · obtain⟨k,hk,A⟩:=ih h;exact⟨k,by simp[hk],A⟩
theorem XK {s:Ly} {l:List cr} {j i:Nat} (h:rD s l j=some i):j≤i∧i<j+l.length:=by
  induction l generalizing j with
  | nil=>simp[rD]at h
  | cons x l ih =>
    simp only[rD]at h
    split at h
    · simp at h;simp;omega
    · have:=ih h;simp;omega
theorem sF (m:Mk) (name:Ly) (h:m.fit):((m.field name).1+40≤(m.field name).2.b.length∧m.b.length≤(m.field name).2.b.length∧(m.field name).2.b.length≤m.b.length+(48+name.length)∧(m.field name).2.aT.length=m.aT.length∧(m.field name).2.ay.length≤m.ay.length+1 ∧
    (m.field name).2.c.bC=m.c.bC∧(m.field name).2.c.bA=m.c.bA∧(m.field name).2.h.n.getD 2 0=m.h.n.getD 2 0∧(m.field name).2.h.n.getD 4 0=m.h.n.getD 4 0∧(m.field name).2.h.n.getD 8 0=m.h.n.getD 8 0) ∧
    ((m.field name).2.c=m.c∧(m.field name).2.aT=m.aT∧(m.field name).2.main=m.main)∧(m.field name).2.fit:=by
  unfold Mk.field
  cases hk:rE name m.ay with
  | some p =>
    obtain⟨k,D,U,_⟩:=RG hk
    have:=h.2.2.2.2.2.2.2 k D
    exact⟨⟨by simp only;omega,Nat.le_refl _,by simp only;omega,q,by simp only;omega,q,q,q,q,q⟩,⟨q,q,q⟩,h⟩
  | none =>
    simp only
    have C:=iW m (iE {cQ:=eG m.c.e5 m.c.dI name,bS:=0,dat:=0,aZ:=name})
    have I:=fV m (iE {cQ:=eG m.c.e5 m.c.dI name,bS:=0,dat:=0,aZ:=name})
    have J:(m.eJ (iE {cQ:=eG m.c.e5 m.c.dI name,bS:=0,dat:=0,aZ:=name})).2.h.n.getD 8 0=m.h.n.getD 8 0:=by
      simp only[Mk.eJ,Mk.eH];rw[bQ Jk,bQ Jk]
    rw[tE]at C
    simp only at C
    generalize m.eJ (iE {cQ:=eG m.c.e5 m.c.dI name,bS:=0,dat:=0,aZ:=name})=r at *
    obtain⟨p,A⟩:=r
    simp only at C I J ⊢
    have K:=sH A A.ay (A.fH 4) p (eG m.c.e5 m.c.dI name%A.c.bA)
    have L:=iU A A.ay (A.fH 4) p (eG m.c.e5 m.c.dI name%A.c.bA)
    generalize A.hang A.ay (A.fH 4) p (eG m.c.e5 m.c.dI name%A.c.bA)=r at *
    obtain⟨n,B⟩:=r
    simp only at K L ⊢
    obtain⟨V,W,X,Y,Z,a,d,e⟩:=C
    obtain⟨M,E,N,O⟩:=I
    obtain⟨f,g,i,j,l,o,t⟩:=K
    obtain⟨P,F,Q,R,u,S⟩:=L
    simp only[Mk.eH,List.length_append,List.length_singleton]
    have G:(B.h.n.set 16 ((B.fH 16+1)%18446744073709551616)).getD 2 0=m.h.n.getD 2 0:=by rw[bQ Jk];omega
    have H:(B.h.n.set 16 ((B.fH 16+1)%18446744073709551616)).getD 4 0=m.h.n.getD 4 0:=by rw[bQ Jk];omega
    have T:(B.h.n.set 16 ((B.fH 16+1)%18446744073709551616)).getD 8 0=m.h.n.getD 8 0:=by rw[bQ Jk,S,J]
    refine⟨⟨by omega,by omega,by omega,by omega,by omega,by omega,by omega,G,H,T⟩,⟨by rw[P,M],by rw[F,E],by rw[R,O]⟩,?_⟩
    refine om h ⟨by simp only;omega,by simp only;omega,G,H,by simp only;omega⟩ (fun k hk=>?_) (fun k hk=>?_)
    · simp only[F,E]at hk;exact .inl hk
    · simp only[Q,N,List.mem_append,List.mem_singleton]at hk
      rcases hk with hk|rfl
      · exact .inl hk
      · right;simp only;omega
theorem LH (m:Mk) (name:Ly) (h:m.fit):(m.field name).1+40≤(m.field name).2.b.length∧m.b.length≤(m.field name).2.b.length∧(m.field name).2.b.length≤m.b.length+(48+name.length)∧(m.field name).2.aT.length=m.aT.length∧(m.field name).2.ay.length≤m.ay.length+1 ∧
    (m.field name).2.c.bC=m.c.bC∧(m.field name).2.c.bA=m.c.bA∧(m.field name).2.h.n.getD 2 0=m.h.n.getD 2 0∧(m.field name).2.h.n.getD 4 0=m.h.n.getD 4 0∧(m.field name).2.h.n.getD 8 0=m.h.n.getD 8 0:=(sF m name h).1
theorem LG (m:Mk) (name:Ly) (h:m.fit):(m.field name).2.c=m.c∧(m.field name).2.aT=m.aT∧(m.field name).2.main=m.main:=(sF m name h).2.1
theorem RF (m:Mk) (name:Ly) (h:m.fit):(m.field name).2.fit:=(sF m name h).2.2
section
variable {m y:Mk} {v1 v2 v3 v4:Value} {w:World} {b t i v j:Nat}
theorem ael (hn:m.h.n.length=20) (hi:i<20):(Mk.cells m v1 v2 v3 v4).set (119+i) (.int .u64 v)=Mk.cells {m with h:={m.h with n:=m.h.n.set i v}} v1 v2 v3 v4:=by
  have A:(mW.cells m.c).length=52:=rfl
  have B:(eK.cells m.h).length=90:=rfl
  show(mW.cells m.c ++ (eK.cells m.h ++ _)).set _ _=mW.cells m.c ++ (eK.cells _ ++ _)
  rw[List.set_append_right _ _ Ok,A,show 119+i-52=67+i by omega,List.set_append_left _ _ Ok,UM hn hi]
theorem EY (B:bO w b ((Mk.cells m v1 v2 v3 v4).set j (.int .u64 v)) t) (ok:Mk.ok m) (hv:v<18446744073709551616) (hj:j=119+i) (hi:i<20):∃y,y=({m with h:={m.h with n:=m.h.n.set i v}}:Mk)∧bO w b (Mk.cells y v1 v2 v3 v4) t∧Mk.ok y:=by
  subst hj
  rw[ael ok.2.1.2.2.2.2.2.2.2.1.1 hi]at B
  obtain⟨A,⟨a,b,c,d,e,f,g,h,k⟩,C⟩:=ok
  exact⟨_,q,B,A,⟨a,b,c,d,e,f,g,z7 h hv,k⟩,C⟩
theorem gG (B:bO w b ((Mk.cells m v1 v2 v3 v4).set j (.int .u64 v)) t) (ok:Mk.ok m) (hv:v<18446744073709551616) (hj:j=119+i:=by rfl) (hi:i<20:=by decide) (h2:i≠2:=by decide) (h4:i≠4:=by decide):∃y,y=({m with h:={m.h with n:=m.h.n.set i v}}:Mk)∧bO w b (Mk.cells y v1 v2 v3 v4) t∧Mk.ok y∧y.b.length=m.b.length∧y.aT.length=m.aT.length∧y.ay.length=m.ay.length∧y.c.bC=m.c.bC∧y.c.bA=m.c.bA∧y.h.n.getD 2 0=m.h.n.getD 2 0∧y.h.n.getD 4 0=m.h.n.getD 4 0:=by
  obtain⟨y,rfl,h,k⟩:=EY B ok hv hj hi
  exact⟨_,q,h,k,q,q,q,q,q,bQ Ok,bQ Ok⟩
theorem PI (B:bO w b ((Mk.cells m v1 v2 v3 v4).set j (.int .u64 v)) t) (ok:Mk.ok m) (hv:v<18446744073709551616) (hj:j=119+i:=by rfl) (hi:i<20:=by decide) (h4:i≠4:=by decide):∃y,y=({m with h:={m.h with n:=m.h.n.set i v}}:Mk)∧bO w b (Mk.cells y v1 v2 v3 v4) t∧Mk.ok y∧y.b.length=m.b.length∧y.aT.length=m.aT.length∧y.ay.length=m.ay.length∧y.c.bC=m.c.bC∧y.c.bA=m.c.bA∧y.h.n.getD 4 0=m.h.n.getD 4 0:=by
  obtain⟨y,rfl,h,k⟩:=EY B ok hv hj hi
  exact⟨_,q,h,k,q,q,q,q,q,bQ Ok⟩
theorem PK (B:bO w b ((Mk.cells m v1 v2 v3 v4).set j (.int .u64 v)) t) (ok:Mk.ok m) (hv:v<18446744073709551616) (hj:j=119+i:=by rfl) (hi:i<20:=by decide) (h2:i≠2:=by decide):∃y,y=({m with h:={m.h with n:=m.h.n.set i v}}:Mk)∧bO w b (Mk.cells y v1 v2 v3 v4) t∧Mk.ok y∧y.b.length=m.b.length∧y.aT.length=m.aT.length∧y.ay.length=m.ay.length∧y.c.bC=m.c.bC∧y.c.bA=m.c.bA∧y.h.n.getD 2 0=m.h.n.getD 2 0:=by
  obtain⟨y,rfl,h,k⟩:=EY B ok hv hj hi
  exact⟨_,q,h,k,q,q,q,q,q,bQ Ok⟩
theorem abJ {x:Ly} (e:y={m with b:=x}):y.aT.length=m.aT.length∧y.ay.length=m.ay.length∧y.c.bC=m.c.bC∧y.c.bA=m.c.bA∧y.h.n.getD 2 0=m.h.n.getD 2 0∧y.h.n.getD 4 0=m.h.n.getD 4 0:=by subst e;exact⟨q,q,q,q,q,q⟩
theorem rK {x:List cr} (e:y={m with aT:=x}):y.b.length=m.b.length∧y.ay.length=m.ay.length∧y.c.bC=m.c.bC∧y.c.bA=m.c.bA∧y.h.n.getD 2 0=m.h.n.getD 2 0∧y.h.n.getD 4 0=m.h.n.getD 4 0:=by subst e;exact⟨q,q,q,q,q,q⟩
theorem wm {x:List cr} (e:y={m with ay:=x}):y.b.length=m.b.length∧y.aT.length=m.aT.length∧y.c.bC=m.c.bC∧y.c.bA=m.c.bA∧y.h.n.getD 2 0=m.h.n.getD 2 0∧y.h.n.getD 4 0=m.h.n.getD 4 0:=by subst e;exact⟨q,q,q,q,q,q⟩
theorem PG {x:List Nat} (e:y={m with main:=x}):y.b.length=m.b.length∧y.aT.length=m.aT.length∧y.ay.length=m.ay.length∧y.c.bC=m.c.bC∧y.c.bA=m.c.bA∧y.h.n.getD 2 0=m.h.n.getD 2 0∧y.h.n.getD 4 0=m.h.n.getD 4 0:=by subst e;exact⟨q,q,q,q,q,q,q⟩
theorem YQ {x:Nat} (e:y={m with depth:=x}):y.b.length=m.b.length∧y.aT.length=m.aT.length∧y.ay.length=m.ay.length∧y.c.bC=m.c.bC∧y.c.bA=m.c.bA∧y.h.n.getD 2 0=m.h.n.getD 2 0∧y.h.n.getD 4 0=m.h.n.getD 4 0:=by subst e;exact⟨q,q,q,q,q,q,q⟩
theorem IV {x:eK} (e:y={m with h:=x}):y.b.length=m.b.length∧y.aT.length=m.aT.length∧y.ay.length=m.ay.length∧y.c.bC=m.c.bC∧y.c.bA=m.c.bA:=by subst e;exact⟨q,q,q,q,q⟩
end
section
variable {P:Program}
end
end Go.Wk
namespace Go.Wk
open Go Go.RowKit
theorem zY (k:Int):iK k≤256:=by unfold iK;split;omega;split<;>omega
def fE:List Nat→Nat→Nat→Nat→Nat × Nat
  | [],_,a,r=>(a,r)
  | _ :: l,k,_,r=>fE l (k+1) r (r+iK (k:Int))
def mH (l:List Nat):Nat:=l.getD (l.length-1) 0
def Mk.link (m:Mk) (bK:List Nat) (n src item:Nat):List Nat × Nat × Mk :=
  match fE bK 0 0 0 with
  | (ahead,room) =>
    if n=room then
      match m.eJ (js {next:=0,bJ:=List.replicate (iK (bK.length:Int)) 0})with
      | (p,m1) =>
        let m29:=m1.eH 18 ((m1.fH 18+1)%18446744073709551616)
        (bK ++ [p],n-room+1,(if bK.length=0 then m29.put src p else m29.put (mH bK+16) p).put (mH (bK ++ [p])+24+8*(n-room)) item)
    else(bK,n-ahead+1,m.put (mH bK+24+8*(n-ahead)) item)
theorem qJ {l:List Nat} {i k a r:Nat} (h:i<l.length):fE (l.drop i) k a r=fE (l.drop (i+1)) (k+1) r (r+iK (k:Int)):=by
  obtain⟨x,A⟩:=dQ h
  rw[di A];rfl
theorem qf {l:List Nat} {i k a r:Nat} (h:¬i<l.length):fE (l.drop i) k a r=(a,r):=by rw[eO Ok];rfl
theorem zX {k:Int} (h:0≤k):4≤iK k:=by
  unfold iK
  rw[if_neg Ok]
  split
  · omega
  have:1≤2 ^ k.toNat:=Nat.one_le_two_pow
  omega
theorem DN (k:Int):k<0∨4≤iK k:=by by_cases h:0≤k;exact .inr (zX h);exact .inl Ok
theorem ou {l:List Nat} {x:Nat} (h:l[l.length-1]? = some x):mH l=x:=by simp[mH,List.getD,h]
theorem CK {α} {l:List α} {p x:α} (h:(l ++ [p])[(l ++ [p]).length-1]? = some x):x=p:=by simpa using h.symm
theorem ND (l:List Nat) (k a r:Nat) (h:l≠[]):(fE l k a r).2=(fE l k a r).1+iK ((k+l.length-1:Nat):Int):=by
  induction l generalizing k a r with
  | nil=>exact absurd q h
  | cons x l ih =>
    by_cases hl:l=[]
    · subst hl;simp[fE]
    · simp only[fE,List.length_cons]
      rw[ih (k+1) r (r+iK (k:Int)) hl,show k+1+l.length-1=k+(l.length+1)-1 by omega]
theorem NE {l:List Nat} {n:Nat} (h2:(fE l 0 0 0).1≤n) (h3:n≤(fE l 0 0 0).2) (h:n≠(fE l 0 0 0).2):1≤l.length∧n<(fE l 0 0 0).1+iK ((l.length-1:Nat):Int):=by
  cases l with
  | nil=>simp[fE]at h3 h;omega
  | cons x l =>
    have:=ND (x :: l) 0 0 0 Oj
    simp only[Nat.zero_add]at this
    refine⟨by simp,?_⟩
    omega
def jo (len:Nat) (bK:List Nat) (n:Nat):Prop :=
  (∀(k a:Nat),bK[k]? = some a→a+24+8*iK (k:Int)≤len)∧(fE bK 0 0 0).1≤n∧n≤(fE bK 0 0 0).2
def qW (c:mW) (tail:Nat):Mk :=
  let b1:=List.replicate 272 0 ++ iF 4 (List.replicate c.bC {first:=0,tail:=0})
  let b2:=b1 ++ iF 5 (List.replicate c.bA {first:=0,tail:=0})
  {c:=c,depth:=0,b:=b2,aT:=[],ay:=[],main:=[],
    h:={gK:=2,cF:=if c.e5 then 4 else 0,state:=1,dI:=c.dI,dO:=c.dO,cG:=List.replicate 16 0,seq:=c.seq,dD:=0,dK:=0,dJ:=0,
           n:=(((((((((List.replicate 20 0).set 0 272).set 2 288).set 3 (16*c.bC)).set 4 (b1.length+16)).set 5 (16*c.bA)).set 6 b1.length).set 7 2).set 9 tail)}}
theorem aaQ {α} {l:List α} {i:Nat} (h:¬i<l.length):l.take i=l:=List.take_of_length_le Ok
theorem GJ {v:Value} {b:Nat} (h:∀x,ah v=some x→x≠b):b∉(ah v).toList:=by
  cases hv:ah v with
  | none=>simp
  | some c=>simp;exact fun e=>h c hv e.symm
theorem ef {v:Value} {b:Nat} (h:∀x,ah v=some x→x≠b):∀x,ah v=some x→x∉[b]:=fun x hx hh=>h x hx (by simpa using hh)
def vX (m:Mk) (st:Nat):List UInt8:=HK {m.h with state:=st,n:=m.h.n.set 1 (m.b.length-272)} m.depth ++ m.b.drop 272
theorem BZ (h:eK) (depth:Nat) (ok:eK.ok h):(HK h depth).length=272:=by
  obtain⟨_,_,_,A,B,C,D,E,_⟩:=ok
  simp[HK,qx,gy,A,B,C,D,E.1]
end Go.Wk
namespace Go.Wk
open Go Go.RowKit
def Pr.pb (p:Pr):VX:=(p.name,p.value)
section
variable {P:Program} {n:Nat} {A:Fr n} {D:List Deferred} {l:List (Nat × Value)} {w:World} {d:Option Tmp} {ty:TypeId} {ps:String} {af:Array Edge} {g:Option (Nat × Bool)}
theorem QA {x y:Operand} {t f u:TypeId} {p q:Pr} (hp:pairT P t f=true) (hf:P.underlying f=some .string) (hx:ev n l x=some (.agg (Pr.cells p).toArray)) (hy:ev n l y=some (.agg (Pr.cells q).toArray)) :
    cC P ⟨d,.binOp .eql t x y u,ty,ps,af,g⟩ (bw A D l).eval w (.bool (decide (p.pb=q.pb))):=ae4 (p:=p.pb) (q:=q.pb) hp hf hx hy
end
def kY (p:Pr):List UInt8 × Nat:=if eP p.name=false then([],1)else if 256<p.value.length then([],21)else(aZ p,0)
theorem YD {p:Pr} (h:(kY p).2=0):p.name.length≤1000000∧p.value.length≤1000000:=by
  unfold kY at h
  split at h
  · cases h
  rename_i h1
  split at h
  · cases h
  have:=(fM (s:=p.name) (by simpa using h1)).2;omega
theorem HT {p:Pr}:(kY p).2=0↔right p.pb=true:=by
  unfold kY right Pr.pb
  by_cases h1:eP p.name=false
  · simp[h1]
  rw[if_neg h1]
  have A:eP p.name=true:=by simpa using h1
  rw[A]
  by_cases h3:256<p.value.length
  · simp[h3]
  simp[h3];omega
def vD (t:Ly):List Pr→Nat→Nat
  | [],k=>k
  | q :: r,k=>if Op.bytesLess (aZ q) t=true then vD t r (k+1)else k
theorem DG {t:Ly} {o:List Pr} {k:Nat} {q:Pr} (h:o[k]? = some q):vD t (o.drop k) k=if Op.bytesLess (aZ q) t=true then vD t (o.drop (k+1)) (k+1)else k:=by
  rw[di h];rfl
theorem aa6 {t:Ly} {o:List Pr} {k:Nat} (h:¬k<o.length):vD t (o.drop k) k=k:=by rw[eO Ok];rfl
theorem oW {l:List Pr} {i:Nat} {x:Pr} (h:l[i]? = some x):l.getD i {name:=[],value:=[]}=x:=by simp[List.getD,h]
def kT:Nat→Nat→List Pr→List Pr
  | 0,_,o=>o
  | n+1,j,o=>kT n (j-1) (o.set j (o.getD (j-1) {name:=[],value:=[]}))
theorem qL {j k:Nat} {o:List Pr} (h:k<j):kT (j-k) j o=kT (j-1-k) (j-1) (o.set j (o.getD (j-1) {name:=[],value:=[]})):=by
  rw[show j-k=(j-1-k)+1 by omega];rfl
theorem sP {j k:Nat} {o:List Pr} (h:¬k<j):kT (j-k) j o=o:=by rw[show j-k=0 by omega];rfl
def tc (p:Pr) (o:List Pr):List Pr :=
  let k:=vD (aZ p) o 0
  if k<o.length∧(o.getD k {name:=[],value:=[]}).pb=p.pb then o else(kT (o.length-k) o.length (o ++ [{name:=[],value:=[]}])).set k p
def goL:List Pr→List Pr→List Pr × Nat
  | [],o=>if 16<o.length then([],21)else(o,0)
  | p :: r,o=>if(kY p).2≠0 then([],(kY p).2)else goL r (tc p o)
def oz (l:List Pr):List Pr × Nat:=if l.length=0 then([],16)else goL l []
theorem ET {l o:List Pr} {i:Nat} (h:¬i<l.length):goL (l.drop i) o=if 16<o.length then([],21)else(o,0):=by rw[eO Ok];rfl
theorem HF {l o:List Pr} {i:Nat} {p:Pr} (h:l[i]? = some p):goL (l.drop i) o=if(kY p).2≠0 then([],(kY p).2)else goL (l.drop (i+1)) (tc p o):=by
  rw[di h];rfl
end Go.Wk
namespace Go.Wk
open Go Go.RowKit
section
variable {P:Program} {n:Nat} {A:Fr n} {D:List Deferred} {l:List (Nat × Value)} {w:World} {d:Option Tmp} {ty:TypeId} {ps:String} {af:Array Edge} {g:Option (Nat × Bool)}
theorem aa5 {x y:Operand} {t u:TypeId} {k:IntKind} {a b:Int} (hx:ev n l x=some (.int k a)) (hy:ev n l y=some (.int k b)) (h:b≠0) :
    cC P ⟨d,.binOp .rem t x y u,ty,ps,af,g⟩ (bw A D l).eval w (.int k (a.tmod b)):=aa4 hx hy h
end
def zx (k:Int) (n:Nat):Nat:=if n<1 then 0 else((k.tmod n+n).tmod n).toNat
theorem xQ (k:Int) (n:Nat):n<1∨zx k n<n:=by
  unfold zx
  by_cases h:n<1
  · exact .inl h
  rw[if_neg h]
  have A:=Int.tmod_lt_of_pos (k.tmod n+n) (show(0:Int)<n by omega)
  right;omega
theorem aeo {k:Int} {n:Nat} (h:¬n<1):0≤k.tmod n+n∧k.tmod n+n<2*n:=by
  have A:=Int.tmod_lt_of_pos k (show(0:Int)<n by omega)
  have B:=Int.lt_tmod_of_pos k (show(0:Int)<n by omega)
  omega
def Sq.fH (s:Sq) (n:Nat):Nat × Sq:=if s.l.length≤s.pos then(0,s)else(zx (s.l.getD s.pos 0) n,{s with pos:=s.pos+1})
def Sq.more (s:Sq):Bool × Sq:=(decide (s.pos<s.l.length),s)
def wz:List (List UInt8):=[[65],[66],[77,69,83,83,65,71,69],[95,80,73,68],[88,95,49],[80,82,73,79,82,73,84,89]]
def sV:List (List UInt8):=[[],[48],[49],[50,50],[97,61,98],[111,110,101,10,116,119,111],[0,255],[116,97,98,9,104,101,114,101],[108,111,110,103,32,108,111,110,103,32,108,111,110,103,32,108,111,110,103,32,108,111,110,103,32,108,111,110,103,32,108,111,110,103],[126,127,128]]
theorem MN:wz.length=6:=rfl
theorem KV:sV.length=10:=rfl
def idF (k:Int):List UInt8:=((List.replicate 16 0).set 0 94).set 15 (UInt8.ofNat (zx k 5))
def Sq.pair (s:Sq):Pr × Sq :=
  match s.fH 6 with
  | (a,s1) =>
    match s1.fH 10 with
    | (b,s2)=>({name:=wz.getD a [],value:=sV.getD b []},s2)
theorem Sq.ko (s:Sq) (n:Nat):(s.fH n).1≤n-1:=by
  unfold Sq.fH
  split
  · simp
  simp only
  rcases xQ (s.l.getD s.pos 0) n with h|h
  · simp[zx,h]
  omega
def nu:Nat→Sq→List Pr→List Pr × Sq
  | 0,s,o=>(o,s)
  | n+1,s,o=>match s.pair with
    | (p,s1)=>nu n s1 (o ++ [p])
def Sq.pairs (s:Sq) (bT:Nat):List Pr × Sq :=
  match s.fH bT with
  | (n,s1)=>nu (n+1) s1 []
theorem TQ {n:Nat} {s:Sq} {o:List Pr} (h:¬0<n):nu n s o=(o,s):=by rw[show n=0 by omega];rfl
theorem MU {n:Nat} {s:Sq} {o:List Pr} (h:0<n):nu n s o=nu (n-1) s.pair.2 (o ++ [s.pair.1]):=by
  obtain⟨k,rfl⟩:∃k,n=k+1:=⟨n-1,by omega⟩
  rfl
theorem YS (a:Nat):(wz.getD a []).length≤64:=by
  match a with
  | 0|1|2|3|4|5=>decide
  | n+6=>simp[wz]
theorem VQ (a:Nat):(sV.getD a []).length≤256:=by
  match a with
  | 0|1|2|3|4|5|6|7|8|9=>decide
  | n+10=>simp[sV]
theorem Qi (s:Sq):s.pair.1.name.length≤64∧s.pair.1.value.length≤256:=⟨YS _,VQ _⟩
theorem TP (n:Nat):∀(s:Sq) (o:List Pr),(∀q∈o,q.name.length≤64∧q.value.length≤256)→(∀q∈(nu n s o).1,q.name.length≤64∧q.value.length≤256)∧(nu n s o).1.length=o.length+n:=by
  induction n with
  | zero=>exact fun s o h=>⟨h,rfl⟩
  | succ n ih =>
    intro s o h
    have:=ih s.pair.2 (o ++ [s.pair.1]) (fun q A=>by
      rcases List.mem_append.1 A with A|A
      · exact h q A
      · rw[List.mem_singleton.1 A];exact Qi s)
    refine⟨this.1,?_⟩
    have B:=this.2
    rw[List.length_append,List.length_singleton]at B
    rw[show nu (n+1) s o=nu n s.pair.2 (o ++ [s.pair.1])from rfl,B];omega
theorem aan (s:Sq) (bT:Nat):(∀q∈(s.pairs bT).1,q.name.length≤1000000∧q.value.length≤1000000)∧(s.pairs bT).1.length≤bT+1:=by
  have h:=TP ((s.fH bT).1+1) (s.fH bT).2 [] Oj
  have B:=s.ko bT
  have e:s.pairs bT=nu ((s.fH bT).1+1) (s.fH bT).2 []:=rfl
  rw[e]
  refine⟨fun q A=>⟨by have:=(h.1 q A).1;omega,by have:=(h.1 q A).2;omega⟩,?_⟩
  rw[h.2];simp;omega
def Sq.config (s:Sq):mW × Sq :=
  match s.fH 5 with
  | (a,s1)=>match s1.fH 5 with
    | (b,s2)=>match s2.fH 5 with
      | (c,s3)=>match s3.fH 7 with
        | (d,s4)=>match s4.fH 4 with
          | (e,s5)=>match s5.fH 2 with
            | (f,s6)=>({dI:=idF a,dO:=idF b,seq:=idF c,bC:=d+1,bA:=e+1,bT:=32768,e5:=decide (f=1)},s6)
def Sq.record (s:Sq) (seq:Nat):Rec × Sq :=
  match s.pairs 4 with
  | (ps,s1)=>match s1.fH 40 with
    | (a,s2)=>match s2.fH 9 with
      | (b,s3)=>match s3.fH 3 with
        | (c,s4)=>({seq:=seq,dn:=a,mono:=b,cG:=idF c,ay:=(oz ps).1},s4)
end Go.Wk
namespace Go.Wk
open Go Go.RowKit
section
variable {P:Program} {Q:Exit→Act→World→Prop} {n:Nat} {A:Fr n} {D:List Deferred} {l:List (Nat × Value)} {w:World}
def acR {X0 X1 X2 X3 X4 X5 X6 X7 X8:Type} (n:Nat) (D:List Deferred) (inv:X0→X1→X2→X3→X4→X5→X6→X7→X8→List (Nat × Value)) (W:X0→X1→X2→X3→X4→X5→X6→X7→X8→World→Prop) (mu:X0→X1→X2→X3→X4→X5→X6→X7→X8→Nat) (m:Nat) (a:Act) (w:World):Prop :=
  ∃y0:X0,∃y1:X1,∃y2:X2,∃y3:X3,∃y4:X4,∃y5:X5,∃y6:X6,∃y7:X7,∃y8:X8,∃B:Fr n,a=bw B D (inv y0 y1 y2 y3 y4 y5 y6 y7 y8)∧W y0 y1 y2 y3 y4 y5 y6 y7 y8 w∧mu y0 y1 y2 y3 y4 y5 y6 y7 y8<m
theorem agt {X0 X1 X2 X3 X4 X5 X6 X7 X8:Type} {c:Code} (inv:X0→X1→X2→X3→X4→X5→X6→X7→X8→List (Nat × Value)) (W:X0→X1→X2→X3→X4→X5→X6→X7→X8→World→Prop) (mu:X0→X1→X2→X3→X4→X5→X6→X7→X8→Nat) (x0:X0) (x1:X1) (x2:X2) (x3:X3) (x4:X4) (x5:X5) (x6:X6) (x7:X7) (x8:X8) (h0:Fits n l (inv x0 x1 x2 x3 x4 x5 x6 x7 x8)) (hw:W x0 x1 x2 x3 x4 x5 x6 x7 x8 w)
    (round:∀(x0:X0) (x1:X1) (x2:X2) (x3:X3) (x4:X4) (x5:X5) (x6:X6) (x7:X7) (x8:X8) (B:Fr n) (w':World),W x0 x1 x2 x3 x4 x5 x6 x7 x8 w'→c.wp P (Exit.then (acR n D inv W mu (mu x0 x1 x2 x3 x4 x5 x6 x7 x8)) Q) (bw B D (inv x0 x1 x2 x3 x4 x5 x6 x7 x8)) w') :
    (Code.loop c).wp P Q (bw A D l) w:=by
  refine ja (X:=X0 × X1 × X2 × X3 × X4 × X5 × X6 × X7 × X8) (fun p=>inv p.1 p.2.1 p.2.2.1 p.2.2.2.1 p.2.2.2.2.1 p.2.2.2.2.2.1 p.2.2.2.2.2.2.1 p.2.2.2.2.2.2.2.1 p.2.2.2.2.2.2.2.2) (fun p w=>W p.1 p.2.1 p.2.2.1 p.2.2.2.1 p.2.2.2.2.1 p.2.2.2.2.2.1 p.2.2.2.2.2.2.1 p.2.2.2.2.2.2.2.1 p.2.2.2.2.2.2.2.2 w) (fun p=>mu p.1 p.2.1 p.2.2.1 p.2.2.2.1 p.2.2.2.2.1 p.2.2.2.2.2.1 p.2.2.2.2.2.2.1 p.2.2.2.2.2.2.2.1 p.2.2.2.2.2.2.2.2) (x0,x1,x2,x3,x4,x5,x6,x7,x8) h0 hw (fun p B w' h=>wp_mono (round (p.1) (p.2.1) (p.2.2.1) (p.2.2.2.1) (p.2.2.2.2.1) (p.2.2.2.2.2.1) (p.2.2.2.2.2.2.1) (p.2.2.2.2.2.2.2.1) (p.2.2.2.2.2.2.2.2) B w' h) ?_)
  intro e S T h
  cases e with
  | normal=>obtain⟨H,I,J,K,L,M,N,O,R,C,E,F,G⟩:=h;exact⟨(H,I,J,K,L,M,N,O,R),C,E,F,G⟩
  | _=>exact h
theorem agx {X0 X1 X2 X3 X4 X5 X6 X7 X8:Type} {inv:X0→X1→X2→X3→X4→X5→X6→X7→X8→List (Nat × Value)} {W:X0→X1→X2→X3→X4→X5→X6→X7→X8→World→Prop} {mu:X0→X1→X2→X3→X4→X5→X6→X7→X8→Nat} {m:Nat} (x0:X0) (x1:X1) (x2:X2) (x3:X3) (x4:X4) (x5:X5) (x6:X6) (x7:X7) (x8:X8) (hm:mu x0 x1 x2 x3 x4 x5 x6 x7 x8<m) (hf:Fits n l (inv x0 x1 x2 x3 x4 x5 x6 x7 x8)) (hw:W x0 x1 x2 x3 x4 x5 x6 x7 x8 w) :
    acR n D inv W mu m (bw A D l) w:=⟨x0,x1,x2,x3,x4,x5,x6,x7,x8,_,(dz (A:=A) (D:=D) hf).symm,hw,hm⟩
def VW {X0 X1 X2 X3 X4 X5 X6 X7 X8 X9:Type} (n:Nat) (D:List Deferred) (inv:X0→X1→X2→X3→X4→X5→X6→X7→X8→X9→List (Nat × Value)) (W:X0→X1→X2→X3→X4→X5→X6→X7→X8→X9→World→Prop) (mu:X0→X1→X2→X3→X4→X5→X6→X7→X8→X9→Nat) (m:Nat) (a:Act) (w:World):Prop :=
  ∃y0:X0,∃y1:X1,∃y2:X2,∃y3:X3,∃y4:X4,∃y5:X5,∃y6:X6,∃y7:X7,∃y8:X8,∃y9:X9,∃B:Fr n,a=bw B D (inv y0 y1 y2 y3 y4 y5 y6 y7 y8 y9)∧W y0 y1 y2 y3 y4 y5 y6 y7 y8 y9 w∧mu y0 y1 y2 y3 y4 y5 y6 y7 y8 y9<m
theorem aek {X0 X1 X2 X3 X4 X5 X6 X7 X8 X9:Type} {c:Code} (inv:X0→X1→X2→X3→X4→X5→X6→X7→X8→X9→List (Nat × Value)) (W:X0→X1→X2→X3→X4→X5→X6→X7→X8→X9→World→Prop) (mu:X0→X1→X2→X3→X4→X5→X6→X7→X8→X9→Nat) (x0:X0) (x1:X1) (x2:X2) (x3:X3) (x4:X4) (x5:X5) (x6:X6) (x7:X7) (x8:X8) (x9:X9) (h0:Fits n l (inv x0 x1 x2 x3 x4 x5 x6 x7 x8 x9)) (hw:W x0 x1 x2 x3 x4 x5 x6 x7 x8 x9 w)
    (round:∀(x0:X0) (x1:X1) (x2:X2) (x3:X3) (x4:X4) (x5:X5) (x6:X6) (x7:X7) (x8:X8) (x9:X9) (B:Fr n) (w':World),W x0 x1 x2 x3 x4 x5 x6 x7 x8 x9 w'→c.wp P (Exit.then (VW n D inv W mu (mu x0 x1 x2 x3 x4 x5 x6 x7 x8 x9)) Q) (bw B D (inv x0 x1 x2 x3 x4 x5 x6 x7 x8 x9)) w') :
    (Code.loop c).wp P Q (bw A D l) w:=by
  refine ja (X:=X0 × X1 × X2 × X3 × X4 × X5 × X6 × X7 × X8 × X9) (fun p=>inv p.1 p.2.1 p.2.2.1 p.2.2.2.1 p.2.2.2.2.1 p.2.2.2.2.2.1 p.2.2.2.2.2.2.1 p.2.2.2.2.2.2.2.1 p.2.2.2.2.2.2.2.2.1 p.2.2.2.2.2.2.2.2.2) (fun p w=>W p.1 p.2.1 p.2.2.1 p.2.2.2.1 p.2.2.2.2.1 p.2.2.2.2.2.1 p.2.2.2.2.2.2.1 p.2.2.2.2.2.2.2.1 p.2.2.2.2.2.2.2.2.1 p.2.2.2.2.2.2.2.2.2 w) (fun p=>mu p.1 p.2.1 p.2.2.1 p.2.2.2.1 p.2.2.2.2.1 p.2.2.2.2.2.1 p.2.2.2.2.2.2.1 p.2.2.2.2.2.2.2.1 p.2.2.2.2.2.2.2.2.1 p.2.2.2.2.2.2.2.2.2) (x0,x1,x2,x3,x4,x5,x6,x7,x8,x9) h0 hw (fun p B w' h=>wp_mono (round (p.1) (p.2.1) (p.2.2.1) (p.2.2.2.1) (p.2.2.2.2.1) (p.2.2.2.2.2.1) (p.2.2.2.2.2.2.1) (p.2.2.2.2.2.2.2.1) (p.2.2.2.2.2.2.2.2.1) (p.2.2.2.2.2.2.2.2.2) B w' h) ?_)
  intro e T U h
  cases e with
  | normal=>obtain⟨H,I,J,K,L,M,N,O,R,S,C,E,F,G⟩:=h;exact⟨(H,I,J,K,L,M,N,O,R,S),C,E,F,G⟩
  | _=>exact h
theorem YT {X0 X1 X2 X3 X4 X5 X6 X7 X8 X9:Type} {inv:X0→X1→X2→X3→X4→X5→X6→X7→X8→X9→List (Nat × Value)} {W:X0→X1→X2→X3→X4→X5→X6→X7→X8→X9→World→Prop} {mu:X0→X1→X2→X3→X4→X5→X6→X7→X8→X9→Nat} {m:Nat} (x0:X0) (x1:X1) (x2:X2) (x3:X3) (x4:X4) (x5:X5) (x6:X6) (x7:X7) (x8:X8) (x9:X9) (hm:mu x0 x1 x2 x3 x4 x5 x6 x7 x8 x9<m) (hf:Fits n l (inv x0 x1 x2 x3 x4 x5 x6 x7 x8 x9)) (hw:W x0 x1 x2 x3 x4 x5 x6 x7 x8 x9 w) :
    VW n D inv W mu m (bw A D l) w:=⟨x0,x1,x2,x3,x4,x5,x6,x7,x8,x9,_,(dz (A:=A) (D:=D) hf).symm,hw,hm⟩
end
end Go.Wk
namespace Go.Wk
open Go Go.RowKit
def known0:cr:={gF:=[],pos:=0,eu:=0,bW:=0,bK:=[]}
def oC (ds:List cr) (i:Nat):Nat:=(ds.getD i known0).pos
def oe (ds:List cr) (p:Nat) (order:List Nat):Nat→Nat
  | 0=>0
  | n+1=>if p<oC ds (order.getD n 0)then oe ds p order n else n+1
def qE (ds:List cr) (k:Nat) (order:List Nat):List Nat :=
  let n:=oe ds (oC ds k) order order.length
  order.take n ++ [k] ++ order.drop n
def jM:List Pr→Mk→List (List UInt8)→List Nat→List (List UInt8) × List Nat × Mk
  | [],m,ps,od=>(ps,od,m)
  | x :: r,m,ps,od =>
    match m.data x with
    | (k,m1)=>jM r m1 (ps ++ [(m1.aT.getD k known0).gF]) (qE m1.aT k od)
def kG (m:Mk) (od:List Nat):List kQ:=od.map fun i=>{pos:=oC m.aT i,cQ:=eG m.c.e5 m.c.dI (m.aT.getD i known0).gF}
def lG (e:Nat):List Nat→Mk→Mk
  | [],m=>m
  | i :: r,m =>
    let k:=m.aT.getD i known0
    if k.bW=0 then
      let m29:=(m.put (k.pos+40) e).put (k.pos+56) 1
      lG e r {m29 with aT:=m29.aT.set i {k with bW:=1}}
    else
      match m.link k.bK (k.bW-1) (k.pos+48) e with
      | (a,_,m1) =>
        let m29:=m1.put (k.pos+56) (k.bW+1)
        lG e r {m29 with aT:=m29.aT.set i {k with bK:=a,bW:=k.bW+1}}
def Mk.append (m:Mk) (ay:List Pr) (dn mono:Nat) (cG:Ly):Nat × Nat × Mk :=
  match oz ay with
  | (l,c) =>
    if c≠0 then(0,c,m)
    else if m.fH 9=18446744073709551615 then(0,1,m)
    else
      match jM l m [] []with
      | (ps,od,m1) =>
        let seq:=(m1.fH 9+1)%18446744073709551616
        match m1.eJ (iD {seq:=seq,dn:=dn,mono:=mono,cG:=cG,xor:=rq 0 ps,bJ:=kG m1 od})with
        | (e,m29) =>
          let n:=m29.fH 8
          match m29.link m29.main n 176 e with
          | (a,t,m3) =>
            let m4:=({m3 with main:=a}:Mk).eH 11 (a.getD 0 0)
            let m5:={m4 with h:={m4.h with dD:=mH a%4294967296,dK:=t%4294967296}}
            let m6:=lG e od m5
            if m6.c.bT<m6.b.length then(0,15,m)
            else
              let m7:=if n=0 then(m6.eH 10 seq).eH 12 dn else m6
              let m8:=m7.eH 8 ((m7.fH 8+1)%18446744073709551616)
              let m9:=((m8.eH 9 seq).eH 13 dn).eH 14 mono
              (seq,0,{m9 with h:={m9.h with cG:=cG,dJ:=e}})
def lY:Nat→Sq→Mk→List Rec→Mk × List Rec × Sq
  | 0,s,m,rs=>(m,rs,s)
  | n+1,s,m,rs =>
    if s.pos<s.l.length then
      match s.record ((m.fH 9+1)%18446744073709551616)with
      | (r,s1) =>
        match m.append r.ay r.dn r.mono r.cG with
        | (_,c,m1)=>if c≠0 then(m1,rs,s1)else lY n s1 m1 (rs ++ [r])
    else(m,rs,s)
def Sq.rJ (s:Sq) (bT:Nat):Mk × List Rec × Sq :=
  match s.config with
  | (c,s1) =>
    match s1.fH 6 with
    | (t,s2)=>lY bT s2 (qW c t) []
def jA (l:List Int) (bT:Nat):List UInt8:=vX ((Sq.mk l 0).rJ bT).1 1
end Go.Wk
namespace Go.Wk
open Go Go.RowKit
structure ad7 (m m':Mk) (k len:Nat):Prop where
  lt:k<m'.aT.length
  ge:m.b.length≤m'.b.length
  le:m'.b.length≤m.b.length+len
  c:m'.c=m.c
  main:m'.main=m.main
  pre:m'.aT=m.aT∨∃x:cr,m'.aT=m.aT ++ [x]∧x.bW=0∧x.bK=[]∧x.pos+64≤m'.b.length
  fl:m'.ay.length≤m.ay.length+1
  fit:m'.fit
  n8:m'.h.n.getD 8 0=m.h.n.getD 8 0
theorem lN (m:Mk) (p v:Nat):(m.put p v).c=m.c∧(m.put p v).aT=m.aT∧(m.put p v).ay=m.ay∧(m.put p v).main=m.main∧(m.put p v).h=m.h∧(m.put p v).depth=m.depth:=⟨q,q,q,q,q,q⟩
theorem EL (m:Mk) (x:Pr) (h:m.fit):ad7 m (m.data x).2 (m.data x).1 (400+x.name.length+(aZ x).length):=by
  unfold Mk.data
  cases hk:rD (aZ x) m.aT 0 with
  | some i =>
    have:=XK hk
    exact⟨by simp only;omega,Nat.le_refl _,by simp only;omega,q,q,.inl q,by simp only;omega,h,q⟩
  | none =>
    simp only
    have D:=iW m (jv {cQ:=eG m.c.e5 m.c.dI (aZ x),bS:=0,dW:=0,entry:=0,array:=0,bW:=0,aZ:=aZ x})
    have Q:=fV m (jv {cQ:=eG m.c.e5 m.c.dI (aZ x),bS:=0,dW:=0,entry:=0,array:=0,bW:=0,aZ:=aZ x})
    have R:(m.eJ (jv {cQ:=eG m.c.e5 m.c.dI (aZ x),bS:=0,dW:=0,entry:=0,array:=0,bW:=0,aZ:=aZ x})).2.h.n.getD 8 0=m.h.n.getD 8 0:=by
      simp only[Mk.eJ,Mk.eH];rw[bQ Jk,bQ Jk]
    rw[vu]at D
    simp only at D
    generalize m.eJ (jv {cQ:=eG m.c.e5 m.c.dI (aZ x),bS:=0,dW:=0,entry:=0,array:=0,bW:=0,aZ:=aZ x})=r at *
    obtain⟨p,A⟩:=r
    simp only at D Q R ⊢
    have S:=sH A A.aT (A.fH 2) p (eG m.c.e5 m.c.dI (aZ x)%A.c.bC)
    have T:=iU A A.aT (A.fH 2) p (eG m.c.e5 m.c.dI (aZ x)%A.c.bC)
    generalize A.hang A.aT (A.fH 2) p (eG m.c.e5 m.c.dI (aZ x)%A.c.bC)=r at *
    obtain⟨n,B⟩:=r
    simp only at S T ⊢
    obtain⟨a1,a2,a3,a4,a5,a6,a7,a8⟩:=D
    obtain⟨Z,J,K,a⟩:=Q
    obtain⟨c1,c2,c3,c4,c5,c6,c7⟩:=S
    obtain⟨d,L,M,e,d5,f⟩:=T
    generalize hx5:({(B.eH 19 (max (B.fH 19) n)).eH 15 (((B.eH 19 (max (B.fH 19) n)).fH 15+1)%18446744073709551616)with aT:=((B.eH 19 (max (B.fH 19) n)).eH 15 (((B.eH 19 (max (B.fH 19) n)).fH 15+1)%18446744073709551616)).aT ++ [({gF:=aZ x,pos:=p,eu:=eG m.c.e5 m.c.dI (aZ x)%A.c.bC,bW:=0,bK:=[]}:cr)]}:Mk)=m5
    have j:m5.b=B.b∧m5.c=B.c∧m5.aT=B.aT ++ [({gF:=aZ x,pos:=p,eu:=eG m.c.e5 m.c.dI (aZ x)%A.c.bC,bW:=0,bK:=[]}:cr)]∧m5.ay=B.ay∧m5.main=B.main:=by subst hx5;exact⟨q,q,q,q,q⟩
    have v:m5.h.n.getD 2 0=m.h.n.getD 2 0:=by subst hx5;simp only[Mk.eH];rw[bQ Jk,bQ Jk];omega
    have w:m5.h.n.getD 4 0=m.h.n.getD 4 0:=by subst hx5;simp only[Mk.eH];rw[bQ Jk,bQ Jk];omega
    have g8:m5.h.n.getD 8 0=m.h.n.getD 8 0:=by subst hx5;simp only[Mk.eH];rw[bQ Jk,bQ Jk,f,R]
    clear hx5
    obtain⟨g,E,O,P,l⟩:=j
    have l5:m5.b.length=A.b.length:=by rw[g];omega
    have u:m5.fit:=by
      refine om h ⟨by rw[E];omega,by rw[E];omega,v,w,by omega⟩ (fun k hk=>?_) (fun k hk=>?_)
      · rw[O,L,J,List.mem_append,List.mem_singleton]at hk
        rcases hk with hk|rfl
        · exact .inl hk
        · right;simp only;omega
      · rw[P,M,K]at hk;exact .inl hk
    have U:=sF m5 x.name u
    generalize m5.field x.name=r at *
    obtain⟨k,C⟩:=r
    simp only at U ⊢
    obtain⟨⟨q1,q2,q3,q4,q5,q6,q7,q8,q9,y⟩,⟨z,s2,s3⟩,s4⟩:=U
    have l8:((C.put (p+32) (pL C.b (k+32:Nat) 8).1).put (k+32) p).b.length=C.b.length:=by rw[jC,jC]
    have o:=lN C (p+32) (pL C.b (k+32:Nat) 8).1
    have t:=lN (C.put (p+32) (pL C.b (k+32:Nat) 8).1) (k+32) p
    generalize C.put (p+32) (pL C.b (k+32:Nat) 8).1=m7 at *
    generalize m7.put (k+32) p=m8 at *
    obtain⟨F,V,W,v4,G,_⟩:=o
    obtain⟨H,X,Y,w4,I,_⟩:=t
    have N:m8.aT=m.aT ++ [({gF:=aZ x,pos:=p,eu:=eG m.c.e5 m.c.dI (aZ x)%A.c.bC,bW:=0,bK:=[]}:cr)]:=by rw[X,V,s2,O,L,J]
    refine⟨by rw[N];simp,by omega,by omega,by rw[H,F,z,E,d,Z],by rw[w4,v4,s3,l,e,a],.inr ⟨_,N,q,q,by simp only;omega⟩,?_,?_,by rw[I,G];omega⟩
    · have:=congrArg List.length P;rw[M,K]at this;rw[Y,W];omega
    · refine om s4 ⟨by rw[H,F],by rw[H,F],by rw[I,G],by rw[I,G],by omega⟩ (fun k hk=>.inl (by rw[X,V]at hk;exact hk)) (fun k hk=>.inl (by rw[Y,W]at hk;exact hk))
theorem UQ (l:List Nat) (p k a r:Nat):fE (l ++ [p]) k a r=((fE l k a r).2,(fE l k a r).2+iK ((k+l.length:Nat):Int)):=by
  induction l generalizing k a r with
  | nil=>rfl
  | cons x l ih =>
    show fE (l ++ [p]) (k+1) r (r+iK (k:Int))=_
    rw[ih]
    show _=((fE l (k+1) r (r+iK (k:Int))).2,(fE l (k+1) r (r+iK (k:Int))).2+iK ((k+(l.length+1):Nat):Int))
    rw[show k+1+l.length=k+(l.length+1)by omega]
theorem aaB (l:List Nat) (k a r:Nat):r+4*l.length≤(fE l k a r).2∧(l≠[]→r+4*(l.length-1)≤(fE l k a r).1):=by
  induction l generalizing k a r with
  | nil=>simp[fE]
  | cons x l ih =>
    have C:=zX (k:=(k:Int)) Ok
    obtain⟨B,A⟩:=ih (k+1) r (r+iK (k:Int))
    refine⟨?_,fun _=>?_⟩
    · show r+4*(l.length+1)≤(fE l (k+1) r (r+iK (k:Int))).2;omega
    · show r+4*(l.length+1-1)≤(fE l (k+1) r (r+iK (k:Int))).1
      by_cases hl:l=[]
      · subst hl;simp[fE]
      · have:=A hl
        have:0<l.length:=by cases l with|nil=>exact absurd q hl|cons _ _=>simp
        omega
theorem sB {len n:Nat} {a:List Nat} (h:jo len a n):a.length≤n+1:=by
  obtain⟨_,B,_⟩:=h
  have A:=(aaB a 0 0 0).2
  by_cases ha:a=[]
  · subst ha;simp
  have:=A ha;omega
theorem oh {len len' n:Nat} {a:List Nat} (h:jo len a n) (hl:len≤len'):jo len' a n :=
  ⟨fun k x hx=>ly (h.1 k x hx) hl,h.2⟩
theorem chain_nil (len:Nat):jo len [] 0:=⟨by simp,by simp[fE],by simp[fE]⟩
structure VU (m m':Mk) (a:List Nat) (n:Nat):Prop where
  ge:m.b.length≤m'.b.length
  le:m'.b.length≤m.b.length+2100
  c:m'.c=m.c
  aT:m'.aT=m.aT
  ay:m'.ay=m.ay
  main:m'.main=m.main
  chain:jo m'.b.length a (n+1)
  ne:a≠[]
  n8:m'.h.n.getD 8 0=m.h.n.getD 8 0
  n2:m'.h.n.getD 2 0=m.h.n.getD 2 0
  n4:m'.h.n.getD 4 0=m.h.n.getD 4 0
theorem uZ (m:Mk) (bK:List Nat) (n src item:Nat) (h:jo m.b.length bK n):VU m (m.link bK n src item).2.2 (m.link bK n src item).1 n:=by
  obtain⟨R,S,T⟩:=h
  unfold Mk.link
  have F:=fun p=>UQ bK p 0 0 0
  rcases hq:fE bK 0 0 0 with⟨A,B⟩
  rw[hq]at S T F
  simp only at S T F ⊢
  rw[Nat.zero_add]at F
  split
  · rename_i hn
    have G:=iW m (js {next:=0,bJ:=List.replicate (iK (bK.length:Int)) 0})
    have Q:=fV m (js {next:=0,bJ:=List.replicate (iK (bK.length:Int)) 0})
    have o:(m.eJ (js {next:=0,bJ:=List.replicate (iK (bK.length:Int)) 0})).2.h.n.getD 8 0=m.h.n.getD 8 0:=by
      simp only[Mk.eJ,Mk.eH];rw[bQ Jk,bQ Jk]
    rw[t7]at G
    simp only[List.length_replicate]at G
    generalize m.eJ (js {next:=0,bJ:=List.replicate (iK (bK.length:Int)) 0})=r at *
    obtain⟨p,C⟩:=r
    simp only at G Q o ⊢
    obtain⟨w,y,z,a4,a5,a6,a7,a8⟩:=G
    obtain⟨U,V,W,X⟩:=Q
    have O:=zY (bK.length:Int)
    have H:=zX (k:=(bK.length:Int)) Ok
    generalize hx2:C.eH 18 ((C.fH 18+1)%18446744073709551616)=m29
    have u:m29.b=C.b∧m29.c=C.c∧m29.aT=C.aT∧m29.ay=C.ay∧m29.main=C.main:=by subst hx2;exact UR _ _ _
    have t8:m29.h.n.getD 8 0=C.h.n.getD 8 0:=by subst hx2;exact zy Jk
    have t2:m29.h.n.getD 2 0=C.h.n.getD 2 0:=by subst hx2;exact zy Jk
    have t4:m29.h.n.getD 4 0=C.h.n.getD 4 0:=by subst hx2;exact zy Jk
    clear hx2
    generalize hx3:(if bK.length=0 then m29.put src p else m29.put (mH bK+16) p)=m3
    have v:m3.b.length=m29.b.length∧m3.c=m29.c∧m3.aT=m29.aT∧m3.ay=m29.ay∧m3.main=m29.main∧m3.h=m29.h:=by
      subst hx3
      split
      · exact⟨jC _ _ _,q,q,q,q,q⟩
      · exact⟨jC _ _ _,q,q,q,q,q⟩
    clear hx3
    have t:=jC m3 (mH (bK ++ [p])+24+8*(n-B)) item
    have P:=lN m3 (mH (bK ++ [p])+24+8*(n-B)) item
    generalize m3.put (mH (bK ++ [p])+24+8*(n-B)) item=m4 at *
    obtain⟨Y,Z,d,e,f⟩:=u
    obtain⟨d1,g,i,j,l,I⟩:=v
    obtain⟨J,K,L,M,E,_⟩:=P
    have l2:=congrArg List.length Y
    have ll:m4.b.length=m.b.length+(16+(8+8*iK (bK.length:Int))+7)/8*8:=by omega
    refine⟨by omega,by omega,by rw[J,g,Z,U],by rw[K,i,d,V],by rw[L,j,e,W],by rw[M,l,f,X],⟨fun k x D=>?_,?_,?_⟩,by simp,by rw[E,I];omega,by rw[E,I];omega,by rw[E,I];omega⟩
    · rcases Nat.lt_or_ge k bK.length with hk|hk
      · rw[List.getElem?_append_left hk]at D
        have:=R k x D;omega
      have N:=(List.getElem?_eq_some_iff.1 D).1
      simp at N
      have:k=bK.length:=by omega
      subst this
      rw[List.getElem?_append_right (Nat.le_refl _)]at D
      simp at D
      subst D
      omega
    · rw[F];simp only;omega
    rw[F];simp only;omega
  rename_i hn
  have t:=jC m (mH bK+24+8*(n-A)) item
  have P:=lN m (mH bK+24+8*(n-A)) item
  generalize m.put (mH bK+24+8*(n-A)) item=m4 at *
  obtain⟨J,K,L,M,E,_⟩:=P
  show VU m m4 bK n
  refine⟨by omega,by omega,J,K,L,M,⟨fun k x D=>by have:=R k x D;omega,by rw[hq];simp only;omega,by rw[hq];simp only;omega⟩,?_,by rw[E],by rw[E],by rw[E]⟩
  rintro rfl
  simp[fE]at hq
  omega
def Mk.n8 (m:Mk):Nat:=m.h.n.getD 8 0
def GP (m:Mk) (bT:Nat):Prop:=∀k∈m.aT,jo m.b.length k.bK (k.bW-1)∧(k.bW=0→k.bK=[])∧k.gF.length≤400∧k.bW≤bT
structure xB (m:Mk):Prop where
  fit:m.fit
  main:jo m.b.length m.main m.n8
  chains:GP m (16*m.n8)
  nd:m.aT.length≤16*m.n8
  nf:m.ay.length≤16*m.n8
  nb:64*m.n8≤m.b.length
  small:m.b.length≤40000
  bT:m.c.bT≤40000
  hd:272≤m.b.length
structure jV (m0 m:Mk) (d e:Nat) (j:Nat):Prop where
  fit:m.fit
  c:m.c=m0.c
  n8:m.n8=m0.n8
  chains:GP m (16*m0.n8+j)
  nd:m.aT.length≤m0.aT.length+d
  nf:m.ay.length≤m0.ay.length+d
  ge:m0.b.length≤m.b.length
  le:m.b.length≤m0.b.length+e
theorem QR {m:Mk} (h:xB m):jV m m 0 0 0:=⟨h.fit,q,q,h.chains,Nat.le_refl _,Nat.le_refl _,Nat.le_refl _,Nat.le_refl _⟩
theorem Rq {m:Mk} {x:Pr} (y:cr) (h:y∈(m.data x).2.aT):y∈m.aT∨y.gF=aZ x:=by
  unfold Mk.data at h
  split at h
  · exact .inl h
  simp only at h
  have F:=fV m (jv {cQ:=eG m.c.e5 m.c.dI (aZ x),bS:=0,dW:=0,entry:=0,array:=0,bW:=0,aZ:=aZ x})
  generalize m.eJ (jv {cQ:=eG m.c.e5 m.c.dI (aZ x),bS:=0,dW:=0,entry:=0,array:=0,bW:=0,aZ:=aZ x})=r at *
  obtain⟨p,B⟩:=r
  simp only at h F
  have G:=iU B B.aT (B.fH 2) p (eG m.c.e5 m.c.dI (aZ x)%B.c.bC)
  generalize B.hang B.aT (B.fH 2) p (eG m.c.e5 m.c.dI (aZ x)%B.c.bC)=r at *
  obtain⟨n,C⟩:=r
  simp only at h G
  generalize hx5:({(C.eH 19 (max (C.fH 19) n)).eH 15 (((C.eH 19 (max (C.fH 19) n)).fH 15+1)%18446744073709551616)with aT:=((C.eH 19 (max (C.fH 19) n)).eH 15 (((C.eH 19 (max (C.fH 19) n)).fH 15+1)%18446744073709551616)).aT ++ [({gF:=aZ x,pos:=p,eu:=eG m.c.e5 m.c.dI (aZ x)%B.c.bC,bW:=0,bK:=[]}:cr)]}:Mk)=m5 at h
  have I:m5.aT=C.aT ++ [({gF:=aZ x,pos:=p,eu:=eG m.c.e5 m.c.dI (aZ x)%B.c.bC,bW:=0,bK:=[]}:cr)]:=by subst hx5;rfl
  clear hx5
  have H:(m5.field x.name).2.aT=m5.aT:=by
    unfold Mk.field
    split
    · rfl
    · simp only
      have D:=fV m5 (iE {cQ:=eG m5.c.e5 m5.c.dI x.name,bS:=0,dat:=0,aZ:=x.name})
      generalize m5.eJ (iE {cQ:=eG m5.c.e5 m5.c.dI x.name,bS:=0,dat:=0,aZ:=x.name})=r at *
      obtain⟨q,A⟩:=r
      simp only at D ⊢
      have E:=iU A A.ay (A.fH 4) q (eG m5.c.e5 m5.c.dI x.name%A.c.bA)
      generalize A.hang A.ay (A.fH 4) q (eG m5.c.e5 m5.c.dI x.name%A.c.bA)=r at *
      obtain⟨M,L⟩:=r
      simp only at E ⊢
      show L.aT=m5.aT
      rw[E.2.1,D.2.1]
  generalize m5.field x.name=r at *
  obtain⟨k,A⟩:=r
  simp only at h H
  have J:=(lN A (p+32) (pL A.b (k+32:Nat) 8).1).2.1
  have K:=(lN (A.put (p+32) (pL A.b (k+32:Nat) 8).1) (k+32) p).2.1
  rw[K,J,H,I,List.mem_append,List.mem_singleton,G.2.1,F.2.1]at h
  rcases h with h|rfl
  · exact .inl h
  exact .inr rfl
theorem yq {m0 m:Mk} {d e j:Nat} {x:Pr} (h:jV m0 m d e j) (hx:x.name.length≤64∧x.value.length≤256):jV m0 (m.data x).2 (d+1) (e+900) j∧(m.data x).1<(m.data x).2.aT.length∧(m.data x).2.main=m.main:=by
  have g:=EL m x h.fit
  have G:=fun y=>Rq (m:=m) (x:=x) y
  have U:=gC x
  generalize m.data x=r at *
  obtain⟨k,H⟩:=r
  simp only at g G ⊢
  have D:=g.ge;have I:=g.le;have O:=h.ge;have P:=h.le;have Q:=h.nd;have R:=h.nf;have S:=g.fl
  have T:H.aT.length≤m.aT.length+1:=by
    rcases g.pre with e|⟨x,e,_⟩ <;> rw[e] <;> simp
  refine⟨⟨g.fit,g.c.trans h.c,(show H.h.n.getD 8 0=m0.n8 from g.n8.trans h.n8),fun y A=>?_,by omega,by omega,by omega,by omega⟩,g.lt,g.main⟩
  have F:y∈m.aT∨(y.bW=0∧y.bK=[]):=by
    rcases g.pre with e|⟨x,e,C,B,_⟩
    · rw[e]at A;exact .inl A
    · rw[e,List.mem_append,List.mem_singleton]at A
      rcases A with A|rfl
      · exact .inl A
      · exact .inr ⟨C,B⟩
  rcases F with E|⟨C,B⟩
  · obtain⟨K,L,M,N⟩:=h.chains y E
    exact⟨oh K D,L,M,N⟩
  refine⟨by rw[C,B];exact chain_nil _,fun _=>B,?_,by omega⟩
  rcases G y A with E|J
  · exact(h.chains y E).2.2.1
  rw[J];omega
theorem yw {m0 m m':Mk} {d e e' j j':Nat} (h:jV m0 m d e j) (hc:m'.c=m.c) (h8:m'.n8=m.n8) (h2:m'.h.n.getD 2 0=m.h.n.getD 2 0) (h4:m'.h.n.getD 4 0=m.h.n.getD 4 0) (hd:m'.aT=m.aT) (hf:m'.ay=m.ay)
    (hg:m.b.length≤m'.b.length) (hl:m'.b.length≤m.b.length+e') (hj:j≤j'):jV m0 m' d (e+e') j':=by
  have:=h.ge;have:=h.le
  refine⟨om h.fit ⟨by rw[hc],by rw[hc],h2,h4,hg⟩ (fun k hk=>.inl (hd ▸ hk)) (fun k hk=>.inl (hf ▸ hk)),hc.trans h.c,h8.trans h.n8,fun k hk=>?_,by rw[hd];exact h.nd,by rw[hf];exact h.nf,by omega,by omega⟩
  rw[hd]at hk
  obtain⟨A,B,C,D⟩:=h.chains k hk
  exact⟨oh A hg,B,C,by omega⟩
theorem yu {m0 m:Mk} {d e j L:Nat} {o:Ly} (h:jV m0 m d e j) (ho:o.length≤L):jV m0 (m.eJ o).2 d (e+L) j:=by
  have A:=iW m o
  have B:=fV m o
  have C:(m.eJ o).2.h.n.getD 8 0=m.h.n.getD 8 0:=by simp only[Mk.eJ,Mk.eH];rw[bQ Jk,bQ Jk]
  exact yw h B.1 C A.2.2.2.2.2.2.1 A.2.2.2.2.2.2.2 B.2.1 B.2.2.1 (by rw[A.2.1];omega) (by rw[A.2.1];omega) (Nat.le_refl _)
theorem EH {m0 m:Mk} {d e j:Nat} (p v:Nat) (h:jV m0 m d e j):jV m0 (m.put p v) d e j :=
  yw (e':=0) h q q q q q q (by rw[jC];exact Nat.le_refl _) (by rw[jC];exact Nat.le_refl _) (Nat.le_refl _)
theorem yt {m0 m:Mk} {d e j n src item:Nat} {bK:List Nat} (h:jV m0 m d e j) (hc:jo m.b.length bK n):jV m0 (m.link bK n src item).2.2 d (e+2100) j:=by
  have g:=uZ m bK n src item hc
  exact yw h g.c g.n8 g.n2 g.n4 g.aT g.ay g.ge g.le (Nat.le_refl _)
theorem OD {m0 m:Mk} {d e j i:Nat} {k:cr} (h:jV m0 m d e j) (hi:i<m.aT.length) (hp:k.pos=(m.aT.getD i known0).pos) (ht:k.gF=(m.aT.getD i known0).gF)
    (hk:jo m.b.length k.bK (k.bW-1)∧(k.bW=0→k.bK=[])∧k.bW≤16*m0.n8+(j+1)):jV m0 {m with aT:=m.aT.set i k} d e (j+1):=by
  have C:m.aT[i]? = some (m.aT.getD i known0):=by simp[List.getD,hi]
  have B:=List.mem_of_getElem? C
  refine⟨om h.fit ⟨q,q,q,q,Nat.le_refl _⟩ (fun y A=>?_) (fun y A=>.inl A),h.c,h.n8,fun y A=>?_,by simpa using h.nd,h.nf,h.ge,h.le⟩
  · rcases List.mem_or_eq_of_mem_set A with A|rfl
    · exact .inl A
    right;have:=h.fit.2.2.2.2.2.2.1 _ B;simp only;omega
  rcases List.mem_or_eq_of_mem_set A with A|rfl
  · obtain⟨D,E,F,G⟩:=h.chains y A;exact⟨D,E,F,by omega⟩
  exact⟨hk.1,hk.2.1,by rw[ht];exact(h.chains _ B).2.2.1,hk.2.2⟩
def oo (e:Nat) (i:Nat) (m:Mk):Mk :=
  let k:=m.aT.getD i known0
  if k.bW=0 then
    let m29:=(m.put (k.pos+40) e).put (k.pos+56) 1
    {m29 with aT:=m29.aT.set i {k with bW:=1}}
  else
    match m.link k.bK (k.bW-1) (k.pos+48) e with
    | (a,_,m1) =>
      let m29:=m1.put (k.pos+56) (k.bW+1)
      {m29 with aT:=m29.aT.set i {k with bK:=a,bW:=k.bW+1}}
theorem tY (e i:Nat) (r:List Nat) (m:Mk):lG e (i :: r) m=lG e r (oo e i m):=by
  unfold oo
  rw[lG]
  simp only
  split
  · rfl
  rfl
theorem yV {m0 m:Mk} {d e j i en:Nat} (h:jV m0 m d e j) (hi:i<m.aT.length):jV m0 (oo en i m) d (e+2100) (j+1)∧(oo en i m).main=m.main∧(oo en i m).aT.length=m.aT.length:=by
  have K:m.aT[i]? = some (m.aT.getD i known0):=by simp[List.getD,hi]
  have M:=List.mem_of_getElem? K
  obtain⟨I,N,O,P⟩:=h.chains _ M
  unfold oo
  simp only
  generalize hk:m.aT.getD i known0=k at *
  split
  · rename_i h0
    have g:=EH (k.pos+56) 1 (EH (k.pos+40) en h)
    have J:=lN m (k.pos+40) en
    have D:=lN (m.put (k.pos+40) en) (k.pos+56) 1
    have H:((m.put (k.pos+40) en).put (k.pos+56) 1).b.length=m.b.length:=by rw[jC,jC]
    generalize m.put (k.pos+40) en=C at *
    generalize C.put (k.pos+56) 1=m29 at *
    have B:m29.aT=m.aT:=D.2.1.trans J.2.1
    have A:=OD (i:=i) (k:={k with bW:=1}) g (by rw[B];exact hi) (by rw[B,hk]) (by rw[B,hk]) ⟨by simp only;rw[N h0];exact chain_nil _,fun F=>by simp at F,by simp only;omega⟩
    refine⟨⟨A.fit,A.c,A.n8,A.chains,A.nd,A.nf,A.ge,ly A.le Ok⟩,D.2.2.2.1.trans J.2.2.2.1,by simp[B]⟩
  rename_i h0
  have g:=yt (src:=k.pos+48) (item:=en) h I
  have E:=uZ m k.bK (k.bW-1) (k.pos+48) en I
  generalize m.link k.bK (k.bW-1) (k.pos+48) en=r at *
  obtain⟨a,Q,C⟩:=r
  simp only at g E ⊢
  have L:=EH (k.pos+56) (k.bW+1) g
  have D:=lN C (k.pos+56) (k.bW+1)
  have H:=jC C (k.pos+56) (k.bW+1)
  generalize C.put (k.pos+56) (k.bW+1)=m29 at *
  have B:m29.aT=m.aT:=D.2.1.trans E.aT
  have G:=E.chain
  rw[show k.bW-1+1=k.bW by omega,← H]at G
  have A:=OD (i:=i) (k:={k with bK:=a,bW:=k.bW+1}) L (by rw[B];exact hi) (by rw[B,hk]) (by rw[B,hk]) ⟨G,fun F=>by simp at F,by simp only;omega⟩
  exact⟨A,D.2.2.2.1.trans E.main,by simp[B]⟩
theorem yW {m0:Mk} {d en:Nat}:∀(od:List Nat) (m:Mk) (e j:Nat),jV m0 m d e j→(∀i∈od,i<m.aT.length) →
    jV m0 (lG en od m) d (e+2100*od.length) (j+od.length)∧(lG en od m).main=m.main∧(lG en od m).aT.length=m.aT.length
  | [],m,e,j,h,_=>⟨h,q,q⟩
  | i :: r,m,e,j,h,hi=>by
    obtain⟨h1,h2,h3⟩:=yV (en:=en) h (hi i Oj)
    obtain⟨g1,g2,g3⟩:=yW r (oo en i m) (e+2100) (j+1) h1 fun x hx=>by rw[h3];exact hi x (by simp[hx])
    rw[tY]
    refine⟨?_,g2.trans h2,g3.trans h3⟩
    have e1:e+2100*(i :: r).length=e+2100+2100*r.length:=by simp;omega
    have A:j+(i :: r).length=j+1+r.length:=by simp;omega
    rw[e1,A];exact g1
def BD (q:Pr):Prop:=q.name.length≤64∧q.value.length≤256
theorem KG:∀(n j:Nat) (o:List Pr),(∀q∈o,BD q)→∀q∈kT n j o,BD q
  | 0,_,_,h=>h
  | n+1,j,o,h=>by
    unfold kT
    refine KG n (j-1) _ fun q hq=>?_
    rcases List.mem_or_eq_of_mem_set hq with hq|rfl
    · exact h q hq
    · rw[List.getD_eq_getElem?_getD]
      cases hg:o[j-1]? with
      | none=>exact⟨by simp,by simp⟩
      | some y=>exact h y (List.mem_of_getElem? hg)
theorem aee {p:Pr} {o:List Pr} (hp:BD p) (h:∀q∈o,BD q):∀q∈tc p o,BD q:=by
  unfold tc
  simp only
  split
  · exact h
  intro q B
  rcases List.mem_or_eq_of_mem_set B with B|rfl
  · refine KG _ _ _ (fun y A=>?_) q B
    rcases List.mem_append.1 A with A|A
    · exact h y A
    simp at A;subst A;exact⟨by simp,by simp⟩
  exact hp
theorem Yl:∀(l o:List Pr),(∀q∈o,BD q)→∀(x:List Pr) (c:Nat),goL l o=(x,c)→(∀q∈x,BD q)∧x.length≤16
  | [],o,ho,x,c,h=>by
    unfold goL at h
    split at h
    · obtain⟨rfl,_⟩:=Prod.mk.inj h;simp
    · obtain⟨rfl,_⟩:=Prod.mk.inj h;exact⟨ho,by omega⟩
  | p :: r,o,ho,x,c,h=>by
    unfold goL at h
    split at h
    · obtain⟨rfl,_⟩:=Prod.mk.inj h;simp
    · rename_i h1
      have hr:=HT.1 (Classical.not_not.1 h1)
      simp only[right,Pr.pb,Bool.and_eq_true]at hr
      exact Yl r _ (aee ⟨(fM hr.1).2,dT hr.2⟩ ho) x c h
theorem zl {l x:List Pr} {c:Nat} (h:oz l=(x,c)):(∀q∈x,BD q)∧x.length≤16:=by
  unfold oz at h
  split at h
  · obtain⟨rfl,_⟩:=Prod.mk.inj h;simp
  exact Yl l [] Oj x c h
theorem TT {ds:List cr} {k i:Nat} {od:List Nat} (h:i∈qE ds k od):i=k∨i∈od:=by
  unfold qE at h
  simp only[List.mem_append,List.mem_singleton]at h
  rcases h with(h|h)|h
  · exact .inr (List.mem_of_mem_take h)
  · exact .inl h
  exact .inr (List.mem_of_mem_drop h)
theorem GL (ds:List cr) (p:Nat) (od:List Nat):∀n,oe ds p od n≤n
  | 0=>Nat.le_refl _
  | n+1=>by
    unfold oe
    split
    · have:=GL ds p od n;omega
    · exact Nat.le_refl _
theorem TS (ds:List cr) (k:Nat) (od:List Nat):(qE ds k od).length=od.length+1:=by
  have:=GL ds (oC ds k) od od.length
  unfold qE;simp;omega
structure oN (m0 m:Mk) (ps:List (List UInt8)) (od:List Nat) (n:Nat):Prop where
  app:jV m0 m n (900*n) 0
  main:m.main=m0.main
  idx:∀i∈od,i<m.aT.length
  len:od.length=n∧ps.length=n
  ps:∀t∈ps,t.length≤400
theorem yG {m0 m:Mk} {ps:List (List UInt8)} {od:List Nat} {n:Nat} {x:Pr} (h:oN m0 m ps od n) (hx:BD x) :
    oN m0 (m.data x).2 (ps ++ [((m.data x).2.aT.getD (m.data x).1 known0).gF]) (qE (m.data x).2.aT (m.data x).1 od) (n+1):=by
  obtain⟨C,D,F⟩:=yq h.app hx
  have G:=EL m x h.app.fit
  refine⟨by rw[show 900*(n+1)=900*n+900 by omega];exact C,F.trans h.main,fun i B=>?_,⟨by rw[TS,h.len.1],by simpa using h.len.2⟩,fun t A=>?_⟩
  · rcases TT B with rfl|B
    · exact D
    have:=h.idx i B
    have H:m.aT.length≤(m.data x).2.aT.length:=by
      rcases G.pre with e|⟨y,e,_⟩ <;> rw[e] <;> simp
    omega
  rcases List.mem_append.1 A with A|A
  · exact h.ps t A
  simp at A
  subst A
  have E:(m.data x).2.aT[(m.data x).1]? = some ((m.data x).2.aT.getD (m.data x).1 known0):=by simp[List.getD,D]
  exact(C.chains _ (List.mem_of_getElem? E)).2.2.1
theorem BL {m0:Mk}:∀(l:List Pr) (m:Mk) (ps:List (List UInt8)) (od:List Nat) (n:Nat),oN m0 m ps od n→(∀q∈l,BD q) →
    oN m0 (jM l m ps od).2.2 (jM l m ps od).1 (jM l m ps od).2.1 (n+l.length)
  | [],m,ps,od,n,h,_=>h
  | x :: r,m,ps,od,n,h,hb=>by
    have h1:=yG h (hb x Oj)
    have h2:=BL r _ _ _ _ h1 fun q hq=>hb q (by simp[hq])
    rw[show n+(x :: r).length=n+1+r.length by simp;omega]
    exact h2
theorem wU {m:Mk} (h:xB m):oN m m [] [] 0:=⟨QR h,q,by simp,⟨q,q⟩,by simp⟩
end Go.Wk
namespace Go.Wk
open Go Go.RowKit
section
variable {P:Program} {ops:Array Oper} {md:Region.Mode} {C:World→Prop} {Q:Exit→Act→World→Prop} {QN:Act→World→Prop}
variable {n:Nat} {A:Fr n} {D:List Deferred} {l:List (Nat × Value)} {w:World} {f:Nat} {listed:Array Bool}
theorem pB {R:Act→World→Prop} {id:Nat} {lo:List Oper} {a:Act} (C:World→Prop) (hm:P.follows .mixedOrders=true) (hk:∀a' w',R a' w'→Q .normal a' w')
  (h:∀w',Md [] w w'→kH P .any lo.toArray C R lo.length (Array.replicate lo.length false) a w'):(Code.region id lo.toArray true).wp P Q a w:=by
 refine wp_region_any hm (oK (C:=C) (QN:=R) hk _ _ _ _ ?_)
 have:=h _ (Md.drew w)
 simpa using this
theorem jF {a:Act} (hr:(Region.ready md ops listed).isEmpty=true) (h:QN a w):kH P md ops C QN 0 listed a w:=⟨by simpa using hr,h⟩
theorem dM {i d:Nat} {op:Op} {ty:TypeId} {ps:String} {af:Array Edge} (v:Value) (hi:ops[i]? = some ⟨some d,op,ty,ps,af,none⟩) (hs:Region.noSelect ops=true) (hB:((Region.ready md ops listed).contains i && Region.free md ops listed i)=true) (hC:C w)
    (hv:∀w',C w'→cC P ⟨some d,op,ty,ps,af,none⟩ (bw A D l).eval w' v) (k:kH P md ops C QN f (listed.setIfInBounds i true) (bw A D ((d,v) :: l)) w):kH P md ops C QN (f+1) listed (bw A D l) w:=by
  simp only[Bool.and_eq_true]at hB
  exact qN hi (Region.noSelect_spec hs) f listed _ w (Region.free_spec hi hB.2) (by simpa using hB.1) hC (.inl ⟨by simp[Region.wanted],fun w' B=>hv w' B⟩) k
theorem MR {i:Nat} {o:Oper} {a:Act} {K:Act→World→Prop} (hi:ops[i]? = some o) (hg:o.guard=none) (h:wpList P ops (fun e a' w'=>e = .normal∧C w'∧K a' w') [o] a w):opC P ops C i K a w:=by
  have D:Region.wanted o (yielded ops a.tmps)=true:=by unfold Region.wanted;rw[hg]
  unfold opC
  simp only[hi]
  rw[if_pos D]
  unfold wpList at h
  rw[if_pos D]at h
  rcases h with h|h
  · unfold Oper.wp at *
    generalize (execOp a.eval o).run P w=r at *
    cases r with
    | ok x w' =>
      cases x <;> simp only[Oper.upon]at h ⊢
      case value v=>exact(show _∧_ from h).2
      case skip=>exact(show _∧_ from h).2
      case defer d=>exact(show _∧_ from h).2
      case enter f args =>
        refine h.mono fun e B A=>?_
        cases e with
        | returned v=>exact(show _∧_ from A).2
        | panicked c=>exact absurd A.1 Oj
        | outgrown=>obtain⟨_,_,A⟩:=A;exact absurd A.1 Oj
      case row r args=>exact h.mono fun v B A=>(show _∧_ from A).2
    | halt x w' =>
      cases x <;> simp only[Oper.upon]at h ⊢
      exact absurd h.1 Oj
  obtain⟨_,_,_,A⟩:=h;exact absurd A.1 Oj
theorem cO {i:Nat} {o:Oper} {a:Act} (hr:decide (Region.ready md ops listed=[i])=true) (hi:ops[i]? = some o) (hg:o.guard=none)
    (h:wpList P ops (fun e a' w'=>e = .normal∧C w'∧kH P md ops C QN f (listed.setIfInBounds i true) a' w') [o] a w):kH P md ops C QN (f+1) listed a w:=by
  have hr:=dT hr
  refine⟨fun A=>(by rw[hr]at A;cases A),fun k hk=>?_⟩
  rw[hr]at hk
  have:k=i:=by simpa using hk
  subst this
  exact MR hi hg h
theorem oc {i j:Nat} {o o':Oper} {a:Act} (hr:decide (Region.ready md ops listed=[i,j])=true) (hi:ops[i]? = some o) (hg:o.guard=none) (hj:ops[j]? = some o') (hg':o'.guard=none)
    (h:wpList P ops (fun e a' w'=>e = .normal∧C w'∧kH P md ops C QN f (listed.setIfInBounds i true) a' w') [o] a w)
    (h':wpList P ops (fun e a' w'=>e = .normal∧C w'∧kH P md ops C QN f (listed.setIfInBounds j true) a' w') [o'] a w):kH P md ops C QN (f+1) listed a w:=by
  have hr:=dT hr
  refine⟨fun A=>(by rw[hr]at A;cases A),fun k hk=>?_⟩
  rw[hr]at hk
  have:k=i∨k=j:=by simpa using hk
  rcases this with rfl|rfl
  · exact MR hi hg h
  exact MR hj hg' h'
end
theorem OL {β:Type} {f:β→Value} {h1:∀x,(f x).oneCell'=true} {ok:β→Prop} {w w':World} {R R':Nat→Prop}:∀{xs:List β} {cs:List Value},qm (sj f h1 ok) w R cs xs→qm (sj f h1 ok) w' R' cs xs
 | [],_,h=>h
 | _ :: _,_,⟨c,r,h0,h1,h2⟩=>⟨c,r,h0,h1,OL h2⟩
theorem lX {β:Type} {f:β→Value} {h1:∀x,(f x).oneCell'=true} {ok:β→Prop} {w w':World} {R R':Nat→Prop} {v:Value} {xs:List β} (h:Lz (sj f h1 ok) w R v xs) (m:Md [] w w'):Lz (sj f h1 ok) w' R' v xs:=by
 obtain⟨a,A,B,C,h1,D,E,F,G⟩:=h
 exact⟨a,A,B,C,h1,D,E,fun p I j u H=>m.cell (F p I j u H) Oj,OL G⟩
theorem jN {β:Type} {f:β→Value} {h1:∀x,(f x).oneCell'=true} {ok:β→Prop} {w:World} {R:Nat→Prop} {b e:Nat} {x:β} (h:bO w b [f x] e) (hx:ok x):Lz (sj f h1 ok) w R (.slice (some ⟨b,0,none⟩) 1 1) [x]:=by
  have B:Ls (sj f h1 ok) w (fun _=>True) (.slice (some ⟨b,0,none⟩) 1 1) [x]:=Ls.cK (cs:=[f x]) h ⟨[f x],[],q,⟨q,hx⟩,q⟩ q Jk trivial
  exact lX B.lz (Md.refl _ _)
structure lV {α:Type} (T:Dt α) (w0:World) (Q0:Nat→Prop) (e:TypeId) (w:World) (R:Nat→Prop) (v:Value) (xs:List α):Prop where
  md:Md [] w0 w
  s:∀b,Q0 b→b<w0.heap.size→R b
  t:∀b,R b→Q0 b
  up:Up w R
  ow:Ow T e (bM [] w0) w R v xs
section
variable {α:Type} {T:Dt α} {P:Program} {ops:Array Oper} {Q:Exit→Act→World→Prop} {n:Nat} {A:Fr n} {D:List Deferred} {l:List (Nat × Value)} {w:World} {rest:List Oper}
theorem lV.VS {w0 w1 w:World} {Q0:Nat→Prop} {e b:Nat} (uQ:Up w0 Q0) (h1:Md [] w0 w1) (h2:w1.heap.size≤b) (h3:b<w.heap.size) (hm:Md [] w1 w) (hB:bO w b [] e) :
    ∃R,lV T w0 Q0 e w R (.slice (some ⟨b,0,none⟩) 0 0) []:=by
  obtain⟨R,s,t,C,u⟩:=jh (uQ.md h1) h2 h3 hm
  exact⟨R,h1.k hm,fun b A B=>s b A (lj B h1.size),t,u,Ow.cK hB q q Jk (.inr (ly h1.size h2)) C⟩
theorem lV.o {w0 w w':World} {Q0 R:Nat→Prop} {e:TypeId} {v:Value} {xs:List α} (h:lV T w0 Q0 e w R v xs) (m:Md [] w w'):lV T w0 Q0 e w' R v xs :=
  ⟨h.md.k m,h.s,h.t,h.up.md m,h.ow.o m⟩
instance ahQ {w0 w w':World} {Q0 R:Nat→Prop} {e:TypeId} {v:Value} {xs:List α}:Tp w w' (lV T w0 Q0 e w R v xs) (lV T w0 Q0 e w' R v xs ):=⟨fun m h=>h.o m⟩
theorem dU {d:Nat} {x y:Operand} {ty:TypeId} {ps:String} {af:Array Edge} {t e:TypeId} {sz by':Nat} {v u:Value} {xs ys:List α} {w0:World} {Q0 R:Nat→Prop} (hn:T.n=sz) (ht:P.underlying t=some (.slice e)) (hE:uH P e sz by'=true) (hx:ev n l x=some v) (hy:ev n l y=some u)
    (F:lV T w0 Q0 e w R v xs) (hY:Lz T w R u ys) (h63:xs.length+ys.length≤100000) (hb:by'≤1000)
    (k:∀v' w' R',lV T w0 Q0 e w' R' v' (xs ++ ys)→Md (ah v).toList w w'→wpList P ops Q rest (bw A D ((d,v') :: l)) w') :
    wpList P ops Q (⟨some d,.call {callee:=.builtin .append,args:=#[x,y],argTypes:=#[t,t]},ty,ps,af,none⟩ :: rest) (bw A D l) w:=by
  refine si hn ht hE hx hy F.ow hY F.up (fun b hb=>.inr (ly F.md.size hb)) Ok ?_ ?_
  · exact ly (Nat.mul_le_mul h63 hb) Jk
  intro v' w' R' E G H I B J K L
  refine k v' w' R' ⟨F.md.cP B fun b hb=>(F.ow.2 b hb).1,fun b hb C=>E b (F.s b hb C) (lj C F.md.size),fun b hb=>F.t b (G b hb),H,I⟩ B
end
theorem acT {ds:List cr} {p q:Nat} {od:List Nat} (h:0<q):oe ds p od q=if p<oC ds (od.getD (q-1) 0)then oe ds p od (q-1)else q:=by
  obtain⟨n,rfl⟩:∃n,q=n+1:=⟨q-1,by omega⟩
  rfl
theorem afj {ds:List cr} {p q:Nat} {od:List Nat} (h:¬0<q):oe ds p od q=q:=by
  obtain rfl:q=0:=by omega
  rfl
theorem nU {ds:List cr} {i:Nat} {x:cr} (h:ds[i]? = some x):oC ds i=x.pos:=by simp[oC,List.getD,h]
theorem rM {l:List Nat} {i x:Nat} (h:l[i]? = some x):l.getD i 0=x:=by simp[List.getD,h]
theorem pO {ds:List cr} {i:Nat} {x:cr} (h:ds[i]? = some x):ds.getD i known0=x:=by simp[List.getD,h]
theorem Rn (m:Mk) (x:Pr) (h:m.fit):m.aT.length≤(m.data x).2.aT.length:=by
  rcases(EL m x h).pre with e|⟨y,e,_⟩ <;> rw[e] <;> simp
theorem tN {l:List Pr} {m:Mk} {ps:List (List UInt8)} {od:List Nat} {i:Nat} (h:¬i<l.length):jM (l.drop i) m ps od=(ps,od,m):=by rw[eO Ok];rfl
theorem wT {l:List Pr} {m m':Mk} {ps:List (List UInt8)} {od:List Nat} {i k:Nat} {x:Pr} {y:cr} {q:Nat} (h:l[i]? = some x) (hd:m.data x=(k,m')) (hy:m'.aT[k]? = some y) (hq:oe m'.aT (oC m'.aT k) od od.length=q) :
    jM (l.drop i) m ps od=jM (l.drop (i+1)) m' (ps ++ [y.gF]) (od.take q ++ [k] ++ od.drop q):=by
  rw[di h]
  show(match m.data x with|(k,m1)=>jM (l.drop (i+1)) m1 (ps ++ [(m1.aT.getD k known0).gF]) (qE m1.aT k od))=_
  rw[hd]
  simp only[pO hy]
  unfold qE
  rw[hq]
theorem yF {m0 m m':Mk} {ps:List (List UInt8)} {od:List Nat} {n k q:Nat} {x:Pr} {y:cr} (h:oN m0 m ps od n) (hx:BD x) (hd:m.data x=(k,m')) (hy:m'.aT[k]? = some y) (hq:oe m'.aT (oC m'.aT k) od od.length=q) :
    oN m0 m' (ps ++ [y.gF]) (od.take q ++ [k] ++ od.drop q) (n+1):=by
  have:=yG h hx
  rw[hd]at this
  simp only[pO hy]at this
  unfold qE at this
  rw[hq]at this
  exact this
theorem tZ {m:Mk} {od:List Nat} {j:Nat} {its:List kQ} (h:¬j<od.length):its ++ kG m (od.drop j)=its:=by rw[eO Ok];simp[kG]
theorem HO {m:Mk} {od:List Nat} {j i:Nat} {its:List kQ} {x:cr} (h:od[j]? = some i) (hx:m.aT[i]? = some x) :
    its ++ kG m (od.drop j)=(its ++ [{pos:=x.pos,cQ:=eG m.c.e5 m.c.dI x.gF}]) ++ kG m (od.drop (j+1)):=by
  rw[di h]
  simp only[kG,List.map_cons,nU hx,pO hx,List.append_assoc,List.singleton_append]
theorem vW {m:Mk} {od:List Nat} {j e:Nat} (h:¬j<od.length):lG e (od.drop j) m=m:=by rw[eO Ok];rfl
theorem yX {m:Mk} {od:List Nat} {j i e:Nat} (h:od[j]? = some i):lG e (od.drop j) m=lG e (od.drop (j+1)) (oo e i m):=by rw[di h,tY]
theorem LA {m0 m:Mk} {d e e' j:Nat} (h:jV m0 m d e j) (he:e≤e'):jV m0 m d e' j:=⟨h.fit,h.c,h.n8,h.chains,h.nd,h.nf,h.ge,ly h.le Ok⟩
theorem ab5 {m:Mk} {e i:Nat} {k:cr} (hk:m.aT[i]? = some k) (h0:k.bW=0) :
    oo e i m={(m.put (k.pos+40) e).put (k.pos+56) 1 with aT:=m.aT.set i {k with bW:=1}}:=by
  unfold oo
  simp only[pO hk]
  rw[if_pos h0]
  rfl
theorem ab6 {m m1:Mk} {e i t:Nat} {a:List Nat} {k:cr} (hk:m.aT[i]? = some k) (h0:¬k.bW=0) (hl:m.link k.bK (k.bW-1) (k.pos+48) e=(a,t,m1)) :
    oo e i m={m1.put (k.pos+56) (k.bW+1)with aT:=m1.aT.set i {k with bK:=a,bW:=k.bW+1}}:=by
  unfold oo
  simp only[pO hk]
  rw[if_neg h0,hl]
  rfl
theorem mG {m x m29 m3 z:Mk} {raw l:List Pr} {c dn mono e t:Nat} {cG:Ly} {ps:List (List UInt8)} {od a:List Nat} (h1:oz raw=(l,c)) (h2:¬c≠0) (h3:¬m.fH 9=18446744073709551615) (h4:jM l m [] []=(ps,od,x))
    (h5:x.eJ (iD {seq:=(x.fH 9+1)%18446744073709551616,dn:=dn,mono:=mono,cG:=cG,xor:=rq 0 ps,bJ:=kG x od})=(e,m29)) (h6:m29.link m29.main (m29.fH 8) 176 e=(a,t,m3))
    (h7:lG e od (let m4:=({m3 with main:=a}:Mk).eH 11 (a.getD 0 0);{m4 with h:={m4.h with dD:=mH a%4294967296,dK:=t%4294967296}})=z) :
    m.append raw dn mono cG=if z.c.bT<z.b.length then(0,15,m)else
      (let seq:=(x.fH 9+1)%18446744073709551616
      let m7:=if m29.fH 8=0 then(z.eH 10 seq).eH 12 dn else z
      let m8:=m7.eH 8 ((m7.fH 8+1)%18446744073709551616)
      let m9:=((m8.eH 9 seq).eH 13 dn).eH 14 mono
      (seq,0,{m9 with h:={m9.h with cG:=cG,dJ:=e}})):=by
  unfold Mk.append
  simp only[h1]
  rw[if_neg h2,if_neg h3]
  simp only[h4,h5,h6]
  simp only at h7
  rw[h7]
end Go.Wk
namespace Go.Wk
open Go Go.RowKit
section
variable {P:Program} {ops:Array Oper} {Q:Exit→Act→World→Prop} {rest:List Oper}
variable {n:Nat} {A:Fr n} {D:List Deferred} {l:List (Nat × Value)} {w:World}
variable {d:Tmp} {ty:TypeId} {ps:String} {af:Array Edge} {g:Option (Nat × Bool)}
end
section
variable {P:Program} {ops:Array Oper} {Q:Exit→Act→World→Prop} {rest:List Oper}
variable {n:Nat} {A:Fr n} {D:List Deferred} {l:List (Nat × Value)} {w:World}
variable {d:Tmp} {ty:TypeId} {ps:String} {af:Array Edge}
end
section
variable {P:Program} {n:Nat} {A:Fr n} {D:List Deferred} {l:List (Nat × Value)} {w:World} {d:Option Tmp} {ty:TypeId} {ps:String} {af:Array Edge} {g:Option (Nat × Bool)}
end
end Go.Wk
namespace Go.Wk
open Go Go.Op
end Go.Wk
namespace Go.Wk
open Go Go.RowKit
section
variable {P:Program} {n:Nat} {A:Fr n} {D:List Deferred} {l:List (Nat × Value)} {w:World} {d:Option Tmp} {ty:TypeId} {ps:String} {af:Array Edge} {g:Option (Nat × Bool)}
end
def eqT:List (List UInt8)→List (List UInt8)→Bool
  | [],_=>true
  | p :: r,q :: s=>if p=q then eqT r s else false
  | _ :: _,[]=>false
def oG (a b:List (List UInt8)):Bool:=if a.length=b.length then eqT a b else false
theorem ER {a b:List (List UInt8)} {i:Nat} (h:¬i<a.length):eqT (a.drop i) b=true:=by rw[eO Ok];rfl
theorem uI {a b:List (List UInt8)} {i:Nat} {p q:Ly} (h:a[i]? = some p) (k:b[i]? = some q):eqT (a.drop i) (b.drop i)=if p=q then eqT (a.drop (i+1)) (b.drop (i+1))else false:=by
  rw[di h,di k];rfl
end Go.Wk
namespace Go.Wk
open Go Go.RowKit
section
variable {P:Program} {ops:Array Oper} {Q:Exit→Act→World→Prop} {rest:List Oper}
variable {n:Nat} {A:Fr n} {D:List Deferred} {l:List (Nat × Value)} {w:World}
variable {d:Tmp} {op:Op} {ty:TypeId} {ps:String} {af:Array Edge} {g:Option (Nat × Bool)}
theorem KM {x:Operand} {t e:TypeId} {b o m c:Nat} {cs zs:List Value} (ht:P.underlying t=some (.slice e)) (hz:ea P e=some zs) (h1:∀u∈zs,u.oneCell'=true) (hx:ev n l x=some (.slice (some ⟨b,o,none⟩) m c)) (h0:0<m)
    (hB:bO w b cs e) (hj:o+m*zs.length≤cs.length) (k:∀w' us,Md [b] w w'→us.length=m*zs.length→bO w' b (fo cs o us) e→wpList P ops Q rest (bw A D l) w') :
    wpList P ops Q (⟨none,.call {callee:=.builtin .clear,args:=#[x],argTypes:=#[t]},ty,ps,af,none⟩ :: rest) (bw A D l) w:=by
  refine fO q ?_
  unfold ea at hz
  split at hz
  · rename_i i hi
    split at hz
    · rename_i z hzz
      simp only[Option.some.injEq]at hz
      subst hz
      have E:(Builtin.zeroCells z.cells m).toList.length=m*z.cells.toList.length:=by simp[Builtin.zeroCells]
      have h1':∀u∈(Builtin.zeroCells z.cells m).toList,u.oneCell'=true:=by
        intro u J
        simp only[Builtin.zeroCells,Array.toList_map,List.mem_map]at J
        obtain⟨j,F,rfl⟩:=J
        have G:j<m*z.cells.size:=by simpa using F
        have K:0<z.cells.size:=by
          rcases Nat.eq_zero_or_pos z.cells.size with h|h
          · rw[h]at G;omega
          · exact h
        have H:=Nat.mod_lt j K
        rw[getElem!_pos z.cells (j%z.cells.size) H]
        exact h1 _ Oj
      have C:=run_storeCells_at P b o e (Builtin.zeroCells z.cells m).toList 0 cs.toArray w hB (by simp only[E];simpa using hj) h1'
      obtain⟨I,rfl⟩:∃I,m=I+1:=⟨m-1,by omega⟩
      have B:(execOp (bw A D l).eval ⟨none,.call {callee:=.builtin .clear,args:=#[x],argTypes:=#[t]},ty,ps,af,none⟩).run P w = .ok (.value (.tuple #[])) (w.setRow b (fo cs o (Builtin.zeroCells z.cells (I+1)).toList).toArray):=by
        simp[execOp,resolve,invoke,builtin,bZ hx,Builtin.clear_,run_underlying ht,zeroValue,typeInfo,hi,hzz,fo]at C ⊢
        simp[C]
      unfold Oper.wp
      rw[B]
      exact k _ _ (Md.setRow w b _) E hB.setRow
    cases hz
  cases hz
end
section
variable {P:Program} {n:Nat} {A:Fr n} {D:List Deferred} {l:List (Nat × Value)} {w:World} {d:Option Tmp} {ty:TypeId} {ps:String} {af:Array Edge} {g:Option (Nat × Bool)}
theorem QB {x:Operand} {t u e:TypeId} {a:Option Addr} {m c:Nat} (hx:ev n l x=some (.slice a m c)) (hT:P.underlying t=some (.slice e)) :
    cC P ⟨d,.binOp .eql t x (.const (.slice none 0 0)) u,ty,ps,af,g⟩ (bw A D l).eval w (.bool a.isNone):=by
  have h:=Go.Lib.run_eql_slice_nil (P:=P) w t e a m c 0 0 hT
  have B:(bw A D l).eval (.const (.slice none 0 0)) = .slice none 0 0:=rfl
  have C:(eqGuard .eql t x (.const (.slice none 0 0)) (.slice a m c) (.slice none 0 0)).run P w = .ok () w:=by unfold eqGuard;simp
  simp[cC,execOp,bZ hx,B,C,h]
end
section
variable {w w':World} {b cap:Nat} {xs:List Pr}
end
end Go.Wk
namespace Go.Wk
open Go Go.RowKit
theorem aaG {v:Nat} {x:UInt8} (h:v<72057594037927936):v*2 ^ 8%18446744073709551616 ||| x.toNat=x.toNat+256*v:=by
  have A:=UInt8.toNat_lt x
  rw[Nat.mod_eq_of_lt Ok,Nat.mul_comm,← Nat.two_pow_add_eq_or_of_lt (by simpa using A)]
  omega
theorem xM {l:Ly} {a k:Nat} (hk:k=4∨k=8) (h:a+k≤l.length):pL l a k=(MF ((l.drop a).take k),true):=by
  unfold pL
  rw[if_pos ⟨by rw[eZ];omega,by omega,by omega⟩];simp
def at4 (l:Ly) (a:Nat):Nat:=MF ((l.drop a).take 4)
def lW (l:Ly) (a:Nat):Nat:=MF ((l.drop a).take 8)
theorem yA (l:Ly) (a:Nat):at4 l a<4294967296:=sJ (k:=4) Yw
theorem WK (l:Ly) (a:Nat):lW l a<18446744073709551616:=sJ (k:=8) Yw
section
variable {P:Program} {ops:Array Oper} {Q:Exit→Act→World→Prop} {rest:List Oper}
variable {n:Nat} {A:Fr n} {D:List Deferred} {l:List (Nat × Value)} {w:World}
variable {d:Tmp} {op:Op} {ty:TypeId} {ps:String} {af:Array Edge} {g:Option (Nat × Bool)}
theorem lS {f:FuncId} {c:Operand} {xs:List Operand} {ts:Array TypeId} {vs cs:List Value} {R:Ending→World→Prop} (hc:ev n l c=some (.func (.func f) #[] cs.toArray)) (hf:cM P f=true) (ha:evs n l xs=some vs) (hr:Calls P f (vs ++ cs).toArray w R)
    (k:∀e w',R e w'→∃v,e = .returned v∧wpList P ops Q rest (bw A D ((d,v) :: l)) w') :
    wpList P ops Q (⟨some d,.call {callee:=.value c,args:=xs.toArray,argTypes:=ts},ty,ps,af,none⟩ :: rest) (bw A D l) w:=by
  refine fO q ?_
  unfold Oper.wp
  have E:=lF (A:=A) (D:=D) ha
  have B:(execOp (bw A D l).eval ⟨some d,.call {callee:=.value c,args:=xs.toArray,argTypes:=ts},ty,ps,af,none⟩).run P w = .ok (.enter f (vs ++ cs).toArray) w:=by
    simp only[execOp,resolve,bZ hc,Deferred.ofValue,List.map_toArray,E]
    simp[invoke,nO hf]
  rw[B]
  refine hr.mono fun e w' C=>?_
  obtain⟨v,rfl,hk⟩:=k e w' C
  exact hk
theorem zS {f:FuncId} {x:Operand} {v:Value} {d':Option Tmp} (hx:ev n l x=some v) :
    cC P ⟨d',.makeFunc (.func f) #[] #[x],ty,ps,af,g⟩ (bw A D l).eval w (.func (.func f) #[] #[v]):=by
  simp[cC,execOp,bZ hx,Instr.makeFunc]
end
def z16:List UInt8:=List.replicate 16 0
def j9 (b:Ly) (c i k j:Nat):bR :=
  {gK:=c,cF:=i,state:=(b.getD 16 0).toNat,dI:=if 0<k then(b.drop 24).take 16 else z16,dO:=if 1<k then(b.drop 40).take 16 else z16,cG:=if 2<k then(b.drop 56).take 16 else z16,seq:=if 3<k then(b.drop 72).take 16 else z16,
    n:=(List.range 21).map fun q=>if q<j then lW b (88+8*q)else 0,dD:=0,dK:=0,dJ:=0}
def oA (b:Ly):bR:={j9 b (at4 b 8) (at4 b 12) 4 21 with dD:=at4 b 256,dK:=at4 b 260,dJ:=lW b 264}
theorem AI {b:Ly} {o:Nat} (h:o+16≤b.length):((b.drop o).take 16).length=16:=by simp;omega
theorem ot {x:Ly} (h:x.length=16) (a c:List Value) (z:Ly):fo (a ++ (iP z ++ c)) a.length (x.map b8)=a ++ (iP x ++ c):=by
  unfold fo
  have B:(iP z).length=16:=rfl
  have A:(x.map b8).length=16:=by simp[h]
  rw[List.take_left,A,← List.append_assoc a,List.drop_left' (by simp[B]),← nJ h,List.append_assoc]
theorem Y2 {b:Ly} {c i k:Nat} (hk:k<4) (hl:272≤b.length):fo (bR.cells (j9 b c i k 0)) (3+k*16) (((b.drop (24+16*k)).take 16).map b8)=bR.cells (j9 b c i (k+1) 0):=by
  have A:((b.drop (24+16*k)).take 16).length=16:=AI Ok
  rcases(show k=0∨k=1∨k=2∨k=3 by omega)with rfl|rfl|rfl|rfl
  · exact ot A [.int .u32 c,.int .u32 i,.int .i64 (((b.getD 16 0).toNat:Nat):Int)] _ z16
  · exact ot A ([.int .u32 c,.int .u32 i,.int .i64 (((b.getD 16 0).toNat:Nat):Int)] ++ iP ((b.drop 24).take 16)) _ z16
  · exact ot A ([.int .u32 c,.int .u32 i,.int .i64 (((b.getD 16 0).toNat:Nat):Int)] ++ iP ((b.drop 24).take 16) ++ iP ((b.drop 40).take 16)) _ z16
  exact ot A ([.int .u32 c,.int .u32 i,.int .i64 (((b.getD 16 0).toNat:Nat):Int)] ++ iP ((b.drop 24).take 16) ++ iP ((b.drop 40).take 16) ++ iP ((b.drop 56).take 16)) _ z16
theorem Y0 {h:bR} {j v:Nat} (hn:h.n.length=21) (hj:j<21):(bR.cells h).set (67+j) (.int .u64 v)=bR.cells {h with n:=h.n.set j v}:=by
  have e:∀(m:List Nat) (t:bR),t.n=m→bR.cells t=([(.int .u32 t.gK)] ++ ([(.int .u32 t.cF)] ++ ([(.int .i64 t.state)] ++ ((iP t.dI) ++ ((iP t.dO) ++ ((iP t.cG) ++ (iP t.seq))))))) ++ (nk m ++ ([(.int .u32 t.dD)] ++ ([(.int .u32 t.dK)] ++ [(.int .u64 t.dJ)]))):=by
    intro m t C;subst C;simp only[bR.cells,List.append_assoc]
  rw[e h.n h q,e (h.n.set j v) {h with n:=h.n.set j v} q,MO hn hj]
  have B:([(.int .u32 h.gK)] ++ ([(.int .u32 h.cF)] ++ ([(.int .i64 h.state)] ++ ((iP h.dI) ++ ((iP h.dO) ++ ((iP h.cG) ++ (iP h.seq)))))):List Value).length=67:=rfl
  have A:(nk h.n).length=21:=rfl
  rw[List.set_append_right _ _ Ok,B,Nat.add_sub_cancel_left,List.set_append_left _ _ Ok]
theorem aem {b:Ly} {j:Nat} (hj:j<21):((List.range 21).map fun q=>if q<j then lW b (88+8*q)else 0).set j (lW b (88+8*j))=(List.range 21).map fun q=>if q<j+1 then lW b (88+8*q)else 0:=by
  apply List.ext_getElem
  · simp
  intro q A B
  simp at A
  by_cases h:q=j
  · subst h;simp
  rw[List.getElem_set_ne (Ne.symm h)]
  simp only[List.getElem_map,List.getElem_range]
  by_cases h3:q<j
  · rw[if_pos h3,if_pos Ok]
  rw[if_neg h3,if_neg Ok]
theorem SA {b:Ly} {c i j:Nat} (hj:j<21):(bR.cells (j9 b c i 4 j)).set (67+j) (.int .u64 ((lW b (88+8*j):Nat):Int))=bR.cells (j9 b c i 4 (j+1)):=by
  rw[Y0 (by simp[j9]) hj]
  unfold j9
  simp only[aem hj]
theorem JL {b:Ly} (h:272≤b.length):bR.ok (oA b):=by
  refine⟨yA _ _,yA _ _,?_,AI Ok,AI Ok,AI Ok,AI Ok,⟨by simp[oA,j9],?_⟩,yA _ _,yA _ _,WK _ _⟩
  · have:=UInt8.toNat_lt (b.getD 16 0);show(b.getD 16 0).toNat<_;omega
  intro y A
  simp only[oA,j9,List.mem_map,List.mem_range]at A
  obtain⟨q,B,rfl⟩:=A
  rw[if_pos B];exact WK _ _
def ptrs (b o sz:Nat) (n:Nat):List Value:=(List.range n).map fun k=>.pointer (some ⟨b,o+k*sz,none⟩)
theorem JN {b o sz n k:Nat} (h:k<n):(ptrs b o sz n)[k]? = some (.pointer (some ⟨b,o+k*sz,none⟩)):=by
  simp[ptrs,h]
end Go.Wk
namespace Go.Wk
open Go Go.RowKit
def andNot (a b:Nat):Nat:=(BitVec.ofNat 32 a &&& ~~~(BitVec.ofNat 32 b)).toNat
section
variable {P:Program} {n:Nat} {A:Fr n} {D:List Deferred} {l:List (Nat × Value)} {w:World} {d:Option Tmp} {ty:TypeId} {ps:String} {af:Array Edge} {g:Option (Nat × Bool)}
theorem UD {x y:Operand} {t u:TypeId} {a b:Nat} (L:Nat) (hL:lim .u32=L) (hk:IntKind.u32.signed=false) (hx:ev n l x=some (.int .u32 (a:Int))) (hy:ev n l y=some (.int .u32 (b:Int))) (h:a<L∧b<L) :
    cC P ⟨d,.binOp .andNot t x y u,ty,ps,af,g⟩ (bw A D l).eval w (.int .u32 ((andNot a b:Nat):Int)):=(aaz hx hy).jd (by
  unfold bits andNot
  simp only[BitVec.ofInt_natCast]
  exact wrapN .u32 _ (show(BitVec.ofNat 32 a &&& ~~~(BitVec.ofNat 32 b)).toNat<4294967296 from(BitVec.ofNat 32 a &&& ~~~(BitVec.ofNat 32 b)).isLt))
end
def hz0:bR:={gK:=0,cF:=0,state:=0,dI:=oq,dO:=oq,cG:=oq,seq:=oq,n:=List.replicate 21 0,dD:=0,dK:=0,dJ:=0}
def QG:List UInt8:=[76,80,75,83,72,72,82,72]
def xf (b p:Ly):Bool:=if p.length≤b.length then decide (b.take p.length=p)else false
def yK (h:bR):Nat × Bool:=if(h.n.getD 0 0+h.n.getD 1 0)%18446744073709551616<h.n.getD 0 0 then(0,false)else((h.n.getD 0 0+h.n.getD 1 0)%18446744073709551616,true)
def kC (h:bR) (at_ size end_:Nat):Nat :=
  if at_%8≠0 then 3
  else if size=0∨size%16≠0 then 5
  else if at_<h.n.getD 0 0∨at_-h.n.getD 0 0<16∨end_<at_∨end_-at_<size then 2 else 0
def r7 (h:bR) (len:Nat):Nat :=
  if andNot h.cF 4≠0 then 7
  else if 2<h.state then 8
  else if h.n.getD 0 0<272∨h.n.getD 0 0%8≠0∨h.n.getD 1 0%8≠0 then 5
  else if(yK h).2=false∨len<(yK h).1 then 2
  else if kC h (h.n.getD 2 0) (h.n.getD 3 0) (yK h).1≠0 then kC h (h.n.getD 2 0) (h.n.getD 3 0) (yK h).1
  else kC h (h.n.getD 4 0) (h.n.getD 5 0) (yK h).1
def kE (b:Ly):bR × Nat :=
  if b.length<272 then(hz0,22)
  else if xf b QG=false then(hz0,6)
  else if r7 (oA b) b.length≠0 then(hz0,r7 (oA b) b.length)else(oA b,0)
theorem jW {h:bR} {len r:Nat} {s:Bool} (he:yK h=(r,s)):r7 h len=(if andNot h.cF 4≠0 then 7 else if 2<h.state then 8 else if h.n.getD 0 0<272∨h.n.getD 0 0%8≠0∨h.n.getD 1 0%8≠0 then 5
    else if s=false∨len<r then 2 else if kC h (h.n.getD 2 0) (h.n.getD 3 0) r≠0 then kC h (h.n.getD 2 0) (h.n.getD 3 0) r else kC h (h.n.getD 4 0) (h.n.getD 5 0) r):=by
  unfold r7;rw[he]
theorem lQ {b:Ly} {h:bR} {p:Bool} {c:Nat} (h1:¬b.length<272) (h2:xf b [76,80,75,83,72,72,82,72]=p) (h3:¬p=false) (h4:oA b=h) (h5:r7 h b.length=c) (h6:c≠0):kE b=(hz0,c):=by
  subst h4;subst h5
  unfold kE;rw[if_neg h1,if_neg (by rw[show QG=[76,80,75,83,72,72,82,72]from rfl,h2];exact h3),if_pos h6]
theorem aa7 {b:Ly} {h:bR} {p:Bool} (h1:¬b.length<272) (h2:xf b [76,80,75,83,72,72,82,72]=p) (h3:¬p=false) (h4:oA b=h) (h5:r7 h b.length=0):kE b=(h,0):=by
  subst h4
  unfold kE;rw[if_neg h1,if_neg (by rw[show QG=[76,80,75,83,72,72,82,72]from rfl,h2];exact h3),if_neg Ok]
theorem JZ {b:Ly} (h:b.length<272):kE b=(hz0,22):=by unfold kE;rw[if_pos h]
theorem Ns {b:Ly} (h1:¬b.length<272) (h2:xf b [76,80,75,83,72,72,82,72]=false):kE b=(hz0,6):=by unfold kE;rw[if_neg h1,if_pos (show xf b QG=false from h2)]
def Po {α:Type} (T:Dt α) (ty:TypeId) (w:World) (Q:Nat→Prop) (v:Value):Option α→Prop
  | none=>v = .pointer none
  | some x=>Pt T ty w Q v x
section
variable {α:Type} {T:Dt α} {ty:TypeId} {w w':World} {Q Q':Nat→Prop} {v:Value} {ox:Option α}
variable {P:Program} {n:Nat} {A:Fr n} {D:List Deferred} {l:List (Nat × Value)} {d:Option Tmp} {ty2:TypeId} {ps:String} {af:Array Edge} {g:Option (Nat × Bool)}
theorem Po.ptr (h:Po T ty w Q v ox):∃p,v = .pointer p∧p.isNone=ox.isNone:=by
  cases ox with
  | none=>exact⟨none,h,q⟩
  | some x=>obtain⟨b,c,rfl,_⟩:=h;exact⟨_,q,q⟩
theorem acp {x:Operand} {t u e:TypeId} (h:Po T ty w Q v ox) (hx:ev n l x=some v) (hT:P.underlying t=some (.pointer e)) :
    cC P ⟨d,.binOp .eql t x (.const (.pointer none)) u,ty2,ps,af,g⟩ (bw A D l).eval w (.bool ox.isNone):=by
  obtain⟨p,rfl,B⟩:=h.ptr
  have F:P.underlying t=some (.pointer (P.pointee t)):=by rw[hT];simp[Program.pointee,hT]
  have h:=run_eql_pointer_nil (P:=P) w t p F
  have C:(bw A D l).eval (.const (.pointer none)) = .pointer none:=rfl
  have E:(eqGuard .eql t x (.const (.pointer none)) (.pointer p) (.pointer none)).run P w = .ok () w:=by unfold eqGuard;simp
  simp[cC,execOp,bZ hx,C,E,h,← B]
end
def jT (b:Ly):Option dH × Nat:=if(kE b).2≠0 then(none,(kE b).2)else(some {b:=b.take (yK (kE b).1).1,h:=(kE b).1},0)
theorem wN {b:Ly} {h:bR} (hr:kE b=(h,0)):272≤b.length∧oA b=h∧r7 h b.length=0:=by
  unfold kE at hr
  split at hr
  · have:=congrArg Prod.snd hr;simp at this
  rename_i h1
  split at hr
  · have:=congrArg Prod.snd hr;simp at this
  split at hr
  · rename_i h2;have:=congrArg Prod.snd hr;exact absurd this h2
  rename_i h2
  have e:=congrArg Prod.fst hr
  simp only at e
  subst e
  exact⟨by omega,q,by omega⟩
theorem aa8 {b:Ly} {h:bR} {e:Nat} {s:Bool} (hr:kE b=(h,0)) (he:yK h=(e,s)):e≤b.length∧s=true:=by
  obtain⟨_,_,A⟩:=wN hr
  rw[jW he]at A
  split at A
  · omega
  split at A
  · omega
  split at A
  · omega
  split at A
  · omega
  rename_i h4;rw[not_or]at h4
  exact⟨by omega,by simpa using h4.1⟩
theorem wH {b:Ly} {x:Option dH} (h:jT b=(x,0)):∃y,x=some y∧bR.ok y.h∧y.b.length≤b.length:=by
  unfold jT at h
  split at h
  · rename_i h1;exact absurd (congrArg Prod.snd h) h1
  rename_i h1
  have C:kE b=((kE b).1,0):=by rw[← Classical.not_not.1 h1]
  obtain⟨A,B,_⟩:=wN C
  exact⟨_,(congrArg Prod.fst h).symm,by rw[← B];exact JL A,by simp;omega⟩
end Go.Wk
namespace Go.Wk
open Go Go.RowKit
section
variable {P:Program} {n:Nat} {A:Fr n} {D:List Deferred} {l:List (Nat × Value)} {w:World} {ops:Array Oper} {rest:List Oper} {Q:Exit→Act→World→Prop}
variable {d:Tmp} {op:Op} {ty:TypeId} {ps:String} {af:Array Edge}
theorem mv {x:Operand} {v:Value} (h:ev n l x=some v) (k:wpList P ops Q rest (bw A D ((d,v) :: l)) w):wpList P ops Q (⟨some d,.move x,ty,ps,af,none⟩ :: rest) (bw A D l) w:=st v (bf h) k
theorem cE {x:Operand} {v:Value} (h:ev n l x=some v) (k:wpList P ops Q rest (bw A D ((d,v) :: l)) w):wpList P ops Q (⟨some d,.assign x,ty,ps,af,none⟩ :: rest) (bw A D l) w:=st v (eU h) k
theorem nt {K:Act→World→Prop} {a:Act} (h:K a w):wpList P ops (Exit.then K Q) [] a w:=ak (ai h)
theorem mz {C:World→Prop} {QN:Act→World→Prop} {rest:List (Bool × Oper)} {v:Value} (hr:∀w',C w'→cC P ⟨some d,op,ty,ps,af,none⟩ (bw A D l).eval w' v) (k:fF P ops C QN rest (bw A D ((d,v) :: l)) w):fF P ops C QN ((true,⟨some d,op,ty,ps,af,none⟩) :: rest) (bw A D l) w:=Go.Wk.m v hr k
theorem sk {j t:Nat} {o:Oper} {b want:Bool} (hb:b = !want) (k:wpList P ops Q rest (bw A D ((d,undef) :: l)) w) (ho:ops[j]? = some o:=by rfl) (ht:o.dst=some t:=by rfl) (hy:ev n l (.tmp t)=some (.bool b):=by rfl) :
    wpList P ops Q (⟨some d,op,ty,ps,af,some (j,want)⟩ :: rest) (bw A D l) w:=ac8 ho ht hy hb k
theorem sg {j t:Nat} {o:Oper} {b want:Bool} {v:Value} (hb:b=want) (hr:cC P ⟨some d,op,ty,ps,af,some (j,want)⟩ (bw A D l).eval w v) (k:wpList P ops Q rest (bw A D ((d,v) :: l)) w) (ho:ops[j]? = some o:=by rfl) (ht:o.dst=some t:=by rfl) (hy:ev n l (.tmp t)=some (.bool b):=by rfl) :
    wpList P ops Q (⟨some d,op,ty,ps,af,some (j,want)⟩ :: rest) (bw A D l) w:=aaP v ho ht hy hb hr k
theorem sf {x:Operand} {s:TypeId} {f b o off:Nat} (hx:ev n l x=some (.pointer (some ⟨b,o,none⟩))) (hf:bh P s f=some off) (k:wpList P ops Q rest (bw A D ((d,.pointer (some ⟨b,o+off,none⟩)) :: l)) w):wpList P ops Q (⟨some d,.fieldAddr s x f,ty,ps,af,none⟩ :: rest) (bw A D l) w:=st _ (aU hx hf) k
theorem sl {x:Operand} {t ty':TypeId} {b j:Nat} {cs:List Value} {u:Value} (hx:ev n l x=some (.pointer (some ⟨b,j,none⟩))) (hT:gZ P t=true) (hB:bO w b cs ty') (hj:cs[j]? = some u) (k:wpList P ops Q rest (bw A D ((d,u) :: l)) w):wpList P ops Q (⟨some d,.load t x,ty,ps,af,none⟩ :: rest) (bw A D l) w:=st _ (aA hx hT hB hj) k
theorem sn {x:Operand} {p:Addr} (h:ev n l x=some (.pointer (some p))) (k:wpList P ops Q rest (bw A D ((d,.pointer (some p)) :: l)) w):wpList P ops Q (⟨some d,.nilCheck x,ty,ps,af,none⟩ :: rest) (bw A D l) w:=st _ (cH h) k
theorem se {x:Operand} {i:Nat} {vs:Array Value} {v:Value} (h:ev n l x=some (.tuple vs)) (hv:vs[i]? = some v) (k:wpList P ops Q rest (bw A D ((d,v) :: l)) w):wpList P ops Q (⟨some d,.extract x i,ty,ps,af,none⟩ :: rest) (bw A D l) w:=st _ (jw h hv) k
theorem sL {x:Operand} {v:Value} {m:Nat} {t e:TypeId} (hx:ev n l x=some v) (hT:P.underlying t=some (.slice e)) (hS:GC v m) (k:wpList P ops Q rest (bw A D ((d,.int .i64 m) :: l)) w):wpList P ops Q (⟨some d,.call {callee:=.builtin .len,args:=#[x],argTypes:=#[t]},ty,ps,af,none⟩ :: rest) (bw A D l) w:=st _ (iu hx hT hS) k
theorem mo {C:World→Prop} {QN:Act→World→Prop} {rest:List (Bool × Oper)} {x:Operand} {v:Value} (h:ev n l x=some v) (k:fF P ops C QN rest (bw A D ((d,v) :: l)) w):fF P ops C QN ((true,⟨some d,.move x,ty,ps,af,none⟩) :: rest) (bw A D l) w:=Go.Wk.m v (fun _ _=>bf h) k
theorem ns {id:Nat} {lo:List Oper} {y:Code} {a:Act} (h:wpList P lo.toArray (Exit.then (fun a w=>y.wp P Q a w) Q) lo a w):(Code.seq (.region id lo.toArray false) y).wp P Q a w:=au (ax h)
theorem an {x:Operand} {v:Value} {K:Act→World→Prop} (h:ev n l x=some v) (k:K (bw A D ((d,v)::l)) w):wpList P ops (Exit.then K Q) [⟨some d,.assign x,ty,ps,af,none⟩] (bw A D l) w:=cE h (nt k)
theorem ar {x:Operand} {v:Value} {R:Exit→Act→World→Prop} (h:ev n l x=some v) (k:R .ret (bw A D ((d,v)::l)) w):wpList P ops (Exit.then (fun a w=>Code.ret.wp P R a w) Q) [⟨some d,.assign x,ty,ps,af,none⟩] (bw A D l) w:=cE h (nt (gW k))
theorem m2 {x y:Operand} {v u:Value} {e:Tmp} {ty' ps' af'} (h:ev n l x=some v) (h2:ev n ((d,v)::l) y=some u) (k:wpList P ops Q rest (bw A D ((e,u)::(d,v)::l)) w):wpList P ops Q (⟨some d,.move x,ty,ps,af,none⟩::⟨some e,.move y,ty',ps',af',none⟩::rest) (bw A D l) w:=mv h (mv h2 k)
theorem nm {id:Nat} {lo:List Oper} {y:Code} {x:Operand} {v:Value} (h:ev n l x=some v) (k:wpList P (⟨some d,.move x,ty,ps,af,none⟩::lo).toArray (Exit.then (fun a w=>y.wp P Q a w) Q) lo (bw A D ((d,v)::l)) w):(Code.seq (.region id (⟨some d,.move x,ty,ps,af,none⟩::lo).toArray false) y).wp P Q (bw A D l) w:=ns (mv h k)
theorem rv {v:Value} {p:Value→Prop} (h:p v):∃u,Ending.returned v=.returned u∧p u:=⟨v,q,h⟩
theorem rA {d:Option Tmp} {g:Option (Nat × Bool)} {x y:Operand} {t u:TypeId} {a b:Nat} (hx:ev n l x=some (.int .i64 (a:Int))) (hy:ev n l y=some (.int .i64 (b:Int))) (h:a+b<9223372036854775808):cC P ⟨d,.binOp .add t x y u,ty,ps,af,g⟩ (bw A D l).eval w (.int .i64 ((a+b:Nat):Int)):=gE 9223372036854775808 q hx hy h
theorem rS {d:Option Tmp} {g:Option (Nat × Bool)} {x y:Operand} {t u:TypeId} {a b:Nat} (hx:ev n l x=some (.int .i64 (a:Int))) (hy:ev n l y=some (.int .i64 (b:Int))) (h:b≤a∧a<9223372036854775808):cC P ⟨d,.binOp .sub t x y u,ty,ps,af,g⟩ (bw A D l).eval w (.int .i64 ((a-b:Nat):Int)):=lO 9223372036854775808 q hx hy h
abbrev SN:Value:=.slice none 0 0
theorem tT {Q R S:Nat→Prop} (a:∀b,Q b→R b) (c:∀b,S b→Q b):∀b,S b→R b:=fun b h=>a b (c b h)
theorem sS {S:List Nat} {u w:World} {Q R T:Nat→Prop} (a:∀b,R b→b<w.heap.size→T b) (c:∀b,Q b→b<u.heap.size→R b) (M:Md S u w):∀b,Q b→b<u.heap.size→T b:=fun b h hl=>a b (c b h hl) (Nat.lt_of_lt_of_le hl M.size)
theorem nQ {Q R:Nat→Prop} {b:Nat} (h:¬Q b) (c:∀b,R b→Q b):¬R b:=fun x=>h (c _ x)
theorem rF {α:Type} {T:Dt α} {e:TypeId} {lo:Nat→Prop} {w:World} {Q:Nat→Prop} {v:Value} {xs:List α} (h:Ow T e lo w Q v xs):∀i∈(ah v).toList,lo i:=iL fun x hx=>(h.2 x hx).1
theorem rN {α:Type} {T:Dt α} {e:TypeId} {lo:Nat→Prop} {w:World} {Q:Nat→Prop} {v:Value} {xs:List α} (h:Ow T e lo w Q v xs):∀i∈(ah v).toList,¬Q i:=iL fun x hx=>(h.2 x hx).2
theorem hI {p:Nat→Prop} {b:Nat} (h:p b):∀x∈[b],p x:=by intro x hx;simp at hx;subst hx;exact h
end
end Go.Wk
namespace Go.Wk
open Go Go.RowKit
structure Stop where
  code:Nat
def Stop.cells (x:Stop):List Value :=
  [(.int .i64 x.code)]
structure iJ where
  kind:Nat
  flags:Nat
  size:Nat
def iJ.cells (x:iJ):List Value :=
  [(.int .i64 x.kind)] ++ ([(.int .i64 x.flags)] ++ ([(.int .u64 x.size)]))
def iJ.ok (x:iJ):Prop:=x.kind<9223372036854775808∧x.flags<9223372036854775808∧x.size<18446744073709551616
theorem iJ.one {x:iJ}:(x.cells).all (fun u=>u.oneCell')=true:=(cA q (cA q q))
def VR:iJ:={kind:=0,flags:=0,size:=0}
def qo (b:Ly) (p:Nat):Nat:=(b.getD p 0).toNat
theorem iT {b:Ly} {p:Nat} {x:UInt8} (h:b[p]? = some x):qo b p=x.toNat:=by simp[qo,List.getD,h]
theorem r9 {b:Ly} {p v:Nat} {s:Bool} {i:Int} (h:pL b i 8=(v,s)) (hi:i=(p:Int)) (hb:p+8≤b.length):lW b p=v:=by
  subst hi;have A:=xM (k:=8) (.inr q) hb;rw[show((8:Nat):Int)=8 from rfl]at A;rw[A]at h;exact congrArg Prod.fst h
theorem QW (b:Ly) (p:Nat):qo b p<256:=UInt8.toNat_lt _
def dS (b:Ly) (p:Nat):iJ × Nat :=
  if p%8≠0 then(VR,3)
  else if b.length<p∨b.length-p<16 then(VR,2)
  else if qo b p<1∨7<qo b p then(VR,4)
  else if qo b (p+1)≠0 then(VR,7)
  else if lW b (p+8)<16 then(VR,5)
  else if b.length-p<lW b (p+8)then(VR,2)
  else({kind:=qo b p,flags:=0,size:=lW b (p+8)},0)
theorem Yd {b:Ly} {p:Nat} (h:p%8≠0):dS b p=(VR,3):=by unfold dS;rw[if_pos h]
theorem HC {b:Ly} {p:Nat} (h:¬p%8≠0) (h2:b.length<p∨b.length-p<16):dS b p=(VR,2):=by unfold dS;rw[if_neg h,if_pos h2]
theorem pK {b:Ly} {p:Nat} {x y:UInt8} {z:Nat} {s:iJ} (es:s={kind:=x.toNat,flags:=y.toNat,size:=z}) (h:¬p%8≠0) (h2:¬(b.length<p∨b.length-p<16)) (e1:qo b p=x.toNat) (e2:qo b (p+1)=y.toNat) (e3:lW b (p+8)=z) :
    dS b p=if s.kind<1∨7<s.kind then(VR,4)else if s.flags≠0 then(VR,7)else if s.size<16 then(VR,5)else if b.length-p<s.size then(VR,2)else(s,0):=by
  subst es;unfold dS;rw[if_neg h,if_neg h2,e1,e2,e3];by_cases hf:y.toNat=0
  · rw[hf]
  simp only[if_pos (show y.toNat≠0 from hf)]
theorem LK {b:Ly} {p:Nat} {f:iJ} (h:dS b p=(f,0)):16≤f.size∧p+f.size≤b.length∧f.kind<256∧f.flags=0:=by
  unfold dS at h;have:=QW b p
  repeat' split at h
  all_goals first|(have:=congrArg Prod.snd h;simp at this;done)|skip
  have:=congrArg Prod.fst h;simp only at this;subst this;refine⟨?_,?_,?_,q⟩ <;> (simp only;omega)
def pE:fU:={cQ:=0,bS:=0,dW:=0,entry:=0,array:=0,bW:=0,aZ:=[]}
def uD:iq:={next:=0,bJ:=[]}
def gD (b:Ly) (p n:Nat):List Nat:=(List.range n).map fun i=>lW b (p+8*i)
theorem kr (b:Ly) (p n:Nat):(gD b p n).length=n:=by simp[gD]
theorem oV (b:Ly) (p n:Nat):gD b p (n+1)=gD b p n ++ [lW b (p+8*n)]:=by simp[gD,List.range_succ]
theorem J8 (b:Ly) (p n:Nat):gD b p (n+1)=lW b p :: gD b (p+8) n:=by
  induction n generalizing p with
  | zero=>simp[gD]
  | succ n ih =>
    rw[oV,ih,List.cons_append,oV,show p+8*(n+1)=p+8+8*n by omega]
def kK (b:Ly) (p:Nat):fU × Nat :=
  if(dS b p).2≠0 then(pE,(dS b p).2)
  else if(dS b p).1.kind≠1 then(pE,4)
  else if(dS b p).1.size≤64 then(pE,5)
  else({cQ:=lW b (p+16),bS:=lW b (p+24),dW:=lW b (p+32),entry:=lW b (p+40),array:=lW b (p+48),bW:=lW b (p+56),aZ:=(b.drop (p+64)).take ((dS b p).1.size-64)},0)
def k9 (b:Ly) (p:Nat):iq × Nat :=
  if(dS b p).2≠0 then(uD,(dS b p).2)
  else if(dS b p).1.kind≠6 then(uD,4)
  else if(dS b p).1.size≤24∨((dS b p).1.size-24)%8≠0 then(uD,5)
  else({next:=lW b (p+16),bJ:=gD b (p+24) (((dS b p).1.size-24)/8)},0)
def fI (s:Nat) (b:Ly) (p:Nat):fU × Nat:=if p<s∨b.length≤p then(pE,2)else kK b p
def gY (s:Nat) (b:Ly) (p:Nat):iq × Nat:=if p<s∨b.length≤p then(uD,2)else k9 b p
def pC (s:Nat) (b:Ly) (p:Nat):Nat:=if p<s∨b.length≤p then 2 else 0
theorem oP {b:Ly} {p c:Nat} {f:iJ} (h:dS b p=(f,c)) (hc:¬c≠0):16≤f.size∧p+f.size≤b.length∧f.kind<256∧f.flags=0:=LK (by rw[h,Classical.not_not.1 hc])
def jY (b:Ly) (p kind ahead item:Nat):List UInt8 × Nat :=
  if(dS b p).2≠0 then([],(dS b p).2)
  else if(dS b p).1.kind≠kind then([],4)
  else if(dS b p).1.size≤16+ahead∨((dS b p).1.size-(16+ahead))%item≠0 then([],5)
  else((b.take (p+(dS b p).1.size)).drop (p+16),0)
theorem rB {b x:Ly} {p kind ahead item c:Nat} (h:jY b p kind ahead item=(x,c)) (hc:c=0):(dS b p).2=0∧(dS b p).1.kind=kind∧16+ahead<(dS b p).1.size∧((dS b p).1.size-(16+ahead))%item=0∧x=(b.take (p+(dS b p).1.size)).drop (p+16)∧x.length=(dS b p).1.size-16∧p+(dS b p).1.size≤b.length:=by
  subst hc;unfold jY at h
  split at h
  · have:=congrArg Prod.snd h;simp at this;contradiction
  rename_i h1
  have A:16≤(dS b p).1.size∧p+(dS b p).1.size≤b.length∧(dS b p).1.kind<256∧(dS b p).1.flags=0:=oP (f:=(dS b p).1) (c:=(dS b p).2) q h1
  split at h
  · have:=congrArg Prod.snd h;simp at this
  rename_i h2
  split at h
  · have:=congrArg Prod.snd h;simp at this
  rename_i h3
  rw[not_or]at h3;have e:=congrArg Prod.fst h;simp only at e;subst e;refine⟨by omega,by omega,by omega,by omega,q,?_,A.2.1⟩;simp only[List.length_drop,List.length_take];omega
theorem abm {b:Ly} {o e i:Nat} (h:i+8≤e-o) (he:e≤b.length):lW ((b.take e).drop o) i=lW b (o+i):=by
  unfold lW
  congr 1
  apply List.ext_getElem?;intro j;simp only[List.getElem?_take,List.getElem?_drop];by_cases hj:j<8
  · rw[if_pos hj,if_pos hj,if_pos (show o+(i+j)<e by omega),Nat.add_assoc]
  rw[if_neg hj,if_neg hj]
theorem JC {b:Ly} {o e n i:Nat} (h:i+8*n≤e-o) (he:e≤b.length):gD ((b.take e).drop o) i n=gD b (o+i) n:=by
  unfold gD
  apply List.map_congr_left;intro k hk;have:=List.mem_range.1 hk;rw[abm Ok he,Nat.add_assoc]
theorem JA {b:Ly} {l:List Nat} {i v:Nat} {s:Bool} (hl:l=gD b 0 (i/8)) (hi:i%8=0) (hb:i+8≤b.length) (h:pL b (i:Int) 8=(v,s)):l ++ [v]=gD b 0 ((i+8)/8):=by
  rw[show(i+8)/8=i/8+1 by omega,oV,hl,← r9 h q hb]
  congr 3
  omega
theorem Nq {b x:Ly} {p c:Nat} (h:jY b p 6 8 8=(x,c)) (hc:c≠0):k9 b p=(uD,c):=by
  unfold jY at h;unfold k9
  split at h
  · rename_i h1;rw[if_pos h1,show(dS b p).2=c from congrArg Prod.snd h]
  rename_i h1;rw[if_neg h1]
  split at h
  · rename_i h2;rw[if_pos h2,show 4=c from congrArg Prod.snd h]
  rename_i h2;rw[if_neg h2]
  split at h
  · rename_i h3;rw[if_pos (by simpa using h3),show 5=c from congrArg Prod.snd h]
  exact absurd (congrArg Prod.snd h).symm hc
theorem Nr {b x:Ly} {p c:Nat} {l:List Nat} (h:jY b p 6 8 8=(x,c)) (hc:¬c≠0) (hl:gD x 0 (x.length/8)=l):l.length=x.length/8∧1<l.length∧k9 b p=({next:=l.getD 0 0,bJ:=l.drop 1},0):=by
  obtain⟨E,F,G,H,A,B,C⟩:=rB h (Classical.not_not.1 hc)
  have e:l=gD b (p+16) (((dS b p).1.size-16)/8):=by
    rw[← hl,B,A,JC Ok C]
  have D:((dS b p).1.size-16)/8=((dS b p).1.size-24)/8+1:=Ok;refine⟨by rw[← hl,kr],by rw[e,kr];omega,?_⟩;unfold k9;rw[if_neg Ok,if_neg Ok,if_neg Ok,e,D,J8]
  rfl
theorem adC {s p c:Nat} {b:Ly} (h:pC s b p=c) (hc:c≠0):(gY s b p).2=c:=by
  unfold pC at h;unfold gY
  split at h
  · rename_i h1;rw[if_pos h1];exact h
  exact absurd h.symm hc
theorem WH {s p c:Nat} {b:Ly} {x:iq} (h0:pC s b p=0) (h:k9 b p=(x,c)):gY s b p=(x,c):=by
  unfold pC at h0;unfold gY
  split at h0
  · cases h0
  rename_i h1;rw[if_neg h1];exact h
theorem UF (b:Ly) (p:Nat) (h:(k9 b p).2≠0):(k9 b p).1=uD:=by
  unfold k9 at h ⊢
  split
  · rfl
  split
  · rfl
  split
  · rfl
  rename_i h1 h2 h3;rw[if_neg h1,if_neg h2,if_neg h3]at h;exact absurd q h
theorem adD {s p c:Nat} {b:Ly} (h:(gY s b p).2=c) (hc:c≠0):gY s b p=(uD,c):=by
  refine Prod.ext ?_ h;rw[← h]at hc;unfold gY at hc ⊢
  split
  · rfl
  rename_i h1;rw[if_neg h1]at hc;exact UF b p hc
theorem adG {s p c:Nat} {b:Ly} (h:pC s b p=c) (hc:c≠0):(fI s b p).2=c:=by
  unfold pC at h;unfold fI
  split at h
  · rename_i h1;rw[if_pos h1];exact h
  exact absurd h.symm hc
theorem WQ {s p c:Nat} {b:Ly} {x:fU} (h0:pC s b p=0) (h:kK b p=(x,c)):fI s b p=(x,c):=by
  unfold pC at h0;unfold fI
  split at h0
  · cases h0
  rename_i h1;rw[if_neg h1];exact h
theorem UG (b:Ly) (p:Nat) (h:(kK b p).2≠0):(kK b p).1=pE:=by
  unfold kK at h ⊢
  split
  · rfl
  split
  · rfl
  split
  · rfl
  rename_i h1 h2 h3;rw[if_neg h1,if_neg h2,if_neg h3]at h;exact absurd q h
theorem adH {s p c:Nat} {b:Ly} (h:(fI s b p).2=c) (hc:c≠0):fI s b p=(pE,c):=by
  refine Prod.ext ?_ h;rw[← h]at hc;unfold fI at hc ⊢
  split
  · rfl
  rename_i h1;rw[if_neg h1]at hc;exact UG b p hc
def kM (b:Ly) (p kind n:Nat):List Nat × List UInt8 × Nat :=
  if(dS b p).2≠0 then([],[],(dS b p).2)
  else if(dS b p).1.kind≠kind then([],[],4)
  else if(dS b p).1.size≤16+8*n then([],[],5)
  else(gD b (p+16) n,(b.drop (p+16+8*n)).take ((dS b p).1.size-(16+8*n)),0)
theorem Kc {b:Ly} {p n c:Nat} {f:iJ} {l:List Nat} {kind:Nat} (h:dS b p=(f,c)) (hc:¬c≠0) (h2:¬f.kind≠kind) (h3:¬f.size≤16+8*n) (hl:l=gD ((b.take (p+f.size)).drop (p+16)) 0 n):kM b p kind n=(l,((b.take (p+f.size)).drop (p+16)).drop (8*n),0):=by
  have A:=oP h hc;unfold kM;rw[h];simp only;rw[if_neg hc,if_neg h2,if_neg h3,hl,JC Ok A.2.1];refine Prod.ext q (Prod.ext ?_ q);simp only
  apply List.ext_getElem?;intro j;simp only[List.getElem?_take,List.getElem?_drop];by_cases hj:j<f.size-(16+8*n)
  · rw[if_pos hj,if_pos Ok];congr 1;omega
  rw[if_neg hj,if_neg Ok]
theorem FA {b:Ly} {l:List Nat} {i v:Nat} {s:Bool} (hl:l=gD b 0 i) (hb:8*i+8≤b.length) (h:pL b ((8*i:Nat):Int) 8=(v,s)):l ++ [v]=gD b 0 (i+1):=by
  rw[oV,hl,← r9 h q hb,Nat.zero_add]
theorem zU {b x:Ly} {p c:Nat} {l:List Nat} (h:kM b p 1 6=(l,x,c)):(c≠0→kK b p=(pE,c))∧(¬c≠0→l.length=6∧kK b p=({cQ:=l.getD 0 0,bS:=l.getD 1 0,dW:=l.getD 2 0,entry:=l.getD 3 0,array:=l.getD 4 0,bW:=l.getD 5 0,aZ:=x},0)):=by
  unfold kM at h;unfold kK
  split at h
  · rename_i h1
    simp only[Prod.mk.injEq]at h;refine⟨fun _=>by rw[if_pos h1,h.2.2],fun A=>absurd (h.2.2 ▸ h1) A⟩
  rename_i h1
  rw[if_neg h1]
  split at h
  · rename_i h2
    simp only[Prod.mk.injEq]at h;exact⟨fun _=>by rw[if_pos h2,h.2.2],fun A=>absurd (h.2.2 ▸ (by decide:(4:Nat)≠0)) A⟩
  rename_i h2
  rw[if_neg h2]
  split at h
  · rename_i h3
    simp only[Prod.mk.injEq]at h;exact⟨fun _=>by rw[if_pos Ok,h.2.2],fun A=>absurd (h.2.2 ▸ (by decide:(5:Nat)≠0)) A⟩
  rename_i h3
  simp only[Prod.mk.injEq]at h;obtain⟨rfl,rfl,rfl⟩:=h;refine⟨fun A=>absurd q A,fun _=>⟨kr _ _ _,?_⟩⟩;rw[if_neg Ok];simp[gD,List.range_succ]
end Go.Wk
namespace Go.Wk
open Go Go.RowKit
def uM:iR:={cQ:=0,bS:=0,dat:=0,aZ:=[]}
def kL (b:Ly) (p:Nat):iR × Nat :=
  if(dS b p).2≠0 then(uM,(dS b p).2)
  else if(dS b p).1.kind≠2 then(uM,4)
  else if(dS b p).1.size≤40 then(uM,5)
  else({cQ:=lW b (p+16),bS:=lW b (p+24),dat:=lW b (p+32),aZ:=(b.drop (p+40)).take ((dS b p).1.size-40)},0)
def ki (s:Nat) (b:Ly) (p:Nat):iR × Nat:=if p<s∨b.length≤p then(uM,2)else kL b p
theorem adV {s p c:Nat} {b:Ly} (h:pC s b p=c) (hc:c≠0):(ki s b p).2=c:=by
  unfold pC at h
  unfold ki
  split at h
  · rename_i h1;rw[if_pos h1];exact h
  exact absurd h.symm hc
theorem XM {s p c:Nat} {b:Ly} {x:iR} (h0:pC s b p=0) (h:kL b p=(x,c)):ki s b p=(x,c):=by
  unfold pC at h0
  unfold ki
  split at h0
  · cases h0
  rename_i h1;rw[if_neg h1];exact h
theorem UH (b:Ly) (p:Nat) (h:(kL b p).2≠0):(kL b p).1=uM:=by
  unfold kL at h ⊢
  split
  · rfl
  split
  · rfl
  split
  · rfl
  rename_i h1 h2 h3;rw[if_neg h1,if_neg h2,if_neg h3]at h;exact absurd q h
theorem adW {s p c:Nat} {b:Ly} (h:(ki s b p).2=c) (hc:c≠0):ki s b p=(uM,c):=by
  refine Prod.ext ?_ h
  rw[← h]at hc
  unfold ki at hc ⊢
  split
  · rfl
  rename_i h1;rw[if_neg h1]at hc;exact UH b p hc
theorem zV {b x:Ly} {p c:Nat} {l:List Nat} (h:kM b p 2 3=(l,x,c)):(c≠0→kL b p=(uM,c))∧(¬c≠0→l.length=3∧kL b p=({cQ:=l.getD 0 0,bS:=l.getD 1 0,dat:=l.getD 2 0,aZ:=x},0)):=by
  unfold kM at h
  unfold kL
  split at h
  · rename_i h1
    simp only[Prod.mk.injEq]at h
    refine⟨fun _=>by rw[if_pos h1,h.2.2],fun A=>absurd (h.2.2 ▸ h1) A⟩
  rename_i h1
  rw[if_neg h1]
  split at h
  · rename_i h2
    simp only[Prod.mk.injEq]at h
    exact⟨fun _=>by rw[if_pos h2,h.2.2],fun A=>absurd (h.2.2 ▸ (by decide:(4:Nat)≠0)) A⟩
  rename_i h2
  rw[if_neg h2]
  split at h
  · rename_i h3
    simp only[Prod.mk.injEq]at h
    exact⟨fun _=>by rw[if_pos Ok,h.2.2],fun A=>absurd (h.2.2 ▸ (by decide:(5:Nat)≠0)) A⟩
  rename_i h3
  simp only[Prod.mk.injEq]at h
  obtain⟨rfl,rfl,rfl⟩:=h
  refine⟨fun A=>absurd q A,fun _=>⟨kr _ _ _,?_⟩⟩
  rw[if_neg Ok]
  simp[gD,List.range_succ]
theorem mI {b:Ly} {p n i v:Nat} (h:(gD b p n)[i]? = some v):v=lW b (p+8*i)∧i<n:=by
  unfold gD at h
  rw[List.getElem?_map]at h
  by_cases hi:i<n
  · rw[List.getElem?_range hi]at h
    exact⟨(Option.some.inj h).symm,hi⟩
  rw[List.getElem?_eq_none (by simpa using hi)]at h;cases h
def qs (b:Ly) (p n:Nat):List kQ:=(List.range n).map fun i=>{pos:=lW b (p+16*i),cQ:=lW b (p+16*i+8)}
theorem wX (b:Ly) (p n:Nat):(qs b p n).length=n:=by simp[qs]
theorem EW (b:Ly) (p n:Nat):qs b p (n+1)=qs b p n ++ [{pos:=lW b (p+16*n),cQ:=lW b (p+16*n+8)}]:=by simp[qs,List.range_succ]
def xj:List kQ→Bool
  | a :: b :: r=>decide (a.pos<b.pos) && xj (b :: r)
  | _=>true
theorem wO:∀l:List kQ,xj l=true↔∀j x y,l[j]? = some x→l[j+1]? = some y→x.pos<y.pos
  | []=>by simp[xj]
  | [a]=>by simp[xj]
  | a :: b :: r=>by
    rw[xj,Bool.and_eq_true,decide_eq_true_eq,wO (b :: r)]
    constructor
    · rintro⟨h1,h2⟩ j x y hx hy
      cases j with
      | zero=>simp at hx hy;subst hx;subst hy;exact h1
      | succ j=>exact h2 j x y (by simpa using hx) (by simpa using hy)
    · intro h
      exact⟨h 0 a b q q,fun j x y hx hy=>h (j+1) x y (by simpa using hx) (by simpa using hy)⟩
def LD:gN:={seq:=0,dn:=0,mono:=0,cG:=oq,xor:=0,bJ:=[]}
def GR (x:Ly):gN:={seq:=lW x 0,dn:=lW x 8,mono:=lW x 16,cG:=(x.drop 24).take 16,xor:=lW x 40,bJ:=qs x 48 ((x.length-48)/16)}
def GU (x:Ly):gN × Nat:=if lW x 0=0 then(LD,13)else if xj (GR x).bJ=false then(LD,11)else(GR x,0)
def oF (b:Ly) (p:Nat):gN × Nat :=
  if(jY b p 3 48 16).2≠0 then(LD,(jY b p 3 48 16).2)else GU (jY b p 3 48 16).1
theorem adO {b x:Ly} {p c:Nat} (h:jY b p 3 48 16=(x,c)) (hc:c≠0):oF b p=(LD,c):=by
  unfold oF;rw[h,if_pos hc]
theorem EQ {b x:Ly} {p c:Nat} (h:jY b p 3 48 16=(x,c)) (hc:¬c≠0):oF b p=GU x:=by
  unfold oF;rw[h,if_neg hc]
structure yo (x:Ly) (e:gN) (i:Nat):Prop where
  seq:e.seq=lW x 0
  dn:e.dn=lW x 8
  mono:e.mono=lW x 16
  cG:e.cG=(x.drop 24).take 16
  xor:e.xor=lW x 40
  bJ:e.bJ=qs x 48 ((i-6)/2)
theorem yo.eq {x:Ly} {e:gN} {i:Nat} (h:yo x e i) (hi:i=x.length/8) (h6:x.length%8=0) (h48:48≤x.length):e=GR x:=by
  obtain⟨s,r,m,G,I,H⟩:=e
  obtain⟨A,B,C,D,E,F⟩:=h
  simp only at A B C D E F
  subst hi
  unfold GR
  rw[A,B,C,D,E,F,show(x.length/8-6)/2=(x.length-48)/16 by omega]
theorem yo.step {x:Ly} {e e':gN} {i n v u:Nat} {l:List Nat} (h:yo x e i) (hi:i%2=0) (h6:6≤i) (hl:l=gD x 0 n) (hv:l[i]? = some v) (hu:l[i+1]? = some u) (he:e'={e with bJ:=e.bJ ++ [{pos:=v,cQ:=u}]}):yo x e' (i+2):=by
  subst hl;subst he
  have hv':=(mI hv).1
  have hu':=(mI hu).1
  refine⟨h.seq,h.dn,h.mono,h.cG,h.xor,?_⟩
  show e.bJ ++ _=_
  rw[show(i+2-6)/2=(i-6)/2+1 by omega,EW,h.bJ,hv',hu',show 48+16*((i-6)/2)=0+8*i by omega,show 0+8*(i+1)=0+8*i+8 by omega]
theorem adM {x:Ly} (h:lW x 0=0):GU x=(LD,13):=by unfold GU;rw[if_pos h]
theorem adL {x:Ly} {e:gN} {i:Nat} {y z:kQ} (he:e=GR x) (h:¬e.seq=0) (h0:1≤i) (hy:e.bJ[i]? = some y) (hz:e.bJ[i-1]? = some z) (hl:y.pos≤z.pos):GU x=(LD,11):=by
  subst he
  unfold GU
  rw[if_neg (show ¬lW x 0=0 from h),if_pos]
  cases hr:xj (GR x).bJ with
  | false=>rfl
  | true =>
    have:=(wO _).1 hr (i-1) z y hz (by rw[Nat.sub_add_cancel h0];exact hy)
    omega
theorem XG {x:Ly} {e:gN} {i:Nat} (he:e=GR x) (h:¬e.seq=0) (hi:e.bJ.length≤i) (hr:∀j,1≤j→j<i→∀y z,e.bJ[j]? = some y→e.bJ[j-1]? = some z→z.pos<y.pos):GU x=(e,0):=by
  have B:xj e.bJ=true:=by
    rw[wO]
    intro j a c C A
    have D:=(List.getElem?_eq_some_iff.1 A).1
    exact hr (j+1) Ok Ok c a A (by simpa using C)
  subst he
  unfold GU
  rw[if_neg (show ¬lW x 0=0 from h),if_neg (by rw[B];simp)]
theorem XF {e:gN} {v:Value} {ys:Ly} (hy:ys.length=16):fo (gN.cells e v) 3 (ys.map b8)=gN.cells {e with cG:=ys} v :=
  ot hy [.int .u64 e.seq,.int .u64 e.dn,.int .u64 e.mono] _ e.cG
theorem QT {x:Ly} (h:40≤x.length):(((x.take 40).drop 24).map b8).take 16=((x.drop 24).take 16).map b8∧((x.drop 24).take 16).length=16:=by
  have e:(x.take 40).drop 24=(x.drop 24).take 16:=by rw[List.drop_take]
  have A:((x.drop 24).take 16).length=16:=by simp;omega
  refine⟨?_,A⟩
  rw[e,List.take_of_length_le Yw]
theorem RE {x:Ly} {e s:gN} {a b c d:Nat} {n:Nat} {l:List Nat} (hl:l=gD x 0 n) (h0:l[0]? = some a) (h1:l[1]? = some b) (h2:l[2]? = some c) (h5:l[5]? = some d) (he:e={seq:=a,dn:=b,mono:=c,cG:=oq,xor:=d,bJ:=[]}) (hs:s={e with cG:=(x.drop 24).take 16}):yo x s 6:=by
  subst hl;subst he;subst hs
  exact⟨(mI h0).1,(mI h1).1,(mI h2).1,q,(mI h5).1,q⟩
def jZ (s:Nat) (b:Ly) (p:Nat):gN × Nat:=if p<s∨b.length≤p then(LD,2)else oF b p
theorem adN {s p c:Nat} {b:Ly} (h:pC s b p=c) (hc:c≠0):(jZ s b p).2=c:=by
  unfold pC at h
  unfold jZ
  split at h
  · rename_i h1;rw[if_pos h1];exact h
  exact absurd h.symm hc
theorem XE {s p c:Nat} {b:Ly} {x:gN} (h0:pC s b p=0) (h:oF b p=(x,c)):jZ s b p=(x,c):=by
  unfold pC at h0
  unfold jZ
  split at h0
  · cases h0
  rename_i h1;rw[if_neg h1];exact h
end Go.Wk
namespace Go.Wk
open Go Go.RowKit
theorem OG {s p c:Nat} {b:Ly} {d:fU} (h:fI s b p=(d,c)):d.aZ.length≤b.length:=by
  unfold fI at h
  split at h
  · cases h;simp[pE]
  unfold kK at h
  repeat' split at h
  all_goals (cases h;simp[pE];try omega)
def kI (k:Bool) (f:Ly) (s:Nat) (b:Ly) (p:Nat):fU × Nat :=
  if(fI s b p).2≠0 then(pE,(fI s b p).2)
  else if(fI s b p).1.cQ=eG k f (fI s b p).1.aZ then fI s b p
  else(pE,9)
theorem aey {k:Bool} {f b:Ly} {s p c:Nat} (h:(fI s b p).2=c) (hc:c≠0):(kI k f s b p).2=c:=by
  unfold kI;rw[h,if_pos hc]
theorem ach {k:Bool} {f b:Ly} {s p n:Nat} {d:fU} (h:fI s b p=(d,0)) (hh:eG k f d.aZ=n) (e:d.cQ=n):kI k f s b p=(d,0):=by
  unfold kI;rw[h,if_neg Oj,if_pos (e.trans hh.symm)]
theorem ag2 {k:Bool} {f b:Ly} {s p n:Nat} {d:fU} (h:fI s b p=(d,0)) (hh:eG k f d.aZ=n) (e:¬d.cQ=n):(kI k f s b p).2=9:=by
  unfold kI;rw[h,if_neg Oj,if_neg (fun h=>e (h.trans hh))]
theorem acg {k:Bool} {f b:Ly} {s p c:Nat} {d:fU} (h:kI k f s b p=(d,c)):d.aZ.length≤b.length:=by
  unfold kI at h
  split at h
  · cases h;simp[pE]
  split at h
  · exact OG h
  cases h;simp[pE]
def iQ (l:Ly):Pr × Nat:=({name:=(oH l).1,value:=(oH l).2},(gT l).toNat)
theorem DU (l:Ly):0≤gT l∧gT l<100:=by
  unfold gT
  repeat' split
  all_goals omega
theorem AF (l:Ly):gT l=(((gT l).toNat:Nat):Int):=(Int.toNat_of_nonneg (DU l).1).symm
theorem DV (l:Ly):(gT l).toNat<9223372036854775808:=by have:=DU l;omega
end Go.Wk
namespace Go.Wk
open Go Go.RowKit
structure fR where
  name:List UInt8
  values:List (List UInt8)
def fR.cells (x:fR) (v0:Value):List Value :=
  [(str x.name)] ++ ([v0])
def jK:Dt fR:=ri (fun x=>(x.name,x.values)) (fu ij (ql ij))
theorem nR {w:World} {Q:Nat→Prop} {cs:List Value} {x:fR} (h:jK.nM w Q cs x):∃v0,cs=x.cells v0∧Ls ij w Q v0 x.values:=by
  obtain⟨_,_,rfl,⟨rfl,_⟩,⟨v0,rfl,A⟩⟩:=h
  exact⟨v0,q,A⟩
theorem sU {w:World} {Q:Nat→Prop} {x:fR} {v0:Value} (c0:Ls ij w Q v0 x.values):jK.nM w Q (x.cells v0) x :=
  ⟨_,_,q,⟨q,tV⟩,⟨_,q,c0⟩⟩
theorem fR.one {x:fR} {v0:Value} (h0:v0.oneCell'=true):(x.cells v0).all (fun u=>u.oneCell')=true:=(cA q (lJ h0))
structure eT where
  rows:List (List fR)
def eT.cells (x:eT) (v0:Value):List Value :=
  [v0]
theorem eT.one {x:eT} {v0:Value} (h0:v0.oneCell'=true):(x.cells v0).all (fun u=>u.oneCell')=true:=(lJ h0)
def AZ {α:Type} (p:α→Bool):List α→Nat
  | []=>0
  | x :: r=>if p x=true then AZ p r+1 else 0
section
variable {α:Type} {p:α→Bool} {l:List α} {i:Nat} {x:α}
theorem ae1 (p:α→Bool) (l:List α):AZ p l≤l.length:=by
  induction l with
  | nil=>simp[AZ]
  | cons x r ih=>unfold AZ;split <;> simp <;> omega
theorem ae2 (h:l[i]? = some x) (hp:p x=false):AZ p l≤i:=by
  induction l generalizing i with
  | nil=>simp at h
  | cons y r ih =>
    unfold AZ
    cases i with
    | zero=>simp at h;subst h;simp[hp]
    | succ i=>have:=ih (by simpa using h);split <;> omega
theorem pos_at (h:l[AZ p l]? = some x):p x=false:=by
  induction l with
  | nil=>simp at h
  | cons y r ih =>
    unfold AZ at h
    split at h
    · exact ih (by simpa using h)
    · rename_i hp;simp at h;subst h;simpa using hp
end
def CY (l:List fR):Prop:=l.Pairwise fun a b=>Op.bytesLess a.name b.name=true
def uq (l:List (List UInt8)) (s:Ly):Nat:=AZ (fun x=>Op.bytesLess x s) l
def RQ (l:List (List UInt8)) (s:Ly):Bool:=match l[uq l s]? with|some x=>decide (x=s)|none=>false
theorem Qq (l:List (List UInt8)) (s:Ly):uq l s≤l.length:=ae1 _ l
theorem aci {l:List (List UInt8)} {s x:Ly} {i:Nat} (hx:l[i]? = some x) (hp:Op.bytesLess x s=false):uq l s≤i:=ae2 hx hp
theorem xO {l:List (List UInt8)} {s x:Ly} (h:l[uq l s]? = some x):RQ l s=decide (x=s):=by unfold RQ;rw[h]
theorem HM {l:List (List UInt8)} {s:Ly} (h:¬uq l s<l.length):RQ l s=false:=by unfold RQ;rw[List.getElem?_eq_none Ok]
def xF (l:List (List UInt8)) (s:Ly):List (List UInt8):=if RQ l s=true then l else l.take (uq l s) ++ s :: l.drop (uq l s)
section
variable {eA eS:Nat} {lo:Nat→Prop} {w w':World} {Q Q':Nat→Prop} {v:Value} {xs:List fR} {us:List Value}
end
end Go.Wk
namespace Go.Wk
open Go Go.RowKit
theorem JR (l:List (List UInt8)) (s:Ly):(xF l s).length≤l.length+1:=by
  have:=Qq l s
  unfold xF
  split
  · omega
  simp;omega
section
variable {l:List (List UInt8)} {k:Nat} {s:Ly} {rows:List (List fR)} {row:List fR}
end
section
variable {eR eA eS br:Nat} {w w1 w2:World} {Q Q2:Nat→Prop} {vr v:Value} {rows:List (List fR)} {row:List fR} {us:List Value}
end
end Go.Wk
namespace Go.Wk
open Go Go.RowKit
end Go.Wk
namespace Go.Wk
open Go Go.RowKit
end Go.Wk
namespace Go.Wk
open Go Go.RowKit
end Go.Wk
namespace Go.Wk
open Go Go.RowKit
section
variable {o:List (List UInt8)} {m x:eT} {c:Nat} {l:List Pr}
end
end Go.Wk
namespace Go.Wk
open Go Go.RowKit
section
variable {P:Program} {n:Nat} {A:Fr n} {D:List Deferred} {l:List (Nat × Value)} {w:World} {d:Option Tmp} {ty:TypeId} {ps:String} {af:Array Edge} {g:Option (Nat × Bool)}
end
theorem KR {l:List (List UInt8)} {i:Nat} {x:Ly} (h:l[i]? = some x):l.getD i []=x:=by rw[List.getD_eq_getElem?_getD,h];rfl
def GW (a b:fR):Bool:=decide (a.name=b.name) && oG a.values b.values
def LF:List fR→List fR→Bool
  | [],_=>true
  | a :: r,b :: s=>if GW a b=true then LF r s else false
  | _ :: _,[]=>false
theorem yL {a b:List fR} {i:Nat} (h:¬i<a.length):LF (a.drop i) b=true:=by rw[eO Ok];rfl
theorem sD {a b:List fR} {i:Nat} {p q:fR} (h:a[i]? = some p) (k:b[i]? = some q):LF (a.drop i) (b.drop i)=if GW p q=true then LF (a.drop (i+1)) (b.drop (i+1))else false:=by
  rw[di h,di k];rfl
def yM (a b:List fR):Bool:=if a.length=b.length then LF a b else false
def GX:List (List fR)→List (List fR)→Bool
  | [],_=>true
  | a :: r,b :: s=>if yM a b=true then GX r s else false
  | _ :: _,[]=>false
theorem yN {a b:List (List fR)} {i:Nat} (h:¬i<a.length):GX (a.drop i) b=true:=by rw[eO Ok];rfl
theorem sE {a b:List (List fR)} {i:Nat} {p q:List fR} (h:a[i]? = some p) (k:b[i]? = some q):GX (a.drop i) (b.drop i)=if yM p q=true then GX (a.drop (i+1)) (b.drop (i+1))else false:=by
  rw[di h,di k];rfl
def vQ (a b:List (List fR)):Bool:=if a.length=b.length then GX a b else false
def QD (a b:eT):Bool:=vQ a.rows b.rows
end Go.Wk
namespace Go.Wk
open Go Go.RowKit
end Go.Wk
namespace Go.Wk
open Go Go.RowKit
section
variable {o:List (List UInt8)} {m x:eT} {c c':Nat}
end
end Go.Wk
namespace Go.Wk
open Go Go.RowKit
section
variable {d:Bool} {l back row:List (List UInt8)} {i:Nat} {s:Ly}
end
end Go.Wk
namespace Go.Wk
open Go Go.RowKit
theorem TU {l:List (List UInt8)} {s x:Ly} {k:Nat} (h:k≤uq l s) (hx:l[k]? = some x) (hl:Op.bytesLess x s=true):k+1≤uq l s:=by
  rcases Nat.lt_or_ge k (uq l s)with B|B
  · omega
  have e:k=uq l s:=by omega
  have:l[AZ (fun y=>Op.bytesLess y s) l]? = some x:=by rw[e]at hx;exact hx
  have A:=pos_at this
  rw[hl]at A;cases A
theorem vv {l:List (List UInt8)} {s:Ly} {k:Nat} (h:uq l s=k) (hh:RQ l s=false):xF l s=l.take k ++ [s] ++ l.drop k:=by
  unfold xF;rw[if_neg (by rw[hh];simp),h];simp
def gV (p:Pr):Bool→List fR→List fR
  | b,[]=>if b=true then[]else[{name:=p.name,values:=[p.value]}]
  | b,a :: r =>
    if a.name=p.name then {name:=p.name,values:=xF a.values p.value} :: gV p true r
    else if b=false∧(Op.bytesLess a.name p.name || decide (a.name=p.name))=false then {name:=p.name,values:=[p.value]} :: a :: gV p true r
    else a :: gV p b r
theorem kX (p:Pr) (b:Bool) (a:fR) (r:List fR):gV p b (a :: r)=if a.name=p.name then {name:=p.name,values:=xF a.values p.value} :: gV p true r
    else if b=false∧(Op.bytesLess a.name p.name || decide (a.name=p.name))=false then {name:=p.name,values:=[p.value]} :: a :: gV p true r
    else a :: gV p b r:=rfl
theorem GH {p:Pr} {b:Bool} {l:List fR} {i:Nat} (h:¬i<l.length):gV p b (l.drop i)=if b=true then[]else[{name:=p.name,values:=[p.value]}]:=by rw[eO Ok];rfl
section
variable {p:Pr} {b:Bool} {l:List fR} {i:Nat} {a:fR}
theorem WB (h:l[i]? = some a) (e:a.name=p.name):gV p b (l.drop i)={name:=p.name,values:=xF a.values p.value} :: gV p true (l.drop (i+1)):=by rw[di h,kX,if_pos e]
theorem WC (h:l[i]? = some a) (e:¬a.name=p.name) (hb:b=false) (hg:(Op.bytesLess a.name p.name || decide (a.name=p.name))=false):gV p b (l.drop i)={name:=p.name,values:=[p.value]} :: a :: gV p true (l.drop (i+1)):=by rw[di h,kX,if_neg e,if_pos ⟨hb,hg⟩]
theorem OC (h:l[i]? = some a) (e:¬a.name=p.name) (hg:¬(b=false∧(Op.bytesLess a.name p.name || decide (a.name=p.name))=false)):gV p b (l.drop i)=a :: gV p b (l.drop (i+1)):=by rw[di h,kX,if_neg e,if_neg hg]
end
end Go.Wk
namespace Go.Wk
open Go Go.RowKit
theorem tL (p:Pr):∀(b:Bool) (l:List fR),(gV p b l).length≤l.length+(if b=true then 0 else 1)
  | b,[]=>by unfold gV;split<;>simp_all
  | b,a :: r=>by
    have h1:=tL p true r
    have h2:=tL p b r
    rw[kX]
    split
    · simp only[List.length_cons,if_true]at *;split<;>omega
    · split
      · rename_i hb;simp only[List.length_cons,if_true,hb.1,Bool.false_eq_true,if_false]at *;omega
      · simp only[List.length_cons]at *;omega
theorem r6 (p:Pr) {k:Nat}:∀(b:Bool) (l:List fR),(∀a∈l,a.values.length≤k)→∀a∈gV p b l,a.values.length≤k+1
  | b,[],_=>by unfold gV;split<;>simp
  | b,x :: r,h=>by
    have h1:=r6 p true r fun a ha=>h a (by simp[ha])
    have h2:=r6 p b r fun a ha=>h a (by simp[ha])
    have hx:=h x Oj
    rw[kX]
    intro a ha
    split at ha
    · rcases List.mem_cons.1 ha with rfl|ha
      · have:=JR x.values p.value;simp only;omega
      · exact h1 a ha
    · split at ha
      · rcases List.mem_cons.1 ha with rfl|ha
        · simp
        · rcases List.mem_cons.1 ha with rfl|ha
          · omega
          · exact h1 a ha
      · rcases List.mem_cons.1 ha with rfl|ha
        · omega
        · exact h2 a ha
def jP (full:List (List UInt8)):List (List UInt8)→Nat→List (List fR)→List fR→eT × Nat
  | [],_,rows,row=>({rows:=if 0<full.length then rows ++ [row]else rows},0)
  | s :: r,i,rows,row =>
    if s=[43]then(if i=0∨i=full.length-1∨full.getD (i-1) []=[43]then({rows:=[]},20)else jP full r (i+1) (rows ++ [row]) [])
    else if(iQ s).2≠0 then({rows:=[]},(iQ s).2)else jP full r (i+1) rows (gV (iQ s).1 false row)
theorem mQ (full:List (List UInt8)) (s:Ly) (r:List (List UInt8)) (i:Nat) (rows:List (List fR)) (row:List fR):jP full (s :: r) i rows row=if s=[43]then(if i=0∨i=full.length-1∨full.getD (i-1) []=[43]then({rows:=[]},20)else jP full r (i+1) (rows ++ [row]) [])
    else if(iQ s).2≠0 then({rows:=[]},(iQ s).2)else jP full r (i+1) rows (gV (iQ s).1 false row):=rfl
def tG (l:List (List UInt8)):eT × Nat:=if 32<l.length then({rows:=[]},21)else jP l l 0 [] []
section
variable {l:List (List UInt8)} {i:Nat} {s:Ly} {rows:List (List fR)} {row:List fR}
theorem JW (h:¬i<l.length):jP l (l.drop i) i rows row=({rows:=if 0<l.length then rows ++ [row]else rows},0):=by rw[eO Ok];rfl
theorem zR (h:l[i]? = some s) (e:s=[43]) (hb:i=0∨i=l.length-1∨l.getD (i-1) []=[43]):jP l (l.drop i) i rows row=({rows:=[]},20):=by rw[di h,mQ,if_pos e,if_pos hb]
theorem TX (h:l[i]? = some s) (e:s=[43]) (hb:¬(i=0∨i=l.length-1∨l.getD (i-1) []=[43])):jP l (l.drop i) i rows row=jP l (l.drop (i+1)) (i+1) (rows ++ [row]) []:=by rw[di h,mQ,if_pos e,if_neg hb]
theorem aax {p:Pr} {c:Nat} (h:l[i]? = some s) (e:¬s=[43]) (hs:iQ s=(p,c)) (hc:c≠0):jP l (l.drop i) i rows row=({rows:=[]},c):=by rw[di h,mQ,if_neg e,hs,if_pos hc]
theorem TY {p:Pr} (h:l[i]? = some s) (e:¬s=[43]) (hs:iQ s=(p,0)):jP l (l.drop i) i rows row=jP l (l.drop (i+1)) (i+1) rows (gV p false row):=by rw[di h,mQ,if_neg e,hs,if_neg Oj]
end
end Go.Wk
namespace Go.Proofs.YtlleafgaeeneoaaGreat
open Go Go.Wk Go.RowKit
set_option linter.unusedVariables false
set_option linter.unusedSimpArgs false
attribute [local irreducible] wpList wpQuiet wpStill fF Code.wp Calls bodyPost
variable {w:World} {Q:Nat→Prop}
noncomputable abbrev Zp:=Tryz.prog
theorem EO:gu Zp 9 1=true:=Yz
theorem fK:uH Zp 9 1 16=true:=Yz
theorem mixed:Zp.follows .mixedOrders=true:=Yz
theorem jO:gZ Zp 9=true:=Yz
theorem iv:Zp.underlying 71=some (.slice 9):=Yz
set_option maxRecDepth 100000 in
set_option maxHeartbeats 4000000 in
theorem MY (uQ:Up w Q) {v0:Value} {l:List (List UInt8)} (h0:Ls ij w Q v0 l) (s:Ly) (p0:l.length≤1000) :
  Calls Zp 108 #[v0,(str s)] w fun en w'=>∃u0:Value,∃r0:List (List UInt8),en = .returned (u0)∧Md [] w w'∧Ls ij w' Q u0 r0∧xF l s=r0:=by
 have L0:=h0.dN;have M:=Md.refl [] w;have Ap:=uQ;have Y:∀b,Q b→Q b:=fun _ h=>h;have Ao:∀b,Q b→b<w.heap.size→Q b:=fun _ h _=>h;refine enter (n:=45) Tryz.func108 q q q fun B=>ns (an q (ns (cE q (nt (au (b9 ?_))))));refine pQ (fun(k:Nat)=>[(5,(.int .i64 k)),(0,v0),(1,(str s))]) (fun(k:Nat) w'=>∃Q':Nat→Prop,(∀b,Q' b→Q b)∧(∀b,Q b→b<w.heap.size→Q' b)∧Up w' Q'∧Md [] w w'∧Ls ij w' Q' v0 l∧(k≤uq l s∧k≤l.length)) (fun(k:Nat)=>l.length-k) (x0:=0) ?_ ?_ ?_
 ·exact⟨q,q,q,tV⟩
 ·exact⟨Q,Y,Ao,uQ,M,h0,⟨Nat.zero_le _,Nat.zero_le _⟩⟩
 clear M uQ Y Ao h0
 rintro k B w1 ⟨Q2,Y,Ao,uQ,M,h0,Bx⟩;refine au (ns (m2 q q (sL q iv h0.cV (st _ (dV (a:=k) (b:=l.length) q q) (mv q ?_)))));refine cB (t:=10) q (fun D=>?_) (fun D=>?_)
 ·(first|(have P:=dT D)|(have P:=dF (eM D))|(have P:=eM D)|(have P:=D));refine sg D (bf q) (sg D (bf q) (sg D (bB (i:=k) 1 q q iv EO h0.cV Ok) ?_));obtain⟨x3,Aa⟩:=dQ (l:=l) (i:=k) Yh;obtain⟨c4,B9,Al⟩:=h0.get Aa;obtain⟨rfl,_⟩:=B9;replace Al:At _ v0 (k*1) [(str x3)]:=Al;refine sg D ((cg (kk:=k*1) 0 q q jO Al q).to (b:=(str x3)) q) (sg D (bf q) (sg D (aa2 (a:=x3) (b:=s) q q) (st _ (bF q D q) (ak ?_))));clear Al;refine ai ?_;refine bV q (fun W=>?_) (fun W=>?_)
  ·(first|(have I:=dT W)|(have I:=dF (eM W))|(have I:=eM W)|(have I:=W));refine aY (ai (b9 (ax (mv q (st _ (rA (a:=k) (b:=1) q q Ok) (cE q (ak (bL (ai ?_)))))))));refine pR (x0:=(k+1)) Ok ⟨(dA q Ok),q,q,tV⟩ ⟨Q2,Y,Ao,uQ,M,h0,⟨TU Bx.1 Aa I,by omega⟩⟩
  (first|(have I:=dF W)|(have I:=dT (eL W))|(have I:=eL W)|(have I:=W));refine cw (bD (bD (cZ (ai (au (au ?_))))));have ep:uq l s=k:=(by have:=aci Aa I;omega);refine ax (m2 q q (sL q iv h0.cV (st _ (dV (a:=k) (b:=l.length) q q) (mv q ?_))));refine cB (t:=24) q (fun A=>?_) (fun A=>?_)
  ·(first|(have E:=dT A)|(have E:=dF (eM A))|(have E:=eM A)|(have E:=A));refine sg A (bf q) (sg A (bf q) (sg A (bB (i:=k) 1 q q iv EO h0.cV Ok) ?_));obtain⟨c6,Ca,Am⟩:=h0.get Aa;obtain⟨rfl,_⟩:=Ca;replace Am:At _ v0 (k*1) [(str x3)]:=Am;refine sg A ((cg (kk:=k*1) 0 q q jO Am q).to (b:=(str x3)) q) (sg A (bf q) (sg A (qH (a:=x3) (b:=s) q q) (st _ (bF q A q) (ak ?_))));clear Am;refine ai ?_;refine bV q (fun G=>?_) (fun G=>?_)
   ·(first|(have C:=dT G)|(have C:=dF (eM G))|(have C:=eM G)|(have C:=G));refine nm q (ar q (aV ?_));exact cu (v:=v0) trivial q ⟨q,tV⟩ ⟨_,l,q,M,(h0.sub (fun b H _=>Y b H)),(by have hh:=Aa;rw[← ep]at hh;unfold xF;rw[if_pos (by rw[xO hh];simp[C])])⟩
   (first|(have C:=dF G)|(have C:=dT (eL G))|(have C:=eL G)|(have C:=G));refine aY (ai (au ?_));refine pB (fun _=>True) (R:=fun a' w'=>∃(A':Fr 45) (v:Value) (Q':Nat→Prop),a'=bw A' [] [(4,v)]∧lV ij w1 Q2 9 w' Q' v (List.take k l ++ [s] ++ List.drop k l)) mixed ?_ ?_
   ·rintro _ w8 ⟨A',Ci,Q9,rfl,F⟩
    have K:=F.md;have sT:=F.t;have U:=F.up;have Bs:=F.ow.lower (bM.lift (S':=[]) M);replace Y:=tT Y sT;replace M:=M.k K;replace uQ:=U;clear U sT;refine ai (gW ?_);exact cu (v:=Ci) trivial q ⟨q,tV⟩ ⟨_,((List.take k l ++ [s] ++ List.drop k l)),q,M,(Bs.ls (fun b H=>Y b H) (bM.up Ap)),(vv ep (by have hh:=Aa;rw[← ep]at hh;rw[xO hh];simp[C]))⟩
   intro wq hd
   have x:∀w' O,Md [] w1 w'→Lz ij w' O (jQ 1 v0 0 k) (List.take k l):=fun w' O K=>lX (h0.head Ok).lz K;have y:∀w' O,Md [] w1 w'→Lz ij w' O (jQ 1 v0 k l.length) (List.drop k l):=fun w' O K=>lX (h0.tail Ok).lz K;refine dM (i:=1) _ q Yz Yz trivial (fun w' J=>bf q) (dM (i:=2) _ q Yz Yz trivial (fun w' J=>bf q) (dM (i:=3) _ q Yz Yz trivial (fun w' J=>fe 1 0 k iv EO q h0.cV Ok Ok q ⟨_,q⟩) (dM (i:=5) _ q Yz Yz trivial (fun w' J=>bf q) (dM (i:=8) _ q Yz Yz trivial (fun w' J=>bf q) (dM (i:=9) _ q Yz Yz trivial (fun w' J=>bf q) (dM (i:=10) _ q Yz Yz trivial (fun w' J=>fe 1 k l.length iv EO q h0.cV Ok Ok ⟨_,q⟩ q) ?_))))));refine oc (i:=0) (j:=6) Yz q q q q ?_ ?_
   ·refine fB iv fK ?_;intro c1 y1 g1 l1 m1 j1;refine ak ⟨q,trivial,?_⟩;obtain⟨R1,V⟩:=lV.VS (T:=ij) uQ hd g1 l1 m1 j1;refine oc (i:=4) (j:=6) Yz q q q q ?_ ?_
    ·refine dU q iv fK q q V (x _ _ V.md) Zx Jk ?_;intro v2 y2 R2 F2 m29;refine ak ⟨q,trivial,?_⟩;refine cO (i:=6) Yz q q (bg [[str s]] iv fK Jk Jk q q ⟨q,tV⟩ ⟨q,tV⟩ q Jk ?_);intro c3 y3 g3 l3 m3 j3;refine ak ⟨q,trivial,?_⟩;refine cO (i:=7) Yz q q (dU q iv fK q q (F2.o m3) (jN j3 trivial) Zx Jk ?_);intro v4 y4 R4 F4 m4;refine ak ⟨q,trivial,?_⟩;refine cO (i:=11) Yz q q (dU q iv fK q q F4 (y _ _ F4.md) Zx Jk ?_);intro v5 y5 R5 F5 m5;refine ak ⟨q,trivial,?_⟩;refine cO (i:=12) Yz q q (cE q ?_);refine ak ⟨q,trivial,?_⟩;refine jF Yz ?_;exact⟨_,v5,R5,(dz (by exact⟨q,tV⟩)).symm,F5⟩
    refine bg [[str s]] iv fK Jk Jk q q ⟨q,tV⟩ ⟨q,tV⟩ q Jk ?_;intro c6 y6 g6 l6 m6 j6;refine ak ⟨q,trivial,?_⟩;refine cO (i:=4) Yz q q (dU q iv fK q q (V.o m6) (x _ _ (V.o m6).md) Zx Jk ?_);intro v7 y7 R7 F7 m7;refine ak ⟨q,trivial,?_⟩;have i6:=j6.md m7 (by intro H;simp[ah]at H;omega);refine cO (i:=7) Yz q q (dU q iv fK q q F7 (jN i6 trivial) Zx Jk ?_);intro v8 y8 R8 F8 m8;refine ak ⟨q,trivial,?_⟩;refine cO (i:=11) Yz q q (dU q iv fK q q F8 (y _ _ F8.md) Zx Jk ?_);intro v9 y9 R9 F9 m9;refine ak ⟨q,trivial,?_⟩;refine cO (i:=12) Yz q q (cE q ?_);refine ak ⟨q,trivial,?_⟩;refine jF Yz ?_;exact⟨_,v9,R9,(dz (by exact⟨q,tV⟩)).symm,F9⟩
   refine bg [[str s]] iv fK Jk Jk q q ⟨q,tV⟩ ⟨q,tV⟩ q Jk ?_;intro A1 Bl A4 Ba r g;refine ak ⟨q,trivial,?_⟩;refine cO (i:=0) Yz q q (fB iv fK ?_);intro A2 Bm e p S o;refine ak ⟨q,trivial,?_⟩;obtain⟨Av,L⟩:=lV.VS (T:=ij) uQ (hd.k r) e p S o;refine cO (i:=4) Yz q q (dU q iv fK q q L (x _ _ L.md) Zx Jk ?_);intro Bg Bn Aw Z u;refine ak ⟨q,trivial,?_⟩;have f:=(g.o S).md u (by intro H;simp[ah]at H;omega);refine cO (i:=7) Yz q q (dU q iv fK q q Z (jN f trivial) Zx Jk ?_);intro Bh Bo Ax N Bc;refine ak ⟨q,trivial,?_⟩;refine cO (i:=11) Yz q q (dU q iv fK q q N (y _ _ N.md) Zx Jk ?_);intro X Bp d c Bd;refine ak ⟨q,trivial,?_⟩;refine cO (i:=12) Yz q q (cE q ?_);refine ak ⟨q,trivial,?_⟩;refine jF Yz ?_;exact⟨_,X,d,(dz (by exact⟨q,tV⟩)).symm,c⟩
  (first|(have E:=dF A)|(have E:=dT (eL A))|(have E:=eL A)|(have E:=A));refine sk A (sk A (sk A (sk A (sk A (sk A (st _ (bE q A q) (nt (fW q q (aY (ai (au ?_)))))))))));refine pB (fun _=>True) (R:=fun a' w'=>∃(A':Fr 45) (v:Value) (Q':Nat→Prop),a'=bw A' [] [(4,v)]∧lV ij w1 Q2 9 w' Q' v (List.take k l ++ [s] ++ List.drop k l)) mixed ?_ ?_
  ·rintro _ C3 ⟨A',X,Cz,rfl,F⟩
   have K:=F.md;have sT:=F.t;have U:=F.up;have Bt:=F.ow.lower (bM.lift (S':=[]) M);replace Y:=tT Y sT;replace M:=M.k K;replace uQ:=U;clear U sT;refine ai (gW ?_);exact cu (v:=X) trivial q ⟨q,tV⟩ ⟨_,((List.take k l ++ [s] ++ List.drop k l)),q,M,(Bt.ls (fun b H=>Y b H) (bM.up Ap)),(vv ep (HM Ok))⟩
  intro wq hd
  have x:∀w' O,Md [] w1 w'→Lz ij w' O (jQ 1 v0 0 k) (List.take k l):=fun w' O K=>lX (h0.head Ok).lz K;have y:∀w' O,Md [] w1 w'→Lz ij w' O (jQ 1 v0 k l.length) (List.drop k l):=fun w' O K=>lX (h0.tail Ok).lz K;refine dM (i:=1) _ q Yz Yz trivial (fun w' J=>bf q) (dM (i:=2) _ q Yz Yz trivial (fun w' J=>bf q) (dM (i:=3) _ q Yz Yz trivial (fun w' J=>fe 1 0 k iv EO q h0.cV Ok Ok q ⟨_,q⟩) (dM (i:=5) _ q Yz Yz trivial (fun w' J=>bf q) (dM (i:=8) _ q Yz Yz trivial (fun w' J=>bf q) (dM (i:=9) _ q Yz Yz trivial (fun w' J=>bf q) (dM (i:=10) _ q Yz Yz trivial (fun w' J=>fe 1 k l.length iv EO q h0.cV Ok Ok ⟨_,q⟩ q) ?_))))));refine oc (i:=0) (j:=6) Yz q q q q ?_ ?_
  ·refine fB iv fK ?_;intro c1 y1 g1 l1 m1 j1;refine ak ⟨q,trivial,?_⟩;obtain⟨R1,V⟩:=lV.VS (T:=ij) uQ hd g1 l1 m1 j1;refine oc (i:=4) (j:=6) Yz q q q q ?_ ?_
   ·refine dU q iv fK q q V (x _ _ V.md) Zx Jk ?_;intro v2 y2 R2 F2 m29;refine ak ⟨q,trivial,?_⟩;refine cO (i:=6) Yz q q (bg [[str s]] iv fK Jk Jk q q ⟨q,tV⟩ ⟨q,tV⟩ q Jk ?_);intro c3 y3 g3 l3 m3 j3;refine ak ⟨q,trivial,?_⟩;refine cO (i:=7) Yz q q (dU q iv fK q q (F2.o m3) (jN j3 trivial) Zx Jk ?_);intro v4 y4 R4 F4 m4;refine ak ⟨q,trivial,?_⟩;refine cO (i:=11) Yz q q (dU q iv fK q q F4 (y _ _ F4.md) Zx Jk ?_);intro v5 y5 R5 F5 m5;refine ak ⟨q,trivial,?_⟩;refine cO (i:=12) Yz q q (cE q ?_);refine ak ⟨q,trivial,?_⟩;refine jF Yz ?_;exact⟨_,v5,R5,(dz (by exact⟨q,tV⟩)).symm,F5⟩
   refine bg [[str s]] iv fK Jk Jk q q ⟨q,tV⟩ ⟨q,tV⟩ q Jk ?_;intro c6 y6 g6 l6 m6 j6;refine ak ⟨q,trivial,?_⟩;refine cO (i:=4) Yz q q (dU q iv fK q q (V.o m6) (x _ _ (V.o m6).md) Zx Jk ?_);intro v7 y7 R7 F7 m7;refine ak ⟨q,trivial,?_⟩;have i6:=j6.md m7 (by intro H;simp[ah]at H;omega);refine cO (i:=7) Yz q q (dU q iv fK q q F7 (jN i6 trivial) Zx Jk ?_);intro v8 y8 R8 F8 m8;refine ak ⟨q,trivial,?_⟩;refine cO (i:=11) Yz q q (dU q iv fK q q F8 (y _ _ F8.md) Zx Jk ?_);intro v9 y9 R9 F9 m9;refine ak ⟨q,trivial,?_⟩;refine cO (i:=12) Yz q q (cE q ?_);refine ak ⟨q,trivial,?_⟩;refine jF Yz ?_;exact⟨_,v9,R9,(dz (by exact⟨q,tV⟩)).symm,F9⟩
  refine bg [[str s]] iv fK Jk Jk q q ⟨q,tV⟩ ⟨q,tV⟩ q Jk ?_;intro A1 Bl A4 Ba r g;refine ak ⟨q,trivial,?_⟩;refine cO (i:=0) Yz q q (fB iv fK ?_);intro A2 Bm e p S o;refine ak ⟨q,trivial,?_⟩;obtain⟨Av,L⟩:=lV.VS (T:=ij) uQ (hd.k r) e p S o;refine cO (i:=4) Yz q q (dU q iv fK q q L (x _ _ L.md) Zx Jk ?_);intro Bg Bn Aw Z u;refine ak ⟨q,trivial,?_⟩;have f:=(g.o S).md u (by intro H;simp[ah]at H;omega);refine cO (i:=7) Yz q q (dU q iv fK q q Z (jN f trivial) Zx Jk ?_);intro Bh Bo Ax N Bc;refine ak ⟨q,trivial,?_⟩;refine cO (i:=11) Yz q q (dU q iv fK q q N (y _ _ N.md) Zx Jk ?_);intro X Bp d c Bd;refine ak ⟨q,trivial,?_⟩;refine cO (i:=12) Yz q q (cE q ?_);refine ak ⟨q,trivial,?_⟩;refine jF Yz ?_;exact⟨_,X,d,(dz (by exact⟨q,tV⟩)).symm,c⟩
 (first|(have P:=dF D)|(have P:=dT (eL D))|(have P:=eL D)|(have P:=D));refine sk D (sk D (sk D (sk D (sk D (sk D (st _ (bE q D q) (nt (fW q q (cw (bD (bD (cZ (ai ?_)))))))))))));refine au (au ?_);have ep:uq l s=k:=(by have:=Qq l s;omega);refine ax (m2 q q (sL q iv h0.cV (st _ (dV (a:=k) (b:=l.length) q q) (mv q ?_))));refine cB (t:=24) q (fun A=>?_) (fun A=>?_)
 ·(first|(have E:=dT A)|(have E:=dF (eM A))|(have E:=eM A)|(have E:=A));refine sg A (bf q) (sg A (bf q) (sg A (bB (i:=k) 1 q q iv EO h0.cV Ok) ?_));obtain⟨Bk,Ah⟩:=dQ (l:=l) (i:=k) Yh;obtain⟨C2,Bw,z⟩:=h0.get Ah;obtain⟨rfl,_⟩:=Bw;replace z:At _ v0 (k*1) [(str Bk)]:=z;refine sg A ((cg (kk:=k*1) 0 q q jO z q).to (b:=(str Bk)) q) (sg A (bf q) (sg A (qH (a:=Bk) (b:=s) q q) (st _ (bF q A q) (ak ?_))));clear z;refine ai ?_;refine bV q (fun G=>?_) (fun G=>?_)
  ·(first|(have C:=dT G)|(have C:=dF (eM G))|(have C:=eM G)|(have C:=G));refine nm q (ar q (aV ?_));exact cu (v:=v0) trivial q ⟨q,tV⟩ ⟨_,l,q,M,(h0.sub (fun b H _=>Y b H)),(by have hh:=Ah;rw[← ep]at hh;unfold xF;rw[if_pos (by rw[xO hh];simp[C])])⟩
  (first|(have C:=dF G)|(have C:=dT (eL G))|(have C:=eL G)|(have C:=G));refine aY (ai (au ?_));refine pB (fun _=>True) (R:=fun a' w'=>∃(A':Fr 45) (v:Value) (Q':Nat→Prop),a'=bw A' [] [(4,v)]∧lV ij w1 Q2 9 w' Q' v (List.take k l ++ [s] ++ List.drop k l)) mixed ?_ ?_
  ·rintro _ C4 ⟨A',Ck,C0,rfl,F⟩
   have K:=F.md;have sT:=F.t;have U:=F.up;have Bu:=F.ow.lower (bM.lift (S':=[]) M);replace Y:=tT Y sT;replace M:=M.k K;replace uQ:=U;clear U sT;refine ai (gW ?_);exact cu (v:=Ck) trivial q ⟨q,tV⟩ ⟨_,((List.take k l ++ [s] ++ List.drop k l)),q,M,(Bu.ls (fun b H=>Y b H) (bM.up Ap)),(vv ep (by have hh:=Ah;rw[← ep]at hh;rw[xO hh];simp[C]))⟩
  intro wq hd
  have x:∀w' O,Md [] w1 w'→Lz ij w' O (jQ 1 v0 0 k) (List.take k l):=fun w' O K=>lX (h0.head Ok).lz K;have y:∀w' O,Md [] w1 w'→Lz ij w' O (jQ 1 v0 k l.length) (List.drop k l):=fun w' O K=>lX (h0.tail Ok).lz K;refine dM (i:=1) _ q Yz Yz trivial (fun w' J=>bf q) (dM (i:=2) _ q Yz Yz trivial (fun w' J=>bf q) (dM (i:=3) _ q Yz Yz trivial (fun w' J=>fe 1 0 k iv EO q h0.cV Ok Ok q ⟨_,q⟩) (dM (i:=5) _ q Yz Yz trivial (fun w' J=>bf q) (dM (i:=8) _ q Yz Yz trivial (fun w' J=>bf q) (dM (i:=9) _ q Yz Yz trivial (fun w' J=>bf q) (dM (i:=10) _ q Yz Yz trivial (fun w' J=>fe 1 k l.length iv EO q h0.cV Ok Ok ⟨_,q⟩ q) ?_))))));refine oc (i:=0) (j:=6) Yz q q q q ?_ ?_
  ·refine fB iv fK ?_;intro c1 y1 g1 l1 m1 j1;refine ak ⟨q,trivial,?_⟩;obtain⟨R1,V⟩:=lV.VS (T:=ij) uQ hd g1 l1 m1 j1;refine oc (i:=4) (j:=6) Yz q q q q ?_ ?_
   ·refine dU q iv fK q q V (x _ _ V.md) Zx Jk ?_;intro v2 y2 R2 F2 m29;refine ak ⟨q,trivial,?_⟩;refine cO (i:=6) Yz q q (bg [[str s]] iv fK Jk Jk q q ⟨q,tV⟩ ⟨q,tV⟩ q Jk ?_);intro c3 y3 g3 l3 m3 j3;refine ak ⟨q,trivial,?_⟩;refine cO (i:=7) Yz q q (dU q iv fK q q (F2.o m3) (jN j3 trivial) Zx Jk ?_);intro v4 y4 R4 F4 m4;refine ak ⟨q,trivial,?_⟩;refine cO (i:=11) Yz q q (dU q iv fK q q F4 (y _ _ F4.md) Zx Jk ?_);intro v5 y5 R5 F5 m5;refine ak ⟨q,trivial,?_⟩;refine cO (i:=12) Yz q q (cE q ?_);refine ak ⟨q,trivial,?_⟩;refine jF Yz ?_;exact⟨_,v5,R5,(dz (by exact⟨q,tV⟩)).symm,F5⟩
   refine bg [[str s]] iv fK Jk Jk q q ⟨q,tV⟩ ⟨q,tV⟩ q Jk ?_;intro c6 y6 g6 l6 m6 j6;refine ak ⟨q,trivial,?_⟩;refine cO (i:=4) Yz q q (dU q iv fK q q (V.o m6) (x _ _ (V.o m6).md) Zx Jk ?_);intro v7 y7 R7 F7 m7;refine ak ⟨q,trivial,?_⟩;have i6:=j6.md m7 (by intro H;simp[ah]at H;omega);refine cO (i:=7) Yz q q (dU q iv fK q q F7 (jN i6 trivial) Zx Jk ?_);intro v8 y8 R8 F8 m8;refine ak ⟨q,trivial,?_⟩;refine cO (i:=11) Yz q q (dU q iv fK q q F8 (y _ _ F8.md) Zx Jk ?_);intro v9 y9 R9 F9 m9;refine ak ⟨q,trivial,?_⟩;refine cO (i:=12) Yz q q (cE q ?_);refine ak ⟨q,trivial,?_⟩;refine jF Yz ?_;exact⟨_,v9,R9,(dz (by exact⟨q,tV⟩)).symm,F9⟩
  refine bg [[str s]] iv fK Jk Jk q q ⟨q,tV⟩ ⟨q,tV⟩ q Jk ?_;intro A1 Bl A4 Ba r g;refine ak ⟨q,trivial,?_⟩;refine cO (i:=0) Yz q q (fB iv fK ?_);intro A2 Bm e p S o;refine ak ⟨q,trivial,?_⟩;obtain⟨Av,L⟩:=lV.VS (T:=ij) uQ (hd.k r) e p S o;refine cO (i:=4) Yz q q (dU q iv fK q q L (x _ _ L.md) Zx Jk ?_);intro Bg Bn Aw Z u;refine ak ⟨q,trivial,?_⟩;have f:=(g.o S).md u (by intro H;simp[ah]at H;omega);refine cO (i:=7) Yz q q (dU q iv fK q q Z (jN f trivial) Zx Jk ?_);intro Bh Bo Ax N Bc;refine ak ⟨q,trivial,?_⟩;refine cO (i:=11) Yz q q (dU q iv fK q q N (y _ _ N.md) Zx Jk ?_);intro X Bp d c Bd;refine ak ⟨q,trivial,?_⟩;refine cO (i:=12) Yz q q (cE q ?_);refine ak ⟨q,trivial,?_⟩;refine jF Yz ?_;exact⟨_,X,d,(dz (by exact⟨q,tV⟩)).symm,c⟩
 (first|(have E:=dF A)|(have E:=dT (eL A))|(have E:=eL A)|(have E:=A));refine sk A (sk A (sk A (sk A (sk A (sk A (st _ (bE q A q) (nt (fW q q (aY (ai (au ?_)))))))))));refine pB (fun _=>True) (R:=fun a' w'=>∃(A':Fr 45) (v:Value) (Q':Nat→Prop),a'=bw A' [] [(4,v)]∧lV ij w1 Q2 9 w' Q' v (List.take k l ++ [s] ++ List.drop k l)) mixed ?_ ?_
 ·rintro _ C5 ⟨A',Cl,C1,rfl,F⟩
  have K:=F.md;have sT:=F.t;have U:=F.up;have Bv:=F.ow.lower (bM.lift (S':=[]) M);replace Y:=tT Y sT;replace M:=M.k K;replace uQ:=U;clear U sT;refine ai (gW ?_);exact cu (v:=Cl) trivial q ⟨q,tV⟩ ⟨_,((List.take k l ++ [s] ++ List.drop k l)),q,M,(Bv.ls (fun b H=>Y b H) (bM.up Ap)),(vv ep (HM Ok))⟩
 intro wq hd
 have x:∀w' O,Md [] w1 w'→Lz ij w' O (jQ 1 v0 0 k) (List.take k l):=fun w' O K=>lX (h0.head Ok).lz K;have y:∀w' O,Md [] w1 w'→Lz ij w' O (jQ 1 v0 k l.length) (List.drop k l):=fun w' O K=>lX (h0.tail Ok).lz K;refine dM (i:=1) _ q Yz Yz trivial (fun w' J=>bf q) (dM (i:=2) _ q Yz Yz trivial (fun w' J=>bf q) (dM (i:=3) _ q Yz Yz trivial (fun w' J=>fe 1 0 k iv EO q h0.cV Ok Ok q ⟨_,q⟩) (dM (i:=5) _ q Yz Yz trivial (fun w' J=>bf q) (dM (i:=8) _ q Yz Yz trivial (fun w' J=>bf q) (dM (i:=9) _ q Yz Yz trivial (fun w' J=>bf q) (dM (i:=10) _ q Yz Yz trivial (fun w' J=>fe 1 k l.length iv EO q h0.cV Ok Ok ⟨_,q⟩ q) ?_))))));refine oc (i:=0) (j:=6) Yz q q q q ?_ ?_
 ·refine fB iv fK ?_;intro c1 y1 g1 l1 m1 j1;refine ak ⟨q,trivial,?_⟩;obtain⟨R1,V⟩:=lV.VS (T:=ij) uQ hd g1 l1 m1 j1;refine oc (i:=4) (j:=6) Yz q q q q ?_ ?_
  ·refine dU q iv fK q q V (x _ _ V.md) Zx Jk ?_;intro v2 y2 R2 F2 m29;refine ak ⟨q,trivial,?_⟩;refine cO (i:=6) Yz q q (bg [[str s]] iv fK Jk Jk q q ⟨q,tV⟩ ⟨q,tV⟩ q Jk ?_);intro c3 y3 g3 l3 m3 j3;refine ak ⟨q,trivial,?_⟩;refine cO (i:=7) Yz q q (dU q iv fK q q (F2.o m3) (jN j3 trivial) Zx Jk ?_);intro v4 y4 R4 F4 m4;refine ak ⟨q,trivial,?_⟩;refine cO (i:=11) Yz q q (dU q iv fK q q F4 (y _ _ F4.md) Zx Jk ?_);intro v5 y5 R5 F5 m5;refine ak ⟨q,trivial,?_⟩;refine cO (i:=12) Yz q q (cE q ?_);refine ak ⟨q,trivial,?_⟩;refine jF Yz ?_;exact⟨_,v5,R5,(dz (by exact⟨q,tV⟩)).symm,F5⟩
  refine bg [[str s]] iv fK Jk Jk q q ⟨q,tV⟩ ⟨q,tV⟩ q Jk ?_;intro c6 y6 g6 l6 m6 j6;refine ak ⟨q,trivial,?_⟩;refine cO (i:=4) Yz q q (dU q iv fK q q (V.o m6) (x _ _ (V.o m6).md) Zx Jk ?_);intro v7 y7 R7 F7 m7;refine ak ⟨q,trivial,?_⟩;have i6:=j6.md m7 (by intro H;simp[ah]at H;omega);refine cO (i:=7) Yz q q (dU q iv fK q q F7 (jN i6 trivial) Zx Jk ?_);intro v8 y8 R8 F8 m8;refine ak ⟨q,trivial,?_⟩;refine cO (i:=11) Yz q q (dU q iv fK q q F8 (y _ _ F8.md) Zx Jk ?_);intro v9 y9 R9 F9 m9;refine ak ⟨q,trivial,?_⟩;refine cO (i:=12) Yz q q (cE q ?_);refine ak ⟨q,trivial,?_⟩;refine jF Yz ?_;exact⟨_,v9,R9,(dz (by exact⟨q,tV⟩)).symm,F9⟩
 refine bg [[str s]] iv fK Jk Jk q q ⟨q,tV⟩ ⟨q,tV⟩ q Jk ?_;intro A1 Bl A4 Ba r g;refine ak ⟨q,trivial,?_⟩;refine cO (i:=0) Yz q q (fB iv fK ?_);intro A2 Bm e p S o;refine ak ⟨q,trivial,?_⟩;obtain⟨Av,L⟩:=lV.VS (T:=ij) uQ (hd.k r) e p S o;refine cO (i:=4) Yz q q (dU q iv fK q q L (x _ _ L.md) Zx Jk ?_);intro Bg Bn Aw Z u;refine ak ⟨q,trivial,?_⟩;have f:=(g.o S).md u (by intro H;simp[ah]at H;omega);refine cO (i:=7) Yz q q (dU q iv fK q q Z (jN f trivial) Zx Jk ?_);intro Bh Bo Ax N Bc;refine ak ⟨q,trivial,?_⟩;refine cO (i:=11) Yz q q (dU q iv fK q q N (y _ _ N.md) Zx Jk ?_);intro X Bp d c Bd;refine ak ⟨q,trivial,?_⟩;refine cO (i:=12) Yz q q (cE q ?_);refine ak ⟨q,trivial,?_⟩;refine jF Yz ?_;exact⟨_,X,d,(dz (by exact⟨q,tV⟩)).symm,c⟩
theorem qP:fA Zp 98 2=true:=Yz
theorem EP:gu Zp 98 2=true:=Yz
theorem qR:uH Zp 98 2 40=true:=Yz
theorem aft:cM Zp 108=true:=Yz
theorem mq:bh Zp 61 0=some 0:=Yz
theorem qC:bh Zp 61 1=some 1:=Yz
theorem vp:bh Zp 98 0=some 0:=Yz
theorem xX:bh Zp 98 1=some 1:=Yz
theorem PZ:gZ Zp 71=true:=Yz
theorem ae0:fw Zp 98=some [(0,1),(1,1)]:=Yz
theorem xA:Zp.underlying 81=some (.slice 98):=Yz
theorem z98:ea Zp 98=some [.string ByteArray.empty,.slice none 0 0]:=Yz
set_option maxHeartbeats 16000000 in
theorem JV (uQ:Up w Q) {v0:Value} {l:List fR} (h0:Ls jK w Q v0 l) (p:Pr) (p0:l.length≤1000) (p1:∀a∈l,a.values.length≤1000) :
  Calls Zp 69 #[v0,.agg (Pr.cells p).toArray] w fun en w'=>∃u0:Value,∃r0:List fR,en = .returned (u0)∧Md [] w w'∧Ls jK w' Q u0 r0∧gV p false l=r0:=by
 have L0:=h0.dN;have M:=Md.refl [] w;have Bt:=uQ;have g:∀b,Q b→Q b:=fun _ h=>h;have N:∀b,Q b→b<w.heap.size→Q b:=fun _ h _=>h;refine enter (n:=76) Tryz.func69 q q q fun B=>ns (eC (cs:=(Pr.cells p)) q q ?_);intro A7 w1 A8 Cx C A;have E:=uQ _ A8;replace A8:=ly M.size A8;obtain⟨h0,uQ,M⟩:=k3 C h0 uQ M;refine an q (ns (cE q (nt (ns (cE q (nt (au (ns (cE q (nt (b9 ?_)))))))))));obtain⟨r0,A2⟩:∃r,gV p false l=r:=⟨_,q⟩;have A3:=A2
 try simp only[List.nil_append]at A2
 refine PC (fun(vo:Value) (o:List fR) (b:Bool) (i:Nat)=>[(5,vo),(6,(.bool b)),(7,(.int .i64 i)),(0,v0),(3,(.pointer (some ⟨A7,0,none⟩)))]) (fun(vo:Value) (o:List fR) (b:Bool) (i:Nat) w'=>∃Q':Nat→Prop,(∀b,Q' b→Q b)∧(∀b,Q b→b<w.heap.size→Q' b)∧Up w' Q'∧Md [] w w'∧Ow jK 98 (bM [] w) w' Q' vo o∧Ls jK w' Q' v0 l∧bO w' A7 (Pr.cells p) 61∧Q' A7∧(o.length≤2*i∧i≤l.length)∧o ++ gV p b (l.drop i)=r0) (fun(vo:Value) (o:List fR) (b:Bool) (i:Nat)=>l.length-i) (x0:=SN) (x1:=([]:List fR)) (x2:=false) (x3:=0) ?_ ?_ ?_
 ·exact⟨q,q,q,q,q,tV⟩
 ·exact⟨Q,g,N,uQ,M,(Ow.nil _ _ _ _ _),h0,A,E,⟨by simp,Nat.zero_le _⟩,(by have hh:=A2;first|exact hh|exact A3|(simp only[List.nil_append]at hh;exact hh))⟩
 clear M uQ g N E h0 A
 rintro vo o b i B w2 ⟨Q3,g,N,uQ,M,D,h0,A,E,Ch,f⟩;refine au (ns (m2 q q (sL q xA h0.cV (st _ (dV (a:=i) (b:=l.length) q q) (nt ?_)))));refine bV q (fun x=>?_) (fun x=>?_)
 ·(first|(have U:=dT x)|(have U:=dF (eM x))|(have U:=eM x)|(have U:=x));refine aY (ai (au (b9 (au (au ?_)))));have S:=h0;have H:=A;refine cT (ml 7) [7] (fun w'=>Md [] w2 w') mixed Yz ?_;intro w4 F;refine⟨F.mono Oj,?_⟩;have MC:=F.mono (T:=[]) Oj;refine mo q (mo q (mz (fun w' P=>bB (i:=i) 2 q q xA EP h0.cV Ok) ?_));obtain⟨e,d⟩:=dQ (l:=l) (i:=i) Yh;obtain⟨c6,B6,Av⟩:=S.get d;obtain⟨v7,rfl,Cw⟩:=nR B6;replace Av:At _ v0 (i*2) (fR.cells e v7):=Av;refine mz (fun w' P=>gQ q (Av.o P) vp) (mz (fun w' P=>(cg (kk:=i*2) 0 q q jO (Av.o P) q).to (b:=(str e.name)) q) (mz (fun w' P=>aU q mq) (mz (fun w' P=>(aA q jO (H.o P) q).to (b:=(str p.name)) q) (d9 ?_))));obtain⟨D,h0,A,uQ,M⟩:=k5 F D h0 A uQ M;clear S H;clear MC;refine st _ (qH (a:=e.name) (b:=p.name) q q) (ak ?_);clear Av;refine ai ?_;refine bV q (fun z=>?_) (fun z=>?_)
  ·(first|(have K:=dT z)|(have K:=dF (eM z))|(have K:=eM z)|(have K:=z));refine ns (an q (au ?_));have S:=h0;have H:=A;refine cT [(0,true),(1,true),(2,true),(3,true),(4,true),(5,true),(6,true),(7,true),(8,true),(9,true),(10,false),(11,true),(12,false)] [13,14] (fun w'=>Md [] w4 w') mixed Yz ?_;intro w9 F;refine⟨F.mono Oj,?_⟩;have MC:=F.mono (T:=[]) Oj;refine mo q (mz (fun w' P=>aU q mq) (mz (fun w' P=>(aA q jO (H.o P) q).to (b:=(str p.name)) q) (mo q (mo q (mz (fun w' P=>bB (i:=i) 2 q q xA EP h0.cV Ok) ?_)))));obtain⟨Cp,Bo,Af⟩:=S.get d;obtain⟨Bu,rfl,Ax⟩:=nR Bo;replace Af:At _ v0 (i*2) (fR.cells e Bu):=Af;refine mz (fun w' P=>gQ q (Af.o P) xX) (mz (fun w' P=>(cg (kk:=i*2) 1 q q PZ (Af.o P) q).to (b:=Bu) q) (mz (fun w' P=>aU q qC) (mz (fun w' P=>(aA q jO (H.o P) q).to (b:=(str p.value)) q) ?_)));obtain⟨D,h0,A,Ax,uQ,M⟩:=k6 F D h0 A Ax uQ M;refine kZ ?_ rfl;refine aj aft q (MY uQ Ax p.value (p1 _ (List.mem_of_getElem? d))) ?_;rintro en C0 ⟨Ak,Ac,rfl,C,y,Bi⟩;refine rv ?_;obtain⟨D,h0,A,uQ,M,MC⟩:=k6 C D h0 A uQ M MC;refine ak ⟨q,MC,?_⟩;refine mz (fun w' P=>bY (us:=[[(str p.name)],[Ak]]) (cs:=(fR.cells (({name:=p.name,values:=Ac}:fR)) Ak)) [(0,0,1),(1,1,1)] z98 ae0 q q ⟨q,(dY y.bN),tV⟩ ⟨q,q,tV⟩ q q) ?_;refine kZ ?_ rfl;refine bg [(fR.cells (({name:=p.name,values:=Ac}:fR)) Ak)] xA qR Jk Jk q q ⟨q,tV⟩ ⟨q,tV⟩ q Jk ?_
   intro Cd C1 Bd Ci C Au;have Bv:=uQ _ Bd;obtain⟨D,h0,A,y,uQ,M,MC⟩:=k7 C D h0 A y uQ M MC;replace Au:=Ls.cK (m:=1) (R:=Q3) (T:=jK) (xs:=[({name:=p.name,values:=Ac}:fR)]) Au ⟨_,_,q,(sU y),q⟩ q Jk Bv;refine ak ⟨q,MC,?_⟩;refine d9 ?_;clear S H;clear MC;refine dZ (sz:=2) (by rfl) xA qR q q D Au (fun _ h _=>h) uQ (bM.new M) Zw Zw ?_;intro B7 C2 B1 X sT O Bj C hS _ c;have I:=D;clear D;replace E:=X _ E A.lt;replace g:=tT g sT;replace N:=fun b J hl=>X b (N b J hl) (lj hl M.size);replace h0:=(h0.sub X).md C hS;replace A:=A.md C (aW I A);replace uQ:=uQ.md C;replace M:=M.cP C (fun b J=>(I.2 b J).1);replace uQ:=O;clear O X sT hS c;refine cE q (ak ?_);clear Af;refine ai (cw (bD (cZ (ai (ax (mv q (st _ (rA (a:=i) (b:=1) q q Ok) (an q ?_))))))));refine rO (x0:=B7) (x1:=(o ++ ([({name:=p.name,values:=Ac}:fR)]))) (x2:=true) (x3:=(i+1)) Ok ⟨q,q,(dA q Ok),q,q,tV⟩ ⟨B1,g,N,uQ,M,Bj,h0,A,E,⟨by simp;omega,by omega⟩,(by rw[WB d K]at f;rw[← f];simp only[Bi,List.append_assoc,List.singleton_append])⟩
  (first|(have K:=dF z)|(have K:=dT (eL z))|(have K:=eL z)|(have K:=z));refine aY (ai (au (au ?_)));have S:=h0;have H:=A;refine cT (ml 10) [10,11] (fun w'=>Md [] w4 w') mixed Yz ?_;intro C4 F;refine⟨F.mono Oj,?_⟩;have MC:=F.mono (T:=[]) Oj;refine mo q (mz (fun w' P=>gR q) (mo q ?_));refine zM (t:=38) q (fun G=>?_) (fun G=>?_)
  ·(first|(have Y:=dT G)|(have Y:=dF (eM G))|(have Y:=eM G)|(have Y:=G));refine Go.Wk.ni _ q q q G (fun w' P=>bf q) (Go.Wk.ni _ q q q G (fun w' P=>bf q) (Go.Wk.ni _ q q q G (fun w' P=>bB (i:=i) 2 q q xA EP h0.cV Ok) ?_));obtain⟨Cq,Bp,Ag⟩:=S.get d;obtain⟨B8,rfl,Cg⟩:=nR Bp;replace Ag:At _ v0 (i*2) (fR.cells e B8):=Ag;refine Go.Wk.ni _ q q q G (fun w' P=>gQ q (Ag.o P) vp) (Go.Wk.ni _ q q q G (fun w' P=>(cg (kk:=i*2) 0 q q jO (Ag.o P) q).to (b:=(str e.name)) q) (Go.Wk.ni _ q q q G (fun w' P=>aU q mq) (Go.Wk.ni _ q q q G (fun w' P=>(aA q jO (H.o P) q).to (b:=(str p.name)) q) (d9 ?_))));obtain⟨D,h0,A,uQ,M⟩:=k5 F D h0 A uQ M;clear S H;clear MC;refine sg G (ae5 (a:=e.name) (b:=p.name) q q) (st _ (bF q G q) (ak ?_));clear Ag;refine ai ?_;refine bV q (fun Aa=>?_) (fun Aa=>?_)
   ·(first|(have Z:=dT Aa)|(have Z:=dF (eM Aa))|(have Z:=eM Aa)|(have Z:=Aa));refine ns (an q (ax (mv q (sf q mq (sl (u:=(str p.name)) q jO A q (sf q qC (sl (u:=(str p.value)) q jO A q (bg [[(str p.value)]] iv fK Jk Jk q q ⟨q,tV⟩ ⟨q,tV⟩ q Jk ?_))))))));intro Aq C5 Be Cj C j;have Bw:=uQ _ Be;obtain⟨D,h0,A,uQ,M⟩:=k5 C D h0 A uQ M;replace j:=Ls.cK (m:=1) (R:=Q3) (T:=ij) (xs:=[p.value]) j ⟨_,_,q,⟨q,tV⟩,q⟩ q Jk Bw;refine st _ (bY (us:=[[(str p.name)],[(.slice (some ⟨Aq,0,none⟩) 1 1)]]) (cs:=(fR.cells (({name:=p.name,values:=[p.value]}:fR)) (.slice (some ⟨Aq,0,none⟩) 1 1))) [(0,0,1),(1,1,1)] z98 ae0 q q ⟨q,(dY j.bN),tV⟩ ⟨q,q,tV⟩ q q) (bg [(fR.cells (({name:=p.name,values:=[p.value]}:fR)) (.slice (some ⟨Aq,0,none⟩) 1 1))] xA qR Jk Jk q q ⟨q,tV⟩ ⟨q,tV⟩ q Jk ?_);intro Ce C6 Bf Ck C W;have Bx:=uQ _ Bf;obtain⟨D,h0,A,j,uQ,M⟩:=k6 C D h0 A j uQ M;replace W:=Ls.cK (m:=1) (R:=Q3) (T:=jK) (xs:=[({name:=p.name,values:=[p.value]}:fR)]) W ⟨_,_,q,(sU j),q⟩ q Jk Bx;refine dZ (sz:=2) (by rfl) xA qR q q D W (fun _ h _=>h) uQ (bM.new M) Zw Zw ?_;intro Cy C9 B2 X sT O Ae C hS _ c;have I:=D;clear D;replace h0:=h0.sub X;replace E:=X _ E A.lt;replace g:=tT g sT
    replace N:=fun b J hl=>X b (N b J hl) (lj hl M.size);replace h0:=h0.md C hS;replace A:=A.md C (aW I A);replace uQ:=uQ.md C;replace M:=M.cP C (fun b J=>(I.2 b J).1);replace uQ:=O;clear O X sT hS c;refine an q (ax (m2 q q (mv q (st _ (bB (i:=i) 2 q q xA EP h0.cV Ok) ?_))));obtain⟨Cr,Bq,Al⟩:=h0.get d;obtain⟨A9,rfl,Ay⟩:=nR Bq;replace Al:At _ v0 (i*2) (fR.cells e A9):=Al;refine st _ (eV (kk:=i*2) (fR.cells e A9) 0 q q (by exact qP) Al q) (bg [(fR.cells e A9)] xA qR Jk Jk q q ⟨q,tV⟩ ⟨q,tV⟩ q Jk ?_);intro A4 Da Ad A5 C L;have Ai:=uQ _ Ad;obtain⟨h0,A,Ae,Ay,uQ,M⟩:=k6 C h0 A Ae Ay uQ M;replace L:=Ls.cK (m:=1) (R:=B2) (T:=jK) (xs:=[e]) L ⟨_,_,q,(sU Ay),q⟩ q Jk Ai;refine dZ (sz:=2) (by rfl) xA qR q q Ae L (fun _ h _=>h) uQ (bM.new M) Zw Zw ?_;intro B9 Db B3 X sT O Bk C hS _ c;have As:=Ae;clear Ae;replace E:=X _ E A.lt;replace g:=tT g sT;replace N:=fun b J hl=>X b (N b J hl) (lj hl M.size);replace h0:=(h0.sub X).md C hS;replace A:=A.md C (aW As A);clear Al;replace uQ:=uQ.md C;replace M:=M.cP C (fun b J=>(As.2 b J).1)
    replace uQ:=O;clear O X sT hS c;refine cE q (ak (bL (ai (ax (mv q (st _ (rA (a:=i) (b:=1) q q Ok) (an q ?_)))))));refine rO (x0:=B9) (x1:=((o ++ ([({name:=p.name,values:=[p.value]}:fR)])) ++ ([e]))) (x2:=true) (x3:=(i+1)) Ok ⟨q,q,(dA q Ok),q,q,tV⟩ ⟨B3,g,N,uQ,M,Bk,h0,A,E,⟨by simp;omega,by omega⟩,(by rw[WC d K (by simp_all) (by simp_all)]at f;rw[← f];simp only[List.append_assoc,List.singleton_append,List.cons_append,List.nil_append])⟩
   (first|(have Z:=dF Aa)|(have Z:=dT (eL Aa))|(have Z:=eL Aa)|(have Z:=Aa));refine aY (ai (ax (m2 q q (mv q (st _ (bB (i:=i) 2 q q xA EP h0.cV Ok) ?_)))));obtain⟨Cs,Br,Am⟩:=h0.get d;obtain⟨Ba,rfl,Az⟩:=nR Br;replace Am:At _ v0 (i*2) (fR.cells e Ba):=Am;refine st _ (eV (kk:=i*2) (fR.cells e Ba) 0 q q (by exact qP) Am q) (bg [(fR.cells e Ba)] xA qR Jk Jk q q ⟨q,tV⟩ ⟨q,tV⟩ q Jk ?_);intro A4 Dc Ad A5 C L;have Ai:=uQ _ Ad;obtain⟨D,h0,A,Az,uQ,M⟩:=k6 C D h0 A Az uQ M;replace L:=Ls.cK (m:=1) (R:=Q3) (T:=jK) (xs:=[e]) L ⟨_,_,q,(sU Az),q⟩ q Jk Ai;refine dZ (sz:=2) (by rfl) xA qR q q D L (fun _ h _=>h) uQ (bM.new M) Zw Zw ?_;intro Ca Dd B4 X sT O Bl C hS _ c;have I:=D;clear D;replace E:=X _ E A.lt;replace g:=tT g sT;replace N:=fun b J hl=>X b (N b J hl) (lj hl M.size);replace h0:=(h0.sub X).md C hS;replace A:=A.md C (aW I A);clear Am;replace uQ:=uQ.md C;replace M:=M.cP C (fun b J=>(I.2 b J).1);replace uQ:=O;clear O X sT hS c;refine cE q (ak (bL (ai (ax (mv q (st _ (rA (a:=i) (b:=1) q q Ok) (an q ?_)))))));refine rO (x0:=Ca) (x1:=(o ++ ([e]))) (x2:=b) (x3:=(i+1)) Ok ⟨q,q,(dA q Ok),q,q,tV⟩ ⟨B4,g,N,uQ,M,Bl,h0,A,E,⟨by simp;omega,by omega⟩,(by rw[OC d K (by rintro⟨h1,h2⟩;simp_all)]at f;rw[← f];simp only[List.append_assoc,List.singleton_append])⟩
  (first|(have Y:=dF G)|(have Y:=dT (eL G))|(have Y:=eL G)|(have Y:=G));refine dX q q q G (dX q q q G (dX q q q G (dX q q q G (dX q q q G (dX q q q G (dX q q q G (d9 ?_)))))));obtain⟨D,h0,A,uQ,M⟩:=k5 F D h0 A uQ M;clear S H;clear MC;refine sk G (st _ (bE q G q) (nt (fW q q (aY (ai (ax (m2 q q (mv q (st _ (bB (i:=i) 2 q q xA EP h0.cV Ok) ?_)))))))));obtain⟨Ct,Bs,W⟩:=h0.get d;obtain⟨Bb,rfl,A0⟩:=nR Bs;replace W:At _ v0 (i*2) (fR.cells e Bb):=W;refine st _ (eV (kk:=i*2) (fR.cells e Bb) 0 q q (by exact qP) W q) (bg [(fR.cells e Bb)] xA qR Jk Jk q q ⟨q,tV⟩ ⟨q,tV⟩ q Jk ?_);intro A4 De Ad A5 C L;have Ai:=uQ _ Ad;obtain⟨D,h0,A,A0,uQ,M⟩:=k6 C D h0 A A0 uQ M;replace L:=Ls.cK (m:=1) (R:=Q3) (T:=jK) (xs:=[e]) L ⟨_,_,q,(sU A0),q⟩ q Jk Ai;refine dZ (sz:=2) (by rfl) xA qR q q D L (fun _ h _=>h) uQ (bM.new M) Zw Zw ?_;intro Cb Df B5 X sT O Bm C hS _ c;have I:=D;clear D;replace E:=X _ E A.lt;replace g:=tT g sT;replace N:=fun b J hl=>X b (N b J hl) (lj hl M.size);replace h0:=(h0.sub X).md C hS;replace A:=A.md C (aW I A);clear W;replace uQ:=uQ.md C
  replace M:=M.cP C (fun b J=>(I.2 b J).1);replace uQ:=O;clear O X sT hS c;refine cE q (ak (bL (ai (ax (mv q (st _ (rA (a:=i) (b:=1) q q Ok) (an q ?_)))))));refine rO (x0:=Cb) (x1:=(o ++ ([e]))) (x2:=b) (x3:=(i+1)) Ok ⟨q,q,(dA q Ok),q,q,tV⟩ ⟨B5,g,N,uQ,M,Bm,h0,A,E,⟨by simp;omega,by omega⟩,(by rw[OC d K (by rintro⟨h1,h2⟩;simp_all)]at f;rw[← f];simp only[List.append_assoc,List.singleton_append])⟩
 (first|(have U:=dF x)|(have U:=dT (eL x))|(have U:=eL x)|(have U:=x));refine cw (bD (bD (cZ (ai (au (nm q (st _ (gR q) (nt ?_))))))));refine bV q (fun Ab=>?_) (fun Ab=>?_)
 ·(first|(have V:=dT Ab)|(have V:=dF (eM Ab))|(have V:=eM Ab)|(have V:=Ab));refine ax (mv q (sf q mq (sl (u:=(str p.name)) q jO A q (sf q qC (sl (u:=(str p.value)) q jO A q (bg [[(str p.value)]] iv fK Jk Jk q q ⟨q,tV⟩ ⟨q,tV⟩ q Jk ?_))))));intro Ar Dg Bg Cl C k;have Bz:=uQ _ Bg;obtain⟨D,uQ,M⟩:=k3 C D uQ M;replace k:=Ls.cK (m:=1) (R:=Q3) (T:=ij) (xs:=[p.value]) k ⟨_,_,q,⟨q,tV⟩,q⟩ q Jk Bz;refine st _ (bY (us:=[[(str p.name)],[(.slice (some ⟨Ar,0,none⟩) 1 1)]]) (cs:=(fR.cells (({name:=p.name,values:=[p.value]}:fR)) (.slice (some ⟨Ar,0,none⟩) 1 1))) [(0,0,1),(1,1,1)] z98 ae0 q q ⟨q,(dY k.bN),tV⟩ ⟨q,q,tV⟩ q q) (bg [(fR.cells (({name:=p.name,values:=[p.value]}:fR)) (.slice (some ⟨Ar,0,none⟩) 1 1))] xA qR Jk Jk q q ⟨q,tV⟩ ⟨q,tV⟩ q Jk ?_);intro Cf w64 Bh Cm C Aw;have B0:=uQ _ Bh;obtain⟨D,k,uQ,M⟩:=k4 C D k uQ M;replace Aw:=Ls.cK (m:=1) (R:=Q3) (T:=jK) (xs:=[({name:=p.name,values:=[p.value]}:fR)]) Aw ⟨_,_,q,(sU k),q⟩ q Jk B0;refine dZ (sz:=2) (by rfl) xA qR q q D Aw (fun _ h _=>h) uQ (bM.new M) Zw Zw ?_;intro Cc Dh Co X sT O Bn C hS _ c;have I:=D;clear D;replace g:=tT g sT;replace uQ:=uQ.md C;replace M:=M.cP C (fun b J=>(I.2 b J).1)
  replace uQ:=O;clear O X sT hS c;refine an q (nm q (ar q ?_));exact cu (v:=Cc) trivial q ⟨q,tV⟩ ⟨_,(o ++ ([({name:=p.name,values:=[p.value]}:fR)])),q,M,(Bn.ls (fun b J=>g b J) (bM.up Bt)),(by have hh:=f;rw[GH U]at hh;simp only[V,if_true,if_false,Bool.false_eq_true,Bool.true_eq_false,reduceIte]at hh;exact A3.trans (hh.symm.trans Oj))⟩
 (first|(have V:=dF Ab)|(have V:=dT (eL Ab))|(have V:=eL Ab)|(have V:=Ab));refine aY (ai (nm q (ar q ?_)));exact cu (v:=vo) trivial q ⟨q,tV⟩ ⟨_,o,q,M,(D.ls (fun b J=>g b J) (bM.up Bt)),(by have hh:=f;rw[GH U]at hh;simp only[V,if_true,if_false,Bool.false_eq_true,Bool.true_eq_false,reduceIte]at hh;exact A3.trans (hh.symm.trans Oj))⟩
end Go.Proofs.YtlleafgaeeneoaaGreat
