/- Part 4 of what the walk of a law stands on: AtR, RatP, ImgP, LinkP, LinkQ, LinkV, MakeP, LastP, RecP, AtT, RawP, RawT, ChP, ImT1, ImT2, ImT3, ImT4, ImT5, ImT6, ImT7, ImT8, ImT9, GoLP, ImT10, ImT11, ImT12, ImT13, ImT14, ImT15, ImT16, ImT17, LwP, JfP, QuP, QuM, QuF, VName, WHash, VHash. No statement is proved here. -/
import Derived.Test.YtlleafgaeeneoaaGreatQAI3
import Derived.Test.YtlleafgaeeneoaaGreatRows
set_option linter.unusedVariables false
set_option linter.unusedSimpArgs false
namespace Go.Wk
open Go Go.RowKit
def vE:Rec:={seq:=0,dn:=0,mono:=0,cG:=oq,ay:=[]}
def lu (k:Bool) (f:Ly) (s:Nat) (b:Ly):List kQ→List Pr→List (List UInt8)→(List Pr × List (List UInt8)) × Nat
  | [],fs,all=>((fs,all),0)
  | x :: r,fs,all =>
    if(kI k f s b x.pos).2≠0 then(([],[]),(kI k f s b x.pos).2)
    else if(kI k f s b x.pos).1.cQ≠x.cQ then(([],[]),9)
    else if(iQ (kI k f s b x.pos).1.aZ).2≠0 then(([],[]),(iQ (kI k f s b x.pos).1.aZ).2)
    else lu k f s b r (fs ++ [(iQ (kI k f s b x.pos).1.aZ).1]) (all ++ [(kI k f s b x.pos).1.aZ])
section
variable {k:Bool} {f b:Ly} {s p i c:Nat} {l:List kQ} {x:kQ} {d:fU} {fs:List Pr} {all:List (List UInt8)} {q:Pr} {e:gN} {r:Rec}
theorem DI (h:¬i<l.length):lu k f s b (l.drop i) fs all=((fs,all),0):=by rw[eO Ok];rfl
theorem UJ (h:l[i]? = some x) (hp:(kI k f s b x.pos).2=c) (hc:c≠0):lu k f s b (l.drop i) fs all=(([],[]),c):=by
  rw[di h];unfold lu;rw[hp,if_pos hc]
theorem acv (h:l[i]? = some x) (hp:kI k f s b x.pos=(d,0)) (hn:¬d.cQ=x.cQ):lu k f s b (l.drop i) fs all=(([],[]),9):=by
  rw[di h];unfold lu;rw[hp,if_neg Oj,if_pos hn]
theorem Kt (h:l[i]? = some x) (hp:kI k f s b x.pos=(d,0)) (hn:d.cQ=x.cQ) (hs:iQ d.aZ=(q,c)) (hc:c≠0):lu k f s b (l.drop i) fs all=(([],[]),c):=by
  rw[di h];unfold lu;rw[hp,if_neg Oj,if_neg (by simpa using hn),hs,if_pos hc]
theorem N3 (h:l[i]? = some x) (hp:kI k f s b x.pos=(d,0)) (hn:d.cQ=x.cQ) (hs:iQ d.aZ=(q,0)):lu k f s b (l.drop i) fs all=lu k f s b (l.drop (i+1)) (fs ++ [q]) (all ++ [d.aZ]):=by
  rw[di h];conv=>lhs;unfold lu
  rw[hp,if_neg Oj,if_neg (by simpa using hn),hs,if_neg Oj]
def mU (k:Bool) (f:Ly) (s:Nat) (b:Ly) (p:Nat):Rec × Nat :=
  if(jZ s b p).2≠0 then(vE,(jZ s b p).2)
  else if 16<(jZ s b p).1.bJ.length then(vE,21)
  else if(lu k f s b (jZ s b p).1.bJ [] []).2≠0 then(vE,(lu k f s b (jZ s b p).1.bJ [] []).2)
  else if(jZ s b p).1.xor=rq 0 (lu k f s b (jZ s b p).1.bJ [] []).1.2 then({seq:=(jZ s b p).1.seq,dn:=(jZ s b p).1.dn,mono:=(jZ s b p).1.mono,cG:=(jZ s b p).1.cG,ay:=(lu k f s b (jZ s b p).1.bJ [] []).1.1},0)
  else(vE,10)
theorem aeF (h:(jZ s b p).2=c) (hc:c≠0):(mU k f s b p).2=c:=by unfold mU;rw[h,if_pos hc]
theorem aeE (h:jZ s b p=(e,0)) (hl:16<e.bJ.length):(mU k f s b p).2=21:=by unfold mU;rw[h,if_neg Oj,if_pos hl]
theorem N5 {y:List Pr × List (List UInt8)} (h:jZ s b p=(e,0)) (hl:¬16<e.bJ.length) (hg:lu k f s b e.bJ [] []=(y,c)) (hc:c≠0):(mU k f s b p).2=c:=by
  unfold mU;rw[h,if_neg Oj,if_neg hl,hg,if_pos hc]
theorem aeD {n:Nat} (h:jZ s b p=(e,0)) (hl:¬16<e.bJ.length) (hg:lu k f s b e.bJ [] []=((fs,all),0)) (hx:rq 0 all=n) (hn:¬e.xor=n):(mU k f s b p).2=10:=by
  unfold mU;rw[h,if_neg Oj,if_neg hl,hg,if_neg Oj,if_neg (by rw[hx];exact hn)]
structure acS (e:gN) (r:Rec):Prop where
  seq:r.seq=e.seq
  dn:r.dn=e.dn
  mono:r.mono=e.mono
  cG:r.cG=e.cG
theorem aeG {n:Nat} (h:jZ s b p=(e,0)) (hl:¬16<e.bJ.length) (hr:acS e r) (hg:lu k f s b e.bJ [] []=((r.ay,all),0)) (hx:rq 0 all=n) (hn:e.xor=n):mU k f s b p=(r,0):=by
  unfold mU;rw[h,if_neg Oj,if_neg hl,hg,if_neg Oj,if_pos (by rw[hx];exact hn)]
  obtain⟨E,F,G,H,I⟩:=r
  obtain⟨A,B,C,D⟩:=hr
  simp only at A B C D
  subst A;subst B;subst C;subst D
  rfl
theorem abk {n:Nat} {y:Ly} (h:∀x∈all,x.length≤n) (hy:y.length≤n):∀x∈all ++ [y],x.length≤n:=by
  intro x B
  rcases List.mem_append.1 B with A|A
  · exact h x A
  simp at A;subst A;exact hy
theorem agH (h:(mU k f s b p).2≠0):(mU k f s b p).1=vE:=by
  unfold mU at h ⊢
  split
  · rfl
  split
  · rfl
  split
  · rfl
  split
  · rename_i h1 h2 h3 h4;rw[if_neg h1,if_neg h2,if_neg h3,if_pos h4]at h;exact absurd rfl h
  rfl
theorem acw (h:(mU k f s b p).2=c) (hc:c≠0):mU k f s b p=(vE,c):=by
  refine Prod.ext ?_ h
  exact agH (by rw[h];exact hc)
end
end Go.Wk
namespace Go.Wk
open Go Go.RowKit
section
variable {b x:Ly} {p c:Nat}
end
section
variable {k:Bool} {f b:Ly} {s p c n:Nat} {d:fU}
end
section
variable {k:Bool} {f b:Ly} {s p i c n m:Nat} {l:List kQ} {x:kQ} {fs:List Pr} {all:List (List UInt8)} {q:Ly} {w:Pr}
end
end Go.Wk
namespace Go.Wk
open Go Go.RowKit
theorem Ow.lsB {e:TypeId} {w w':World} {Q Q':Nat→Prop} {v:Value} {xs:Ly} (h:Ow eD e (bM [] w) w' Q' v xs) (uQ:Up w Q):Ls eD w' Q v xs :=
  Ls.of_by h.read.by fun b hb _=>bM.up uQ b (h.2 b hb).1
theorem EK (s:Sq):s.config.1.bC≤10∧s.config.1.bA≤10:=by
  rcases h1:s.fH 5 with⟨a,E⟩
  rcases h2:E.fH 5 with⟨b,F⟩
  rcases h3:F.fH 5 with⟨c,C⟩
  rcases h4:C.fH 7 with⟨d,D⟩
  rcases h5:D.fH 4 with⟨e,G⟩
  rcases h6:G.fH 2 with⟨f,H⟩
  have A:=C.ko 7
  have B:=D.ko 4
  rw[h4]at A;rw[h5]at B
  simp only[Sq.config,h1,h2,h3,h4,h5,h6]
  simp only at A B
  omega
end Go.Wk
namespace Go.Wk
open Go Go.RowKit
def uJ (P:Program) (s:TypeId) (f:Nat):Option Nat :=
  match P.underlying s with
  | some (.struct fs)=>match fs[f]? with
    | some x=>cond (gZ P x.type) (some x.offset) none
    | none=>none
  | _=>none
section
variable {P:Program} {n:Nat} {A:Fr n} {D:List Deferred} {l:List (Nat × Value)} {w:World} {d:Option Tmp} {ty:TypeId} {ps:String} {af:Array Edge} {g:Option (Nat × Bool)}
theorem JX {x:Operand} {s:TypeId} {f off:Nat} {cs:List Value} {u:Value} (hf:uJ P s f=some off) (hx:ev n l x=some (.agg cs.toArray)) (hc:cs[off]? = some u) :
    cC P ⟨d,.field s x f,ty,ps,af,g⟩ (bw A D l).eval w u:=by
  unfold uJ at hf
  split at hf
  · rename_i fs hu
    split at hf
    · rename_i y hy
      cases h1:gZ P y.type with
      | false=>rw[h1]at hf;cases hf
      | true =>
        rw[h1]at hf
        simp only[cond_true,Option.some.injEq]at hf
        subst hf
        simp[cC,execOp,bZ hx,Instr.field,run_underlying hu,hy,part,mB h1,asAgg,hc]
    cases hf
  cases hf
end
structure i7 where
  out:List Nat
  cur:Nat
  ahead:Nat
def i7.cells (x:i7) (v0:Value):List Value :=
  [v0] ++ ([(.int .u64 x.cur)] ++ ([(.int .u64 x.ahead)]))
def i7.ok (x:i7):Prop:=x.cur<18446744073709551616∧x.ahead<18446744073709551616
theorem i7.one {x:i7} {v0:Value} (h0:v0.oneCell'=true):(x.cells v0).all (fun u=>u.oneCell')=true:=(cA (lJ h0) (cA q q))
section
variable {P:Program} {n:Nat} {A:Fr n} {D:List Deferred} {l:List (Nat × Value)} {w:World} {d:Option Tmp} {ty:TypeId} {ps:String} {af:Array Edge} {g:Option (Nat × Bool)}
end
end Go.Wk
namespace Go.Wk
open Go Go.RowKit
def qT (out:List Nat):Nat:=out.getLast?.getD 0
def oS (out:List Nat) (x:Nat):Nat:=if out≠[]∧x≤qT out then 13 else 0
def lD (b:Ly) (bT:Nat):List Nat→List Nat→List Nat × Nat
  | [],out=>(out,0)
  | x :: r,out=>if bT≤out.length then(out,0)else if x=0∨b.length≤x then(out,2)else if oS out x≠0 then(out,13)else lD b bT r (out ++ [x])
def qq (s:Nat) (b:Ly) (bT p ahead:Nat) (out:List Nat):List Nat × Nat :=
  if bT≤out.length then(out,0)
  else if p=0∨b.length≤p then(out,14)
  else if p≤ahead then(out,12)
  else if(gY s b p).2≠0 then(out,(gY s b p).2)
  else if(lD b bT (gY s b p).1.bJ out).2≠0 then lD b bT (gY s b p).1.bJ out
  else qq s b bT (gY s b p).1.next p (lD b bT (gY s b p).1.bJ out).1
termination_by b.length-ahead
decreasing_by omega
def ve (b:Ly) (bT:Nat):List Nat→List Nat→List Nat × Nat × Bool
  | [],out=>(out,0,false)
  | x :: r,out=>if bT≤out.length then(out,0,true)else if x=0∨b.length≤x then(out,0,true)else if oS out x≠0 then(out,13,true)else ve b bT r (out ++ [x])
def JE (s:Nat) (b:Ly) (bT p ahead:Nat) (out:List Nat):List Nat × Nat :=
  if bT≤out.length then(out,0)
  else if p=0∨b.length≤p then(out,0)
  else if p≤ahead then(out,12)
  else if(gY s b p).2≠0 then(out,(gY s b p).2)
  else if(ve b bT (gY s b p).1.bJ out).2.2=true then((ve b bT (gY s b p).1.bJ out).1,(ve b bT (gY s b p).1.bJ out).2.1)
  else JE s b bT (gY s b p).1.next p (ve b bT (gY s b p).1.bJ out).1
termination_by b.length-ahead
decreasing_by omega
def ofF (s:Nat) (b:Ly) (p:Nat):List Nat × Nat :=
  if(fI s b p).2≠0 then([],(fI s b p).2)
  else if(fI s b p).1.bW=0∨(fI s b p).1.entry=0∨b.length≤(fI s b p).1.entry then([],0)
  else JE s b (fI s b p).1.bW (fI s b p).1.array 0 [(fI s b p).1.entry]
def gP (b:Ly) (x:Nat):Bool:=decide (x=0∨b.length≤x)
def jX (s:Nat) (b:Ly) (l:i7):List Nat × Nat × i7 :=
  if l.cur≤l.ahead then([],12,l)else((gY s b l.cur).1.bJ,(gY s b l.cur).2,{l with cur:=(gY s b l.cur).1.next,ahead:=l.cur})
def OY (l:i7) (x:Nat):Nat × i7:=if oS l.out x≠0 then(13,l)else(0,{l with out:=l.out ++ [x]})
theorem abB {out:List Nat} {x y:Nat} (h:out[out.length-1]? = some y) (hx:x≤y):oS out x≠0:=by
  unfold oS qT
  have A:out≠[]:=by rintro rfl;simp at h
  rw[List.getLast?_eq_getElem?,h,if_pos ⟨A,hx⟩]
  decide
theorem aef {out:List Nat} {x y:Nat} (h:out[out.length-1]? = some y) (hx:¬x≤y):oS out x=0:=by
  unfold oS qT
  rw[List.getLast?_eq_getElem?,h,if_neg (fun h=>hx h.2)]
theorem aeg {out:List Nat} {x:Nat} (h:¬0<out.length):oS out x=0:=by
  unfold oS
  rw[if_neg (fun A=>A.1 (List.eq_nil_of_length_eq_zero Ok))]
def r5 (b:Ly) (out:List Nat):Prop:=out.length≤qT out∧qT out<b.length+1
theorem KB (b:Ly):r5 b []:=⟨Nat.le_refl _,Nat.succ_pos _⟩
theorem zW {b:Ly} {out:List Nat} (h:r5 b out):out.length≤b.length:=by have:=h.1;have:=h.2;omega
theorem jS {b:Ly} {x:Nat} (h:gP b x=false):x≠0∧x<b.length:=by
  unfold gP at h
  have:=dF h
  omega
theorem IB (out:List Nat) (x:Nat):qT (out ++ [x])=x:=by simp[qT]
theorem DK {b:Ly} {l l':i7} {x c:Nat} (h:r5 b l.out) (hi:OY l x=(c,l')) (hc:¬c≠0) (hn:gP b x=false):r5 b l'.out∧l'.out=l.out ++ [x]∧l'.cur=l.cur∧l'.ahead=l.ahead∧oS l.out x=0:=by
  have D:=jS hn
  unfold OY at hi
  split at hi
  · exact absurd (congrArg Prod.fst hi) Ok
  rename_i h2
  have e:=congrArg Prod.snd hi
  simp only at e
  subst e
  refine⟨⟨?_,?_⟩,q,q,q,by omega⟩
  · simp only[IB,List.length_append,List.length_singleton]
    have A:oS l.out x=0:=by omega
    unfold oS at A
    have C:=h.1
    by_cases hn:l.out=[]
    · rw[hn];simp;omega
    have:¬x≤qT l.out:=fun B=>by rw[if_pos ⟨hn,B⟩]at A;cases A
    omega
  simp only[IB];omega
theorem yx {s c:Nat} {b:Ly} {l l':i7} {bJ:List Nat} (ha:jX s b l=(bJ,c,l')) (hc:¬c≠0):l.ahead<l.cur∧l'.out=l.out∧l'.ahead=l.cur∧l'.cur=(gY s b l.cur).1.next∧bJ=(gY s b l.cur).1.bJ∧(gY s b l.cur).2=0:=by
  unfold jX at ha
  split at ha
  · exact absurd (congrArg (fun x=>x.2.1) ha) Yw
  rename_i h
  simp only[Prod.mk.injEq]at ha
  obtain⟨rfl,A,rfl⟩:=ha
  exact⟨by omega,q,q,q,q,by omega⟩
theorem mj {s c:Nat} {b:Ly} {l l':i7} {bJ:List Nat} (ha:jX s b l=(bJ,c,l')):l'.out=l.out:=by
  unfold jX at ha
  split at ha <;> (simp only[Prod.mk.injEq]at ha;obtain⟨_,_,rfl⟩:=ha;rfl)
theorem XC {s bT p a:Nat} {b:Ly} {out:List Nat} (h:¬out.length<bT):qq s b bT p a out=(out,0):=by rw[qq,if_pos Ok]
theorem abt {s bT p a:Nat} {b:Ly} {out:List Nat} (h:out.length<bT) (hn:gP b p=true):qq s b bT p a out=(out,14):=by
  rw[qq,if_neg Ok,if_pos (by simpa [gP]using hn)]
theorem XD {s bT c:Nat} {b:Ly} {l l':i7} {bJ:List Nat} (h:l.out.length<bT) (hn:gP b l.cur=false) (ha:jX s b l=(bJ,c,l')) (hc:c≠0):qq s b bT l.cur l.ahead l.out=(l'.out,c):=by
  have A:=jS hn
  rw[mj ha]
  rw[qq,if_neg Ok,if_neg Ok]
  unfold jX at ha
  split at ha
  · rename_i h1;rw[if_pos h1];simp only[Prod.mk.injEq]at ha;rw[ha.2.1]
  rename_i h1;rw[if_neg h1];simp only[Prod.mk.injEq]at ha;rw[← ha.2.1]at hc ⊢;rw[if_pos hc]
theorem OM {s bT c:Nat} {b:Ly} {l l':i7} {bJ:List Nat} (h:l.out.length<bT) (hn:gP b l.cur=false) (ha:jX s b l=(bJ,c,l')) (hc:¬c≠0) :
    qq s b bT l.cur l.ahead l.out=if(lD b bT bJ l.out).2≠0 then lD b bT bJ l.out else qq s b bT l'.cur l'.ahead (lD b bT bJ l.out).1:=by
  have G:=jS hn
  obtain⟨D,E,A,B,C,F⟩:=yx ha hc
  rw[qq,if_neg Ok,if_neg Ok,if_neg Ok,if_neg Ok,A,B,C]
theorem XH {s bT c i:Nat} {b:Ly} {l l':i7} {bJ out2:List Nat} {r r1:List Nat × Nat} (h0:qq s b bT l.cur l.ahead l.out=r) (h:l.out.length<bT) (hn:gP b l.cur=false) (ha:jX s b l=(bJ,c,l')) (hc:¬c≠0)
    (h1o:lD b bT (bJ.drop 0) l'.out=r1) (h1:lD b bT (bJ.drop i) out2=r1) (he:lD b bT (bJ.drop i) out2=(out2,0)):qq s b bT l'.cur l'.ahead out2=r:=by
  have A:lD b bT bJ l.out=(out2,0):=by rw[← mj ha];exact h1o.trans (h1.symm.trans he)
  rw[OM h hn ha hc,A,if_neg Oj]at h0
  exact h0
theorem GV {s bT c i k:Nat} {b:Ly} {l l':i7} {bJ out2 out3:List Nat} {r r1:List Nat × Nat} (h0:qq s b bT l.cur l.ahead l.out=r) (h:l.out.length<bT) (hn:gP b l.cur=false) (ha:jX s b l=(bJ,c,l')) (hc:¬c≠0)
    (h1o:lD b bT (bJ.drop 0) l'.out=r1) (h1:lD b bT (bJ.drop i) out2=r1) (he:lD b bT (bJ.drop i) out2=(out3,k)) (hk:k≠0):r=(out3,k):=by
  have A:lD b bT bJ l.out=(out3,k):=by rw[← mj ha];exact h1o.trans (h1.symm.trans he)
  rw[OM h hn ha hc,A,if_pos hk]at h0
  exact h0.symm
theorem XB {bT i:Nat} {b:Ly} {bJ out:List Nat} (h:¬i<bJ.length):lD b bT (bJ.drop i) out=(out,0):=by rw[List.drop_eq_nil_of_le Ok];rfl
theorem RB {bT:Nat} {b:Ly} {bJ out:List Nat} (h:bT≤out.length):lD b bT bJ out=(out,0):=by
  cases bJ with
  | nil=>rfl
  | cons x r=>unfold lD;rw[if_pos h]
theorem drop_cons {bJ:List Nat} {i x:Nat} (h:bJ[i]? = some x):bJ.drop i=x :: bJ.drop (i+1):=by
  obtain⟨A,B⟩:=List.getElem?_eq_some_iff.1 h
  rw[← B];exact(List.drop_eq_getElem_cons A)
theorem adK {bT i x:Nat} {b:Ly} {bJ out:List Nat} (h:bJ[i]? = some x) (hm:¬bT≤out.length) (hn:gP b x=true):lD b bT (bJ.drop i) out=(out,2):=by
  rw[drop_cons h,lD,if_neg hm,if_pos (by simpa [gP]using hn)]
theorem abr {bT i x c:Nat} {b:Ly} {bJ:List Nat} {l l':i7} (h:bJ[i]? = some x) (hm:¬bT≤l.out.length) (hn:gP b x=false) (hi:OY l x=(c,l')) (hc:c≠0):lD b bT (bJ.drop i) l.out=(l'.out,c):=by
  have A:=jS hn
  rw[drop_cons h,lD,if_neg hm,if_neg Ok]
  unfold OY at hi
  split at hi
  · rename_i h2;rw[if_pos h2];simp only[Prod.mk.injEq]at hi;rw[← hi.1,← hi.2]
  exact absurd (congrArg Prod.fst hi).symm hc
theorem RD {bT i x c:Nat} {b:Ly} {bJ:List Nat} {l l':i7} (h:bJ[i]? = some x) (hm:¬bT≤l.out.length) (hn:gP b x=false) (hi:OY l x=(c,l')) (hc:¬c≠0):lD b bT (bJ.drop i) l.out=lD b bT (bJ.drop (i+1)) l'.out:=by
  have A:=jS hn
  rw[drop_cons h,lD,if_neg hm,if_neg Ok]
  unfold OY at hi
  split at hi
  · exact absurd (congrArg Prod.fst hi) Ok
  rename_i h2;rw[if_neg h2];simp only[Prod.mk.injEq]at hi;rw[← hi.2]
def oO (s:Nat) (b:Ly) (bT p:Nat):List Nat × Nat:=qq s b bT p 0 []
theorem aer {s bT p a:Nat} {b:Ly} {out:List Nat} (h:¬out.length<bT):JE s b bT p a out=(out,0):=by rw[JE,if_pos Ok]
theorem aes {s bT p a:Nat} {b:Ly} {out:List Nat} (h:out.length<bT) (hn:gP b p=true):JE s b bT p a out=(out,0):=by
  rw[JE,if_neg Ok,if_pos (by simpa [gP]using hn)]
theorem abP {s bT c:Nat} {b:Ly} {l l':i7} {bJ:List Nat} (h:l.out.length<bT) (hn:gP b l.cur=false) (ha:jX s b l=(bJ,c,l')) (hc:c≠0):JE s b bT l.cur l.ahead l.out=(l'.out,c):=by
  have A:=jS hn
  rw[mj ha]
  rw[JE,if_neg Ok,if_neg Ok]
  unfold jX at ha
  split at ha
  · rename_i h1;rw[if_pos h1];simp only[Prod.mk.injEq]at ha;rw[ha.2.1]
  rename_i h1;rw[if_neg h1];simp only[Prod.mk.injEq]at ha;rw[← ha.2.1]at hc ⊢;rw[if_pos hc]
theorem YX {s bT c:Nat} {b:Ly} {l l':i7} {bJ:List Nat} (h:l.out.length<bT) (hn:gP b l.cur=false) (ha:jX s b l=(bJ,c,l')) (hc:¬c≠0) :
    JE s b bT l.cur l.ahead l.out=if(ve b bT bJ l.out).2.2=true then((ve b bT bJ l.out).1,(ve b bT bJ l.out).2.1)else JE s b bT l'.cur l'.ahead (ve b bT bJ l.out).1:=by
  have G:=jS hn
  obtain⟨D,E,A,B,C,F⟩:=yx ha hc
  rw[JE,if_neg Ok,if_neg Ok,if_neg Ok,if_neg Ok,A,B,C]
theorem ag1 {s bT c i:Nat} {b:Ly} {l l':i7} {bJ out2:List Nat} {r:List Nat × Nat} {r1:List Nat × Nat × Bool} (h0:JE s b bT l.cur l.ahead l.out=r) (h:l.out.length<bT) (hn:gP b l.cur=false) (ha:jX s b l=(bJ,c,l')) (hc:¬c≠0)
    (h1o:ve b bT (bJ.drop 0) l'.out=r1) (h1:ve b bT (bJ.drop i) out2=r1) (he:ve b bT (bJ.drop i) out2=(out2,0,false)):JE s b bT l'.cur l'.ahead out2=r:=by
  have A:ve b bT bJ l.out=(out2,0,false):=by rw[← mj ha];exact h1o.trans (h1.symm.trans he)
  rw[YX h hn ha hc,A,if_neg Oj]at h0
  exact h0
theorem FB {s bT c i k:Nat} {b:Ly} {l l':i7} {bJ out2 out3:List Nat} {r:List Nat × Nat} {r1:List Nat × Nat × Bool} (h0:JE s b bT l.cur l.ahead l.out=r) (h:l.out.length<bT) (hn:gP b l.cur=false) (ha:jX s b l=(bJ,c,l')) (hc:¬c≠0)
    (h1o:ve b bT (bJ.drop 0) l'.out=r1) (h1:ve b bT (bJ.drop i) out2=r1) (he:ve b bT (bJ.drop i) out2=(out3,k,true)):r=(out3,k):=by
  have A:ve b bT bJ l.out=(out3,k,true):=by rw[← mj ha];exact h1o.trans (h1.symm.trans he)
  rw[YX h hn ha hc,A,if_pos q]at h0
  exact h0.symm
theorem abO {bT i:Nat} {b:Ly} {bJ out:List Nat} (h:¬i<bJ.length):ve b bT (bJ.drop i) out=(out,0,false):=by rw[List.drop_eq_nil_of_le Ok];rfl
theorem YV {bT i x:Nat} {b:Ly} {bJ out:List Nat} (h:bJ[i]? = some x) (hm:bT≤out.length):ve b bT (bJ.drop i) out=(out,0,true):=by
  rw[drop_cons h,ve,if_pos hm]
theorem ag0 {bT i x:Nat} {b:Ly} {bJ out:List Nat} (h:bJ[i]? = some x) (hm:¬bT≤out.length) (hn:gP b x=true):ve b bT (bJ.drop i) out=(out,0,true):=by
  rw[drop_cons h,ve,if_neg hm,if_pos (by simpa [gP]using hn)]
theorem aep {bT i x c:Nat} {b:Ly} {bJ:List Nat} {l l':i7} (h:bJ[i]? = some x) (hm:¬bT≤l.out.length) (hn:gP b x=false) (hi:OY l x=(c,l')) (hc:c≠0):ve b bT (bJ.drop i) l.out=(l'.out,c,true):=by
  have A:=jS hn
  rw[drop_cons h,ve,if_neg hm,if_neg Ok]
  unfold OY at hi
  split at hi
  · rename_i h2;rw[if_pos h2];simp only[Prod.mk.injEq]at hi;rw[← hi.1,← hi.2]
  exact absurd (congrArg Prod.fst hi).symm hc
theorem YW {bT i x c:Nat} {b:Ly} {bJ:List Nat} {l l':i7} (h:bJ[i]? = some x) (hm:¬bT≤l.out.length) (hn:gP b x=false) (hi:OY l x=(c,l')) (hc:¬c≠0):ve b bT (bJ.drop i) l.out=ve b bT (bJ.drop (i+1)) l'.out:=by
  have A:=jS hn
  rw[drop_cons h,ve,if_neg hm,if_neg Ok]
  unfold OY at hi
  split at hi
  · exact absurd (congrArg Prod.fst hi) Ok
  rename_i h2;rw[if_neg h2];simp only[Prod.mk.injEq]at hi;rw[← hi.2]
theorem abN {s p c:Nat} {b:Ly} {d:fU} (h:fI s b p=(d,c)) (hc:c≠0):ofF s b p=([],c):=by unfold ofF;rw[h];simp only;rw[if_pos hc]
theorem JD {s p c:Nat} {b:Ly} {d:fU} (h:fI s b p=(d,c)) (hc:¬c≠0) (h0:d.bW=0∨gP b d.entry=true):ofF s b p=([],0):=by
  unfold ofF;rw[h];simp only
  rw[if_neg hc,if_pos]
  rcases h0 with h0|h0
  · exact .inl h0
  unfold gP at h0;have:=dT h0;omega
theorem sO {s p c:Nat} {b:Ly} {d:fU} (h:fI s b p=(d,c)) (hc:¬c≠0) (h0:¬d.bW=0) (hn:gP b d.entry=false):ofF s b p=JE s b d.bW d.array 0 [d.entry]:=by
  have A:=jS hn
  unfold ofF;rw[h];simp only
  rw[if_neg hc,if_neg Ok]
theorem aaA {b:Ly} {x:Nat} (hn:gP b x=false):r5 b [x]:=by
  have A:=jS hn
  unfold r5 qT;simp;omega
end Go.Wk
namespace Go.Wk
open Go Go.RowKit
end Go.Wk
namespace Go.Wk
open Go Go.RowKit
theorem uP {l:List Nat} {i v:Nat} (h:i<l.length):(l.set i v).getD i 0=v:=by simp[List.getD,h]
def tP (z:Mk) (n seq dn mono e:Nat) (cG:Ly):Mk :=
  let m7:=if n=0 then(z.eH 10 seq).eH 12 dn else z
  let m8:=m7.eH 8 ((m7.fH 8+1)%18446744073709551616)
  let m9:=((m8.eH 9 seq).eH 13 dn).eH 14 mono
  {m9 with h:={m9.h with cG:=cG,dJ:=e}}
theorem BP (z:Mk) (n seq dn mono e:Nat) (cG:Ly):(tP z n seq dn mono e cG).b=z.b∧(tP z n seq dn mono e cG).c=z.c∧(tP z n seq dn mono e cG).aT=z.aT∧(tP z n seq dn mono e cG).ay=z.ay∧(tP z n seq dn mono e cG).main=z.main ∧
    (tP z n seq dn mono e cG).h.n.getD 2 0=z.h.n.getD 2 0∧(tP z n seq dn mono e cG).h.n.getD 4 0=z.h.n.getD 4 0∧(tP z n seq dn mono e cG).h.n.length=z.h.n.length ∧
    (z.h.n.length=20→(tP z n seq dn mono e cG).n8=(z.n8+1)%18446744073709551616∧(tP z n seq dn mono e cG).fH 9=seq):=by
  unfold tP
  simp only
  generalize hm7:(if n=0 then(z.eH 10 seq).eH 12 dn else z)=m7
  have A:m7.b=z.b∧m7.c=z.c∧m7.aT=z.aT∧m7.ay=z.ay∧m7.main=z.main∧m7.h.n.getD 8 0=z.h.n.getD 8 0∧m7.h.n.getD 2 0=z.h.n.getD 2 0∧m7.h.n.getD 4 0=z.h.n.getD 4 0∧m7.h.n.length=z.h.n.length:=by
    subst hm7
    split
    · exact⟨q,q,q,q,q,(bQ Jk).trans (bQ Jk),(bQ Jk).trans (bQ Jk),(bQ Jk).trans (bQ Jk),by simp[Mk.eH]⟩
    · exact⟨q,q,q,q,q,q,q,q,q⟩
  obtain⟨C,D,E,F,G,H,I,J,K⟩:=A
  clear hm7
  refine⟨C,D,E,F,G,?_,?_,?_,fun B=>⟨?_,?_⟩⟩
  · rw[← I]
    exact(bQ Jk).trans ((bQ Jk).trans ((bQ Jk).trans (bQ Jk)))
  · rw[← J]
    exact(bQ Jk).trans ((bQ Jk).trans ((bQ Jk).trans (bQ Jk)))
  · rw[← K];simp[Mk.eH]
  · have e:m7.fH 8=z.n8:=H
    rw[e]
    exact(bQ Jk).trans ((bQ Jk).trans ((bQ Jk).trans (uP Ok)))
  exact(bQ Jk).trans ((bQ Jk).trans (uP (by simp[Mk.eH];omega)))
theorem BH {m:Mk} (h:xB m) {raw:List Pr} {dn mono:Nat} {cG:Ly} (hb:cG.length=16) (h20:(m.append raw dn mono cG).2.2.h.n.length=20):xB (m.append raw dn mono cG).2.2:=by
  rcases hl:oz raw with⟨l,c⟩
  by_cases h2:c≠0
  · have e:m.append raw dn mono cG=(0,c,m):=by unfold Mk.append;simp only[hl];rw[if_pos h2]
    rw[e];exact h
  by_cases h3:m.fH 9=18446744073709551615
  · have e:m.append raw dn mono cG=(0,1,m):=by unfold Mk.append;simp only[hl];rw[if_neg h2,if_pos h3]
    rw[e];exact h
  obtain⟨w,ll⟩:=zl hl
  have D:=BL l m [] [] 0 (wU h) w
  rcases hd:jM l m [] []with⟨ps,M,x⟩
  rw[hd,Nat.zero_add]at D
  simp only at D
  have s1:=h.small
  have s4:=h.nb
  have d1:=D.app.ge
  have d2:=D.app.le
  have d5:=D.len.1
  have Ad:=D.app.n8
  generalize hE:({seq:=(x.fH 9+1)%18446744073709551616,dn:=dn,mono:=mono,cG:=cG,xor:=rq 0 ps,bJ:=kG x M}:gN)=E
  have eb:E.cG.length=16:=by subst hE;exact hb
  have ei:E.bJ.length=M.length:=by subst hE;simp[kG]
  have el:=tC E eb
  have C:=yu (L:=400) (o:=iD E) D.app Ok
  have d:=(iW x (iD E)).2.1
  have S:=(fV x (iD E)).2.2.2
  have O:=(fV x (iD E)).2.1
  rcases ho:x.eJ (iD E)with⟨e,B⟩
  rw[ho]at C d S O
  simp only at C d S O
  have N:B.h.n.getD 8 0=m.n8:=C.n8
  have Z:jo B.b.length B.main (B.fH 8):=by
    rw[show B.fH 8=m.n8 from N,S,D.main];exact oh h.main C.ge
  have K:=uZ B B.main (B.fH 8) 176 e Z
  have G:=yt (src:=176) (item:=e) C Z
  rcases hk:B.link B.main (B.fH 8) 176 e with⟨a,t,P⟩
  rw[hk]at K G
  simp only at K G
  generalize hY:(let m4:=({P with main:=a}:Mk).eH 11 (a.getD 0 0);({m4 with h:={m4.h with dD:=mH a%4294967296,dK:=t%4294967296}}:Mk))=Y
  have F:jV m Y l.length (900*l.length+400+2100+0) 0:=by
    subst hY
    exact yw (e':=0) G q (bQ Jk) (bQ Jk) (bQ Jk) q q (Nat.le_refl _) (Nat.le_refl _) (Nat.le_refl _)
  have u:Y.b=P.b:=by subst hY;rfl
  have X:Y.aT=P.aT:=by subst hY;rfl
  have v:Y.main=a:=by subst hY;rfl
  obtain⟨A,zm,zd⟩:=yW (en:=e) M Y _ _ F (fun i T=>by rw[X,K.aT,O];exact D.idx i T)
  have y8:Y.n8=m.n8:=F.n8
  have Q:=(yW (en:=e) M Y 0 0 ⟨F.fit,q,q,by rw[y8];exact F.chains,Nat.le_add_right _ 0,Nat.le_add_right _ 0,Nat.le_refl _,Nat.le_refl _⟩ (fun i T=>by rw[X,K.aT,O];exact D.idx i T)).1
  have U:=mG (dn:=dn) (mono:=mono) (cG:=cG) hl h2 h3 hd (by rw[hE];exact ho) hk (z:=lG e M Y) (by rw[hY])
  generalize lG e M Y=z at *
  replace U:m.append raw dn mono cG=if z.c.bT<z.b.length then(0,15,m)else((x.fH 9+1)%18446744073709551616,0,tP z (B.fH 8) ((x.fH 9+1)%18446744073709551616) dn mono e cG):=U
  rw[U]at h20 ⊢
  split at h20
  · rename_i hm
    rw[if_pos hm];exact h
  rename_i hm
  rw[if_neg hm]
  have q1:=A.ge
  have q2:=A.le
  have q3:=A.nd
  have q4:=A.nf
  have j:=A.c
  have z8:z.n8=m.n8:=A.n8
  have H:=h.bT
  have r1:=h.nd
  have r2:=h.nf
  have g3:=K.ge
  have y:P.b.length≤z.b.length:=by have h:=Q.ge;rw[u]at h;exact h
  obtain⟨J,V,W,g,kz5,p,r,kl,kz8⟩:=BP z (B.fH 8) ((x.fH 9+1)%18446744073709551616) dn mono e cG
  simp only at h20 ⊢
  generalize tP z (B.fH 8) ((x.fH 9+1)%18446744073709551616) dn mono e cG=R at *
  have I:=(kz8 Ok).1
  rw[z8,Nat.mod_eq_of_lt Ok]at I
  refine⟨om A.fit ⟨by rw[V],by rw[V],p,r,by rw[J];exact Nat.le_refl _⟩ (fun k hk=>.inl (W ▸ hk)) (fun k hk=>.inl (g ▸ hk)),?_,?_,?_,?_,?_,?_,?_,?_⟩
  · rw[I,J,kz5,zm,v]
    have f:=K.chain
    rw[show B.fH 8=m.n8 from N]at f
    exact oh f y
  · intro k hk
    rw[W]at hk
    obtain⟨u1,u2,u3,u4⟩:=A.chains k hk
    rw[J,I]
    exact⟨u1,u2,u3,by omega⟩
  · rw[W,I];omega
  · rw[g,I];omega
  · rw[J,I];omega
  · rw[J];rw[j]at hm;omega
  · rw[V,j];exact H
  rw[J];have:=h.hd;omega
theorem IX {c:mW} {t:Nat} (h:c.bC≤10∧c.bA≤10) (h1:1≤c.bC∧1≤c.bA) (h2:c.bT≤40000):xB (qW c t):=by
  have D:=(lM 4 (List.replicate c.bC {first:=0,tail:=0})).2 (.inl q)
  have E:=(lM 5 (List.replicate c.bA {first:=0,tail:=0})).2 (.inr q)
  have e:(qW c t).b=List.replicate 272 0 ++ iF 4 (List.replicate c.bC {first:=0,tail:=0}) ++ iF 5 (List.replicate c.bA {first:=0,tail:=0}):=rfl
  have A:=congrArg List.length e
  simp only[List.length_append,List.length_replicate]at D E A
  have B:(qW c t).n8=0:=rfl
  have C:(qW c t).aT=[]:=rfl
  have F:(qW c t).ay=[]:=rfl
  refine⟨⟨h1.1,by show c.bC≤64;omega,h1.2,by show c.bA≤64;omega,?_,?_,(fun k hk=>by rw[C]at hk;simp at hk),(fun k hk=>by rw[F]at hk;simp at hk)⟩,by rw[B];exact chain_nil _,(fun k hk=>by rw[C]at hk;simp at hk),by rw[B];exact Nat.le_refl _,by rw[B];exact Nat.le_refl _,by omega,by omega,h2,by omega⟩
  · have:(qW c t).h.n.getD 2 0=288:=rfl
    rw[this,A];show 288+16*c.bC≤_;omega
  have:(qW c t).h.n.getD 4 0=(List.replicate 272 (0:UInt8) ++ iF 4 (List.replicate c.bC {first:=0,tail:=0})).length+16:=rfl
  rw[this,A,List.length_append,List.length_replicate];show _+16*c.bA≤_;omega
theorem BK (s:Sq):(s.config.1.bC≤10∧s.config.1.bA≤10)∧(1≤s.config.1.bC∧1≤s.config.1.bA)∧s.config.1.bT≤40000:=by
  refine⟨EK s,?_⟩
  rcases h1:s.fH 5 with⟨a,A⟩
  rcases h2:A.fH 5 with⟨b,B⟩
  rcases h3:B.fH 5 with⟨c,C⟩
  rcases h4:C.fH 7 with⟨d,D⟩
  rcases h5:D.fH 4 with⟨e,E⟩
  rcases h6:E.fH 2 with⟨f,F⟩
  simp only[Sq.config,h1,h2,h3,h4,h5,h6]
  omega
theorem UK (s:Sq) (n:Nat):(∀q∈(s.record n).1.ay,BD q)∧(s.record n).1.ay.length≤16:=by
  rcases h1:s.pairs 4 with⟨A,B⟩
  rcases h2:B.fH 40 with⟨a,C⟩
  rcases h3:C.fH 9 with⟨b,D⟩
  rcases h4:D.fH 3 with⟨c,E⟩
  simp only[Sq.record,h1,h2,h3,h4]
  exact zl (show oz A=((oz A).1,(oz A).2)from rfl)
theorem KA (s:Sq) (n:Nat):(s.record n).1.cG.length=16:=by
  rcases h1:s.pairs 4 with⟨D,A⟩
  rcases h2:A.fH 40 with⟨a,B⟩
  rcases h3:B.fH 9 with⟨b,C⟩
  rcases h4:C.fH 3 with⟨c,E⟩
  simp only[Sq.record,h1,h2,h3,h4]
  simp[idF]
theorem zq {bT:Nat} {s:Sq} {m:Mk} {rs:List Rec} (h:¬(rs.length<bT∧s.pos<s.l.length)):lY (bT-rs.length) s m rs=(m,rs,s):=by
  by_cases h1:rs.length<bT
  · obtain⟨n,B⟩:∃n,bT-rs.length=n+1:=⟨bT-rs.length-1,by omega⟩
    rw[B]
    show(if s.pos<s.l.length then _ else(m,rs,s))=_
    rw[if_neg (fun A=>h ⟨h1,A⟩)]
  rw[show bT-rs.length=0 by omega];rfl
theorem SC {bT c e:Nat} {s s1:Sq} {m m1:Mk} {rs:List Rec} {r:Rec} (h:rs.length<bT) (h2:s.pos<s.l.length) (hr:s.record ((m.fH 9+1)%18446744073709551616)=(r,s1)) (ha:m.append r.ay r.dn r.mono r.cG=(e,c,m1)) (hc:c≠0) :
    lY (bT-rs.length) s m rs=(m1,rs,s1):=by
  obtain⟨n,A⟩:∃n,bT-rs.length=n+1:=⟨bT-rs.length-1,by omega⟩
  rw[A]
  unfold lY
  rw[if_pos h2]
  simp only[hr,ha]
  rw[if_pos hc]
theorem SD {bT c e:Nat} {s s1:Sq} {m m1:Mk} {rs:List Rec} {r:Rec} (h:rs.length<bT) (h2:s.pos<s.l.length) (hr:s.record ((m.fH 9+1)%18446744073709551616)=(r,s1)) (ha:m.append r.ay r.dn r.mono r.cG=(e,c,m1)) (hc:¬c≠0) :
    lY (bT-rs.length) s m rs=lY (bT-(rs ++ [r]).length) s1 m1 (rs ++ [r]):=by
  obtain⟨n,A⟩:∃n,bT-rs.length=n+1:=⟨bT-rs.length-1,by omega⟩
  rw[A]
  rw[lY,if_pos h2]
  simp only[hr,ha]
  rw[if_neg hc,show bT-(rs ++ [r]).length=n by simp;omega]
theorem sN (m:Mk) (o:Ly):(m.eJ o).2.h.n.length=m.h.n.length:=by simp[Mk.eJ,Mk.eH]
theorem PN (m:Mk) (l:List cr) (t p s:Nat):(m.hang l t p s).2.h=m.h:=by rw[(EU m l t p s).1]
theorem YU (m:Mk) (x:Ly):(m.field x).2.h.n.length=m.h.n.length:=by
  unfold Mk.field
  split
  · rfl
  simp only
  have B:=sN m (iE {cQ:=eG m.c.e5 m.c.dI x,bS:=0,dat:=0,aZ:=x})
  generalize m.eJ (iE {cQ:=eG m.c.e5 m.c.dI x,bS:=0,dat:=0,aZ:=x})=r at *
  obtain⟨p,A⟩:=r
  simp only at B ⊢
  have C:=PN A A.ay (A.fH 4) p (eG m.c.e5 m.c.dI x%A.c.bA)
  generalize A.hang A.ay (A.fH 4) p (eG m.c.e5 m.c.dI x%A.c.bA)=r at *
  obtain⟨n,D⟩:=r
  simp only at C ⊢
  simp only[Mk.eH,List.length_set,C]
  exact B
theorem abL (m:Mk) (x:Pr):(m.data x).2.h.n.length=m.h.n.length:=by
  unfold Mk.data
  split
  · rfl
  simp only
  have C:=sN m (jv {cQ:=eG m.c.e5 m.c.dI (aZ x),bS:=0,dW:=0,entry:=0,array:=0,bW:=0,aZ:=aZ x})
  generalize m.eJ (jv {cQ:=eG m.c.e5 m.c.dI (aZ x),bS:=0,dW:=0,entry:=0,array:=0,bW:=0,aZ:=aZ x})=r at *
  obtain⟨p,A⟩:=r
  simp only at C ⊢
  have D:=PN A A.aT (A.fH 2) p (eG m.c.e5 m.c.dI (aZ x)%A.c.bC)
  generalize A.hang A.aT (A.fH 2) p (eG m.c.e5 m.c.dI (aZ x)%A.c.bC)=r at *
  obtain⟨n,B⟩:=r
  simp only at D ⊢
  generalize hx5:({(B.eH 19 (max (B.fH 19) n)).eH 15 (((B.eH 19 (max (B.fH 19) n)).fH 15+1)%18446744073709551616)with aT:=((B.eH 19 (max (B.fH 19) n)).eH 15 (((B.eH 19 (max (B.fH 19) n)).fH 15+1)%18446744073709551616)).aT ++ [({gF:=aZ x,pos:=p,eu:=eG m.c.e5 m.c.dI (aZ x)%A.c.bC,bW:=0,bK:=[]}:cr)]}:Mk)=m5
  have E:m5.h.n.length=m.h.n.length:=by subst hx5;simp only[Mk.eH,List.length_set,D];exact C
  have F:=YU m5 x.name
  generalize m5.field x.name=r at *
  obtain⟨k,G⟩:=r
  exact F.trans E
theorem CR:∀(l:List Pr) (m:Mk) (ps:List (List UInt8)) (od:List Nat),(jM l m ps od).2.2.h.n.length=m.h.n.length
  | [],_,_,_=>rfl
  | x :: r,m,ps,od=>(CR r _ _ _).trans (abL m x)
theorem PO (m:Mk) (a:List Nat) (n src item:Nat):(m.link a n src item).2.2.h.n.length=m.h.n.length:=by
  unfold Mk.link
  generalize fE a 0 0 0=r
  obtain⟨A,D⟩:=r
  simp only
  split
  · have B:=sN m (js {next:=0,bJ:=List.replicate (iK (a.length:Int)) 0})
    generalize m.eJ (js {next:=0,bJ:=List.replicate (iK (a.length:Int)) 0})=r at *
    obtain⟨p,C⟩:=r
    simp only at B ⊢
    split
    · show(C.eH 18 _).h.n.length=_
      simp only[Mk.eH,List.length_set];exact B
    show(C.eH 18 _).h.n.length=_
    simp only[Mk.eH,List.length_set];exact B
  rfl
theorem IZ (e:Nat):∀(od:List Nat) (m:Mk),(lG e od m).h.n.length=m.h.n.length
  | [],_=>rfl
  | i :: r,m=>by
    rw[tY,IZ e r]
    unfold oo
    simp only
    split
    · rfl
    · exact PO m _ _ _ _
theorem SH (m:Mk) (raw:List Pr) (dn mono:Nat) (cG:Ly):(m.append raw dn mono cG).2.2.h.n.length=m.h.n.length:=by
  rcases hl:oz raw with⟨l,c⟩
  by_cases h2:c≠0
  · have e:m.append raw dn mono cG=(0,c,m):=by unfold Mk.append;simp only[hl];rw[if_pos h2]
    rw[e]
  by_cases h3:m.fH 9=18446744073709551615
  · have e:m.append raw dn mono cG=(0,1,m):=by unfold Mk.append;simp only[hl];rw[if_neg h2,if_pos h3]
    rw[e]
  have D:=CR l m [] []
  rcases hd:jM l m [] []with⟨I,C,x⟩
  rw[hd]at D
  have E:=sN x (iD {seq:=(x.fH 9+1)%18446744073709551616,dn:=dn,mono:=mono,cG:=cG,xor:=rq 0 I,bJ:=kG x C})
  rcases ho:x.eJ (iD {seq:=(x.fH 9+1)%18446744073709551616,dn:=dn,mono:=mono,cG:=cG,xor:=rq 0 I,bJ:=kG x C})with⟨e,A⟩
  rw[ho]at E
  have F:=PO A A.main (A.fH 8) 176 e
  rcases hk:A.link A.main (A.fH 8) 176 e with⟨a,t,H⟩
  rw[hk]at F
  simp only at D E F
  have B:m.append raw dn mono cG=_:=mG (dn:=dn) (mono:=mono) (cG:=cG) hl h2 h3 hd ho hk q
  have G:=IZ e C (let m4:=({H with main:=a}:Mk).eH 11 (a.getD 0 0);{m4 with h:={m4.h with dD:=mH a%4294967296,dK:=t%4294967296}})
  generalize lG e C (let m4:=({H with main:=a}:Mk).eH 11 (a.getD 0 0);{m4 with h:={m4.h with dD:=mH a%4294967296,dK:=t%4294967296}})=z at B G
  replace B:m.append raw dn mono cG=if z.c.bT<z.b.length then(0,15,m)else((x.fH 9+1)%18446744073709551616,0,tP z (A.fH 8) ((x.fH 9+1)%18446744073709551616) dn mono e cG):=B
  rw[B]
  split
  · rfl
  show(tP _ _ _ _ _ _ _).h.n.length=_
  rw[(BP _ _ _ _ _ _ _).2.2.2.2.2.2.2.1,G]
  simp only[Mk.eH,List.length_set]
  omega
theorem CN:∀(n:Nat) (s:Sq) (m:Mk) (rs:List Rec),xB m→m.h.n.length=20→xB (lY n s m rs).1∧(lY n s m rs).1.h.n.length=20
  | 0,_,_,_,h,h2=>⟨h,h2⟩
  | n+1,s,m,rs,h,h2=>by
    unfold lY
    split
    · rcases hr:s.record ((m.fH 9+1)%18446744073709551616)with⟨r,s1⟩
      have hb:r.cG.length=16:=by
        have:=KA s ((m.fH 9+1)%18446744073709551616)
        rw[hr]at this;exact this
      have A:=SH m r.ay r.dn r.mono r.cG
      have B:=BH (raw:=r.ay) (dn:=r.dn) (mono:=r.mono) h hb (A.trans h2)
      rcases ha:m.append r.ay r.dn r.mono r.cG with⟨e,c,C⟩
      rw[ha]at A B
      simp only[ha]
      split
      · exact⟨B,A.trans h2⟩
      · exact CN n s1 C _ B (A.trans h2)
    · exact⟨h,h2⟩
theorem YN {s s':Sq} {bT:Nat} {m:Mk} {rs:List Rec} (h:s.rJ bT=(m,rs,s')):xB m∧m.h.n.length=20:=by
  have A:=BK s
  rcases h1:s.config with⟨c,B⟩
  rcases h2:B.fH 6 with⟨t,C⟩
  rw[h1]at A
  simp only[Sq.rJ,h1,h2]at h
  have:=CN bT C (qW c t) [] (IX A.1 A.2.1 A.2.2) q
  rw[h]at this
  exact this
theorem LP {m:Mk} (ok:eK.ok m.h) (hb:m.b.length≤40000):(vX m 1).length≤100000:=by
  unfold vX
  rw[List.length_append,BZ {m.h with state:=1,n:=m.h.n.set 1 (m.b.length-272)} m.depth ⟨ok.1,ok.2.1,(by decide:(1:Nat)<9223372036854775808),ok.2.2.2.1,ok.2.2.2.2.1,ok.2.2.2.2.2.1,ok.2.2.2.2.2.2.1,z7 ok.2.2.2.2.2.2.2.1 Ok,ok.2.2.2.2.2.2.2.2⟩,List.length_drop]
  omega
end Go.Wk
namespace Go.Wk
open Go Go.RowKit
theorem aeY (x y:UInt8):Value.int .u8 ((x.toNat ^^^ y.toNat:Nat):Int)=b8 (x ^^^ y):=by simp[b8,UInt8.toNat_xor]
def nB (y:UInt8):List Int→List UInt8→List UInt8
  | [],o=>o
  | a :: r,o=>if o.length=0 then o else nB y r (o.set (zx a o.length) (o.getD (zx a o.length) 0 ^^^ y))
theorem DW (y:UInt8):∀(l:List Int) (o:Ly),(nB y l o).length=o.length
  | [],_=>rfl
  | a :: r,o=>by
    unfold nB
    split
    · rfl
    · rw[DW y r];simp
theorem Va {y:UInt8} {l:List Int} {i:Nat} {o:Ly} (h:¬i<l.length):nB y (l.drop i) o=o:=by rw[List.drop_eq_nil_of_le Ok];rfl
theorem ac6 {y:UInt8} {l:List Int} {o:Ly} (h:¬0<o.length):nB y l o=o:=by
  cases l with
  | nil=>rfl
  | cons a r=>unfold nB;rw[if_pos Ok]
theorem NM {y x:UInt8} {l:List Int} {i k:Nat} {a:Int} {o:Ly} (h:l[i]? = some a) (ho:0<o.length) (hk:zx a o.length=k) (hx:o[k]? = some x):nB y (l.drop i) o=nB y (l.drop (i+1)) (o.set k (x ^^^ y)):=by
  obtain⟨A,B⟩:=List.getElem?_eq_some_iff.1 h
  rw[List.drop_eq_getElem_cons A,B,nB,if_neg Ok,hk]
  simp[List.getD,hx]
section
variable {P:Program} {n:Nat} {A:Fr n} {D:List Deferred} {l:List (Nat × Value)} {w:World} {d:Option Tmp} {ty:TypeId} {ps:String} {af:Array Edge} {g:Option (Nat × Bool)}
end
def Y9 (l:List Int) (bT:Nat):List UInt8:=if(jA l bT).length≤100000 then jA l bT else[]
theorem abA {l:List Int} {bT:Nat} {r:Ly} (h:jA l bT=r) (hl:r.length≤100000):Y9 l bT=r:=by unfold Y9;rw[h,if_pos hl]
theorem YA (l:List Int) (bT:Nat):(Y9 l bT).length≤100000:=by unfold Y9;split<;>simp_all
theorem aii {z:Int} (h:(Lit.int .u8 z).wf=true):Value.int .u8 z=b8 (UInt8.ofNat z.toNat):=by
  simp[Lit.wf,IntKind.min,IntKind.max,IntKind.signed,IntKind.bits]at h
  unfold b8
  rw[UInt8.toNat_ofNat',Nat.mod_eq_of_lt Ok,Int.toNat_of_nonneg Ok]
end Go.Wk
namespace Go.Wk
open Go Go.RowKit
end Go.Wk
namespace Go.Wk
open Go Go.RowKit
def mC (b:Ly) (p n:Nat):List mY:=(List.range n).map fun i=>{first:=lW b (p+16*i),tail:=lW b (p+16*i+8)}
theorem xu (b:Ly) (p n:Nat):(mC b p n).length=n:=by simp[mC]
theorem FT (b:Ly) (p n:Nat):mC b p (n+1)=mC b p n ++ [{first:=lW b (p+16*n),tail:=lW b (p+16*n+8)}]:=by simp[mC,List.range_succ]
def jI (b:Ly) (p:Nat) (k:Int):List mY × Nat :=
  if ¬(k=4∨k=5)then([],1)
  else if(jY b p k.toNat 0 16).2≠0 then([],(jY b p k.toNat 0 16).2)
  else(mC (jY b p k.toNat 0 16).1 0 ((jY b p k.toNat 0 16).1.length/16),0)
theorem agP {b:Ly} {p:Nat} {k:Int} (h:¬(k=4∨k=5)):jI b p k=([],1):=by unfold jI;rw[if_pos h]
theorem aeS {b x:Ly} {p k c:Nat} (hk:(k:Int)=4∨(k:Int)=5) (h:jY b p k 0 16=(x,c)) (hc:c≠0):jI b p (k:Int)=([],c):=by
  unfold jI;rw[if_neg (fun h=>h hk),Int.toNat_natCast,h,if_pos hc]
theorem aeT {b x:Ly} {p k c:Nat} {l:List mY} (hk:(k:Int)=4∨(k:Int)=5) (h:jY b p k 0 16=(x,c)) (hc:¬c≠0) (hl:l=mC x 0 (x.length/16)):jI b p (k:Int)=(l,0):=by
  unfold jI;rw[if_neg (fun h=>h hk),Int.toNat_natCast,h,if_neg hc,hl]
theorem UW {x:Ly} {l:List mY} {m:List Nat} {i n v u:Nat} (hl:l=mC x 0 (i/2)) (hi:i%2=0) (hm:m=gD x 0 n) (hv:m[i]? = some v) (hu:m[i+1]? = some u):l ++ [{first:=v,tail:=u}]=mC x 0 ((i+2)/2):=by
  subst hm
  rw[show(i+2)/2=i/2+1 by omega,FT,hl,(mI hv).1,(mI hu).1,show 0+16*(i/2)=0+8*i by omega,show 0+8*(i+1)=0+8*i+8 by omega]
def su (n:List Nat) (b:Ly) (k:Int):List mY × Nat :=
  if(jI b ((if k=4 then n.getD 2 0 else n.getD 4 0)-16) k).2≠0 then([],(jI b ((if k=4 then n.getD 2 0 else n.getD 4 0)-16) k).2)
  else if(jI b ((if k=4 then n.getD 2 0 else n.getD 4 0)-16) k).1.length≠(if k=4 then n.getD 3 0 else n.getD 5 0)/16 then([],14)
  else jI b ((if k=4 then n.getD 2 0 else n.getD 4 0)-16) k
end Go.Wk
namespace Go.Wk
open Go Go.RowKit
end Go.Wk
namespace Go.Wk
open Go Go.RowKit
theorem KP {h:bR} {a s e:Nat} (ht:kC h a s e=0):16≤a:=by
  unfold kC at ht
  repeat' split at ht
  all_goals omega
theorem JK {b:Ly} {y:dH} {x:Option dH} {c:Nat} (h:jT b=(x,c)) (hy:x=some y):272≤b.length∧16≤y.h.n.getD 2 0∧16≤y.h.n.getD 4 0:=by
  subst hy
  unfold jT at h
  split at h
  · cases h
  rename_i h1
  have C:kE b=((kE b).1,0):=by rw[← Classical.not_not.1 h1]
  obtain⟨B,D,A⟩:=wN C
  have e:y.h=(kE b).1:=by
    have:=congrArg Prod.fst h
    simp only[Option.some.injEq]at this
    rw[← this]
  rw[e]
  refine⟨B,?_⟩
  unfold r7 at A
  repeat' split at A
  all_goals first|omega|skip
  rename_i h7
  exact⟨KP (Classical.not_not.1 h7),KP A⟩
end Go.Wk
namespace Go.Wk
open Go Go.RowKit
def rQ (s:Nat) (b:Ly) (k:Int) (p:Nat):Nat:=if k=4 then(fI s b p).1.cQ else(ki s b p).1.cQ
def uh (s:Nat) (b:Ly) (k:Int) (p:Nat):Nat:=if k=4 then(fI s b p).1.bS else(ki s b p).1.bS
def rR (s:Nat) (b:Ly) (k:Int) (p:Nat):List UInt8:=if k=4 then(fI s b p).1.aZ else(ki s b p).1.aZ
def ug (s:Nat) (b:Ly) (k:Int) (p:Nat):Nat:=if k=4 then(fI s b p).2 else(ki s b p).2
def XI (nx cd:Nat→Nat) (is:Nat→Bool) (len:Nat):Nat→Nat→Nat→Nat × Nat
  | 0,_,_=>(0,0)
  | k+1,p,a=>if p=0∨len≤p then(0,0)else if p≤a then(0,12)else if cd p≠0 then(0,cd p)else if is p=true then(p,0)else XI nx cd is len k (nx p) p
section
variable {nx cd:Nat→Nat} {is:Nat→Bool} {len p a c:Nat} {o:List Nat}
theorem OP (m:Nat):∀(k p a:Nat),len-a<k→XI nx cd is len (k+m) p a=XI nx cd is len k p a
 | 0,_,_,h=>by omega
 | k+1,p,a,h=>by
  rw[show k+1+m=(k+m)+1 by omega,XI,XI]
  split
  ·rfl
  ·split
   ·rfl
   ·split
    ·rfl
    ·split
     ·rfl
     ·exact OP m k _ _ Ok
def AR (nx cd:Nat→Nat) (is:Nat→Bool) (len p a:Nat):Nat × Nat:=XI nx cd is len (len-a+1) p a
theorem adT (h:p=0∨len≤p):AR nx cd is len p a=(0,0):=by unfold AR;rw[XI,if_pos h]
theorem abw (h:¬(p=0∨len≤p)) (h1:p≤a):AR nx cd is len p a=(0,12):=by unfold AR;rw[XI,if_neg h,if_pos h1]
theorem adS (h:¬(p=0∨len≤p)) (h1:¬p≤a) (h2:cd p=c) (hc:c≠0):AR nx cd is len p a=(0,c):=by subst h2;unfold AR;rw[XI,if_neg h,if_neg h1,if_pos hc]
theorem adU (h:¬(p=0∨len≤p)) (h1:¬p≤a) (h2:cd p=0) (hi:is p=true):AR nx cd is len p a=(p,0):=by unfold AR;rw[XI,if_neg h,if_neg h1,if_neg Ok,if_pos hi]
theorem afo (h:¬(p=0∨len≤p)) (h1:¬p≤a) (h2:cd p=0) (hi:¬is p=true) {n:Nat} (hn:nx p=n):AR nx cd is len p a=AR nx cd is len n p:=by
  subst hn
  unfold AR;rw[XI,if_neg h,if_neg h1,if_neg Ok,if_neg hi]
  rw[show len-a=(len-p+1)+(len-a-(len-p+1))by omega]
  exact OP _ _ _ _ Ok
end
def aeK:mY:={first:=0,tail:=0}
theorem acF {n:List Nat} {b:Ly} {k:Int} {l:List mY} {c:Nat} (h:su n b k=(l,c)) (hc:c=0):0<l.length:=by
  subst hc
  unfold su at h
  generalize ((if k=4 then n.getD 2 0 else n.getD 4 0)-16)=a at h
  generalize (if k=4 then n.getD 3 0 else n.getD 5 0)/16=m at h
  split at h
  · rename_i h1;exact absurd (congrArg Prod.snd h) h1
  split at h
  · cases h
  unfold jI at h
  split at h
  · cases h
  split at h
  · rename_i h1;exact absurd (congrArg Prod.snd h) h1
  rename_i h1
  rcases hb:jY b a k.toNat 0 16 with⟨x,d⟩
  rw[hb]at h h1
  obtain⟨_,_,A,B,_,C,_⟩:=rB hb (Classical.not_not.1 h1)
  have e:=congrArg Prod.fst h
  simp only at e
  rw[← e,xu]
  omega
theorem agy {s p:Nat} {b:Ly} {k:Int} (h:k=4):rQ s b k p=(fI s b p).1.cQ∧uh s b k p=(fI s b p).1.bS∧rR s b k p=(fI s b p).1.aZ∧ug s b k p=(fI s b p).2:=by
  unfold rQ uh rR ug;rw[if_pos h,if_pos h,if_pos h,if_pos h];exact⟨q,q,q,q⟩
theorem agz {s p:Nat} {b:Ly} {k:Int} (h:¬k=4):rQ s b k p=(ki s b p).1.cQ∧uh s b k p=(ki s b p).1.bS∧rR s b k p=(ki s b p).1.aZ∧ug s b k p=(ki s b p).2:=by
  unfold rQ uh rR ug;rw[if_neg h,if_neg h,if_neg h,if_neg h];exact⟨q,q,q,q⟩
def findF (n:List Nat) (b:Ly) (k:Int) (h:Nat) (pl:Ly):Nat × Nat :=
  if(su n b k).2≠0 then(0,(su n b k).2)
  else if(AR (uh (n.getD 0 0) b k) (ug (n.getD 0 0) b k) (fun p=>decide (rQ (n.getD 0 0) b k p=h) && decide (rR (n.getD 0 0) b k p=pl)) b.length ((su n b k).1.getD (h%(su n b k).1.length) aeK).first 0)=(0,0)then(0,16)
  else(AR (uh (n.getD 0 0) b k) (ug (n.getD 0 0) b k) (fun p=>decide (rQ (n.getD 0 0) b k p=h) && decide (rR (n.getD 0 0) b k p=pl)) b.length ((su n b k).1.getD (h%(su n b k).1.length) aeK).first 0)
section
variable {n:List Nat} {b o nm9 pl:Ly} {k eu:Int} {l:List mY} {c d h p:Nat} {t:mY} {x:List Nat}
theorem XL (ht:su n b k=(l,c)) (hc:c≠0):findF n b k h pl=(0,c):=by unfold findF;rw[ht];rw[if_pos hc]
theorem ES (ht:su n b k=(l,c)) (hc:c=0) (hs:l[h%l.length]? = some t) (hb:AR (uh (n.getD 0 0) b k) (ug (n.getD 0 0) b k) (fun p=>decide (rQ (n.getD 0 0) b k p=h) && decide (rR (n.getD 0 0) b k p=pl)) b.length t.first 0=(p,d)):findF n b k h pl=if(p,d)=(0,0)then(0,16)else(p,d):=by
  subst hc;unfold findF;rw[ht]
  rw[if_neg Oj]
  have e:l.getD (h%l.length) aeK=t:=by rw[List.getD_eq_getElem?_getD,hs];rfl
  simp only[e,hb]
end
section
variable {n m:List Nat} (hn:∀i,i<20→m.getD i 0=n.getD i 0) (b:Ly) (k eu:Int) (h:Nat) (pl:Ly)
include hn
end
end Go.Wk
namespace Go.Wk
open Go Go.RowKit
end Go.Wk
namespace Go.Wk
open Go Go.RowKit
structure Ob where
  pos:Nat
  kind:Nat
  size:Nat
end Go.Wk
namespace Go.Wk
open Go Go.RowKit
section
variable {b c:Ly} {l:List Ob} {src e:Nat} {av bJ:List Nat}
end
end Go.Wk
namespace Go.Wk
open Go Go.RowKit
end Go.Wk
namespace Go.Wk
open Go Go.RowKit
end Go.Wk
namespace Go.Wk
open Go Go.RowKit
end Go.Wk
namespace Go.Wk
open Go Go.RowKit
end Go.Wk
namespace Go.Wk
open Go Go.RowKit
structure afd where
  pos:Nat
  ent:gN
  who:List Nat
end Go.Wk
namespace Go.Wk
open Go Go.RowKit
end Go.Wk
namespace Go.Wk
open Go
end Go.Wk
namespace Go.Wk
open Go Go.RowKit
end Go.Wk
namespace Go.Wk
open Go Go.RowKit
end Go.Wk
namespace Go.Wk
open Go Go.RowKit
end Go.Wk
namespace Go.Wk
open Go Go.RowKit
def hk (m:Mk):Nat × Nat × Nat × List UInt8:=(m.h.gK,m.h.cF,m.h.state,m.h.dI)
end Go.Wk
namespace Go.Wk
open Go Go.RowKit
end Go.Wk
namespace Go.Wk
open Go Go.RowKit
end Go.Wk
namespace Go.Wk
open Go Go.RowKit
end Go.Wk
namespace Go.Wk
open Go Go.RowKit
end Go.Wk
namespace Go.Wk
open Go Go.RowKit
section
variable {m:Mk} {B:Ly} {H:bR} {l:List Ob} {es:List afd} {rs:List Rec}
def n3 (l:List Ob):Nat:=(l.filter fun o=>decide (o.kind=3)).length
end
end Go.Wk
namespace Go.Wk
open Go Go.RowKit
theorem acu {P:Program} {n:Nat} {A:Fr n} {D:List Deferred} {l:List (Nat × Value)} {w:World} {d:Tmp} {ty:TypeId} {ps:String} {af:Array Edge} {x:Operand} {t u e:TypeId} {p:Addr} {g:Option (Nat × Bool)} (hx:ev n l x=some (.pointer (some p))) (hT:P.underlying t=some (.pointer e)) :
    cC P ⟨some d,.binOp .neq t x (.const (.pointer none)) u,ty,ps,af,g⟩ (bw A D l).eval w (.bool true):=by
  have E:P.underlying t=some (.pointer (P.pointee t)):=by rw[hT];simp[Program.pointee,hT]
  have h:=run_neq_pointer_nil (P:=P) w t (some p) E
  have B:(bw A D l).eval (.const (.pointer none)) = .pointer none:=rfl
  have C:(eqGuard .neq t x (.const (.pointer none)) (.pointer (some p)) (.pointer none)).run P w = .ok () w:=by unfold eqGuard;simp
  simp[cC,execOp,bZ hx,B,C,h]
def FQ (v:dH) (p:Nat):Rec × Nat:=mU (decide (v.h.cF &&& 4≠0)) v.h.dI (v.h.n.getD 0 0) v.b p
def j4 (v:dH):List Nat→Nat→Nat→List Nat→List Nat
  | [],_,_,o=>o
  | p :: r,i,last,o=>if(FQ v p).2=0∧last<(FQ v p).1.seq then j4 v r (i+1) (FQ v p).1.seq (o ++ [i])else j4 v r (i+1) last o
def pN (v:dH) (at_:List Nat) (i:Nat):Rec × Nat:=if i<at_.length then FQ v (at_.getD i 0)else(vE,2)
section
variable {v:dH} {at_ g o:List Nat} {i p last c:Nat} {r:Rec}
theorem BV (h:¬i<at_.length):j4 v (at_.drop i) i last o=o:=by rw[eO Ok];rfl
theorem BW (h:at_[i]? = some p) (hr:FQ v p=(r,c)) (hc:c=0) (hl:last<r.seq):j4 v (at_.drop i) i last o=j4 v (at_.drop (i+1)) (i+1) r.seq (o ++ [i]):=by
  subst hc;rw[di h,j4,hr,if_pos ⟨q,hl⟩]
theorem yS (h:at_[i]? = some p) (hr:FQ v p=(r,c)) (hc:¬(c=0∧last<r.seq)):j4 v (at_.drop i) i last o=j4 v (at_.drop (i+1)) (i+1) last o:=by
  rw[di h,j4,hr,if_neg hc]
theorem Px (h:at_[i]? = some p):pN v at_ i=FQ v p:=by
  have A:=(List.getElem?_eq_some_iff.1 h).1
  unfold pN;rw[if_pos A,List.getD_eq_getElem?_getD,h];rfl
def WL (at_:List Nat) (i:Nat):Nat × Nat:=if i<at_.length then(at_.getD i 0,0)else(0,2)
theorem afi (h:at_[i]? = some p):WL at_ i=(p,0):=by
  have A:=(List.getElem?_eq_some_iff.1 h).1
  unfold WL;rw[if_pos A,List.getD_eq_getElem?_getD,h];rfl
theorem adF (h:¬i<at_.length):WL at_ i=(0,2):=by unfold WL;rw[if_neg h]
theorem YF {x:Rec × Nat} (h:WL at_ i=(p,c)) (hc:c=0) (hr:FQ v p=x):pN v at_ i=x:=by
  unfold WL at h
  unfold pN
  split at h
  · rename_i hi;cases h;rw[if_pos hi];exact hr
  cases h;cases hc
theorem RX (h:WL at_ i=(p,c)) (hc:c≠0):pN v at_ i=(vE,c):=by
  unfold WL at h
  unfold pN
  split at h
  · cases h;exact absurd q hc
  rename_i hi;cases h;rw[if_neg hi]
structure Lf (v:dH) (at_:List Nat) (g:List Nat) (last:Nat):Prop where
  ok:∀i∈g,i<at_.length∧(pN v at_ i).2=0∧0<(pN v at_ i).1.seq∧(pN v at_ i).1.seq≤last
  asc:g.Pairwise fun a b=>(pN v at_ a).1.seq<(pN v at_ b).1.seq
theorem NC:Lf v at_ [] 0:=⟨by simp,List.Pairwise.nil⟩
theorem rG:∀(n i last:Nat) (o:List Nat),i+n=at_.length→Lf v at_ o last→o.length≤i→∃last',Lf v at_ (j4 v (at_.drop i) i last o) last'∧(j4 v (at_.drop i) i last o).length≤at_.length
  | 0,i,last,o,h,hr,hl=>⟨last,by rw[BV Ok];exact⟨hr,by omega⟩⟩
  | n+1,i,last,o,h,hr,hl=>by
    obtain⟨p,hp⟩:∃p,at_[i]? = some p:=⟨_,List.getElem?_eq_getElem Ok⟩
    rcases hv:FQ v p with⟨r,c⟩
    by_cases hc:c=0∧last<r.seq
    · rw[BW hp hv hc.1 hc.2]
      have hj:pN v at_ i=(r,c):=(Px hp).trans hv
      refine rG n (i+1) r.seq (o ++ [i]) Ok ⟨fun j hm=>?_,?_⟩ Yw
      · rcases List.mem_append.1 hm with hm|hm
        · obtain⟨h1,h2,h3,h4⟩:=hr.ok j hm
          exact⟨h1,h2,h3,by omega⟩
        · simp at hm;subst hm;rw[hj];exact⟨by omega,hc.1,by simp only;omega,Nat.le_refl _⟩
      · refine List.pairwise_append.2 ⟨hr.asc,by simp,fun a ha b hb=>?_⟩
        simp at hb;subst hb
        have:=(hr.ok a ha).2.2.2
        rw[hj];simp only;omega
    · rw[yS hp hv hc]
      exact rG n (i+1) last o Ok hr Ok
end
section
variable {m:Mk} {B:Ly} {H:bR} {l:List Ob} {es:List afd} {rs:List Rec}
end
theorem pM (v:dH) (at_:List Nat):(j4 v at_ 0 0 []).length≤at_.length:=by
  obtain⟨last,_,A⟩:=rG at_.length 0 0 [] Ok (NC (v:=v) (at_:=at_)) (Nat.le_refl _)
  rwa [List.drop_zero]at A
theorem aa9 {b:Ly} {out:List Nat} {x:Nat} (h:r5 b out) (h0:¬(x=0∨b.length≤x)) (hi:oS out x=0):r5 b (out ++ [x]):=by
  have A:qT (out ++ [x])=x:=by unfold qT;simp
  unfold r5
  rw[A,List.length_append,List.length_singleton]
  have B:=h.1
  unfold oS at hi
  by_cases he:out=[]
  · subst he;simp;omega
  by_cases hx:x≤qT out
  · rw[if_pos ⟨he,hx⟩]at hi;cases hi
  omega
theorem vP {b:Ly} {bT:Nat}:∀(bJ out:List Nat),r5 b out→r5 b (lD b bT bJ out).1
  | [],out,h=>h
  | x :: r,out,h=>by
    unfold lD
    split
    · exact h
    · split
      · exact h
      · rename_i h0
        split
        · exact h
        · rename_i hi
          exact vP r _ (aa9 h h0 (Classical.not_not.1 hi))
theorem BM {s bT:Nat} {b:Ly}:∀(k p a:Nat) (out:List Nat),b.length-a≤k→r5 b out→r5 b (qq s b bT p a out).1
  | k,p,a,out,hk,h=>by
    rw[qq]
    split
    · exact h
    · split
      · exact h
      · split
        · exact h
        · split
          · exact h
          · split
            · exact vP _ _ h
            · match k with
              | 0=>omega
              | k+1=>exact BM k _ p _ Ok (vP _ _ h)
theorem OO {s bT p c:Nat} {b:Ly} {a:List Nat} (h:oO s b bT p=(a,c)):a.length≤b.length:=by
  have:=zW (BM (s:=s) (bT:=bT) b.length p 0 [] Ok (KB b))
  have e:qq s b bT p 0 []=(a,c):=h
  rw[e]at this;exact this
end Go.Wk
namespace Go.Wk
open Go Go.RowKit
def BQ (v:dH) (p:Pr):Nat × Nat:=findF v.h.n v.b 4 (eG (decide (v.h.cF &&& 4≠0)) v.h.dI (aZ p)) (aZ p)
def inG (v:dH) (at_:List Nat) (x i:Nat):Bool:=decide (at_.getD i 0∈(ofF (v.h.n.getD 0 0) v.b x).1)
def j5 (v:dH) (at_:List Nat):List Nat:=j4 v at_ 0 0 []
def sZ (v:dH) (at_:List Nat) (p:Pr):List Nat :=
  if right p.pb=false then[]else if(BQ v p).2≠0 then[]else(j5 v at_).filter (inG v at_ (BQ v p).1)
def aff (v:dH) (at_:List Nat) (a:fR):List Nat:=a.values.flatMap fun s=>sZ v at_ {name:=a.name,value:=s}
def nN (v:dH) (at_:List Nat) (out:List Nat) (a:fR):List Nat:=out.filter fun i=>decide (i∈aff v at_ a)
def KD (v:dH) (at_:List Nat) (l:List fR):List Nat:=l.foldl (nN v at_) (j5 v at_)
def nE (l:List Nat):List Nat:=l.mergeSort fun x y=>decide (x≤y)
def EM (p:Nat):List Nat→List Nat
  | []=>[]
  | q :: r=>if q=p then EM q r else q :: EM q r
def jG:List Nat→List Nat
  | []=>[]
  | p :: r=>p :: EM p r
def rC (v:dH) (at_:List Nat) (m:eT):List Nat:=if QD m {rows:=[]}=true then j5 v at_ else jG (nE (m.rows.flatMap (KD v at_)))
def sx:List Nat→List Nat→Nat→Nat
  | [],_,n=>n
  | x :: r,a,n=>if n<a.length then(if x=a.getD n 0 then sx r a (n+1)else sx r a n)else n
section
variable {v:dH} {at_:List Nat} {p:Pr} {l r:List Nat} {x y i n:Nat}
theorem vV (v:dH):∀(l:List Nat) (i last:Nat) (o:List Nat),o.Pairwise (· < ·)→(∀x∈o,x<i)→(j4 v l i last o).Pairwise (· < ·)∧∀x∈j4 v l i last o,x<i+l.length
  | [],i,_,o,h,hb=>⟨h,fun x hx=>by have:=hb x hx;simp only[List.length_nil];omega⟩
  | p :: r,i,last,o,h,hb=>by
    rw[j4]
    have e:i+(p :: r).length=(i+1)+r.length:=by simp only[List.length_cons];omega
    rw[e]
    split
    · refine vV v r (i+1) _ _ ?_ ?_
      · rw[List.pairwise_append]
        refine⟨h,by simp,fun a B b A=>?_⟩
        simp at A;subst A;exact hb a B
      · intro x hx
        rcases List.mem_append.1 hx with hx|hx
        · have:=hb x hx;omega
        · simp at hx;omega
    · exact vV v r (i+1) _ _ h fun x hx=>by have:=hb x hx;omega
theorem uS (v:dH) (at_:List Nat):(j5 v at_).Pairwise (· < ·)∧∀x∈j5 v at_,x<at_.length:=by
  have:=vV v at_ 0 0 [] List.Pairwise.nil Oj
  rw[Nat.zero_add]at this
  exact this
theorem ab7 (h:right p.pb=false):sZ v at_ p=[]:=by unfold sZ;rw[if_pos h]
theorem Yo {x c:Nat} (h:right p.pb=true) (hf:BQ v p=(x,c)) (hc:c≠0):sZ v at_ p=[]:=by unfold sZ;rw[if_neg (by simp[h]),hf,if_pos hc]
theorem aec {x c:Nat} (h:right p.pb=true) (hf:BQ v p=(x,c)) (hc:c=0):sZ v at_ p=(j5 v at_).filter (inG v at_ x):=by unfold sZ;rw[if_neg (by simp[h]),hf,if_neg (by simp[hc])]
theorem aaC (v:dH) (at_:List Nat):∀(l:List fR) (o:List Nat),o.Pairwise (· < ·)→(l.foldl (nN v at_) o).Pairwise (· < ·)∧∀x∈l.foldl (nN v at_) o,x∈o
  | [],_,h=>⟨h,fun _ h=>h⟩
  | a :: r,o,h=>by
    obtain⟨h1,h2⟩:=aaC v at_ r (nN v at_ o a) (h.filter _)
    exact⟨h1,fun x hx=>(List.mem_filter.1 (h2 x hx)).1⟩
theorem acz (v:dH) (at_:List Nat) (l:List fR):∀x∈KD v at_ l,x∈j5 v at_:=(aaC v at_ l _ (uS v at_).1).2
theorem QC (v:dH) (at_:List Nat):∀(l:List fR) (o:List Nat),(l.foldl (nN v at_) o).length≤o.length
  | [],_=>Nat.le_refl _
  | _ :: r,o=>ly (QC v at_ r _) (List.length_filter_le _ _)
theorem WR:∀(l:List Nat) (p:Nat),(∀x∈l,p≤x)→l.Pairwise (·≤·)→(EM p l).Pairwise (· < ·)∧(∀x∈EM p l,p<x)∧∀x,x∈EM p l∨x=p↔x∈l∨x=p
  | [],p,_,_=>⟨List.Pairwise.nil,by simp[EM],by simp[EM]⟩
  | q :: r,p,hp,hs=>by
    rw[List.pairwise_cons]at hs
    obtain⟨h1,h2,h3⟩:=WR r q hs.1 hs.2
    have hq:=hp q Oj
    rw[EM]
    split
    · rename_i e
      subst e
      refine⟨h1,h2,fun x=>(h3 x).trans ?_⟩
      simp only[List.mem_cons]
      constructor
      · rintro(h|h)
        · exact .inl (.inr h)
        · exact .inr h
      · rintro((h|h)|h)
        · exact .inr h
        · exact .inl h
        · exact .inr h
    · refine⟨List.pairwise_cons.2 ⟨h2,h1⟩,fun x hx=>?_,fun x=>?_⟩
      · rcases List.mem_cons.1 hx with h|h
        · omega
        · have:=h2 x h;omega
      · have:=h3 x
        simp only[List.mem_cons]
        constructor
        · rintro((h|h)|h)
          · exact .inl (.inl h)
          · rcases this.1 (.inl h)with h|h
            · exact .inl (.inr h)
            · exact .inl (.inl h)
          · exact .inr h
        · rintro((h|h)|h)
          · exact .inl (.inl h)
          · rcases this.2 (.inl h)with h|h
            · exact .inl (.inr h)
            · exact .inl (.inl h)
          · exact .inr h
theorem qp {l:List Nat} (hs:l.Pairwise (·≤·)):(jG l).Pairwise (· < ·)∧∀x,x∈jG l↔x∈l:=by
  cases l with
  | nil=>exact⟨List.Pairwise.nil,fun _=>Iff.rfl⟩
  | cons p r =>
    rw[List.pairwise_cons]at hs
    obtain⟨A,B,C⟩:=WR r p hs.1 hs.2
    refine⟨List.pairwise_cons.2 ⟨B,A⟩,fun x=>?_⟩
    have:=C x
    show x∈p :: EM p r↔x∈p :: r
    simp only[List.mem_cons]
    constructor
    · rintro(h|h)
      · exact .inl h
      · exact(this.1 (.inl h)).elim .inr .inl
    · rintro(h|h)
      · exact .inl h
      · exact(this.2 (.inl h)).elim .inr .inl
theorem AB (l:List Nat):(nE l).Pairwise (·≤·):=by
  have:=List.pairwise_mergeSort (le:=fun x y:Nat=>decide (x≤y)) (by intro a b c;simp;omega) (by intro a b;simp;omega) l
  exact this.imp fun h=>by simpa using h
theorem sR (l:List Nat) (x:Nat):x∈nE l↔x∈l:=List.mem_mergeSort
theorem qg (l:List Nat):(nE l).length=l.length:=by unfold nE;simp
theorem HA (v:dH) (at_:List Nat) (m:eT):(rC v at_ m).Pairwise (· < ·)∧∀x∈rC v at_ m,x∈j5 v at_:=by
  unfold rC
  split
  · exact⟨(uS v at_).1,fun _ h=>h⟩
  obtain⟨A,B⟩:=qp (AB (m.rows.flatMap (KD v at_)))
  refine⟨A,fun x D=>?_⟩
  have:=(sR _ _).1 ((B x).1 D)
  obtain⟨l,_,C⟩:=List.mem_flatMap.1 this
  exact acz v at_ l x C
theorem zZ {m:eT}:QD m {rows:=[]}=true↔m.rows=[]:=by
  unfold QD vQ
  cases h:m.rows with
  | nil=>simp[GX]
  | cons a r=>simp
theorem BR {m:eT} (h:m.rows≠[]):rC v at_ m=jG (nE (m.rows.flatMap (KD v at_))):=by
  unfold rC
  rw[if_neg fun e=>h (zZ.1 e)]
theorem RH {m:eT} {k:Nat} (hk:k<m.rows.length):∀x∈rC v at_ {rows:=m.rows.take (k+1)},x∈rC v at_ m:=by
  intro x A
  have B:m.rows≠[]:=fun e=>by rw[e]at hk;simp at hk
  have C:m.rows.take (k+1)≠[]:=fun e=>by
    have:=congrArg List.length e
    rw[List.length_take]at this;simp at this;exact B this
  rw[BR (m:={rows:=m.rows.take (k+1)}) C]at A
  rw[BR B]
  have A:=(sR _ _).1 (((qp (AB _)).2 x).1 A)
  refine((qp (AB _)).2 x).2 ((sR _ _).2 ?_)
  obtain⟨l,D,E⟩:=List.mem_flatMap.1 A
  exact List.mem_flatMap.2 ⟨l,List.mem_of_mem_take D,E⟩
theorem QJ {g a:List Nat} {i n:Nat} (h:¬(i<g.length∧n<a.length)):sx (g.drop i) a n=n:=by
  rcases Nat.lt_or_ge i g.length with A|A
  · obtain⟨x,B⟩:∃x,g[i]? = some x:=⟨_,List.getElem?_eq_getElem A⟩
    rw[di B,sx,if_neg Ok]
  rw[eO Ok];rfl
theorem QL {g a:List Nat} {i n x y:Nat} (h:g[i]? = some x) (hy:a[n]? = some y) (e:x=y):sx (g.drop i) a n=sx (g.drop (i+1)) a (n+1):=by
  have A:=(List.getElem?_eq_some_iff.1 hy).1
  rw[di h,sx,if_pos A,if_pos (by rw[List.getD_eq_getElem?_getD,hy];exact e)]
theorem aaT {g a:List Nat} {i n x y:Nat} (h:g[i]? = some x) (hy:a[n]? = some y) (e:¬x=y):sx (g.drop i) a n=sx (g.drop (i+1)) a n:=by
  have A:=(List.getElem?_eq_some_iff.1 hy).1
  rw[di h,sx,if_pos A,if_neg (by rw[List.getD_eq_getElem?_getD,hy];exact e)]
theorem FX {a:List Nat} (ha:a.Pairwise (· < ·)):∀(g:List Nat) (n:Nat),g.Pairwise (· < ·)→n≤a.length→(∀y∈a.drop n,y∈g)→sx g a n=a.length
  | [],n,_,hn,h=>by
    have:a.drop n=[]:=List.eq_nil_iff_forall_not_mem.2 fun y hy=>by have:=h y hy;simp at this
    have:=congrArg List.length this
    rw[List.length_drop]at this
    simp at this
    show n=_
    omega
  | x :: r,n,hg,hn,h=>by
    rw[List.pairwise_cons]at hg
    rw[sx]
    split
    · rename_i hlt
      have hget:a[n]? = some a[n]:=List.getElem?_eq_getElem hlt
      have hd:a.drop n=a[n] :: a.drop (n+1):=List.drop_eq_getElem_cons hlt
      have hp:∀y∈a.drop (n+1),a[n]<y:=by
        have:=ha.sublist (List.drop_sublist n a)
        rw[hd,List.pairwise_cons]at this
        exact this.1
      have C:a.getD n 0=a[n]:=by rw[List.getD_eq_getElem?_getD,hget];rfl
      rw[C]
      have A:=h a[n] (by rw[hd];exact List.mem_cons_self)
      split
      · rename_i e
        refine FX ha r (n+1) hg.2 hlt fun y hy=>?_
        have:=h y (by rw[hd];exact List.mem_cons_of_mem _ hy)
        rcases List.mem_cons.1 this with D|B
        · have:=hp y hy;omega
        · exact B
      · rename_i e
        refine FX ha r n hg.2 hn fun y hy=>?_
        rcases List.mem_cons.1 (h y hy)with D|B
        · exfalso
          rw[hd]at hy
          rcases List.mem_cons.1 A with E|F
          · exact e E.symm
          · have I:=hg.1 _ F
            rcases List.mem_cons.1 hy with H|G
            · omega
            · have:=hp y G;omega
        · exact B
    · have:a.length≤n:=by omega
      omega
theorem QK {g a:List Nat} (hg:g.Pairwise (· < ·)) (ha:a.Pairwise (· < ·)) (h:∀y∈a,y∈g):sx g a 0=a.length:=FX ha g 0 hg (Nat.zero_le _) (by simpa using h)
def xJ (e:TypeId) (w:World) (b cap:Nat) (xs:List Nat):Prop:=∃cur,bO w b cur e∧cur.length=cap∧xs.length≤cap∧cur.take xs.length=xs.map fun n=>(.int .i64 n)
end
abbrev vN (n:Nat):Value:=.int .i64 n
section
variable {e:TypeId} {w w':World} {b cap:Nat} {xs:List Nat}
theorem xJ.md {S:List Nat} (h:xJ e w b cap xs) (m:Md S w w') (hs:b∉S):xJ e w' b cap xs:=by
  obtain⟨A,B,C⟩:=h;exact⟨A,B.md m hs,C⟩
theorem xJ.o (h:xJ e w b cap xs) (m:Md [] w w'):xJ e w' b cap xs:=h.md m Oj
instance aif:Tp w w' (xJ e w b cap xs) (xJ e w' b cap xs):=⟨fun m h=>h.o m⟩
theorem xJ.cell (h:xJ e w b cap xs) {i x:Nat} (hi:xs[i]? = some x):w.cell? ⟨b,i,none⟩=some (vN x):=by
  obtain⟨B,C,E,F,D⟩:=h
  have A:=(List.getElem?_eq_some_iff.1 hi).1
  rw[C.cell]
  have:(xs.map vN)[i]? = some (vN x):=by rw[List.getElem?_map,hi];rfl
  rw[← D,List.getElem?_take,if_pos A]at this
  exact this
theorem xJ.at_ {o i k n c:Nat} {x:Nat} (h:xJ e w b cap xs) (hi:xs[i]? = some x) (eq:o+k=i):At w (.slice (some ⟨b,o,none⟩) n c) k [vN x]:=by
  refine⟨⟨b,o,none⟩,n,c,q,fun j u A=>?_⟩
  cases j with
  | succ j=>simp at A
  | zero =>
    simp at A;subst A
    rw[Addr.jL,show o+(k+0)=i by omega]
    exact h.cell hi
theorem xJ.into (h:xJ e w b cap xs) {i z:Nat} (hi:i<xs.length):∃cur,bO w b cur e∧i<cur.length∧∀w',bO w' b (cur.set i (vN z)) e→xJ e w' b cap (xs.set i z):=by
  obtain⟨cur,A,B,C,D⟩:=h
  refine⟨cur,A,by omega,fun w' E=>⟨_,E,by simpa using B,by simpa using C,?_⟩⟩
  rw[List.length_set,List.take_set,D,List.map_set]
theorem xJ.clear (h:xJ e w b cap xs) {i:Nat} (hi:i≤xs.length):∃cur,bO w b cur e∧i+(xs.length-i)*1≤cur.length∧∀w' us,us.length=(xs.length-i)*1→bO w' b (fo cur i us) e→xJ e w' b cap (xs.take i):=by
  obtain⟨cur,A,B,F,C⟩:=h
  refine⟨cur,A,by omega,fun w' us E D=>⟨_,D,?_,?_,?_⟩⟩
  · rw[ux (by rw[E];omega),B]
  · rw[List.length_take];omega
  unfold fo
  have G:(cur.take i).length=i:=by rw[List.length_take];omega
  rw[List.length_take,Nat.min_eq_left hi,List.append_assoc,List.take_append_of_le_length Ok,List.take_of_length_le Ok,List.map_take,← C,List.take_take,Nat.min_eq_left hi]
theorem Ow.rwn {lo Q:Nat→Prop} {v:Value} (h:Ow ez e lo w Q v xs) (h0:0<xs.length):∃b cap,v = .slice (some ⟨b,0,none⟩) xs.length cap∧cap≤maxLen∧xJ e w b cap xs∧lo b∧¬Q b:=by
  obtain⟨⟨K,H,C⟩,A⟩:=h
  obtain⟨b,cap,B,rfl,I,E,F,G,D⟩:=H.blk h0
  obtain⟨rfl,_⟩:=yJ C
  have J:ez.n=1:=rfl
  rw[J]at G D
  exact⟨b,cap,q,F,⟨B,I,by omega,E,by rw[← Nat.mul_one xs.length,D]⟩,(A b q).1,(A b q).2⟩
theorem xJ.ow {lo Q:Nat→Prop} (h:xJ e w b cap xs) (hc:cap≤maxLen) (hl:lo b) (hq:¬Q b) (hx:∀x∈xs,x<9223372036854775808):Ow ez e lo w Q (.slice (some ⟨b,0,none⟩) xs.length cap) xs:=by
  obtain⟨B,C,H,D,E⟩:=h
  refine⟨⟨xs.map vN,?_,xL fun x F=>hx x F⟩,fun G A=>by simp[ah]at A;subst A;exact⟨hl,hq⟩⟩
  have:=Own.cK (sz:=1) (m:=xs.length) C D hc Ok
  rw[Nat.mul_one,E]at this
  exact this
end
theorem sw {l:List Nat} {j s:Nat} (h:j<l.length):(l.set j s).take (j+1)=l.take j ++ [s]:=by
  rw[List.take_add_one,List.getElem?_set_self h,List.take_set_of_le (Nat.le_refl _)];rfl
theorem AH {b n cap i:Nat} (h:i<cap):jQ 1 (.slice (some ⟨b,0,none⟩) n cap) i n = .slice (some ⟨b,i,none⟩) (n-i) (cap-i):=by
  simp only[jQ,Nat.mul_one];rw[if_neg Ok];simp[Addr.jL]
theorem KN {b n cap j:Nat} (h:0<cap):jQ 1 (.slice (some ⟨b,0,none⟩) n cap) 0 j = .slice (some ⟨b,0,none⟩) j cap:=by
  simp only[jQ];rw[if_neg Ok];simp[Addr.jL]
end Go.Wk
namespace Go.Wk
open Go Go.RowKit
section
variable {α:Type} {l:List α} {q:α→Bool} {x:α} {i:Nat}
theorem abx (h:¬i<l.length):(l.drop i).filter q=[]:=by rw[eO Ok];rfl
theorem aby (h:l[i]? = some x) (hq:q x=true):(l.drop i).filter q=x :: (l.drop (i+1)).filter q:=by rw[di h,List.filter_cons_of_pos hq]
theorem adX (h:l[i]? = some x) (hq:q x=false):(l.drop i).filter q=(l.drop (i+1)).filter q:=by rw[di h,List.filter_cons_of_neg (by simp[hq])]
theorem XO {β:Type} {f:α→List β} (h:¬i<l.length):(l.drop i).flatMap f=[]:=by rw[eO Ok];rfl
theorem OQ {β:Type} {f:α→List β} {y:List β} (h:l[i]? = some x) (hy:f x=y):(l.drop i).flatMap f=y ++ (l.drop (i+1)).flatMap f:=by rw[di h,List.flatMap_cons,hy]
theorem Yb {β:Type} {f:β→α→β} {o:β} (h:¬i<l.length):(l.drop i).foldl f o=o:=by rw[eO Ok];rfl
theorem RI {β:Type} {f:β→α→β} {o:β} (h:l[i]? = some x):(l.drop i).foldl f o=(l.drop (i+1)).foldl f (f o x):=by rw[di h];rfl
def xD (q:α→Bool):List α→Nat→Int
  | [],_=>-1
  | x :: r,i=>if q x=true then((i:Nat):Int)else xD q r (i+1)
theorem Y3 (h:¬i<l.length):xD q (l.drop i) i = -1:=by rw[eO Ok];rfl
theorem Y8 (h:l[i]? = some x) (hv:q x=true):xD q (l.drop i) i=((i:Nat):Int):=by rw[di h,xD,if_pos hv]
theorem ab9 (h:l[i]? = some x) (hv:q x=false):xD q (l.drop i) i=xD q (l.drop (i+1)) (i+1):=by rw[di h,xD,if_neg (by simp[hv])]
theorem CB:∀(l:List α) (k:Nat) (z:Int),xD q l k=z→(z = -1∧l.filter (fun x=>!q x)=l)∨∃i,z=((k+i:Nat):Int)∧i<l.length∧l.take i ++ (l.drop (i+1)).filter (fun x=>!q x)=l.filter (fun x=>!q x)
  | [],k,z,h=>.inl ⟨h.symm,rfl⟩
  | x :: r,k,z,h=>by
    rw[xD]at h
    by_cases hx:q x=true
    · rw[if_pos hx]at h
      refine .inr ⟨0,by rw[← h];rfl,by simp,?_⟩
      rw[List.filter_cons,if_neg (by simp[hx])]
      simp
    · rw[if_neg hx]at h
      have hx':(!q x)=true:=by simp at hx;simp[hx]
      rcases CB r (k+1) z h with⟨A,B⟩|⟨i,A,B,C⟩
      · exact .inl ⟨A,by rw[List.filter_cons,if_pos hx',B]⟩
      · refine .inr ⟨i+1,by rw[A];congr 1;omega,by simpa using B,?_⟩
        rw[List.filter_cons,if_pos hx',List.take_succ_cons,List.drop_succ_cons,List.cons_append,C]
end
section
variable {v:dH} {at_:List Nat} {p:Pr} {x y c d s j:Nat} {b pl:Ly} {ps:List Nat} {r:Bool}
theorem YE (h:kY p=(b,c)) (hc:c≠0):right p.pb=false:=by
  unfold kY at h
  unfold right Pr.pb
  split at h
  · rename_i h1;simp[h1]
  split at h
  · rename_i h1;simp;omega
  have:=congrArg Prod.snd h;exact absurd this.symm hc
theorem abF (h:kY p=(b,c)) (hc:c=0):right p.pb=true∧b=aZ p:=by
  subst hc
  unfold kY at h
  unfold right Pr.pb
  split at h
  · have:=congrArg Prod.snd h;simp at this
  rename_i h1
  split at h
  · have:=congrArg Prod.snd h;simp at this
  rename_i h2
  refine⟨by simp at h1 ⊢;exact⟨h1,by omega⟩,(congrArg Prod.fst h).symm⟩
theorem UO (h:right p.pb=true):p.name.length≤64∧p.value.length≤256:=by
  unfold right Pr.pb eP at h
  simp at h
  omega
theorem YB (h1:WL at_ j=(y,c)) (hj:j<at_.length) (h2:ofF (v.h.n.getD 0 0) v.b x=(ps,d)) (h3:decide (y∈ps)=r):inG v at_ x j=r:=by
  unfold WL at h1
  rw[if_pos hj]at h1
  have e:=congrArg Prod.fst h1
  unfold inG
  rw[h2]
  simp only at e ⊢
  rw[e];exact h3
theorem abl (v:dH) (at_:List Nat) (l:List (List UInt8)) (nm9:Ly):(l.flatMap fun s=>sZ v at_ {name:=nm9,value:=s}).length≤l.length*(j5 v at_).length:=by
  induction l with
  | nil=>simp
  | cons a r ih =>
    rw[List.flatMap_cons,List.length_append,List.length_cons,Nat.succ_mul]
    have:(sZ v at_ {name:=nm9,value:=a}).length≤(j5 v at_).length:=by
      unfold sZ
      split
      · exact Nat.zero_le _
      · split
        · exact Nat.zero_le _
        · exact List.length_filter_le _ _
    omega
theorem ab8:(sZ v at_ p).length≤(j5 v at_).length:=by
  have:=abl v at_ [p.value] p.name
  simpa using this
end
end Go.Wk
namespace Go.Wk
open Go Go.RowKit
theorem Ow.own {α:Type} {T:Dt α} {w:World} {Q Q':Nat→Prop} {e:TypeId} {lo:Nat→Prop} {v:Value} {xs:List α} (h:Ow T e lo w Q v xs) (t:∀b,Q b→Q' b) (u:∀b,ah v=some b→Q' b):Ls T w Q' v xs:=by
  obtain⟨⟨B,C,D⟩,K⟩:=h
  obtain⟨a,A,rfl,E,F,G,H⟩:=nT C
  exact⟨a,A,B,q,E,F,G,fun p J _=>u _ (by subst J;rfl),H,D.sub fun b I _=>t b I⟩
end Go.Wk
namespace Go.Wk
open Go Go.RowKit
section
variable {p q i y:Nat} {l:List Nat}
theorem wu (h:l[i]? = some y):l.getD i 0=y:=by rw[List.getD_eq_getElem?_getD,h];rfl
theorem OH (h:¬i<l.length):EM p (l.drop i)=[]:=by rw[eO Ok];rfl
theorem GQ (h:l[i]? = some q):EM p (l.drop i)=if q=p then EM q (l.drop (i+1))else q :: EM q (l.drop (i+1)):=by rw[di h];rfl
theorem yD (h:l.length<2):jG l=l:=by
  match l,h with
  | [],_=>rfl
  | [_],_=>rfl
  | _ :: _ :: _,h=>simp at h;omega
theorem yE (h:1≤l.length):l.take 1 ++ EM (l.getD (1-1) 0) (l.drop 1)=jG l:=by
  cases l with
  | nil=>simp at h
  | cons p r=>rfl
theorem EN:∀(l:List Nat) (p:Nat),∀x∈EM p l,x∈l
  | [],_,_,h=>h
  | q :: r,p,x,h=>by
    rw[EM]at h
    split at h
    · exact List.mem_cons_of_mem _ (EN r q x h)
    · rcases List.mem_cons.1 h with h|h
      · rw[h];exact List.mem_cons_self
      · exact List.mem_cons_of_mem _ (EN r q x h)
theorem uE {x:Nat} (h:x∈jG l):x∈l:=by
  cases l with
  | nil=>exact h
  | cons p r =>
    rcases List.mem_cons.1 h with h|h
    · rw[h];exact List.mem_cons_self
    · exact List.mem_cons_of_mem _ (EN r p x h)
end
end Go.Wk
namespace Go.Wk
open Go Go.RowKit
def aOk (n:Nat) (a:fR):Prop:=a.name.length≤1000000∧a.values.length≤n∧∀s∈a.values,s.length≤1000000
theorem aOk.mono {m n:Nat} {a:fR} (h:aOk m a) (hn:m≤n):aOk n a:=⟨h.1,by have:=h.2.1;omega,h.2.2⟩
def mOk (x:eT):Prop:=x.rows.length≤1000∧∀l∈x.rows,∀a∈l,aOk 1000 a
theorem aaL (s:Ly):(iQ s).1.name.length≤s.length∧(iQ s).1.value.length≤s.length:=by
  unfold iQ oH
  split
  · simp only[List.length_take,List.length_drop];omega
  simp
theorem aas {l:List (List UInt8)} {s x:Ly} (h:x∈xF l s):x∈l∨x=s:=by
  unfold xF at h
  split at h
  · exact .inl h
  rcases List.mem_append.1 h with h|h
  · exact .inl (List.mem_of_mem_take h)
  rcases List.mem_cons.1 h with h|h
  · exact .inr h
  exact .inl (List.mem_of_mem_drop h)
theorem EG (p:Pr) {n:Nat} (h1:p.name.length≤1000000) (h2:p.value.length≤1000000):∀(b:Bool) (l:List fR),(∀a∈l,aOk n a)→∀a∈gV p b l,aOk (n+1) a
  | b,[],_=>by
    unfold gV
    split
    · simp
    · intro a ha
      simp at ha;subst ha
      exact⟨h1,by simp,by simpa using h2⟩
  | b,x :: r,h=>by
    have g1:=EG p h1 h2 true r fun a ha=>h a (by simp[ha])
    have g2:=EG p h1 h2 b r fun a ha=>h a (by simp[ha])
    have hx:=(h x Oj).mono (Nat.le_succ n)
    rw[kX]
    intro a ha
    split at ha
    · rcases List.mem_cons.1 ha with rfl|ha
      · refine⟨h1,?_,fun s hs=>?_⟩
        · have:=JR x.values p.value;have:=(h x Oj).2.1;simp only;omega
        · rcases aas hs with hs|hs
          · exact hx.2.2 s hs
          · rw[hs];exact h2
      · exact g1 a ha
    · split at ha
      · rcases List.mem_cons.1 ha with rfl|ha
        · exact⟨h1,by simp,by simpa using h2⟩
        · rcases List.mem_cons.1 ha with rfl|ha
          · exact hx
          · exact g1 a ha
      · rcases List.mem_cons.1 ha with rfl|ha
        · exact hx
        · exact g2 a ha
theorem wK (full:List (List UInt8)):∀(ws:List (List UInt8)) (i:Nat) (rows:List (List fR)) (row:List fR),(∀s∈ws,s.length≤1000000)→rows.length≤i→(∀l∈rows,∀a∈l,aOk i a)→(∀a∈row,aOk i a) →
    (jP full ws i rows row).1.rows.length≤i+ws.length+1∧∀l∈(jP full ws i rows row).1.rows,∀a∈l,aOk (i+ws.length) a
  | [],i,rows,row,_,h1,h2,h3=>by
    unfold jP
    simp only[List.length_nil,Nat.add_zero]
    split
    · refine⟨by rw[List.length_append,List.length_singleton];omega,fun l hl=>?_⟩
      rcases List.mem_append.1 hl with hl|hl
      · exact h2 l hl
      · simp at hl;subst hl;exact h3
    · exact⟨by omega,h2⟩
  | s :: r,i,rows,row,hs,h1,h2,h3=>by
    have hr:∀s∈r,s.length≤1000000:=fun x hx=>hs x (by simp[hx])
    have hn:(List.length (s :: r))=r.length+1:=rfl
    rw[mQ,hn,show i+(r.length+1)=(i+1)+r.length by omega]
    split
    · split
      · exact⟨Nat.zero_le _,by simp⟩
      · refine wK full r (i+1) (rows ++ [row]) [] hr (by rw[List.length_append,List.length_singleton];omega) (fun l hl a ha=>?_) Oj
        rcases List.mem_append.1 hl with hl|hl
        · exact(h2 l hl a ha).mono (Nat.le_succ i)
        · simp at hl;subst hl;exact(h3 a ha).mono (Nat.le_succ i)
    · split
      · exact⟨Nat.zero_le _,by simp⟩
      · have hb:=aaL s
        have hl:=hs s Oj
        exact wK full r (i+1) rows _ hr Ok (fun l hl a ha=>(h2 l hl a ha).mono (Nat.le_succ i)) (EG _ Ok Ok false row h3)
theorem Qw {l:List (List UInt8)} {m:eT} {c:Nat} (hs:∀s∈l,s.length≤1000000) (h:tG l=(m,c)):mOk m:=by
  have e:=congrArg Prod.fst h
  simp only at e
  rw[← e]
  unfold tG
  split
  · exact⟨Nat.zero_le _,by simp⟩
  obtain⟨D,A⟩:=wK l l 0 [] [] hs (Nat.le_refl _) Oj Oj
  exact⟨by omega,fun x C a B=>(A x C a B).mono Ok⟩
end Go.Wk
namespace Go.Wk
open Go Go.RowKit
theorem FI {s t:Sq} {p:Pr} (h:s.pair=(p,t)):p.name.length≤64∧p.value.length≤256:=by
  have:=Qi s
  rw[h]at this
  simp only at this
  omega
theorem vI {o:List (List UInt8)} {x:Ly} (h:∀s∈o,s.length≤1000000) (hx:x.length≤1000000):∀s∈o ++ [x],s.length≤1000000:=fun s hs=>by
  rcases List.mem_append.1 hs with hs|hs
  · exact h s hs
  · simp at hs;rw[hs];exact hx
end Go.Wk
namespace Go.Wk
open Go Go.RowKit
def rV:List Int:=[1,1,1,1,1,1,1,1,1,1]
def BN (y:dH):List Nat:=(oO (y.h.n.getD 0 0) y.b (y.h.n.getD 8 0) (y.h.n.getD 11 0)).1
def HE (b:Ly):Nat × Nat × Nat × Nat:=match jT b with|(some y,c)=>(c,(j5 y (BN y)).length,(sZ y (BN y) {name:=[78,79],value:=[49]}).length,b.length)|(none,_)=>(1,0,0,0)
set_option maxRecDepth 1000000 in
theorem ab3:(HE (jA rV 1)).1=0∧(HE (jA rV 1)).2.1=1∧(HE (jA rV 1)).2.2.1=0∧(HE (jA rV 1)).2.2.2≤2000:=by decide +kernel
theorem acf:∃y,jT (jA rV 1)=(some y,0)∧(j5 y (BN y)).length=1∧(sZ y (BN y) {name:=[78,79],value:=[49]}).length=0∧(jA rV 1).length≤2000:=by
  have h:=ab3
  unfold HE at h
  rcases hx:jT (jA rV 1)with⟨x,c⟩
  rw[hx]at h
  cases x with
  | none=>simp at h
  | some y =>
    simp only at h
    obtain⟨A,B,C,D⟩:=h
    exact⟨y,by rw[A],B,C,D⟩
end Go.Wk
namespace Go.Proofs.YtlleafgaeeneoaaGreat
open Go Go.Wk Go.RowKit
set_option linter.unusedVariables false
set_option linter.unusedSimpArgs false
attribute [local irreducible] wpList wpQuiet wpStill fF Code.wp Calls bodyPost
variable {w:World} {Q:Nat→Prop}
theorem UC (uQ:Up w Q) (s:Ly) (p0:s.length≤9223372036854775807) :
  Calls Zp 107 #[str s] w fun en w'=>∃r0:Bool,en = .returned (.bool r0)∧Md [] w w'∧eP s=r0:=by
 refine(DL s w p0).mono fun en w' ⟨he,hm⟩=>⟨eP s,by rw[he],hm ▸ Md.refl [] w,q⟩
theorem qn:fA Zp 210 4=true:=Yz
theorem ad9:fA Zp 272 3=true:=Yz
theorem adA:fA Zp 282 6=true:=Yz
theorem kW:fA Zp 48 16=true:=Yz
theorem OU:cM Zp 127=true:=Yz
theorem XQ:cM Zp 128=true:=Yz
theorem wV:cM Zp 129=true:=Yz
theorem pH:cM Zp 130=true:=Yz
theorem BS:cM Zp 157=true:=Yz
theorem adj:cM Zp 168=true:=Yz
theorem afJ:cM Zp 171=true:=Yz
theorem adm:cM Zp 176=true:=Yz
theorem afM:cM Zp 177=true:=Yz
theorem afN:cM Zp 178=true:=Yz
theorem afO:cM Zp 179=true:=Yz
theorem afP:cM Zp 180=true:=Yz
theorem afQ:cM Zp 181=true:=Yz
theorem pJ:cM Zp 188=true:=Yz
theorem ado:cM Zp 189=true:=Yz
theorem adp:cM Zp 190=true:=Yz
theorem BU:cM Zp 193=true:=Yz
theorem ahF:cM Zp 92=true:=Yz
theorem agl:cM Zp 93=true:=Yz
theorem pV:bh Zp 272 0=some 0:=Yz
theorem mN:bh Zp 272 1=some 1:=Yz
theorem mO:bh Zp 272 2=some 2:=Yz
theorem pW:bh Zp 282 0=some 0:=Yz
theorem vl:bh Zp 282 1=some 1:=Yz
theorem pX:bh Zp 282 2=some 2:=Yz
theorem pY:bh Zp 282 3=some 3:=Yz
theorem zJ:bh Zp 282 4=some 4:=Yz
theorem mP:bh Zp 282 5=some 5:=Yz
theorem adz:fw Zp 210=some [(0,1),(1,1),(2,1),(3,1)]:=Yz
theorem agB:fw Zp 272=some [(0,1),(1,1),(2,1)]:=Yz
theorem ad3:fw Zp 282=some [(0,1),(1,1),(2,1),(3,1),(4,1),(5,1)]:=Yz
theorem acG:Zp.underlying 157=some (.int .u64):=Yz
theorem rj:Zp.underlying 210=some (.array 4 46):=Yz
theorem agQ:Zp.underlying 274=some (.array 12 5):=Yz
theorem aeW:Zp.underlying 283=some (.array 8 5):=Yz
theorem z210:ea Zp 210=some [.int .u64 0,.int .u64 0,.int .u64 0,.int .u64 0]:=Yz
theorem agT:ea Zp 272=some [.int .u32 0,.int .u32 0,.int .u32 0]:=Yz
theorem ahY:ea Zp 274=some (List.replicate 12 (.int .u8 0)):=Yz
theorem aeZ:ea Zp 282=some [.int .u64 0,.int .u64 0,.int .u64 0,.int .u64 0,.int .i64 0,.slice none 0 0]:=Yz
theorem ahZ:ea Zp 283=some (List.replicate 8 (.int .u8 0)):=Yz
theorem aaK (n:Int) (w:World):Calls Zp 163 #[.int .i64 n] w fun e w'=>e = .returned (.bool (szB n))∧w=w':=by
 have M:=Md.refl [] w;refine enter (n:=17) Tryz.func163 q q q fun B=>ns (an q (nm q (st _ (kJ q q) (mv q ?_))));refine cB (t:=5) q (fun C=>?_) (fun C=>?_)
 ·(have F:=dT C);refine sk C (sk C (st _ (bF q C q) (mv q (sk q (sk q (st _ (bF q q q) (mv q (sk q (sk q (st _ (bF q q q) (ar q ?_)))))))))));exact gI trivial q q ⟨nv (by rw[Bool.eq_iff_iff];simp[szB];omega),q⟩
 (have F:=dF C);refine sg C (bf q) (sg C (kJ q q) (st _ (bE q C q) (mv q ?_)));refine cB (t:=9) q (fun D=>?_) (fun D=>?_)
 ·(have G:=dT D);refine sk D (sk D (st _ (bF q D q) (mv q (sk q (sk q (st _ (bF q q q) (ar q ?_)))))));exact gI trivial q q ⟨nv (by rw[Bool.eq_iff_iff];simp[szB];omega),q⟩
 (have G:=dF D);refine sg D (bf q) (sg D (kJ q q) (st _ (bE q D q) (mv q ?_)));refine cB (t:=13) q (fun A=>?_) (fun A=>?_)
 ·(have E:=dT A);refine sk A (sk A (st _ (bF q A q) (ar q ?_)));exact gI trivial q q ⟨nv (by rw[Bool.eq_iff_iff];simp[szB];omega),q⟩
 (have E:=dF A);refine sg A (bf q) (sg A (kJ q q) (st _ (bE q A q) (ar q ?_)));exact gI trivial q q ⟨nv (by rw[Bool.eq_iff_iff];simp[szB];omega),q⟩
theorem tX (v:Value) (l:Ly) (a n:Int) (w:World) (hB:By w v l) (hn:n=1∨n=2∨n=4∨n=8) (ha:0≤a) (hl:a+n≤l.length) :
    Calls Zp 139 #[v,.int .i64 a,.int .i64 n] w fun e w'=>e = .returned (.tuple #[.int .u64 (gU ((l.drop a.toNat).take n.toNat)),.bool true])∧w=w':=by
  have E:szB n=true:=(by simp[szB];omega);have I:=hB.dN;have M:=Md.refl [] w;refine enter (n:=42) Tryz.func139 q q q fun B=>ns (cE q (an q (au (nm q (aj adi q (aaK _ _) ?_)))));rintro e _ ⟨rfl,rfl⟩;refine rv ?_;refine st _ (gR q) (mv q (aaP _ q q q (by rw[E];rfl) (bf q) (aaP _ q q q (by rw[E];rfl) (qd q q) (st _ (bE q (by rw[E];rfl) q) (mv q ?_)))));refine cB (t:=17) q (fun A=>?_) (fun A=>?_)
  · (have F:=dT A);exfalso;omega
  (have F:=dF A);refine sg A (bf q) (sg A (bf q) (sg A (iu q fG hB.cV) (sg A (bf q) (sg A (jx q q Ok) (sg A (tf q q) (st _ (bE q A q) (nt ?_)))))));refine bV q (fun C=>?_) (fun C=>?_)
  · (have G:=dT C);exfalso;omega
  (have G:=dF C);refine aY (ai (ns (an q (au (nm q (st _ (jx q q Ok) (cE q (nt (b9 ?_)))))))));refine ja (X:=Nat) (fun k=>[(0,v),(1,.int .i64 a),(8,.int .u64 (gU ((l.drop (a.toNat+(n.toNat-k))).take k))),(9,.int .i64 (n-1-k))]) (fun k w'=>w=w'∧(k:Int)≤n) (fun k=>(n-k).toNat) 0 ?_ ?_ ?_
  · exact⟨q,q,dA q (by simp[gU]),dA q Ok,tV⟩
  · exact⟨q,by omega⟩
  clear M
  rintro k B J ⟨rfl,hk⟩;refine au (nm q (st _ (qc q q) (nt ?_)));refine bV q (fun D=>?_) (fun D=>?_)
  · (have H:=dT D);refine aY (ai (au (b9 (ax (mv q (st _ (oZ q q Ok) (m2 q q (mv q (st _ (eE q q Ok) (st _ (xZ q q fG mX hB.cV Ok) (st _ (yc q um hB Ok) (st _ (iw (by rw[u5];rfl) kU q) ?_))))))))))));refine st _ (wM q q) (cE q (ak (bL (ai (ax (mv q (st _ (jx q q Ok) (an q (next (k+1) Ok ⟨q,q,dA q (RJ a n k hn ha hl Ok),dA q Ok,tV⟩ ?_)))))))));exact⟨q,by omega⟩
  (have H:=dF D);refine cw (bD (bD (cZ (ai (nm q (cE q (ar q ?_)))))));exact ahO trivial q q q ⟨ahP (by obtain rfl:(k:Int)=n:=Ok;simp),q⟩
theorem iG (x k:Int) (w:World) (h0:0≤k) (h1:k<32):Calls Zp 188 #[.int .u32 x,.int .i64 k] w fun e w'=>e = .returned (.int .u32 (qZ x k))∧w=w':=by
 have M:=Md.refl [] w;refine enter (n:=17) Tryz.func188 q q q fun B=>ns (an q (nm q (st _ (iw (by rw[u3];rfl) acG q) (st _ ((aay q q).jd (afg h0 h1)) (cE q (nt (ns (m2 q q (st _ (oZ q q Ok) (mv q ?_))))))))));refine mv q (st _ ((iB q q).jd (wrap_u64 Ok Ok)) (st _ (JY q q Ok) (st _ (wM q q) (ar q ?_))));exact gI trivial q q ⟨q,q⟩
theorem nV (x k:Int) (w:World) (h0:0≤k) (h1:k<64):Calls Zp 193 #[.int .u64 x,.int .i64 k] w fun e w'=>e = .returned (.int .u64 (xo x k))∧w=w':=by
 have M:=Md.refl [] w;refine enter (n:=17) Tryz.func193 q q q fun B=>ns (an q (nm q (st _ (iw (by rw[u3];rfl) acG q) (st _ ((aay q q).jd (afh h0 h1)) (cE q (nt (ns (m2 q q (st _ (oZ q q Ok) (mv q ?_))))))))));refine mv q (st _ ((iB q q).jd (wrap_u64 Ok Ok)) (st _ (JY q q Ok) (st _ (wM q q) (ar q ?_))));exact gI trivial q q ⟨q,q⟩
theorem jy (x k:Int) (w:World) (h0:0≤k) (h1:k<32):Calls Zp 130 #[.int .u32 x,.int .u64 k] w fun e w'=>e = .returned (.int .u32 (qZ x k))∧w=w':=by
 have M:=Md.refl [] w;refine enter (n:=13) Tryz.func130 q q q fun B=>ns (an q (ns (m2 q q (st _ (oZ q q Ok) (mv q (mv q (st _ ((iB q q).jd (wrap_u64 Ok Ok)) (st _ (JY q q Ok) (st _ (wM q q) (cE q (nt ?_)))))))))));refine gW ?_;exact gI trivial q q ⟨q,q⟩
theorem wQ (x k:Int) (w:World) (h0:0≤k) (h1:k<64):Calls Zp 157 #[.int .u64 x,.int .u64 k] w fun e w'=>e = .returned (.int .u64 (xo x k))∧w=w':=by
 have M:=Md.refl [] w;refine enter (n:=13) Tryz.func157 q q q fun B=>ns (an q (ns (m2 q q (st _ (oZ q q Ok) (mv q (mv q (st _ ((iB q q).jd (wrap_u64 Ok Ok)) (st _ (JY q q Ok) (st _ (wM q q) (cE q (nt ?_)))))))))));refine gW ?_;exact gI trivial q q ⟨q,q⟩
theorem KQ (b:Nat) (t:T3) (v:Value) (l:Ly) (w:World) (hT:bO w b t.cells 272) (hB:By w v l) (hA:Apart v l [b]) (hl:12≤l.length) :
  Calls Zp 176 #[.pointer (some ⟨b,0,none⟩),v] w fun e w'=>e = .returned (.tuple #[])∧Md [b] w w'∧bO w' b (kV t l).cells 272:=by
 have M:=Md.refl [b] w;refine enter (n:=52) Tryz.func176 q q q fun B=>nm q (aj pI q (tX _ _ 0 4 _ (hB.md M hA) Jk Jk Ok) ?_);rintro e _ ⟨rfl,rfl⟩;refine rv ?_;refine mv q (se q q (se q q (cE q (an q (nm q (aj pI q (tX _ _ 4 4 _ (hB.md M hA) Jk Jk Ok) ?_))))));rintro e _ ⟨rfl,rfl⟩;refine rv ?_;refine mv q (se q q (se q q (cE q (an q (nm q (aj pI q (tX _ _ 8 4 _ (hB.md M hA) Jk Jk Ok) ?_))))));rintro e _ ⟨rfl,rfl⟩;refine rv ?_;refine mv q (se q q (se q q (cE q (an q (nm q (sn q (sf q pV (st _ (aA q gX hT q) (mv q (st _ (iw (by rw[kU];rfl) AJ q) (st _ (ig q q) ?_)))))))))));refine sn q (sf q pV (bI q q gX q hT (lB q) ?_));have A:=hT;clear hT;intro D C hT;replace M:=M.gw C Oj;refine nt (nm q (sn q (sf q mN (st _ (aA q gX hT q) (mv q (st _ (iw (by rw[kU];rfl) AJ q) (st _ (ig q q) (sn q (sf q mN (bI q q gX q hT (lB q) ?_))))))))));have A:=hT;clear hT;intro E C hT;replace M:=M.gw C Oj;refine nt (ax (mv q (sn q (sf q mO (st _ (aA q gX hT q) ?_)))))
 refine mv q (st _ (iw (by rw[kU];rfl) AJ q) (st _ (ig q q) (sn q (sf q mO (bI q q gX q hT (lB q) ?_)))));have A:=hT;clear hT;intro F C hT;replace M:=M.gw C Oj;refine ak ?_;refine UL trivial q ⟨q,M,?_⟩;rw[show(kV t l).cells=([.int .u32 (kV t l).x,.int .u32 (kV t l).y,.int .u32 (kV t l).z]:List Value)from rfl];simp only[kV,← zh l 0 Ok,← zh l 4 Ok,← zh l 8 Ok];exact hT
theorem aaS (b:Nat) (t:T3) (w:World) (hT:bO w b t.cells 272) :
  Calls Zp 177 #[.pointer (some ⟨b,0,none⟩)] w fun e w'=>e = .returned (.tuple #[])∧Md [b] w w'∧bO w' b (mix t).cells 272:=by
 have M:=Md.refl [b] w;refine enter (n:=89) Tryz.func177 q q q ?_;intro B;refine au (xK (fun w'=>Md [] w w') mixed Yz (Md.drew w) (qz _ (fun w' m=>bf q) (qz _ (fun w' m=>cH q) (qz _ (fun w' m=>aU q pV) (qz _ (fun w' m=>aA q gX (hT.o m) q) (qz _ (fun w' m=>bf q) (qz _ (fun w' m=>cH q) (qz _ (fun w' m=>aU q mN) (qz _ (fun w' m=>aA q gX (hT.o m) q) (qz _ (fun w' m=>bf q) (qz _ (fun w' m=>cH q) (qz _ (fun w' m=>aU q mO) (qz _ (fun w' m=>aA q gX (hT.o m) q) ?_)))))))))))));refine qz _ (fun w' m=>eU q) (qz _ (fun w' m=>eU q) (qz _ (fun w' m=>eU q) (Qu ?_)));intro D A;obtain⟨hT,M⟩:=k2 A hT M;refine ai (ns (m2 q q (st _ (iB q q) (an q (nm q (mv q (aj pJ q (iG _ _ _ Jk Jk) ?_)))))));rintro e _ ⟨rfl,rfl⟩;refine rv ?_;refine st _ (eI q q) (an q (ns (m2 q q (st _ (ig q q) (cE q (nt (nm q (mv q (st _ (iB q q) (cE q ?_))))))))));refine nt (ns (m2 q q (aj pJ q (iG _ _ _ Jk Jk) ?_)));rintro e _ ⟨rfl,rfl⟩;refine rv ?_;refine st _ (eI q q) (an q (ns (m2 q q (st _ (ig q q) (cE q (nt (nm q (mv q (st _ (iB q q) ?_)))))))))
 refine an q (ns (m2 q q (aj pJ q (iG _ _ _ Jk Jk) ?_)));rintro e _ ⟨rfl,rfl⟩;refine rv ?_;refine st _ (eI q q) (an q (ns (m2 q q (st _ (ig q q) (cE q (nt (nm q (mv q (st _ (iB q q) (cE q ?_))))))))));refine nt (ns (m2 q q (aj pJ q (iG _ _ _ Jk Jk) ?_)));rintro e _ ⟨rfl,rfl⟩;refine rv ?_;refine st _ (eI q q) (an q (ns (m2 q q (st _ (ig q q) (cE q (nt (nm q (mv q (st _ (iB q q) (cE q ?_))))))))));refine nt (ns (m2 q q (aj pJ q (iG _ _ _ Jk Jk) ?_)));rintro e _ ⟨rfl,rfl⟩;refine rv ?_;refine st _ (eI q q) (an q (ns (m2 q q (st _ (ig q q) (cE q (nt (nm q (mv q (st _ (iB q q) (cE q ?_))))))))));refine nt (ns (m2 q q (aj pJ q (iG _ _ _ Jk Jk) ?_)));rintro e _ ⟨rfl,rfl⟩;refine rv ?_;refine st _ (eI q q) (an q (ns ?_))
 refine m2 q q (st _ (ig q q) (an q (ax (mv q (mv q (mv q (mv q (mv q (mv q (sn q (sf q pV ?_)))))))))));refine bI q q gX q hT (lB q) ?_;have C:=hT;clear hT;intro E A hT;replace M:=M.gw A Oj;refine sn q (sf q mN (bI q q gX q hT (lB q) ?_));have C:=hT;clear hT;intro F A hT;replace M:=M.gw A Oj;refine sn q (sf q mO (bI q q gX q hT (lB q) ?_));have C:=hT;clear hT;intro G A hT;replace M:=M.gw A Oj;refine ak ?_;exact UL trivial q ⟨q,M,hT⟩
theorem VF (b:Nat) (t:T3) (w:World) (hT:bO w b t.cells 272) :
  Calls Zp 178 #[.pointer (some ⟨b,0,none⟩)] w fun e w'=>e = .returned (.tuple #[])∧Md [b] w w'∧bO w' b (last t).cells 272:=by
 have M:=Md.refl [b] w;refine enter (n:=78) Tryz.func178 q q q ?_;intro B;refine au (xK (fun w'=>Md [] w w') mixed Yz (Md.drew w) (qz _ (fun w' m=>bf q) (qz _ (fun w' m=>cH q) (qz _ (fun w' m=>aU q pV) (qz _ (fun w' m=>aA q gX (hT.o m) q) (qz _ (fun w' m=>bf q) (qz _ (fun w' m=>cH q) (qz _ (fun w' m=>aU q mN) (qz _ (fun w' m=>aA q gX (hT.o m) q) (qz _ (fun w' m=>bf q) (qz _ (fun w' m=>cH q) (qz _ (fun w' m=>aU q mO) (qz _ (fun w' m=>aA q gX (hT.o m) q) ?_)))))))))))));refine qz _ (fun w' m=>eU q) (qz _ (fun w' m=>eU q) (qz _ (fun w' m=>eU q) (Qu ?_)));intro D A;obtain⟨hT,M⟩:=k2 A hT M;refine ai (ns (m2 q q (st _ (eI q q) (an q (nm q (mv q (aj pJ q (iG _ _ _ Jk Jk) ?_)))))));rintro e _ ⟨rfl,rfl⟩;refine rv ?_;refine st _ (iB q q) (an q (ns (m2 q q (st _ (eI q q) (cE q (nt (nm q (mv q (aj pJ q (iG _ _ _ Jk Jk) ?_)))))))));rintro e _ ⟨rfl,rfl⟩;refine rv ?_;refine st _ (iB q q) (an q (ns (m2 q q (st _ (eI q q) (cE q (nt (nm q (mv q (aj pJ q (iG _ _ _ Jk Jk) ?_)))))))));rintro e _ ⟨rfl,rfl⟩;refine rv ?_;refine st _ (iB q q) (an q (au ?_))
 refine ax (m2 q q (st _ (eI q q) (an q (nm q (mv q (aj pJ q (iG _ _ _ Jk Jk) ?_))))));rintro e _ ⟨rfl,rfl⟩;refine rv ?_;refine st _ (iB q q) (an q (ns (m2 q q (st _ (eI q q) (cE q (nt (nm q (mv q (aj pJ q (iG _ _ _ Jk Jk) ?_)))))))));rintro e _ ⟨rfl,rfl⟩;refine rv ?_;refine st _ (iB q q) (an q (ns (m2 q q (st _ (eI q q) (cE q (nt (nm q (mv q (aj pJ q (iG _ _ _ Jk Jk) ?_)))))))));rintro e _ ⟨rfl,rfl⟩;refine rv ?_;refine st _ (iB q q) (an q (ns (m2 q q (st _ (eI q q) (cE q (nt (nm q (mv q (aj pJ q (iG _ _ _ Jk Jk) ?_)))))))));rintro e _ ⟨rfl,rfl⟩;refine rv ?_;refine st _ (iB q q) (an q (ax (m2 q q (mv q (mv q (mv q (mv q (sn q (sf q pV (bI q q gX q hT (lB q) ?_))))))))));have C:=hT;clear hT;intro E A hT;replace M:=M.gw A Oj;refine sn q (sf q mN (bI q q gX q hT (lB q) ?_))
 have C:=hT;clear hT;intro F A hT;replace M:=M.gw A Oj;refine sn q (sf q mO (bI q q gX q hT (lB q) ?_));have C:=hT;clear hT;intro G A hT;replace M:=M.gw A Oj;refine ak ?_;exact UL trivial q ⟨q,M,hT⟩
theorem zo (v:Value) (l:Ly) (w:World) (hB:By w v l) :
  Calls Zp 168 #[v] w fun e w'=>e = .returned (.int .u64 (lookup l))∧Md [] w w':=by
 have Q:=hB.dN;have M:=Md.refl [] w;refine enter (n:=40) Tryz.func168 q q q fun B=>ns (an q (nm q (sL q fG hB.cV (st _ (iw (by rw[u3];rfl) AJ q) (st _ (ig q q) (cE q (nt (ns (m2 q q (mv q ?_))))))))));refine st (.agg [_,_,_].toArray) (ji (ps:=[(0,0),(1,1),(2,2)]) agT agB q q ⟨q,q,q,tV⟩ q q q) (bU agT ?_);intro G W F V C A;replace F:=ly M.size F;replace M:=M.k C;refine eW q q (by exact ad9) (by simp[Value.oneCell']) A (by rfl) ?_;have E:=A;clear A;intro Y C A;replace M:=M.ej C F;refine nt (au (b9 ?_));refine ja (X:=T3 × List UInt8 × Value) (fun x=>[(0,x.2.2),(4,.pointer (some ⟨G,0,none⟩))]) (fun x w'=>Md [] w w'∧bO w' G x.1.cells 272∧By w x.2.2 x.2.1∧lk x.1 x.2.1=lookup l∧x.2.1.length≤l.length) (fun x=>x.2.1.length) (MI l,l,v) ?_ ?_ ?_
 ·exact⟨q,q,tV⟩
 ·exact⟨M,A,hB,q,Nat.le_refl _⟩
 clear M
 clear A hB;rintro x B Z ⟨M,A,hB,K,S⟩;refine au (nm q (sL q fG hB.cV (st _ (tf q q) (nt ?_))));refine bV q (fun H=>?_) (fun H=>?_)
 ·(have L:=dT H);refine aY (ai (b9 (nm q (st _ (kP 0 12 fG mX q hB.cV Ok Ok q ⟨_,q⟩) (aj adm q (KQ G x.1 _ _ _ A ((hB.o M).sub 0 12 Ok Ok) ((GI hB F).sub 0 12) Yw) ?_)))));have E:=A;clear A;rintro e a ⟨rfl,C,A⟩;refine rv ?_;replace M:=M.ej C F;refine nt (ns (aj afM q (aaS G _ _ A) ?_));have E:=A;clear A;rintro e b ⟨rfl,C,A⟩;refine rv ?_;replace M:=M.ej C F;refine nt (ax (mv q (st _ (kP 12 x.2.1.length fG mX q hB.cV Ok Ok ⟨_,q⟩ q) (cE q (ak (bL (ai (next ((mix (kV x.1 ((x.2.1.take 12).drop 0)),(x.2.1.take x.2.1.length).drop 12,nC x.2.2 12 x.2.1.length)) Yw ⟨q,q,tV⟩ ?_))))))));refine⟨M,A,hB.sub 12 _ Ok Ok,?_,by simp;omega⟩;rw[List.drop_zero,L9 _ _ 12 Ok,List.take_length,← P6 _ _ Ok];exact K
 (have L:=dF H);refine cw (bD (bD (cZ (ai (au (nm q (sL q fG hB.cV (st _ (tf q q) (nt ?_)))))))));refine bV q (fun I=>?_) (fun I=>?_)
 ·(have D:=dT I);refine ns (bU ahY ?_);intro P c O U C J;have N:G≠P:=(by have:=A.lt;omega);replace O:=ly M.size O;obtain⟨A,M⟩:=k2 C A M;refine nt (ns (st _ (fP agQ mX q Jk) (mv q (yg fG mX q q J (hB.o M) (wF _) Yw ?_))));have R:=J;clear J;intro T C J;replace A:=A.sM C Ok;replace M:=M.ej C O;refine ak ?_;replace J:bO T P ((qX 12 x.2.1).map b8) 274:=(by rw[← AE (m:=12) Ok];exact J);refine ai (ns (st _ (fP agQ mX q Jk) (aj adm q (KQ G x.1 _ _ _ A (By.cK J (pZ 12 _ Ok) Jk) (adB (Ne.symm N)) (by rw[pZ 12 _ Ok];omega)) ?_)));have E:=A;clear A;rintro e d ⟨rfl,C,A⟩;refine rv ?_;replace M:=M.ej C F;refine nt (ax (aj afN q (VF G _ _ A) ?_));have E:=A;clear A;rintro e f ⟨rfl,C,A⟩;refine rv ?_;replace M:=M.ej C F;refine nt (ns (sf q mO (st _ (aA q gX A q) (st _ (iw (by rw[AJ];rfl) kU q) (st _ (oZ q q Ok) (sf q mN (st _ (aA q gX A q) (st _ (iw (by rw[AJ];rfl) kU q) (st _ (wM q q) (ar q ?_))))))))));refine gI trivial q q ⟨xG (Eq.trans ?_ K),M⟩;rw[Pz x.1 x.2.1 (by intro h;rw[h]at D;simp at D) Ok,← QO x.1 12 x.2.1];rfl
 (have D:=dF I);refine aY (ai (ns (sf q mO (st _ (aA q gX A q) (st _ (iw (by rw[AJ];rfl) kU q) (st _ (oZ q q Ok) (sf q mN (st _ (aA q gX A q) (st _ (iw (by rw[AJ];rfl) kU q) (st _ (wM q q) (ar q ?_)))))))))));refine gI trivial q q ⟨xG (Eq.trans ?_ K),M⟩;rw[show x.2.1=[]from List.eq_nil_of_length_eq_zero Ok,aej];rfl
theorem mV (v:Value) (l:Ly) (a:Int) (w:World) (hB:By w v l) (ha:0≤a) (ha2:a≤4611686018427387904) :
  Calls Zp 129 #[v,.int .i64 a] w fun e w'=>e = .returned (.int .u32 (uf l a.toNat))∧w=w':=by
 have F:=hB.dN;have M:=Md.refl [] w;refine enter (n:=29) Tryz.func129 q q q fun B=>ns (an q (ns (cE q (nt (au (ns (cE q (nt (b9 ?_)))))))));refine ja (X:=Nat) (fun k=>[(0,v),(1,.int .i64 a),(5,.int .u32 (uV l a.toNat k)),(6,.int .i64 (3-k))]) (fun k w'=>w=w'∧k≤4) (fun k=>4-k) 0 ?_ ?_ ?_
 ·exact⟨q,q,q,q,tV⟩
 ·exact⟨q,by omega⟩
 clear M
 rintro k B G ⟨rfl,hk⟩;have M:=Md.refl [] w;refine au (nm q (st _ (qc q q) (nt ?_)));refine bV q (fun D=>?_) (fun D=>?_)
 ·(have E:=dT D);refine aY (ai (au (b9 (nm q (st _ (oZ q q Ok) (an q (ns (m2 q q (st _ (eE q q Ok) (mv q ?_))))))))));refine sL q fG hB.cV (st _ (qd q q) (nt ?_));refine bV q (fun A=>?_) (fun A=>?_)
  ·(have C:=dT A);refine ax (m2 q q (mv q (mv q (st _ (eE q q Ok) (st _ (xZ q q fG mX hB.cV Ok) (st _ (yc q um (hB.o M) Ok) (st _ (iw (by rw[u5];rfl) AJ q) (st _ (wM q q) (cE q (ak (bL (ai ?_))))))))))));refine ax (mv q (st _ (jx q q Ok) (an q (next (k+1) Ok ⟨q,q,dA q (acI l a k ha Ok Ok),dA q Ok,tV⟩ ?_))));exact⟨q,by omega⟩
  (have C:=dF A);refine aY (bL (ai (ax (mv q (st _ (jx q q Ok) (an q (next (k+1) Ok ⟨q,q,dA q (aaZ l a k ha Ok Ok),dA q Ok,tV⟩ ?_)))))));exact⟨q,by omega⟩
 (have E:=dF D);refine cw (bD (bD (cZ (ai (nm q (ar q ?_))))));exact gI trivial q q ⟨xG (by obtain rfl:k=4:=Ok;rfl),q⟩
theorem xk (v:Value) (l:Ly) (w:World) (hB:By w v l) (hl:l.length≤4611686018427387000) :
  Calls Zp 93 #[v] w fun e w'=>e = .returned (.int .u64 (lookup l))∧w=w':=by
 have G:=hB.dN;have M:=Md.refl [] w;refine enter (n:=178) Tryz.func93 q q q fun B=>ns (an q (nm q (sL q fG hB.cV (st _ (iw (by rw[u3];rfl) AJ q) (st _ (ig q q) (cE q (nt (ns (m2 q q (cE q ?_))))))))));refine an q (au (nm q (sL q fG hB.cV (st _ (kJ q q) (nt ?_)))));refine bV q (fun A=>?_) (fun A=>?_)
 ·(have D:=dT A);refine nm q (st _ (iw (by rw[AJ];rfl) kU q) (st _ (oZ q q Ok) (mv q (st _ (iw (by rw[AJ];rfl) kU q) (st _ (wM q q) (ar q (aV ?_)))))));refine gI trivial q q ⟨xG ?_,q⟩;rw[show l=[]from List.eq_nil_of_length_eq_zero Ok];rfl
 (have D:=dF A);refine aY (ai (ns (an q (au (b9 ?_)))));refine ja (X:=T3 × Nat) (fun x=>[(0,v),(3,.int .u32 x.1.x),(4,.int .u32 x.1.y),(5,.int .u32 x.1.z),(6,.int .i64 x.2)]) (fun x w'=>w=w'∧x.2<l.length∧lk x.1 (l.drop x.2)=lookup l) (fun x=>l.length-x.2) (MI l,0) ?_ ?_ ?_
 ·exact⟨q,q,q,q,q,tV⟩
 ·exact⟨q,by omega,q⟩
 clear M
 rintro x B H ⟨rfl,hk,F⟩;have M:=Md.refl [] w;refine au (nm q (sL q fG hB.cV (mv q (st _ (jx q q Ok) (st _ (tf q q) (nt ?_))))));refine bV q (fun C=>?_) (fun C=>?_)
 ·(have E:=dT C);refine aY (ai (b9 (ns (m2 q q (mv q (aj wV q (mV _ _ _ _ (hB.o M) Ok Ok) ?_))))));rintro e _ ⟨rfl,rfl⟩;refine rv ?_;refine st _ (ig q q) (m2 q q (mv q (st _ (eE q q Ok) (aj wV q (mV _ _ _ _ (hB.o M) Ok Ok) ?_))));rintro e _ ⟨rfl,rfl⟩;refine rv ?_;refine st _ (ig q q) (m2 q q (mv q (st _ (eE q q Ok) (aj wV q (mV _ _ _ _ (hB.o M) Ok Ok) ?_))));rintro e _ ⟨rfl,rfl⟩;refine rv ?_;refine st _ (ig q q) (cE q (cE q (an q (ns (m2 q q (st _ (iB q q) (cE q (nt (nm q (mv q ?_))))))))));refine aj pH q (jy _ _ _ Jk Jk) ?_;rintro e _ ⟨rfl,rfl⟩;refine rv ?_;refine st _ (eI q q) (an q (ns (m2 q q (st _ (ig q q) (cE q (nt (nm q (mv q (st _ (iB q q) (cE q ?_))))))))));refine nt (ns (m2 q q (aj pH q (jy _ _ _ Jk Jk) ?_)));rintro e _ ⟨rfl,rfl⟩;refine rv ?_;refine st _ (eI q q) (an q (ns (m2 q q (st _ (ig q q) ?_))))
  refine an q (ns (m2 q q (st _ (iB q q) (cE q (nt (nm q (mv q (aj pH q (jy _ _ _ Jk Jk) ?_))))))));rintro e _ ⟨rfl,rfl⟩;refine rv ?_;refine st _ (eI q q) (an q (ns (m2 q q (st _ (ig q q) (cE q (nt (nm q (mv q (st _ (iB q q) (cE q ?_))))))))));refine nt (ns (m2 q q (aj pH q (jy _ _ _ Jk Jk) ?_)));rintro e _ ⟨rfl,rfl⟩;refine rv ?_;refine st _ (eI q q) (an q (ns (m2 q q (st _ (ig q q) (cE q (nt (nm q (mv q (st _ (iB q q) (cE q ?_))))))))));refine nt (ns (m2 q q (aj pH q (jy _ _ _ Jk Jk) ?_)));rintro e _ ⟨rfl,rfl⟩;refine rv ?_;refine st _ (eI q q) (an q (ns (m2 q q (st _ (ig q q) (cE q (nt (nm q (mv q (st _ (iB q q) (cE q ?_))))))))));refine nt (ns (m2 q q (aj pH q (jy _ _ _ Jk Jk) ?_)))
  rintro e _ ⟨rfl,rfl⟩;refine rv ?_;refine st _ (eI q q) (an q (ns (m2 q q (st _ (ig q q) (cE q (nt (ax (mv q (st _ (eE q q Ok) (cE q (ak ?_)))))))))));refine bL (ai (next ((mix ⟨rz (x.1.x+uf l (x.2:Int).toNat),rz (x.1.y+uf l (x.2+4:Int).toNat),rz (x.1.z+uf l (x.2+8:Int).toNat)⟩,x.2+12)) Yw ⟨q,q,q,q,dA q Oj,tV⟩ ?_));refine⟨q,by simp;omega,?_⟩;rw[← F,P6 _ (l.drop x.2) Yw,DJ,List.drop_drop]
 (have E:=dF C);refine cw (bD (bD (cZ (ai (ns (m2 q q (mv q (aj wV q (mV _ _ _ _ (hB.o M) Ok Ok) ?_))))))));rintro e _ ⟨rfl,rfl⟩;refine rv ?_;refine st _ (ig q q) (m2 q q (mv q (st _ (eE q q Ok) (aj wV q (mV _ _ _ _ (hB.o M) Ok Ok) ?_))));rintro e _ ⟨rfl,rfl⟩;refine rv ?_;refine st _ (ig q q) (m2 q q (mv q (st _ (eE q q Ok) (aj wV q (mV _ _ _ _ (hB.o M) Ok Ok) ?_))));rintro e _ ⟨rfl,rfl⟩;refine rv ?_;refine st _ (ig q q) (cE q (cE q (an q (ns (m2 q q (st _ (eI q q) (cE q (nt (nm q (mv q ?_))))))))));refine aj pH q (jy _ _ _ Jk Jk) ?_;rintro e _ ⟨rfl,rfl⟩;refine rv ?_;refine st _ (iB q q) (an q (ns (m2 q q (st _ (eI q q) (cE q (nt (nm q (mv q (aj pH q (jy _ _ _ Jk Jk) ?_)))))))));rintro e _ ⟨rfl,rfl⟩;refine rv ?_;refine st _ (iB q q) (an q (ns (m2 q q (st _ (eI q q) (cE q (nt (nm q (mv q ?_))))))))
 refine aj pH q (jy _ _ _ Jk Jk) ?_;rintro e _ ⟨rfl,rfl⟩;refine rv ?_;refine st _ (iB q q) (an q (ns (m2 q q (st _ (eI q q) (cE q (nt (nm q (mv q (aj pH q (jy _ _ _ Jk Jk) ?_)))))))));rintro e _ ⟨rfl,rfl⟩;refine rv ?_;refine st _ (iB q q) (an q (ns (m2 q q (st _ (eI q q) (cE q (nt (nm q (mv q (aj pH q (jy _ _ _ Jk Jk) ?_)))))))));rintro e _ ⟨rfl,rfl⟩;refine rv ?_;refine st _ (iB q q) (an q (ns (m2 q q (st _ (eI q q) (cE q (nt (nm q (mv q (aj pH q (jy _ _ _ Jk Jk) ?_)))))))));rintro e _ ⟨rfl,rfl⟩;refine rv ?_;refine st _ (iB q q) (an q (ns (m2 q q (st _ (eI q q) (cE q (nt (nm q (mv q (aj pH q (jy _ _ _ Jk Jk) ?_)))))))));rintro e _ ⟨rfl,rfl⟩;refine rv ?_;refine st _ (iB q q) (an q (nm q (st _ (iw (by rw[AJ];rfl) kU q) (st _ (oZ q q Ok) (mv q (st _ (iw (by rw[AJ];rfl) kU q) (st _ (wM q q) ?_)))))))
 refine ar q ?_;refine gI trivial q q ⟨xG ?_,q⟩;rw[← F,Pz _ _ (by intro h;have:=congrArg List.length h;simp at this;omega) Yw,← DJ];rfl
theorem DO (b:Nat) (v:S4) (n t:Int) (rest:Value) (w:World) (hT:bO w b (v.cells n rest) 282) (ht:0≤t) (ht2:t≤100) :
  Calls Zp 190 #[.pointer (some ⟨b,0,none⟩),.int .i64 t] w fun e w'=>e = .returned (.tuple #[])∧Md [b] w w'∧bO w' b ((er t.toNat v).cells n rest) 282:=by
 have M:=Md.refl [b] w;refine enter (n:=76) Tryz.func190 q q q ?_;intro B;refine au (xK (fun w'=>Md [] w w') mixed Yz (Md.drew w) (qz _ (fun w' m=>bf q) (qz _ (fun w' m=>cH q) (qz _ (fun w' m=>aU q pW) (qz _ (fun w' m=>aA q bH (hT.o m) q) (qz _ (fun w' m=>bf q) (qz _ (fun w' m=>cH q) (qz _ (fun w' m=>aU q vl) (qz _ (fun w' m=>aA q bH (hT.o m) q) (qz _ (fun w' m=>bf q) (qz _ (fun w' m=>cH q) (qz _ (fun w' m=>aU q pX) (qz _ (fun w' m=>aA q bH (hT.o m) q) ?_)))))))))))));refine qz _ (fun w' m=>bf q) (qz _ (fun w' m=>cH q) (qz _ (fun w' m=>aU q pY) (qz _ (fun w' m=>aA q bH (hT.o m) q) (qz _ (fun w' m=>eU q) (qz _ (fun w' m=>eU q) (qz _ (fun w' m=>eU q) (qz _ (fun w' m=>eU q) (Qu ?_))))))));intro F A;obtain⟨hT,M⟩:=k2 A hT M;refine ai (au (ns (m2 q q (nt (b9 ?_)))));refine ja (X:=Nat) (fun k=>[(0,.pointer (some ⟨b,0,none⟩)),(4,.int .u64 (er k v).p),(5,.int .u64 (er k v).q),(6,.int .u64 (er k v).r),(7,.int .u64 (er k v).s),(24,.int .i64 t),(25,.int .i64 k)]) (fun k w'=>Md [b] w w'∧bO w' b (v.cells n rest) 282∧(k:Int)≤t) (fun k=>(t-k).toNat) 0 ?_ ?_ ?_
 ·exact⟨q,q,q,q,q,q,q,tV⟩
 ·exact⟨M,hT,ht⟩
 clear M
 clear hT;rintro k B G ⟨M,hT,hk⟩;refine ns (st _ (qd q q) (nt (au ?_)));refine bV q (fun C=>?_) (fun C=>?_)
 ·(have E:=dT C);refine aY (ai (au (b9 (ns (m2 q q (st _ (ig q q) (an q (nm q (aj BU q (nV _ _ _ Jk Jk) ?_)))))))));rintro e _ ⟨rfl,rfl⟩;refine rv ?_;refine mv q (st _ (eI q q) (an q (nm q (aj BU q (nV _ _ _ Jk Jk) ?_))));rintro e _ ⟨rfl,rfl⟩;refine rv ?_;refine an q (ns (m2 q q (st _ (ig q q) (cE q (nt (nm q (aj BU q (nV _ _ _ Jk Jk) ?_)))))));rintro e _ ⟨rfl,rfl⟩;refine rv ?_;refine mv q (st _ (eI q q) (an q (ns (m2 q q (st _ (ig q q) (cE q (nt (nm q (aj BU q (nV _ _ _ Jk Jk) ?_)))))))));rintro e _ ⟨rfl,rfl⟩;refine rv ?_;refine mv q (st _ (eI q q) (an q (ns (m2 q q (st _ (ig q q) (cE q (nt (nm q (aj BU q (nV _ _ _ Jk Jk) ?_)))))))));rintro e _ ⟨rfl,rfl⟩;refine rv ?_;refine mv q (st _ (eI q q) (an q (ax (mv q ?_))))
  refine aj BU q (nV _ _ _ Jk Jk) ?_;rintro e _ ⟨rfl,rfl⟩;refine rv ?_;refine cE q (ak (bL (ai (ax (st _ (eE q q Ok) (mv q (nt (next (k+1) Ok ⟨q,q,q,q,q,q,q,tV⟩ ?_))))))));exact⟨M,hT,by omega⟩
 (have E:=dF C);refine cw (bD (bD (cZ (ai (ax (m2 q q (mv q (mv q (mv q (mv q (mv q (mv q ?_))))))))))));refine sn q (sf q pW (bI q q bH q hT (lB q) ?_));have D:=hT;clear hT;intro H A hT;replace M:=M.gw A Oj;refine sn q (sf q vl (bI q q bH q hT (lB q) ?_));have D:=hT;clear hT;intro I A hT;replace M:=M.gw A Oj;refine sn q (sf q pX (bI q q bH q hT (lB q) ?_));have D:=hT;clear hT;intro J A hT;replace M:=M.gw A Oj;refine sn q (sf q pY (bI q q bH q hT (lB q) ?_));have D:=hT;clear hT;intro K A hT;replace M:=M.gw A Oj;refine ak ?_;obtain rfl:(k:Int)=t:=Ok;exact UL trivial q ⟨q,M,hT⟩
theorem NF (b:Nat) (v:S4) (n:Int) (rest:Value) (w:World) (hT:bO w b (v.cells n rest) 282) :
  Calls Zp 190 #[.pointer (some ⟨b,0,none⟩),.int .i64 2] w fun e w'=>e = .returned (.tuple #[])∧Md [b] w w'∧bO w' b ((er 2 v).cells n rest) 282 :=
 DO b v n 2 rest w hT Jk Jk
theorem NG (b:Nat) (v:S4) (n:Int) (rest:Value) (w:World) (hT:bO w b (v.cells n rest) 282) :
  Calls Zp 190 #[.pointer (some ⟨b,0,none⟩),.int .i64 4] w fun e w'=>e = .returned (.tuple #[])∧Md [b] w w'∧bO w' b ((er 4 v).cells n rest) 282 :=
 DO b v n 4 rest w hT Jk Jk
theorem DX (b:Nat) (v:S4) (n m:Int) (rest:Value) (w:World) (hT:bO w b (v.cells n rest) 282) :
  Calls Zp 189 #[.pointer (some ⟨b,0,none⟩),.int .u64 m] w fun e w'=>e = .returned (.tuple #[])∧Md [b] w w'∧bO w' b ((nP v m).cells n rest) 282:=by
 have M:=Md.refl [b] w;refine enter (n:=22) Tryz.func189 q q q fun B=>nm q (sn q (sf q pY (st _ (aA q bH hT q) (mv q (st _ (eI q q) (sn q (sf q pY (bI q q bH q hT (lB q) ?_))))))));have A:=hT;clear hT;intro D C hT;replace M:=M.gw C Oj;refine ak ?_;replace hT:=(aeJ v m n rest) ▸ hT;refine ai (nm q (aj adp q (NF b _ _ _ _ hT) ?_));have A:=hT;clear hT;rintro e E ⟨rfl,C,hT⟩;refine rv ?_;replace M:=M.gw C Oj;refine nt (ax (mv q (sn q (sf q pW (st _ (aA q bH hT q) (mv q (st _ (eI q q) (sn q (sf q pW (bI q q bH q hT (lB q) ?_))))))))));have A:=hT;clear hT;intro F C hT;replace M:=M.gw C Oj;refine ak ?_;replace hT:=(aeH _ m n rest) ▸ hT;exact UL trivial q ⟨q,M,hT⟩
theorem abK (key:Ly) (w:World) (hk:key.length=16) :
  Calls Zp 179 #[.agg (key.map b8).toArray] w fun e w'=>∃b,e = .returned (.pointer (some ⟨b,0,none⟩))∧w.heap.size≤b∧b<w'.heap.size∧Md [] w w'∧bO w' b ((pu key).cells 0 SN) 282:=by
 have M:=Md.refl [] w;refine enter (n:=27) Tryz.func179 q q q fun B=>ns (eC q q ?_);intro I L F J D C;replace F:=ly M.size F;replace M:=M.k D;refine an q (ns (st _ (fP VI mX q Jk) (aj pI q (tX _ key 0 8 _ (By.cK C hk Jk) Jk Jk (by rw[hk];decide)) ?_)));rintro e _ ⟨rfl,rfl⟩;refine rv ?_;refine mv q (se q q (se q q (cE q (an q (ns (st _ (fP VI mX q Jk) (aj pI q (tX _ key 8 8 _ (By.cK C hk Jk) Jk Jk (by rw[hk];decide)) ?_)))))));rintro e _ ⟨rfl,rfl⟩;refine rv ?_;refine mv q (se q q (se q q (cE q (an q (nm q (st _ (eI q q) (mv q (st _ (eI q q) (mv q (st _ (eI q q) (mv q ?_)))))))))));refine st _ (eI q q) (st (.agg [_,_,_,_,_,_].toArray) (ji (ps:=[(0,0),(1,1),(2,2),(3,3)]) aeZ ad3 q q ⟨q,q,q,q,tV⟩ q q q) (eC q q ?_));intro E N A K D G;have H:I≠E:=(by have:=C.lt;omega);replace A:=ly M.size A;replace M:=M.k D;refine ar q ?_;refine gI trivial q q ⟨E,q,A,?_,M,G⟩;exact G.lt
theorem abj (b:Nat) (v:S4) (n:Int) (rest:Value) (rl:Ly) (s:Value) (l:Ly) (w:World) (hT:bO w b (v.cells n rest) 282) (hO:Own w 5 1 rest rl.length (rl.map b8)) (hr:rl.length<8) (hB:By w s l) (hA:Apart s l (b :: (ah rest).toList)) (hn:0≤n) (hn2:n+l.length≤4611686018427387904) :
  Calls Zp 180 #[.pointer (some ⟨b,0,none⟩),s] w fun e w'=>e = .returned (.tuple #[])∧∃rest',Md (b :: (ah rest).toList) w w'∧bO w' b ((jD v (rl ++ l)).1.cells (n+l.length) rest') 282∧Own w' 5 1 rest' (jD v (rl ++ l)).2.length ((jD v (rl ++ l)).2.map b8)∧(∀g,ah rest'=some g→ah rest=some g∨w.heap.size≤g):=by
 have M:=Md.refl (b :: (ah rest).toList) w;refine enter (n:=67) Tryz.func180 q q q fun B=>nm q (sn q (sf q zJ (st _ (aA q gB hT q) (mv q (sL q fG hB.cV (st _ (eE q q Ok) (sn q (sf q zJ (bI q q gB q hT (lB q) ?_)))))))));have D:=hT;clear hT;intro S A hT;replace hO:=hO.sM D q A;replace M:=M.gw A Oj;refine nt (b9 ?_);refine ja (X:=S4 × Value × List UInt8 × Value × List UInt8) (fun x=>[(0,.pointer (some ⟨b,0,none⟩)),(1,x.2.2.2.1)]) (fun x w'=>Md (b :: (ah rest).toList) w w'∧bO w' b (x.1.cells (n+l.length) x.2.1) 282∧Own w' 5 1 x.2.1 x.2.2.1.length (x.2.2.1.map b8)∧By w x.2.2.2.1 x.2.2.2.2∧Apart x.2.2.2.1 x.2.2.2.2 (b :: (ah rest).toList)∧x.2.2.1.length<8∧jD x.1 (x.2.2.1 ++ x.2.2.2.2)=jD v (rl ++ l)∧(∀g,ah x.2.1=some g→ah rest=some g∨w.heap.size≤g)∧x.2.2.2.2.length≤l.length) (fun x=>x.2.2.2.2.length) (v,rest,rl,s,l) ?_ ?_ ?_
 ·exact⟨q,q,tV⟩
 ·exact⟨M,hT,hO,hB,hA,hr,q,fun _ h=>.inl h,Nat.le_refl _⟩
 clear M
 clear hT hO hB hA hr;rintro x B T ⟨M,hT,hO,hB,hA,hr,C,J,R⟩;refine au (nm q (sL q fG hB.cV (st _ (tf q q) (nt ?_))));refine bV q (fun H=>?_) (fun H=>?_)
 ·(have K:=dT H);refine aY (ai (b9 (nm q (sn q (sf q mP (st _ (aA q fC hT q) (st _ (iu q fG (By.qB hO).cV) (st _ (jx q q Ok) (mv q (sL q fG hB.cV (st _ ((ad4 q q).jd (ahJ _ _ hr)) (cE q ?_))))))))))));refine nt (au (yC [(0,true),(1,true),(2,true),(3,true),(5,true),(6,true),(7,true),(4,false),(8,false),(9,true),(10,true),(11,false)] (fun w'=>True) mixed Yz ?_));intro U A;obtain⟨hT,hO,M⟩:=k3 A hT hO M;refine⟨trivial,?_⟩;refine m _ (fun w' F=>bf q) (m _ (fun w' F=>bf q) (m _ (fun w' F=>cH q) (m _ (fun w' F=>aU q mP) (m _ (fun w' F=>bf q) (m _ (fun w' F=>bf q) (m _ (fun w' F=>kP 0 (min (8-x.2.2.1.length) x.2.2.2.2.length) fG mX q hB.cV Ok Ok q ⟨_,q⟩) ?_))))));refine kZ ?_ rfl;refine st _ (aA q fC hT q) ?_;refine ak ⟨q,trivial,?_⟩;refine kZ ?_ rfl;refine NN fG jb q q hO ((hB.md M hA).head (min (8-x.2.2.1.length) x.2.2.2.2.length) Ok) Yw ?_;intro P V L A _ O;have Q:=M;replace hT:=hT.mdO hO q A;replace M:=M.cP A (fun b h=>(J b h).imp (fun h=>by simp[h]) id);have G:∀b,ah P=some b→ah rest=some b∨w.heap.size≤b:=fun b h=>(O b h).elim (fun h=>J b h) (fun h=>.inr (ly Q.size h));replace hO:=L;clear L;refine ak ⟨q,trivial,?_⟩;refine m _ (fun w' F=>cH q) (m _ (fun w' F=>aU q mP) ?_);refine kZ ?_ rfl;refine bI q q fC (Sl.bN (By.qB hO)) hT (lB q) ?_;have D:=hT;clear hT;intro W A hT;replace hO:=hO.sM D q A;replace M:=M.gw A Oj;refine ak ⟨q,trivial,?_⟩;refine d9 (ai (ns (m2 q q (st _ (kP (min (8-x.2.2.1.length) x.2.2.2.2.length) x.2.2.2.2.length fG mX q hB.cV Ok Ok ⟨_,q⟩ q) ?_))))
  refine an q (nm q (sn q (sf q mP (st _ (aA q fC hT q) (st _ (iu q fG (By.qB hO).cV) (st _ (kJ q q) (nt ?_)))))));refine bV q (fun I=>?_) (fun I=>?_)
  ·(have E:=dT I);refine nm q (sn q (sf q mP (st _ (aA q fC hT q) (aj pI q (tX _ _ 0 8 _ (By.qB hO) Jk Jk Ok) ?_))));rintro e _ ⟨rfl,rfl⟩;refine rv ?_;refine mv q (se q q (se q q (cE q (an q (ns (m2 q q (aj ado q (DX b x.1 _ _ _ _ hT) ?_)))))));have D:=hT;clear hT;rintro e Y ⟨rfl,A,hT⟩;refine rv ?_;replace hO:=hO.sM D q A;replace M:=M.gw A Oj;refine nt (ax (m2 q q (sn q (sf q mP (st _ (aA q fC hT q) (st _ (kP 0 0 fG mX q (By.qB hO).cV Ok Ok q ⟨_,q⟩) (sn q (sf q mP (bI q q fC (Sl.bN ((By.qB hO).head 0 (Nat.zero_le _))) hT (lB q) ?_)))))))));have D:=hT;clear hT;intro Z A hT;replace hO:=hO.sM D q A;replace M:=M.gw A Oj;refine ak (bL (ai (next ((nP x.1 (gU (((x.2.2.1 ++ x.2.2.2.2.take (min (8-x.2.2.1.length) x.2.2.2.2.length)).drop 0).take 8)),nC P 0 0,[],nC x.2.2.2.1 (min (8-x.2.2.1.length) x.2.2.2.2.length) x.2.2.2.2.length,x.2.2.2.2.drop (min (8-x.2.2.1.length) x.2.2.2.2.length))) Yw ⟨q,q,tV⟩ ?_)));refine⟨M,hT,hO.agX,hB.tail _ Ok,hA.tail _,by simp,?_,fun b h=>G b (KW h),by simp;omega⟩;rw[← C];exact(VY _ _ _ hr (by simp at E;omega)).symm
  (have E:=dF I);refine aY (bL (ai (next ((x.1,P,x.2.2.1 ++ x.2.2.2.2.take (min (8-x.2.2.1.length) x.2.2.2.2.length),nC x.2.2.2.1 (min (8-x.2.2.1.length) x.2.2.2.2.length) x.2.2.2.2.length,x.2.2.2.2.drop (min (8-x.2.2.1.length) x.2.2.2.2.length))) Yw ⟨q,q,tV⟩ ?_)));refine⟨M,hT,hO,hB.tail _ Ok,hA.tail _,by simp at E ⊢;omega,?_,G,by simp;omega⟩;rw[← C];exact(VZ _ _ _ _).symm
 (have K:=dF H);refine cw (bD (bD (cZ ?_)));have N:x.2.2.2.2=[]:=List.eq_nil_of_length_eq_zero Ok;rw[N,List.append_nil,pq _ _ hr]at C;refine UL trivial q ⟨q,x.2.1,M,?_,?_,J⟩
 ·rw[← C];exact hT
 rw[← C];exact hO
theorem VP (b:Nat) (v:S4) (n:Int) (rest:Value) (rl:Ly) (w:World) (hT:bO w b (v.cells n rest) 282) (hO:Own w 5 1 rest rl.length (rl.map b8)) (hr:rl.length<8) (hn:0≤n) :
  Calls Zp 181 #[.pointer (some ⟨b,0,none⟩)] w fun e w'=>e = .returned (.int .u64 (AA v rl n))∧Md [] w w':=by
 have M:=Md.refl [] w;refine enter (n:=59) Tryz.func181 q q q fun B=>ns (an q (ns (bU ahZ ?_)));intro K X N V A E;have Q:b≠K:=(by have:=hT.lt;omega);replace N:=ly M.size N;obtain⟨hT,hO,M⟩:=k3 A hT hO M;refine nt (au (yC [(0,true),(1,true),(2,true),(3,true),(4,false),(5,false)] (fun w'=>True) mixed Yz ?_));intro Y A;obtain⟨hT,hO,E,M⟩:=k4 A hT hO E M;refine⟨trivial,?_⟩;refine m _ (fun w' C=>fP aeW mX q Jk) (m _ (fun w' C=>bf q) (m _ (fun w' C=>cH q) (m _ (fun w' C=>aU q mP) ?_)));refine kZ ?_ rfl;refine st _ (aA q fC hT q) ?_;refine ak ⟨q,trivial,?_⟩;refine kZ ?_ rfl;refine yg fG mX q q E (By.qB hO) (wF _) Yw ?_;have O:=E;clear E;intro U A E;replace hT:=hT.sM A Ok;replace M:=M.ej A N;refine ak ⟨q,trivial,?_⟩;refine d9 ?_;replace E:bO U K ((qX 8 rl).map b8) 283:=(by rw[← AE (m:=8) Ok];exact E);refine ai (nm q (sn q (sf q zJ (st _ (aA q gB hT q) (st _ (iw (by rw[u3];rfl) u5 q) (st _ (eY q q aeW mX Ok) (bI q q um q E (by rw[List.length_map,pZ 8 rl Ok];decide) ?_)))))));have O:=E;clear E;intro S A E;replace hT:=hT.sM A Ok;replace M:=M.ej A N;refine ak ?_;replace E:bO S K ((jE rl n).map b8) 283:=(by rw[← BB rl n hn];exact E);refine ai (ns (st _ (fP aeW mX q Jk) (aj pI q (tX _ (jE rl n) 0 8 _ (By.cK E (sd rl n Ok) Jk) Jk Jk (by rw[sd rl n Ok];decide)) ?_)));rintro e _ ⟨rfl,rfl⟩;refine rv ?_;refine mv q (se q q ?_)
 refine se q q (cE q (an q (au ?_)));have F:=hT;refine yC [(0,true),(1,true),(2,true),(3,true),(4,true),(5,true),(6,true),(7,true),(8,true),(9,true),(10,true),(11,true),(12,true),(13,true),(14,true),(15,true),(16,true),(17,false),(18,false)] (fun w'=>Md [] S w') mixed Yz ?_;intro Z A;have G:=A;obtain⟨hT,E,M⟩:=k3 A hT E M;refine⟨G,?_⟩;refine m _ (fun w' C=>bf q) (m _ (fun w' C=>cH q) (m _ (fun w' C=>aU q pW) (m _ (fun w' C=>aA q bH (F.o C) q) (m _ (fun w' C=>bf q) (m _ (fun w' C=>cH q) (m _ (fun w' C=>aU q vl) (m _ (fun w' C=>aA q bH (F.o C) q) (m _ (fun w' C=>bf q) (m _ (fun w' C=>cH q) (m _ (fun w' C=>aU q pX) (m _ (fun w' C=>aA q bH (F.o C) q) (m _ (fun w' C=>bf q) (m _ (fun w' C=>cH q) ?_)))))))))))));refine m _ (fun w' C=>aU q pY) (m _ (fun w' C=>aA q bH (F.o C) q) (m (.agg [_,_,_,_,_,_].toArray) (fun w' C=>ji (ps:=[(0,0),(1,1),(2,2),(3,3)]) aeZ ad3 q q ⟨q,q,q,q,tV⟩ q q q) ?_));refine kZ ?_ rfl;refine bU aeZ ?_;intro L a H W A D;have R:b≠L:=(by have:=hT.lt;omega);have P:K≠L:=(by have:=E.lt;omega);have J:=ly G.size H;replace H:=ly M.size H;obtain⟨G,M⟩:=k2 A G M;refine ak ⟨q,G,?_⟩;refine kZ ?_ rfl;refine eW q q (by exact adA) (by simp[Value.oneCell']) D (by rfl) ?_;have I:=D;clear D;intro c A D;replace G:=G.ej A J;replace M:=M.ej A H;refine ak ⟨q,G,?_⟩;refine d9 (ai (nm q (aj ado q (DX L v 0 _ _ _ D) ?_)))
 have I:=D;clear D;rintro e d ⟨rfl,A,D⟩;refine rv ?_;replace M:=M.ej A H;refine nt (ns (sf q pX (st _ (aA q bH D q) (st _ (eI q q) (sf q pX (bI q q bH q D (lB q) ?_))))));have I:=D;clear D;intro f A D;replace M:=M.ej A H;refine ak ?_;replace D:=(aeI _ 255 0 SN) ▸ D;refine ai (ns (aj adp q (NG L _ _ _ _ D) ?_));have I:=D;clear D;rintro e T ⟨rfl,A,D⟩;refine rv ?_;replace M:=M.ej A H;refine nt (ns (sf q pW (st _ (aA q bH D q) (sf q vl (st _ (aA q bH D q) (st _ (eI q q) (sf q pX (st _ (aA q bH D q) (st _ (eI q q) (sf q pY (st _ (aA q bH D q) (st _ (eI q q) (cE q ?_)))))))))))));refine nt (gW ?_);exact gI trivial q q ⟨q,M⟩
theorem ac5 (key:Ly) (s:Value) (l:Ly) (w:World) (hk:key.length=16) (hB:By w s l) (hl:l.length≤4611686018427387000) :
  Calls Zp 171 #[.agg (key.map b8).toArray,s] w fun e w'=>e = .returned (.int .u64 (sip key l))∧Md [] w w':=by
 have M:=Md.refl [] w;refine enter (n:=13) Tryz.func171 q q q fun B=>ns (eC q q ?_);intro P S J Q A K;replace J:=ly M.size J;replace M:=M.k A;refine an q (ns (st _ (lZ q (by rw[(by simpa using hk:(key.map b8).length=16)];exact kW) K) (aj afO q (abK key _ hk) ?_)));rintro e G ⟨I,rfl,D,R,A,N⟩;refine rv ?_;replace D:=ly M.size D;replace M:=M.k A;have L:Own G 5 1 SN ([]:Ly).length (([]:Ly).map b8):=Own.nil _ _ _;refine an q (ns (m2 q q (aj afP q (abj I (pu key) 0 SN [] s l _ N L Jk (hB.o M) (GI hB D) Jk Ok) ?_)));clear K;rintro e H ⟨rfl,C,A,F,E,O⟩;refine rv ?_;replace M:Md [] w H:=M.ej A D;clear N L;refine nt (nm q (aj afQ q (VP I _ _ C _ _ F E (NJ _ _ _ (Nat.le_refl _)) Ok) ?_));rintro e T ⟨rfl,A⟩;refine rv ?_;replace M:=M.k A;refine ar q ?_;exact gI trivial q q ⟨xG (by simp[sip]),M⟩
theorem aeu (k:Bool) (key:Ly) (s:Value) (l:Ly) (w:World) (hk:key.length=16) (hB:By w s l) (hl:l.length≤4611686018427387000) :
  Calls Zp 159 #[.bool k,.agg (key.map b8).toArray,s] w fun e w'=>e = .returned (.int .u64 (if k then sip key l else lookup l))∧Md [] w w':=by
 have M:=Md.refl [] w;refine enter (n:=13) Tryz.func159 q q q fun B=>ns (eC q q ?_);intro G I E H A F;replace E:=ly M.size E;replace M:=M.k A;refine an q (au (nm q (nt ?_)));refine bV q (fun C=>?_) (fun C=>?_)
 ·(have D:=C);refine ns (st _ (lZ q (by rw[(by simpa using hk:(key.map b8).length=16)];exact kW) F) (mv q (aj afJ q (ac5 key s l _ hk (hB.o M) hl) ?_)));rintro e J ⟨rfl,A⟩;refine rv ?_;replace M:=M.k A;refine ar q (aV ?_);exact gI trivial q q ⟨xG (by simp_all),M⟩
 (have D:=C);refine aY (ai (nm q (aj adj q (zo s l _ (hB.o M)) ?_)));rintro e K ⟨rfl,A⟩;refine rv ?_;replace M:=M.k A;refine ar q ?_;exact gI trivial q q ⟨xG (by simp_all),M⟩
theorem sC (v:Value) (l:Ly) (a:Int) (w:World) (hB:By w v l) (ha:0≤a) (ha2:a≤4611686018427387000) :
  Calls Zp 127 #[v,.int .i64 a] w fun e w'=>e = .returned (.int .u64 (td l a.toNat))∧w=w':=by
 have A:=hB.dN;have M:=Md.refl [] w;refine enter (n:=16) Tryz.func127 q q q fun B=>ns (an q (ns (m2 q q (aj wV q (mV _ _ _ _ (hB.o M) Ok Ok) ?_))));rintro e _ ⟨rfl,rfl⟩;refine rv ?_;refine st _ (iw (by rw[AJ];rfl) kU q) (m2 q q (st _ (eE q q Ok) (aj wV q (mV _ _ _ _ (hB.o M) Ok Ok) ?_)));rintro e _ ⟨rfl,rfl⟩;refine rv ?_;refine st _ (iw (by rw[AJ];rfl) kU q) (st _ (oZ q q Ok) (st _ (wM q q) (ar q ?_)));exact gI trivial q q ⟨xG (WU l a ha),q⟩
theorem xq (v:S4) (t:Int) (w:World) (ht:0≤t) (ht2:t≤100) :
  Calls Zp 128 #[.agg v.arr.toArray,.int .i64 t] w fun e w'=>e = .returned (.agg (er t.toNat v).arr.toArray)∧Md [] w w':=by
 have M:=Md.refl [] w;refine enter (n:=64) Tryz.func128 q q q fun B=>ns (eC q q ?_);intro L Q I P C D;replace I:=ly M.size I;replace M:=M.k C;refine bU z210 ?_;intro G K H O C A;have J:L≠G:=(by have:=D.lt;omega);replace H:=ly M.size H;obtain⟨D,M⟩:=k2 C D M;refine nt (au (xK (fun w'=>Md [] K w') mixed Yz (Md.drew K) (qz _ (fun w' m=>eY q q rj ew Ok) (qz _ (fun w' m=>aA q bH (D.o m) q) (qz _ (fun w' m=>eY q q rj ew Ok) (qz _ (fun w' m=>aA q bH (D.o m) q) (qz _ (fun w' m=>eY q q rj ew Ok) (qz _ (fun w' m=>aA q bH (D.o m) q) (qz _ (fun w' m=>eY q q rj ew Ok) (qz _ (fun w' m=>aA q bH (D.o m) q) (qz _ (fun w' m=>eU q) (qz _ (fun w' m=>eU q) (qz _ (fun w' m=>eU q) ?_)))))))))))));refine qz _ (fun w' m=>eU q) (Qu ?_);intro R C;obtain⟨A,M⟩:=k2 C A M;refine ai (au (ns (an q (b9 ?_))));refine ja (X:=Nat) (fun k=>[(1,.int .i64 t),(4,.pointer (some ⟨G,0,none⟩)),(5,.int .u64 (er k v).p),(6,.int .u64 (er k v).q),(7,.int .u64 (er k v).r),(8,.int .u64 (er k v).s),(9,.int .i64 k)]) (fun k w'=>Md [] w w'∧bO w' G [.int .u64 0,.int .u64 0,.int .u64 0,.int .u64 0] 210∧(k:Int)≤t) (fun k=>(t-k).toNat) 0 ?_ ?_ ?_
 ·exact⟨q,q,q,q,q,q,q,tV⟩
 ·exact⟨M,A,ht⟩
 clear M
 clear A D;rintro k B S ⟨M,A,hk⟩;refine au (ns (m2 q q (st _ (qd q q) (nt ?_))));refine bV q (fun E=>?_) (fun E=>?_)
 ·(have F:=dT E);refine aY (ai (au (b9 (ns (m2 q q (st _ (ig q q) (an q (nm q (aj BS q (wQ _ _ _ Jk Jk) ?_)))))))));rintro e _ ⟨rfl,rfl⟩;refine rv ?_;refine an q (ns (m2 q q (st _ (eI q q) (cE q (nt (nm q (aj BS q (wQ _ _ _ Jk Jk) ?_)))))));rintro e _ ⟨rfl,rfl⟩;refine rv ?_;refine an q (ns (m2 q q (st _ (ig q q) (cE q (nt (nm q (aj BS q (wQ _ _ _ Jk Jk) ?_)))))));rintro e _ ⟨rfl,rfl⟩;refine rv ?_;refine an q (ns (m2 q q (st _ (eI q q) (cE q (nt (nm q (mv q (st _ (ig q q) (cE q (nt ?_))))))))));refine nm q (aj BS q (wQ _ _ _ Jk Jk) ?_);rintro e _ ⟨rfl,rfl⟩;refine rv ?_;refine an q (ns (m2 q q (st _ (eI q q) (cE q (nt (nm q (mv q (st _ (ig q q) (cE q ?_)))))))))
  refine nt (nm q (aj BS q (wQ _ _ _ Jk Jk) ?_));rintro e _ ⟨rfl,rfl⟩;refine rv ?_;refine an q (ns (m2 q q (st _ (eI q q) (cE q (nt (ax (mv q (aj BS q (wQ _ _ _ Jk Jk) ?_))))))));rintro e _ ⟨rfl,rfl⟩;refine rv ?_;refine cE q (ak (bL (ai (ax (mv q (st _ (eE q q Ok) (an q (next (k+1) Ok ⟨q,q,q,q,q,q,q,tV⟩ ?_))))))));exact⟨M,A,by omega⟩
 (have F:=dF E);refine cw (bD (bD (cZ (ai (ns (m2 q q (mv q (mv q (st (.agg [_,_,_,_].toArray) (ji (ps:=[(0,0),(1,1),(2,2),(3,3)]) z210 adz q q ⟨q,q,q,q,tV⟩ q q q) (eW q q (by exact qn) (by simp[Value.oneCell']) A (by rfl) ?_))))))))));have N:=A;clear A;intro T C A;replace M:=M.ej C H;refine nt (gW ?_);obtain rfl:(k:Int)=t:=Ok;exact agL trivial q q (by exact qn) A ⟨q,M⟩
theorem vF (v:S4) (w:World):Calls Zp 128 #[.agg v.arr.toArray,.int .i64 2] w fun e w'=>e = .returned (.agg (er 2 v).arr.toArray)∧Md [] w w' :=
 xq v 2 w Jk Jk
theorem FR (v:S4) (w:World):Calls Zp 128 #[.agg v.arr.toArray,.int .i64 4] w fun e w'=>e = .returned (.agg (er 4 v).arr.toArray)∧Md [] w w' :=
 xq v 4 w Jk Jk
theorem aaD (key:Ly) (s:Value) (l:Ly) (w:World) (hk:key.length=16) (hB:By w s l) (hl:l.length≤4611686018427387000) :
  Calls Zp 92 #[.agg (key.map b8).toArray,s] w fun e w'=>e = .returned (.int .u64 (sip key l))∧Md [] w w':=by
 have P:=hB.dN;have M:=Md.refl [] w;refine enter (n:=84) Tryz.func92 q q q fun B=>ns (eC q q ?_);intro R S O b C H;replace O:=ly M.size O;replace M:=M.k C;refine an q (au (yC [(0,true),(2,true),(1,false),(3,false),(4,true),(5,true)] (fun w'=>Md [] S w') mixed Yz ?_));intro d C;have J:=C;obtain⟨H,M⟩:=k2 C H M;refine⟨J,?_⟩;refine m _ (fun w' L=>fP VI mX q Jk) (m _ (fun w' L=>fP VI mX q Jk) ?_);refine kZ ?_ rfl;refine aj OU q (sC _ key 0 _ (By.cK H hk Jk) Jk Jk) ?_;rintro e _ ⟨rfl,rfl⟩;refine rv ?_;refine ak ⟨q,J,?_⟩;refine kZ ?_ rfl;refine aj OU q (sC _ key 8 _ (By.cK H hk Jk) Jk Jk) ?_;rintro e _ ⟨rfl,rfl⟩;refine rv ?_;refine ak ⟨q,J,?_⟩;refine m _ (fun w' L=>eU q) (m _ (fun w' L=>eU q) (d9 (ai (nm q (st _ (eI q q) (mv q (st _ (eI q q) (mv q (st _ (eI q q) (mv q (st _ (eI q q) (st (.agg [_,_,_,_].toArray) (ji (ps:=[(0,0),(1,1),(2,2),(3,3)]) z210 adz q q ⟨q,q,q,q,tV⟩ q q q) ?_))))))))))));refine bU z210 ?_;intro K f E c C A;have Q:R≠K:=(by have:=H.lt;omega);replace E:=ly M.size E;replace M:=M.k C;refine eW q q (by exact qn) (by simp[Value.oneCell']) A (by rfl) ?_;have D:=A;clear A;intro g C A;replace M:=M.ej C E;refine nt (ns (an q (au (b9 ?_))));refine ja (X:=S4 × Nat) (fun x=>[(1,s),(7,.pointer (some ⟨K,0,none⟩)),(8,.int .i64 x.2)]) (fun x w'=>Md [] w w'∧bO w' K x.1.arr 210∧x.2≤l.length∧jD x.1 (l.drop x.2)=jD (pu key) l) (fun x=>l.length-x.2) (pu key,0) ?_ ?_ ?_
 ·exact⟨q,q,q,tV⟩
 ·refine⟨M,?_,Nat.zero_le _,q⟩
  rw[KI key hk];exact A
 clear M
 clear A H;rintro x B h ⟨M,A,N,F⟩;refine au (nm q (st _ (eE q q Ok) (mv q (sL q fG hB.cV (st _ (vB q q) (nt ?_))))));refine bV q (fun G=>?_) (fun G=>?_)
 ·(have I:=dT G);refine aY (ai (b9 (ns (m2 q q (aj OU q (sC s l _ _ (hB.o M) Ok Ok) ?_)))));rintro e _ ⟨rfl,rfl⟩;refine rv ?_;refine an q (ns (st _ (eY q q rj ew Ok) (st _ (aA q bH A q) (mv q (st _ (eI q q) (st _ (eY q q rj ew Ok) (bI q q bH q A (lB q) ?_)))))));have D:=A;clear A;intro i C A;replace M:=M.ej C E;refine ak ?_;replace A:=(WJ _ (td l (x.2:Int).toNat)) ▸ A;refine ai (ns (st _ (lZ q (by exact qn) A) (aj XQ q (vF _ _) ?_)));rintro e j ⟨rfl,C⟩;refine rv ?_;obtain⟨A,M⟩:=k2 C A M;refine eW q q (by exact qn) (S4.EI _) A (by rw[S4.sA,S4.sA]) ?_;have D:=A;clear A;intro k C A;replace M:=M.ej C E;refine nt (ns (st _ (eY q q rj ew Ok) (st _ (aA q bH A q) (mv q (st _ (eI q q) (st _ (eY q q rj ew Ok) (bI q q bH q A (lB q) ?_)))))));have D:=A;clear A;intro o C A;replace M:=M.ej C E;refine ak ?_;replace A:=(WI _ (td l (x.2:Int).toNat)) ▸ A;refine ai (ax (mv q (st _ (eE q q Ok) (cE q (ak (bL (ai (next ((nP x.1 (gU ((l.drop x.2).take 8)),x.2+8)) Yw ⟨q,q,dA q Oj,tV⟩ ?_))))))));refine⟨M,?_,by simp;omega,?_⟩
  ·unfold nP;rw[uY l x.2 Ok];exact A
  rw[← F,rZ _ (l.drop x.2) Yw,List.drop_drop]
 (have I:=dF G);refine cw (bD (bD (cZ (ai (ns (m2 q q (aj OU q (sC s l _ _ (hB.o M) Ok Ok) ?_)))))));rintro e _ ⟨rfl,rfl⟩;refine rv ?_;refine mv q (sL q fG hB.cV (st _ (aa4 q q Ok) (st _ (iw (by rw[u3];rfl) kU q) (st _ (oZ q q Ok) (st _ (wM q q) (an q (ns (st _ (eY q q rj ew Ok) (st _ (aA q bH A q) (mv q (st _ (eI q q) (st _ (eY q q rj ew Ok) ?_))))))))))));refine bI q q bH q A (lB q) ?_;have D:=A;clear A;intro T C A;replace M:=M.ej C E;refine ak ?_;replace A:=(WJ _ _) ▸ A;refine ai (ns (st _ (lZ q (by exact qn) A) (aj XQ q (vF _ _) ?_)));rintro e U ⟨rfl,C⟩;refine rv ?_;obtain⟨A,M⟩:=k2 C A M;refine eW q q (by exact qn) (S4.EI _) A (by rw[S4.sA,S4.sA]) ?_;have D:=A;clear A;intro V C A;replace M:=M.ej C E;refine nt (ns (st _ (eY q q rj ew Ok) (st _ (aA q bH A q) (mv q (st _ (eI q q) (st _ (eY q q rj ew Ok) (bI q q bH q A (lB q) ?_)))))));have D:=A;clear A;intro W C A;replace M:=M.ej C E;refine ak ?_;replace A:=(WI _ _) ▸ A;refine ai (ns (st _ (eY q q rj ew Ok) (st _ (aA q bH A q) (st _ (eI q q) (st _ (eY q q rj ew Ok) (bI q q bH q A (lB q) ?_))))));have D:=A;clear A;intro Y C A;replace M:=M.ej C E
 refine ak ?_;replace A:=(adE _ 255) ▸ A;refine ai (ns (st _ (lZ q (by exact qn) A) (aj XQ q (FR _ _) ?_)));rintro e Z ⟨rfl,C⟩;refine rv ?_;obtain⟨A,M⟩:=k2 C A M;refine eW q q (by exact qn) (S4.EI _) A (by rw[S4.sA,S4.sA]) ?_;have D:=A;clear A;intro a C A;replace M:=M.ej C E;refine nt (ns (st _ (eY q q rj ew Ok) (st _ (aA q bH A q) (st _ (eY q q rj ew Ok) (st _ (aA q bH A q) (st _ (eI q q) (st _ (eY q q rj ew Ok) (st _ (aA q bH A q) (st _ (eI q q) (st _ (eY q q rj ew Ok) (st _ (aA q bH A q) (st _ (eI q q) (cE q ?_)))))))))))));refine nt (gW ?_);rw[pq _ _ Yw]at F;exact gI trivial q q ⟨xG (by rw[sip,← F];exact aaE l x.1 x.2 N Ok),M⟩
theorem acy (k:Bool) (key:Ly) (s:Value) (l:Ly) (w:World) (hk:key.length=16) (hB:By w s l) (hl:l.length≤4611686018427387000) :
  Calls Zp 47 #[.bool k,.agg (key.map b8).toArray,s] w fun e w'=>e = .returned (.int .u64 (if k then sip key l else lookup l))∧Md [] w w':=by
 have M:=Md.refl [] w;refine enter (n:=13) Tryz.func47 q q q fun B=>ns (eC q q ?_);intro G I E H D F;replace E:=ly M.size E;replace M:=M.k D;refine an q (au (nm q (nt ?_)));refine bV q (fun A=>?_) (fun A=>?_)
 ·(have C:=A);refine ns (st _ (lZ q (by rw[(by simpa using hk:(key.map b8).length=16)];exact kW) F) (mv q (aj ahF q (aaD key s l _ hk (hB.o M) hl) ?_)));rintro e J ⟨rfl,D⟩;refine rv ?_;replace M:=M.k D;refine ar q (aV ?_);exact gI trivial q q ⟨xG (by simp_all),M⟩
 (have C:=A);refine aY (ai (nm q (aj agl q (xk s l _ (hB.o M) hl) ?_)));rintro e _ ⟨rfl,rfl⟩;refine rv ?_;refine ar q ?_;exact gI trivial q q ⟨xG (by simp_all),M⟩
theorem ab4 (uQ:Up w Q) (k:Bool) (key:Ly) (a1:key.length=16) {v2:Value} {l:Ly} (h2:Ls eD w Q v2 l) (p0:l.length≤4611686018427387000) :
  Calls Zp 159 #[.bool k,.agg (iP key).toArray,v2] w fun en w'=>∃r0:Nat,en = .returned (.int .u64 r0)∧Md [] w w'∧r0<18446744073709551616∧eG k key l=r0:=by
 rw[nJ a1];refine(aeu k key v2 l w a1 h2.by p0).mono fun en w' ⟨he,hm⟩=>⟨eG k key l,by rw[he,yY],hm,HJ k key l,q⟩
theorem FO (uQ:Up w Q) (k:Bool) (key:Ly) (a1:key.length=16) {v2:Value} {l:Ly} (h2:Ls eD w Q v2 l) (p0:l.length≤4611686018427387000) :
  Calls Zp 47 #[.bool k,.agg (iP key).toArray,v2] w fun en w'=>∃r0:Nat,en = .returned (.int .u64 r0)∧Md [] w w'∧r0<18446744073709551616∧eG k key l=r0:=by
 rw[nJ a1];refine(acy k key v2 l w a1 h2.by p0).mono fun en w' ⟨he,hm⟩=>⟨eG k key l,by rw[he,yY],hm,HJ k key l,q⟩
theorem RN (uQ:Up w Q) {v0:Value} {l:Ly} (h0:Ls eD w Q v0 l) (p0:l.length≤4611686018427387000) :
  Calls Zp 168 #[v0] w fun en w'=>∃r0:Nat,en = .returned (.int .u64 r0)∧Md [] w w'∧r0<18446744073709551616∧qU l=r0:=by
 refine(zo _ _ w h0.by).mono fun en w' ⟨he,hm⟩=>⟨qU l,by rw[he,IJ],hm,IK l,q⟩
theorem UB (uQ:Up w Q) {v0:Value} {l:Ly} (h0:Ls eD w Q v0 l) (p0:l.length≤4611686018427387000) :
  Calls Zp 93 #[v0] w fun en w'=>∃r0:Nat,en = .returned (.int .u64 r0)∧Md [] w w'∧r0<18446744073709551616∧qU l=r0:=by
 refine(xk _ _ w h0.by p0).mono fun en w' ⟨he,hm⟩=>⟨qU l,by rw[he,IJ],(hm ▸ Md.refl [] w),IK l,q⟩
end Go.Proofs.YtlleafgaeeneoaaGreat
