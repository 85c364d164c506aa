/- Part 3 of what the walk of a law stands on: AtT, RawP, RawT, ChP, ImT1, ImT2, ImT3, ImT4, ImT5, ImT6, ImT7, ImT8, ImT9, GoLP, ImT10, ImT11, ImT12, ImT13, ImT14, ImT15, ImT16, ImT17, LwP, JfP, MatR, QuP, LdP, HsP. No statement is proved here. -/
import Derived.Test.YtlleafgaeeneoaaGreatQSM2
set_option linter.unusedVariables false
set_option linter.unusedSimpArgs false
namespace Go.Wk
open Go Go.RowKit
def iK (b:Ly) (p n:Nat):List o9:=(List.range n).map fun i=>{first:=dW b (p+16*i),tail:=dW b (p+16*i+8)}
theorem qC (b:Ly) (p n:Nat):(iK b p n).length=n:=by simp[iK]
theorem NW (b:Ly) (p n:Nat):iK b p (n+1)=iK b p n ++ [{first:=dW b (p+16*n),tail:=dW b (p+16*n+8)}]:=by simp[iK,List.range_succ]
def jo (b:Ly) (p:Nat) (k:Int):List o9 × Nat :=
  if ¬(k=4\/k=5)then([],1)
  else if(jZ b p k.toNat 0 16).2≠0 then([],(jZ b p k.toNat 0 16).2)
  else(iK (jZ b p k.toNat 0 16).1 0 ((jZ b p k.toNat 0 16).1.length/16),0)
theorem amd {b:Ly} {p:Nat} {k:Int} (h:¬(k=4\/k=5)):jo b p k=([],1):=by unfold jo;rw[if_pos h]
theorem ajY {b x:Ly} {p k c:Nat} (hk:(k:Int)=4\/(k:Int)=5) (h:jZ b p k 0 16=(x,c)) (a:c≠0):jo b p (k:Int)=([],c):=by unfold jo;rw[if_neg (fun h=>h hk),Int.toNat_natCast,h,if_pos a]
theorem af6 {b x:Ly} {p k c:Nat} {l:List o9} (hk:(k:Int)=4\/(k:Int)=5) (h:jZ b p k 0 16=(x,c)) (a:¬c≠0) (d:l=iK x 0 (x.length/16)):jo b p (k:Int)=(l,0):=by unfold jo;rw[if_neg (fun h=>h hk),Int.toNat_natCast,h,if_neg a,d]
theorem abw {x:Ly} {l:List o9} {m:List Nat} {i n v u:Nat} (a:l=iK x 0 (i/2)) (hi:i%2=0) (b:m=fZ x 0 n) (d:m[i]? = some v) (c:m[i+1]? = some u):l ++ [{first:=v,tail:=u}]=iK x 0 ((i+2)/2):=by subst b;rw[show(i+2)/2=i/2+1 by omega,NW,a,(nY d).1,(nY c).1,show 0+16*(i/2)=0+8*i by omega,show 0+8*(i+1)=0+8*i+8 by omega]
def sw (n:List Nat) (b:Ly) (k:Int):List o9 × Nat :=
  if(jo b ((if k=4 then n.getD 2 0 else n.getD 4 0)-16) k).2≠0 then([],(jo b ((if k=4 then n.getD 2 0 else n.getD 4 0)-16) k).2)
  else if(jo b ((if k=4 then n.getD 2 0 else n.getD 4 0)-16) k).1.length≠(if k=4 then n.getD 3 0 else n.getD 5 0)/16 then([],14)
  else jo b ((if k=4 then n.getD 2 0 else n.getD 4 0)-16) k
end Go.Wk
namespace Go.Wk
open Go Go.RowKit
end Go.Wk
namespace Go.Wk
open Go Go.RowKit
theorem TG {h:bF} {a s e:Nat} (b:jX h a s e=0):16<=a:=by
  unfold jX at b
  repeat' split at b
  all_goals omega
theorem RZ {b:Ly} {y:dx} {x:Option dx} {c:Nat} (h:lR b=(x,c)) (f:x=some y):272<=b.length/\16<=y.h.n.getD 2 0/\16<=y.h.n.getD 4 0:=by
  subst f;unfold lR at h;split at h
  · cases h
  rename_i h1;have C:kE b=((kE b).1,0):=by rw[<- Classical.not_not.1 h1]
  obtain⟨d,D,a⟩:=zn C;have e:y.h=(kE b).1:=by have:=congrArg Prod.fst h;simp only[Option.some.injEq]at this;rw[<- this]
  rw[e];refine⟨d,?_⟩;unfold qH at a
  repeat' split at a
  all_goals first|omega|skip
  rename_i h7;exact⟨TG (Classical.not_not.1 h7),TG a⟩
end Go.Wk
namespace Go.Wk
open Go Go.RowKit
def qM (s:Nat) (b:Ly) (k:Int) (p:Nat):Nat:=if k=4 then(fF s b p).1.bY else(kT s b p).1.bY
def tG (s:Nat) (b:Ly) (k:Int) (p:Nat):Nat:=if k=4 then(fF s b p).1.b9 else(kT s b p).1.b9
def qN (s:Nat) (b:Ly) (k:Int) (p:Nat):List UInt8:=if k=4 then(fF s b p).1.au else(kT s b p).1.au
def tF (s:Nat) (b:Ly) (k:Int) (p:Nat):Nat:=if k=4 then(fF s b p).2 else(kT s b p).2
def fdL (nx cd:Nat->Nat) (is:Nat->Bool) (len:Nat):Nat->Nat->Nat->Nat × Nat
  | 0,_,_=>(0,0)
  | k+1,p,a=>if p=0\/len<=p then(0,0)else if p<=a then(0,12)else if cd p≠0 then(0,cd p)else if is p=true then(p,0)else fdL nx cd is len k (nx p) p
section
variable {nx cd:Nat->Nat} {is:Nat->Bool} {len p a c:Nat} {o:List Nat}
theorem XK (m:Nat):∀(k p a:Nat),len-a<k->fdL nx cd is len (k+m) p a=fdL nx cd is len k p a
 | 0,_,_,h=>by omega
 | k+1,p,a,h=>by
  rw[show k+1+m=(k+m)+1 by omega,fdL,fdL];split
  ·rfl
  ·split
   ·rfl
   ·split
    ·rfl
    ·split
     ·rfl
     ·exact XK m k _ _ Xx
def CY (nx cd:Nat->Nat) (is:Nat->Bool) (len p a:Nat):Nat × Nat:=fdL nx cd is len (len-a+1) p a
theorem acL (h:p=0\/len<=p):CY nx cd is len p a=(0,0):=by unfold CY;rw[fdL,if_pos h]
theorem agq (h:¬(p=0\/len<=p)) (h1:p<=a):CY nx cd is len p a=(0,12):=by unfold CY;rw[fdL,if_neg h,if_pos h1]
theorem aiY (h:¬(p=0\/len<=p)) (h1:¬p<=a) (b:cd p=c) (d:c≠0):CY nx cd is len p a=(0,c):=by subst b;unfold CY;rw[fdL,if_neg h,if_neg h1,if_pos d]
theorem acM (h:¬(p=0\/len<=p)) (h1:¬p<=a) (b:cd p=0) (hi:is p=true):CY nx cd is len p a=(p,0):=by unfold CY;rw[fdL,if_neg h,if_neg h1,if_neg Xx,if_pos hi]
theorem ahY (h:¬(p=0\/len<=p)) (h1:¬p<=a) (c:cd p=0) (hi:¬is p=true) {n:Nat} (b:nx p=n):CY nx cd is len p a=CY nx cd is len n p:=by subst b;unfold CY;rw[fdL,if_neg h,if_neg h1,if_neg Xx,if_neg hi];rw[show len-a=(len-p+1)+(len-a-(len-p+1))by omega];exact XK _ _ _ _ Xx
end
def ajR:o9:={first:=0,tail:=0}
theorem ahB {n:List Nat} {b:Ly} {k:Int} {l:List o9} {c:Nat} (h:sw n b k=(l,c)) (f:c=0):0<l.length:=by
  subst f;unfold sw at h;generalize ((if k=4 then n.getD 2 0 else n.getD 4 0)-16)=a at h;generalize (if k=4 then n.getD 3 0 else n.getD 5 0)/16=m at h;split at h
  · rename_i h1;exact absurd (congrArg Prod.snd h) h1
  split at h
  · cases h
  unfold jo at h;split at h
  · cases h
  split at h
  · rename_i h1;exact absurd (congrArg Prod.snd h) h1
  rename_i h1
  rcases hb:jZ b a k.toNat 0 16 with⟨x,d⟩
  rw[hb]at h h1;obtain⟨_,_,g,i,_,C,_⟩:=sZ hb (Classical.not_not.1 h1);have e:=congrArg Prod.fst h;simp only at e;rw[<- e,qC];omega
theorem alB {s p:Nat} {b:Ly} {k:Int} (h:k=4):qM s b k p=(fF s b p).1.bY/\tG s b k p=(fF s b p).1.b9/\qN s b k p=(fF s b p).1.au/\tF s b k p=(fF s b p).2:=by unfold qM tG qN tF;rw[if_pos h,if_pos h,if_pos h,if_pos h];exact⟨q,q,q,q⟩
theorem alC {s p:Nat} {b:Ly} {k:Int} (h:¬k=4):qM s b k p=(kT s b p).1.bY/\tG s b k p=(kT s b p).1.b9/\qN s b k p=(kT s b p).1.au/\tF s b k p=(kT s b p).2:=by unfold qM tG qN tF;rw[if_neg h,if_neg h,if_neg h,if_neg h];exact⟨q,q,q,q⟩
def findF (n:List Nat) (b:Ly) (k:Int) (h:Nat) (pl:Ly):Nat × Nat :=
  if(sw n b k).2≠0 then(0,(sw n b k).2)
  else if(CY (tG (n.getD 0 0) b k) (tF (n.getD 0 0) b k) (fun p=>decide (qM (n.getD 0 0) b k p=h) && decide (qN (n.getD 0 0) b k p=pl)) b.length ((sw n b k).1.getD (h%(sw n b k).1.length) ajR).first 0)=(0,0)then(0,16)
  else(CY (tG (n.getD 0 0) b k) (tF (n.getD 0 0) b k) (fun p=>decide (qM (n.getD 0 0) b k p=h) && decide (qN (n.getD 0 0) b k p=pl)) b.length ((sw n b k).1.getD (h%(sw n b k).1.length) ajR).first 0)
section
variable {n:List Nat} {b o nm9 pl:Ly} {k bV:Int} {l:List o9} {c d h p:Nat} {t:o9} {x:List Nat}
theorem acS (d:sw n b k=(l,c)) (a:c≠0):findF n b k h pl=(0,c):=by unfold findF;rw[d];rw[if_pos a]
theorem wK (g:sw n b k=(l,c)) (e:c=0) (f:l[h%l.length]? = some t) (hb:CY (tG (n.getD 0 0) b k) (tF (n.getD 0 0) b k) (fun p=>decide (qM (n.getD 0 0) b k p=h) && decide (qN (n.getD 0 0) b k p=pl)) b.length t.first 0=(p,d)):findF n b k h pl=if(p,d)=(0,0)then(0,16)else(p,d):=by
  subst e;unfold findF;rw[g];rw[if_neg Oy];have a:l.getD (h%l.length) ajR=t:=by rw[List.getD_eq_getElem?_getD,f];rfl
  simp only[a,hb]
end
section
variable {n m:List Nat} (hn:∀i,i<20->m.getD i 0=n.getD i 0) (b:Ly) (k bV:Int) (h:Nat) (pl:Ly)
include hn
end
end Go.Wk
namespace Go.Wk
open Go Go.RowKit
def seg (b:Ly) (p n:Nat):List UInt8:=(b.drop p).take n
theorem BH {b:Ly} {p n i:Nat} (h:i<n):(seg b p n)[i]? = b[p+i]?:=by unfold seg;rw[List.getElem?_take,if_pos h,List.getElem?_drop]
theorem Zt {b:Ly} {p n:Nat} (h:p+n<=b.length):(seg b p n).length=n:=by unfold seg;simp;omega
theorem Zs {b c:Ly} {p n:Nat} (h:∀i,i<n->c[p+i]? = b[p+i]?):seg c p n=seg b p n:=by
  apply List.ext_getElem?;intro i
  by_cases hi:i<n
  · rw[BH hi,BH hi,h i hi]
  unfold seg;rw[List.getElem?_take,List.getElem?_take,if_neg hi,if_neg hi]
theorem jB (b:Ly) (p:Nat):dW b p=EK (seg b p 8):=rfl
theorem NV {b:Ly} {p n q k:Nat} (h:q+k<=n):seg (seg b p n) q k=seg b (p+q) k:=by unfold seg;rw[List.drop_take,List.take_take,List.drop_drop,Nat.min_eq_left Xx]
theorem SX {b l:Ly} {p n q k:Nat} (h:seg b p n=l) (a:q+k<=n):seg b (p+q) k=seg l q k:=by rw[<- h,NV a]
theorem Zr {b o:Ly} {p n:Nat} (h:p+n<=b.length):seg (b ++ o) p n=seg b p n :=
  Zs fun i hi=>List.getElem?_append_left Xx
theorem seg_new (b o:Ly):seg (b ++ o) b.length o.length=o:=by unfold seg;rw[List.drop_left,List.take_length]
theorem lW (x y:Ly) {n:Nat} (h:n=x.length):seg (x ++ y) 0 n=x:=by subst h;simp[seg]
theorem iG {x y:Ly} {p n:Nat} (h:x.length<=p):seg (x ++ y) p n=seg y (p-x.length) n:=by unfold seg;rw[List.drop_append,List.drop_eq_nil_of_le h,List.nil_append]
theorem MO (v n:Nat):EK (low v n)=v%256 ^ n:=by
  induction n generalizing v with
  | zero=>simp[low,EK,Nat.mod_one]
  | succ n ih =>
    simp only[low,EK,ih];rw[UInt8.toNat_ofNat',show 2 ^ 8=256 from rfl,Nat.mod_mod,Nat.pow_succ,Nat.mul_comm (256 ^ n) 256,Nat.mod_mul]
theorem agc {v:Nat} (r:Ly) (h:v<18446744073709551616):dW (low v 8 ++ r) 0=v:=by rw[jB,lW _ _ (by rw[iq]),MO];exact Nat.mod_eq_of_lt h
theorem gJ {x y:Ly} {p:Nat} (h:x.length<=p):dW (x ++ y) p=dW y (p-x.length):=by rw[jB,jB,iG h]
theorem uq {b o:Ly} {p:Nat} (h:p+8<=b.length):dW (b ++ o) p=dW b p:=by rw[jB,jB,Zr h]
theorem acn {b l:Ly} {p n q:Nat} (h:seg b p n=l) (a:q+8<=n):dW b (p+q)=dW l q:=by rw[jB,jB,SX h a]
theorem lM:∀{l:List Nat} {r:Ly} {i v:Nat},l[i]? = some v->v<18446744073709551616->dW (nums l ++ r) (8*i)=v
  | [],_,_,_,h,_=>by simp at h
  | x :: l,r,0,v,h,hv=>by simp at h;subst h;rw[nums,List.append_assoc];exact agc _ hv
  | x :: l,r,i+1,v,h,hv=>by rw[nums,List.append_assoc,gJ (by rw[iq];omega),iq,show 8*(i+1)-8=8*i by omega];exact lM (by simpa using h) hv
theorem HY {l:List Nat} {i v:Nat} (h:l[i]? = some v) (a:v<18446744073709551616):dW (nums l) (8*i)=v:=by
  have:=lM (r:=[]) h a
  rwa [List.append_nil]at this
theorem S6:∀(n:Nat) (b:Ly) (p v i q:Nat),(HM n b p v i)[q]? = if p+i<=q/\q<p+i+n/\q<b.length then some (UInt8.ofNat (v/2 ^ (8*(q-p))))else b[q]?
  | 0,b,p,v,i,q=>by rw[if_neg Xx];rfl
  | n+1,b,p,v,i,q=>by
    rw[HM,S6 n];simp only[List.length_set]
    by_cases h:p+(i+1)<=q/\q<p+(i+1)+n/\q<b.length
    · rw[if_pos h,if_pos Xx]
    · rw[if_neg h]
      by_cases hq:q=p+i
      · subst hq
        by_cases hl:p+i<b.length
        · rw[if_pos Xx,List.getElem?_set_self hl,show p+i-p=i by omega]
        · rw[if_neg Xx,List.getElem?_eq_none Ym,List.getElem?_eq_none Xx]
      · rw[if_neg Xx,List.getElem?_set_ne Xx]
theorem S7 (b:Ly) (p v q:Nat):(ig b p v)[q]? = if p<=q/\q<p+8/\q<b.length then some (UInt8.ofNat (v/2 ^ (8*(q-p))))else b[q]?:=S6 8 b p v 0 q
theorem Zu {b:Ly} {p v q n:Nat} (h:p+8<=q\/q+n<=p):seg (ig b p v) q n=seg b q n :=
  Zs fun i hi=>by rw[S7,if_neg Xx]
theorem YF:∀(n v i:Nat),i<n->(low v n)[i]? = some (UInt8.ofNat (v/2 ^ (8*i)))
  | n+1,v,0,_=>by simp only[low,List.getElem?_cons_zero,Nat.mul_zero,Nat.pow_zero,Nat.div_one,Option.some.injEq];apply UInt8.toNat.inj;simp
  | n+1,v,i+1,h=>by simp only[low,List.getElem?_cons_succ];rw[YF n (v/256) i Xx,Nat.div_div_eq_div_mul,show 256*2 ^ (8*i)=2 ^ (8*(i+1))by rw[Nat.mul_add,Nat.pow_add,Nat.mul_comm]]
theorem NU {b:Ly} {p v:Nat} (h:p+8<=b.length):seg (ig b p v) p 8=low v 8:=by
  apply List.ext_getElem?;intro i
  by_cases hi:i<8
  · rw[BH hi,S7,if_pos Xx,YF 8 v i hi,show p+i-p=i by omega]
  rw[List.getElem?_eq_none (by rw[Zt (by rw[eO];omega)];omega),List.getElem?_eq_none (by rw[iq];omega)]
theorem fC {b:Ly} {p v q:Nat} (h:p+8<=q\/q+8<=p):dW (ig b p v) q=dW b q:=by rw[jB,jB,Zu h]
theorem iN {b:Ly} {p v:Nat} (h:p+8<=b.length) (a:v<18446744073709551616):dW (ig b p v) p=v:=by rw[jB,NU h,MO];exact Nat.mod_eq_of_lt a
theorem CC {b:Ly} {p i n:Nat} (h:i<n):nH b (p+i)=((seg b p n).getD i 0).toNat:=by unfold nH;rw[List.getD_eq_getElem?_getD,List.getD_eq_getElem?_getD,BH h]
structure Eff (S:Nat->Prop) (b c:Ly):Prop where
  len:b.length<=c.length
  seg:∀q n,q+n<=b.length->(∀a,S a->a+8<=q\/q+n<=a)->seg c q n=seg b q n
theorem Eff.refl (S:Nat->Prop) (b:Ly):Eff S b b:=⟨Nat.le_refl _,fun _ _ _ _=>rfl⟩
theorem Eff.trans {S:Nat->Prop} {a b c:Ly} (h:Eff S a b) (k:Eff S b c):Eff S a c :=
  ⟨lv h.len k.len,fun q n d e=>(k.seg q n (lv d h.len) e).trans (h.seg q n d e)⟩
theorem Eff.mono {S T:Nat->Prop} {a b:Ly} (h:Eff S a b) (d:∀x,S x->T x):Eff T a b:=⟨h.len,fun q n c e=>h.seg q n c fun x f=>e x (d x f)⟩
theorem Eff.put (b:Ly) (p v:Nat):Eff (fun a=>a=p) b (ig b p v):=⟨by rw[eO];exact Nat.le_refl _,fun q n _ c=>Zu (c p rfl)⟩
theorem Eff.app (S:Nat->Prop) (b o:Ly):Eff S b (b ++ o):=⟨by simp,fun q n a _=>Zr a⟩
theorem Eff.dW {S:Nat->Prop} {b c:Ly} {q:Nat} (h:Eff S b c) (d:q+8<=b.length) (e:∀a,S a->a+8<=q\/q+8<=a):dW c q=dW b q:=by rw[jB,jB,h.seg q 8 d e]
end Go.Wk
namespace Go.Wk
open Go Go.RowKit
structure Ob where
  pos:Nat
  kind:Nat
  size:Nat
def oP (n:Nat):Nat:=(n+7)/8*8
theorem dQ (n:Nat):n<=oP n/\oP n<n+8/\oP n%8=0:=by unfold oP;omega
def TU (kind size:Nat):List UInt8:=[UInt8.ofNat kind,0,0,0,0,0,0,0] ++ nums [size]
theorem jP (k s:Nat):(TU k s).length=16:=by simp[TU,ez]
theorem xG {k:Nat} {body:Ly} (h:1<=k/\k<=7):pZ k body=(TU k (16+body.length) ++ body) ++ List.replicate ((8-(16+body.length)%8)%8) 0:=by
  unfold pZ;rw[if_neg Xx,FO];have:([UInt8.ofNat k,0,0,0,0,0,0,0] ++ nums [16+body.length] ++ body).length=16+body.length:=by simp[ez];omega
  rw[this];rfl
def fE (b:Ly):Nat->List Ob->Nat->Prop
  | p,[],e=>p=e
  | p,o :: r,e=>o.pos=p/\1<=o.kind/\o.kind<=7/\16<=o.size/\o.size<18446744073709551616/\seg b p 16=TU o.kind o.size/\fE b (p+oP o.size) r e
theorem fE.le {b:Ly}:∀{l:List Ob} {p e:Nat},fE b p l e->p<=e/\(p%8=0->e%8=0)
  | [],_,_,h=>by cases h;exact⟨Nat.le_refl _,id⟩
  | o :: r,p,e,h=>by have:=h.2.2.2.2.2.2.le;have:=dQ o.size;omega
structure afQ (b:Ly) (p e:Nat) (o:Ob):Prop where
  ge:p<=o.pos
  le:o.pos+oP o.size<=e
  al:p%8=0->o.pos%8=0
  kind:1<=o.kind/\o.kind<=7
  size:16<=o.size/\o.size<18446744073709551616
  hd:seg b o.pos 16=TU o.kind o.size
theorem fE.mem {b:Ly}:∀{l:List Ob} {p e:Nat} {o:Ob},fE b p l e->o∈l->afQ b p e o
  | [],_,_,_,_,h=>by simp at h
  | x :: r,p,e,o,h,ho=>by
    obtain⟨j,k,m,n,q,s,a⟩:=h;have t:=a.le;have w:=dQ x.size
    rcases List.mem_cons.1 ho with rfl|ho
    · subst j
      exact⟨Nat.le_refl _,t.1,id,⟨k,m⟩,⟨n,q⟩,s⟩
    · obtain⟨u,c,d,f,g,i⟩:=a.mem ho
      exact⟨by omega,c,fun v=>d Xx,f,g,i⟩
theorem fE.sep {b:Ly}:∀{l:List Ob} {p e:Nat} {o x:Ob},fE b p l e->o∈l->x∈l->o=x\/o.pos+oP o.size<=x.pos\/x.pos+oP x.size<=o.pos
  | [],_,_,_,_,_,h,_=>by simp at h
  | y :: r,p,e,o,x,h,ho,hx=>by
    obtain⟨c,d,f,g,i,j,a⟩:=h
    rcases List.mem_cons.1 ho with e1|e1
    · rcases List.mem_cons.1 hx with e2|e2
      · exact .inl (e1.trans e2.symm)
      · have:=(a.mem e2).ge;subst e1;exact .inr (.inl Xx)
    · rcases List.mem_cons.1 hx with e2|e2
      · have:=(a.mem e1).ge;subst e2;exact .inr (.inr Xx)
      · exact a.sep e1 e2
theorem fE.app {b:Ly}:∀{l:List Ob} {p e:Nat} {o:Ob},fE b p l e->o.pos=e->1<=o.kind->o.kind<=7->16<=o.size->o.size<18446744073709551616->seg b e 16=TU o.kind o.size->fE b p (l ++ [o]) (e+oP o.size)
  | [],p,e,o,h,h1,h2,h3,h4,h5,h6=>by cases h;exact⟨h1,h2,h3,h4,h5,h6,q⟩
  | x :: r,p,e,o,h,h1,h2,h3,h4,h5,h6=>by obtain⟨a,c,d,f,g,i,j⟩:=h;exact⟨a,c,d,f,g,i,j.app h1 h2 h3 h4 h5 h6⟩
def Body (l:List Ob) (a:Nat):Prop:=a+8<=272\/∃o∈l,o.pos+16<=a/\a+8<=o.pos+oP o.size
theorem fE.l7 {b c:Ly} {S:Nat->Prop} {l:List Ob} {p e:Nat} (h:fE b p l e) (k:Eff S b c) (hb:e<=b.length) (g:∀o∈l,∀a,S a->a+8<=o.pos\/o.pos+16<=a):fE c p l e:=by
  induction l generalizing p with
  | nil=>exact h
  | cons o r ih =>
    have q:=fE.mem (o:=o) h Oy;obtain⟨d,C,D,i,j,G,f⟩:=h;have s:=dQ o.size;have n:=f.le;refine⟨d,C,D,i,j,?_,ih f fun x m=>g x (by simp[m])⟩;rw[k.seg p 16 Xx fun a H=>d ▸ g o Oy a H,G]
theorem fE.body {b:Ly} {l:List Ob} {e:Nat} (h:fE b 272 l e) {a:Nat} (c:Body l a) {o:Ob} (d:o∈l):a+8<=o.pos\/o.pos+16<=a:=by
  have f:=h.mem d
  rcases c with c|⟨x,C,D,E⟩
  · have:=f.ge;omega
  have:=dQ o.size;have:=dQ x.size
  rcases h.sep d C with rfl|A|A <;> omega
theorem DG {b:Ly} {p e:Nat} {o:Ob} (h:afQ b p e o) (c:p%8=0) (hb:o.pos+o.size<=b.length):dH b o.pos=({kind:=o.kind,flags:=0,size:=o.size},0):=by
  have d:=h.size.1;have a:nH b o.pos=o.kind:=by have:=CC (b:=b) (p:=o.pos) (i:=0) (n:=16) Xx;rw[Nat.add_zero,h.hd]at this;rw[this];show(UInt8.ofNat o.kind).toNat=_;have:=h.kind;rw[UInt8.toNat_ofNat',Nat.mod_eq_of_lt Xx]
  have C:nH b (o.pos+1)=0:=by have:=CC (b:=b) (p:=o.pos) (i:=1) (n:=16) Xx;rw[h.hd]at this;rw[this];rfl
  have D:dW b (o.pos+8)=o.size:=by rw[acn h.hd Xx,TU,gJ Oy];exact HY (l:=[o.size]) (i:=0) q h.size.2
  have hk:=h.kind;have f:=h.al c;unfold dH;rw[if_neg Xx,if_neg Xx,a,C,D,if_neg Xx,if_neg Xx,if_neg Xx,if_neg Xx]
theorem Xo {b:Ly} {p e k ahead gN:Nat} {o:Ob} (h:afQ b p e o) (a:p%8=0) (hb:o.pos+o.size<=b.length) (hk:o.kind=k) (h1:16+ahead<o.size) (c:(o.size-(16+ahead))%gN=0):jZ b o.pos k ahead gN=(seg b (o.pos+16) (o.size-16),0):=by unfold jZ;rw[DG h a hb];simp only;rw[if_neg Oy,if_neg Xx,if_neg Xx];congr 1;unfold seg;rw[List.drop_take,show o.pos+o.size-(o.pos+16)=o.size-16 by omega]
theorem ajv {b:Ly} {p e k n:Nat} {o:Ob} (h:afQ b p e o) (c:p%8=0) (hb:o.pos+o.size<=b.length) (hk:o.kind=k) (h1:16+8*n<o.size):kY b o.pos k n=(fZ b (o.pos+16) n,seg b (o.pos+16+8*n) (o.size-(16+8*n)),0):=by have a:=zO (b:=b) (p:=o.pos) (n:=n) (kind:=k) (DG h c hb) Oy Zx Zx q;rw[a,FC Zx Zx,Nat.add_zero];congr 2;unfold seg;simp only;rw[List.drop_take,List.drop_take,List.drop_drop,show o.pos+o.size-(o.pos+16)-8*n=o.size-(16+8*n)by omega]
end Go.Wk
namespace Go.Wk
open Go Go.RowKit
def mG:Nat->Nat
  | 0=>0
  | k+1=>mG k+dA (k:Int)
theorem KO:∀(l:List Nat) (k a:Nat),eW l k a (mG k)=(if l=[]then a else mG (k+l.length-1),mG (k+l.length))
  | [],_,_=>rfl
  | x :: l,k,a=>by
    have:=KO l (k+1) (mG k);rw[show eW (x :: l) k a (mG k)=eW l (k+1) (mG k) (mG (k+1))from rfl,this];have b:k+1+l.length=k+(l.length+1):=(by omega);simp only[List.length_cons,b,reduceCtorEq,if_false,Prod.mk.injEq,and_true];split
    · rename_i h;subst h;rfl
    · rfl
theorem abo (l:List Nat):eW l 0 0 0=(mG (l.length-1),mG l.length):=by
  have:=KO l 0 0;simp only[mG,Nat.zero_add]at this;rw[this];congr 1;split
  · rename_i h;subst h;rfl
  rfl
theorem acw {i j:Nat} (h:i<=j):mG i<=mG j:=by
  induction j with
  | zero=>rw[Nat.le_zero.1 h];exact Nat.le_refl _
  | succ j ih =>
    rcases Nat.lt_or_ge i (j+1)with A|A
    · have:=ih Xx;simp only[mG];omega
    · rw[show i=j+1 by omega];exact Nat.le_refl _
theorem acy {i j:Nat} (h:i<j):mG i+dA (i:Int)<=mG j:=acw (show i+1<=j from h)
theorem ri (l:List Nat) (x i:Nat):(l ++ [x]).getD i 0=if i=l.length then x else l.getD i 0:=by
  simp only[List.getD_eq_getElem?_getD]
  by_cases h:i<l.length
  · rw[List.getElem?_append_left h,if_neg Xx]
  rw[List.getElem?_append_right Xx]
  by_cases h2:i=l.length
  · subst h2;simp
  rw[if_neg h2,List.getElem?_eq_none Ym,List.getElem?_eq_none Xx]
theorem getD_some {l:List Nat} {i x:Nat} (h:l[i]? = some x):l.getD i 0=x:=by simp[List.getD,h]
structure Chain (b:Ly) (l:List Ob) (src:Nat) (av aF:List Nat):Prop where
  word:dW b src=av.getD 0 0
  ob:∀k a:Nat,av[k]? = some a->(⟨a,6,24+8*dA (k:Int)⟩:Ob)∈l
  next:∀k a:Nat,av[k]? = some a->dW b (a+16)=av.getD (k+1) 0
  gN:∀k a j:Nat,av[k]? = some a->j<dA (k:Int)->dW b (a+24+8*j)=aF.getD (mG k+j) 0
  AI:∀k a c:Nat,av[k]? = some a->av[k+1]? = some c->a<c
  lo:mG (av.length-1)<=aF.length
  hi:aF.length<=mG av.length
theorem TX {b:List Nat} (h:∀k a c:Nat,b[k]? = some a->b[k+1]? = some c->a<c):∀(d k a c:Nat),b[k]? = some a->b[k+d+1]? = some c->a<c
  | 0,k,a,c,h1,h2=>h k a c h1 h2
  | d+1,k,a,c,h1,h2=>by obtain⟨y,e⟩:∃y,b[k+d+1]? = some y:=⟨_,List.getElem?_eq_getElem (by have:=(List.getElem?_eq_some_iff.1 h2).1;omega)⟩;have:=TX h d k a y h1 e;have:=h (k+d+1) y c e h2;omega
def Src (l:List Ob) (a:Nat):Prop:=a+8<=272\/∃o∈l,o.kind≠6/\o.pos+16<=a/\a+8<=o.pos+oP o.size
theorem Src.body {l:List Ob} {a:Nat} (h:Src l a):Body l a:=h.imp id fun⟨o,b,_,c⟩=>⟨o,b,c⟩
theorem Src.apart {b:Ly} {l:List Ob} {a e:Nat} (h:Src l a) (c:fE b 272 l e) {o:Ob} (d:o∈l) (hk:o.kind=6):a+8<=o.pos\/o.pos+oP o.size<=a:=by
  rcases h with h|⟨x,C,A,D,E⟩
  · have:=(c.mem d).ge;omega
  rcases c.sep d C with rfl|B|B
  · exact absurd hk A
  · omega
  omega
theorem Src.mono {l r:List Ob} {a:Nat} (h:Src l a) (d:∀o∈l,o∈r):Src r a:=h.imp id fun⟨o,b,c⟩=>⟨o,d o b,c⟩
theorem Src.lt {b:Ly} {l:List Ob} {a e:Nat} (h:Src l a) (c:fE b 272 l e):a+8<=e:=by
  rcases h with h|⟨x,A,B,C,D⟩
  · have:=c.le;omega
  have:=(c.mem A).le;omega
def zy (src:Nat) (av:List Nat) (a:Nat):Prop:=a=src\/∃k c:Nat,av[k]? = some c/\c+16<=a/\a+8<=c+24+8*dA (k:Int)
theorem iB (r:Nat):oP (24+8*r)=24+8*r:=by unfold oP;omega
section
variable {b c:Ly} {l:List Ob} {src e:Nat} {av aF:List Nat}
theorem Chain.apart (h:Chain b l src av aF) (j:fE b 272 l e) {k c a d:Nat} (f:av[k]? = some a) (g:av[c]? = some d) (hk:k≠c):a+24+8*dA (k:Int)<=d\/d+24+8*dA (c:Int)<=a:=by
  have i:a≠d:=by
    rcases Nat.lt_or_ge k c with A|A
    · have:=TX h.AI (c-k-1) k a d f (by rw[show k+(c-k-1)+1=c by omega];exact g);omega
    · have:=TX h.AI (k-c-1) c d a g (by rw[show c+(k-c-1)+1=k by omega];exact f);omega
  rcases j.sep (h.ob k a f) (h.ob c d g)with A|A|A
  · exact absurd (congrArg Ob.pos A) i
  · rw[iB]at A;simp only at A;omega
  rw[iB]at A;simp only at A;omega
theorem Chain.le (h:Chain b l src av aF) (d:fE b 272 l e) {k a:Nat} (f:av[k]? = some a):272<=a/\a+24+8*dA (k:Int)<=e:=by have:=d.mem (h.ob k a f);have c:=this.le;have C:=this.ge;rw[iB]at c;simp only at c C;omega
theorem Chain.l7 {S:Nat->Prop} {r:List Ob} (h:Chain b l src av aF) (g:fE b 272 l e) (n:Src l src) (q:e<=b.length) (k:Eff S b c) (m:∀o∈l,o∈r) (h1:∀a,S a->a+8<=src\/src+8<=a) (j:∀k x:Nat,av[k]? = some x->∀a,S a->a+8<=x+16\/x+24+8*dA (k:Int)<=a):Chain c r src av aF:=by
  have D:=n.lt g;refine⟨(k.dW Xx h1).trans h.word,fun i a d=>m _ (h.ob i a d),fun i a d=>?_,fun i a p d C=>?_,h.AI,h.lo,h.hi⟩
  · have:=h.le g d
    rw[k.dW Xx fun x f=>by have:=j i a d x f;omega];exact h.next i a d
  have:=h.le g d;rw[k.dW Xx fun x f=>by have:=j i a d x f;omega];exact h.gN i a p d C
theorem Chain.put (h:Chain b l src av aF) (f:fE b 272 l e) (m:Src l src) (s:e<=b.length) {x p:Nat} (n:x<18446744073709551616) (k:av≠[]) (c:av[av.length-1]? = some p) (t:aF.length<mG av.length) :
    Chain (ig b (p+24+8*(aF.length-mG (av.length-1))) x) l src av (aF ++ [x]):=by
  have D:0<av.length:=List.length_pos_iff.2 k;have H:mG av.length=mG (av.length-1)+dA ((av.length-1:Nat):Int):=by rw[show av.length=(av.length-1)+1 by omega];rfl
  have r:=h.lo;have G:=h.le f c;generalize hq:p+24+8*(aF.length-mG (av.length-1))=q;have j:=m.apart f (h.ob _ _ c) rfl;rw[iB]at j;simp only at j;refine⟨?_,h.ob,fun i d a=>?_,fun i d g a C=>?_,h.AI,?_,?_⟩
  · rw[fC Xx];exact h.word
  · have:q+8<=d+16\/d+16+8<=q:=by
      by_cases hi:i=av.length-1
      · subst hi;rw[c]at a;cases a;omega
      · have:=h.apart f a c hi;omega
    rw[fC this];exact h.next i d a
  · rw[ri]
    by_cases hi:i=av.length-1
    · subst hi
      rw[c]at a;cases a
      by_cases hj2:g=aF.length-mG (av.length-1)
      · rw[if_pos Xx,show p+24+8*g=q by omega]
        exact iN Xx n
      rw[if_neg Xx,fC Xx];exact h.gN _ _ g c C
    have o:i<av.length:=(List.getElem?_eq_some_iff.1 a).1;have:=acy (show i<av.length-1 by omega);have:=h.apart f a c hi;rw[if_neg Xx,fC Xx];exact h.gN i d g a C
  · rw[List.length_append];simp only[List.length_singleton];omega
  rw[List.length_append];simp only[List.length_singleton];omega
end
theorem ul {b:List Nat} {p k a:Nat} (h:(b ++ [p])[k]? = some a):(k<b.length/\b[k]? = some a)\/(k=b.length/\a=p):=by
  rcases Nat.lt_or_ge k b.length with hk|hk
  · rw[List.getElem?_append_left hk]at h;exact .inl ⟨hk,h⟩
  have c:=(List.getElem?_eq_some_iff.1 h).1;simp at c;rw[List.getElem?_append_right hk,show k-b.length=0 by omega]at h;exact .inr ⟨by omega,by simpa using h.symm⟩
def LM (r:Nat):List UInt8:=fe {next:=0,aF:=List.replicate r 0}
theorem LP (r:Nat):LM r=TU 6 (24+8*r) ++ nums (0 :: List.replicate r 0):=by
  unfold LM fe;rw[xG Xx];have:(nums [0] ++ nums (List.replicate r 0)).length=8+8*r:=by simp[ez]
  simp only[this];rw[show(8-(16+(8+8*r))%8)%8=0 by omega,show 16+(8+8*r)=24+8*r by omega];simp[nums]
theorem OQ (r:Nat):(LM r).length=24+8*r:=by rw[LP];simp[jP,ez];omega
theorem ZD {r i:Nat} (h:i<=r):dW (LM r) (16+8*i)=0:=by
  rw[LP,gJ (by rw[jP];omega),jP,show 16+8*i-16=8*i by omega];refine HY (v:=0) ?_ Xy;cases i with
  | zero=>rfl
  | succ i=>simp only[List.getElem?_cons_succ];rw[List.getElem?_replicate,if_pos Xx]
theorem afZ (r:Nat):seg (LM r) 0 16=TU 6 (24+8*r):=by rw[LP];exact lW _ _ (jP _ _).symm
theorem Chain.grow {b:Ly} {l:List Ob} {src:Nat} {a aF:List Nat} (h:Chain b l src a aF) (g:fE b 272 l b.length) (B:Src l src) (hb:b.length<1000000) (O:aF.length=mG a.length) :
    let e:=b ++ LM (dA (a.length:Int))
    let u:=l ++ [(⟨b.length,6,24+8*dA (a.length:Int)⟩:Ob)]
    fE e 272 u e.length/\Chain (ig e (if a.length=0 then src else iZ a+16) b.length) u src (a ++ [b.length]) aF:=by
  intro e u;have R:=tY (a.length:Int);have P:e.length=b.length+(24+8*dA (a.length:Int)):=by simp[e,OQ]
  have G:Eff (fun _=>False) b e:=Eff.app _ _ _;have L:=g.le;have F:fE e 272 u e.length:=by
    have:=(g.l7 G (Nat.le_refl _) (fun _ _ _ J=>J.elim)).app (o:=⟨b.length,6,24+8*dA (a.length:Int)⟩) rfl Oy Oy Ym Ym ?_
    · rw[iB]at this;rw[P];exact this
    · have t:=iG (x:=b) (y:=LM (dA (a.length:Int))) (p:=b.length) (n:=16) (Nat.le_refl _)
      rw[Nat.sub_self,afZ]at t;exact t
  refine⟨F,?_⟩;have E:∀i,i<=dA (a.length:Int)->dW e (b.length+16+8*i)=0:=fun i w=>by have:=gJ (x:=b) (y:=LM (dA (a.length:Int))) (p:=b.length+16+8*i) Xx;rw[show b.length+16+8*i-b.length=16+8*i by omega,ZD w]at this;exact this
  have z:=B.lt g;have I:∀q,q+8<=b.length->dW e q=dW b q:=fun q m=>uq m;have M:mG (a.length+1)=mG a.length+dA (a.length:Int):=rfl
  -- the place that leads to the new one
  have m:∃q,(if a.length=0 then src else iZ a+16)=q/\q+8<=b.length/\(a=[]/\q=src\/∃p,a[a.length-1]? = some p/\0<a.length/\q=p+16):=by
    by_cases hz:a.length=0
    · exact⟨src,by rw[if_pos hz],z,.inl ⟨List.eq_nil_of_length_eq_zero hz,rfl⟩⟩
    · obtain⟨p,f⟩:∃p,a[a.length-1]? = some p:=⟨_,List.getElem?_eq_getElem Xx⟩
      have:=h.le g f;exact⟨p+16,by rw[if_neg hz,lQ f],by omega,.inr ⟨p,f,by omega,rfl⟩⟩
  obtain⟨q,V,N,m⟩:=m;rw[V];have D:∀r,r+8<=b.length->(q+8<=r\/r+8<=q)->dW (ig e q b.length) r=dW b r:=fun r W t=>(fC t).trans (I r W);have C:dW (ig e q b.length) q=b.length:=iN Xx Xx;have H:∀i,i<=dA (a.length:Int)->dW (ig e q b.length) (b.length+16+8*i)=0:=fun i w=>(fC Xx).trans (E i w);refine⟨?_,fun k j d=>?_,fun k j d=>?_,fun k j s d K=>?_,fun k j c d v=>?_,?_,?_⟩
  · rcases m with⟨rfl,rfl⟩|⟨p,f,T,rfl⟩
    · exact C
    have A:=B.apart g (h.ob _ _ f) rfl;rw[iB]at A;simp only at A;rw[D src z Xx,h.word,ri,if_neg Xx]
  · rcases ul d with⟨_,d⟩|⟨rfl,rfl⟩
    · exact List.mem_append_left _ (h.ob k j d)
    exact List.mem_append_right _ Oy
  · rcases ul d with⟨hk,d⟩|⟨rfl,rfl⟩
    · have Q:=h.le g d
      rcases m with⟨rfl,_⟩|⟨p,f,T,rfl⟩
      · simp at hk
      by_cases hk2:k=a.length-1
      · subst hk2;rw[f]at d;cases d
        rw[C,ri,if_pos Xx]
      have:=h.apart g d f hk2;rw[D _ Xx Xx,h.next k j d,ri,if_neg Xx]
    have:=H 0 Xx;rw[Nat.mul_zero,Nat.add_zero]at this;rw[this,ri,if_neg Xx];simp
  · rcases ul d with⟨hk,d⟩|⟨rfl,rfl⟩
    · have Q:=h.le g d
      have:q+8<=j+24+8*s\/j+24+8*s+8<=q:=by
        rcases m with⟨rfl,_⟩|⟨p,f,T,rfl⟩
        · simp at hk
        · by_cases hk2:k=a.length-1
          · subst hk2;rw[f]at d;cases d;omega
          · have:=h.apart g d f hk2;omega
      rw[D _ Xx this];exact h.gN k j s d K
    have:=H (s+1) Xx;rw[show b.length+16+8*(s+1)=b.length+24+8*s by omega]at this;rw[this];symm;simp only[List.getD_eq_getElem?_getD];rw[List.getElem?_eq_none Xx];rfl
  · rcases ul v with⟨hk,v⟩|⟨hk,rfl⟩
    · rcases ul d with⟨_,d⟩|⟨rfl,_⟩
      · exact h.AI k j c d v
      omega
    rcases ul d with⟨_,d⟩|⟨rfl,_⟩
    · have:=h.le g d;omega
    omega
  · simp only[List.length_append,List.length_singleton,Nat.add_sub_cancel];omega
  simp only[List.length_append,List.length_singleton];omega
end Go.Wk
namespace Go.Wk
open Go Go.RowKit
structure Cn (m:Mk) (l:List Ob):Prop where
  len:19<=m.h.n.length
  n6:m.bS 6=iZ (l.map Ob.pos)
  n7:m.bS 7=l.length%18446744073709551616
  n17:m.bS 17=0
  n18:m.bS 18=(l.filter fun o=>decide (o.kind=6)).length%18446744073709551616
  k:∀o∈l,o.kind≠7/\(o.kind=6->∃r,1<=r/\o.size=24+8*r)/\(o.kind=4\/o.kind=5->∃r,1<=r/\o.size=16+16*r)
theorem Cn.to {m m':Mk} {l:List Ob} (h:Cn m l) (b:m'.h.n.length=m.h.n.length) (a:∀i,i=6\/i=7\/i=17\/i=18->m'.bS i=m.bS i):Cn m' l :=
  ⟨by rw[b];exact h.len,(a 6 Xx).trans h.n6,(a 7 Xx).trans h.n7,(a 17 Xx).trans h.n17,(a 18 Xx).trans h.n18,h.k⟩
theorem Cn.same {m m':Mk} {l:List Ob} (h:Cn m l) (e:m'.h=m.h):Cn m' l:=h.to (by rw[e]) fun i _=>by show m'.h.n.getD i 0=_;rw[e];rfl
theorem EH (a:List Nat) (x:Nat):iZ (a ++ [x])=x:=lQ Oy
theorem AW {m:Mk} {k v:Nat} (h:k<m.h.n.length):(m.cE k v).bS k=v:=mR h
theorem Cn.obj {m:Mk} {l:List Ob} (h:Cn m l) (o:Ly) {k s:Nat} (hk:k<=3):Cn (m.bU o).2 (l ++ [⟨m.b.length,k,s⟩]):=by
  have B:=h.len;refine⟨by simp[Mk.bU,Mk.cE];omega,?_,?_,?_,?_,fun x A=>?_⟩
  · simp only[Mk.bU]
    rw[cJ Xx,AW (by show 6<m.h.n.length;omega),List.map_append];exact(EH _ _).symm
  · simp only[Mk.bU]
    rw[AW (by simp[Mk.cE];omega),cJ Xx];show(m.bS 7+1)%_=_;rw[h.n7,List.length_append,List.length_singleton];omega
  · simp only[Mk.bU]
    rw[cJ Xx,cJ Xx];exact h.n17
  · simp only[Mk.bU]
    rw[cJ Xx,cJ Xx,List.filter_append,List.filter_cons_of_neg Ym,List.filter_nil,List.append_nil];exact h.n18
  rcases List.mem_append.1 A with A|A
  · exact h.k x A
  simp at A;subst A;exact⟨by simp only;omega,fun h=>by simp only at h;omega,fun h=>by simp only at h;omega⟩
theorem Cn.arr {m:Mk} {l:List Ob} (h:Cn m l) (o:Ly) {r:Nat} (c:1<=r):Cn ((m.bU o).2.cE 18 (((m.bU o).2.bS 18+1)%18446744073709551616)) (l ++ [⟨m.b.length,6,24+8*r⟩]):=by
  have C:=h.len;have g:=h.obj o (k:=0) (s:=0) Xx;have d:=g.len;refine⟨by simp[Mk.cE];omega,?_,?_,?_,?_,fun x a=>?_⟩
  · rw[cJ Xx,g.n6,List.map_append,List.map_append];rw[List.map_singleton,List.map_singleton,EH]
  · rw[cJ Xx,g.n7,List.length_append,List.length_append];rfl
  · rw[cJ Xx];exact g.n17
  · rw[AW Xx,g.n18,List.filter_append,List.filter_append,List.filter_cons_of_neg Oy,List.filter_nil,List.append_nil,List.filter_cons_of_pos Oy,List.filter_nil,List.length_append,List.length_singleton];omega
  rcases List.mem_append.1 a with a|a
  · exact h.k x a
  simp at a;subst a;exact⟨by simp,fun _=>⟨r,c,q⟩,fun h=>by simp at h⟩
structure Linked (m m':Mk) (l l':List Ob) (src:Nat) (av av' aF:List Nat) (x:Nat):Prop where
  eF:fE m'.b 272 l' m'.b.length
  sub:l'=l\/l'=l ++ [(⟨m.b.length,6,24+8*dA (av.length:Int)⟩:Ob)]
  arr:av'=av\/av'=av ++ [m.b.length]
  chain:Chain m'.b l' src av' (aF ++ [x])
  l7:Eff (zy src av') m.b m'.b
  ne:av'≠[]
  top:m'.b.length<=m.b.length+2100
  same:m'.c=m.c/\m'.ai=m.ai/\m'.ak=m.ak/\m'.main=m.main/\m'.depth=m.depth/\∀i,i≠6->i≠7->i≠18->m'.bS i=m.bS i
  cn:Cn m l->Cn m' l'
theorem MP {m:Mk} {l:List Ob} {src x:Nat} {a aF:List Nat} (F:fE m.b 272 l m.b.length) (h:Chain m.b l src a aF) (N:Src l src) (hb:m.b.length<900000) (S:x<18446744073709551616) :
    ∃ah,Linked m (m.link a aF.length src x).2.2 l ah src a (m.link a aF.length src x).1 aF x:=by
  unfold Mk.link;rw[abo];simp only;split
  · rename_i hn
    have g:=h.grow F N Xx hn;simp only at g;obtain⟨V,W⟩:=g;generalize hl1:l ++ [(⟨m.b.length,6,24+8*dA (a.length:Int)⟩:Ob)]=l1 at *;generalize hq:(if a.length=0 then src else iZ a+16)=qv at W;have I:(m.bU (fe {next:=0,aF:=List.replicate (dA (a.length:Int)) 0})).2.b=m.b ++ LM (dA (a.length:Int)):=rfl;have E:(m.bU (fe {next:=0,aF:=List.replicate (dA (a.length:Int)) 0})).1=m.b.length:=rfl;have A:=dR m (fe {next:=0,aF:=List.replicate (dA (a.length:Int)) 0});have H:(m.bU (fe {next:=0,aF:=List.replicate (dA (a.length:Int)) 0})).2.depth=m.depth:=rfl;have O:∀i,i≠6->i≠7->(m.bU (fe {next:=0,aF:=List.replicate (dA (a.length:Int)) 0})).2.bS i=m.bS i:=fun i n t=>by simp only[Mk.bU];rw[cJ Xx,cJ Xx];rfl
    have J:=fun h:Cn m l=>h.arr (fe {next:=0,aF:=List.replicate (dA (a.length:Int)) 0}) (r:=dA (a.length:Int)) (by have:=rK (k:=(a.length:Int)) Xx;omega);rw[hl1]at J;generalize m.bU (fe {next:=0,aF:=List.replicate (dA (a.length:Int)) 0})=r at *;obtain⟨p,d⟩:=r;simp only at I E A H O J ⊢;subst E;have ap:=tY (a.length:Int);have ao:=rK (k:=(a.length:Int)) Xx;have al:d.b.length=m.b.length+(24+8*dA (a.length:Int)):=(by rw[I];simp[OQ]);have Y:mG (a ++ [m.b.length]).length=mG a.length+dA (a.length:Int):=(by simp[mG]);have Q:Src l1 src:=N.mono fun o s=>by rw[<- hl1];exact List.mem_append_left _ s
    have P:Body l1 qv/\(qv=src\/∃k c:Nat,(a ++ [m.b.length])[k]? = some c/\qv=c+16):=by
      rw[<- hq];split
      · exact⟨Q.body,.inl q⟩
      · rename_i v
        obtain⟨p,G⟩:∃p,a[a.length-1]? = some p:=⟨_,List.getElem?_eq_getElem Xx⟩;rw[lQ G];have s:=h.ob _ _ G;refine⟨.inr ⟨⟨p,6,24+8*dA ((a.length-1:Nat):Int)⟩,?_,Nat.le_refl _,?_⟩,.inr ⟨a.length-1,p,by rw[List.getElem?_append_left Xx];exact G,q⟩⟩
        · rw[<- hl1];exact List.mem_append_left _ s
        · rw[iB];simp only;omega
    rw[I.symm]at V W;have U:Eff (fun j=>j=qv) d.b (ig d.b qv m.b.length):=Eff.put _ _ _;have L:fE (ig d.b qv m.b.length) 272 l1 (ig d.b qv m.b.length).length:=(by rw[eO];exact V.l7 U (Nat.le_refl _) fun o s j C=>by subst C;exact V.body P.1 s);have D:(a ++ [m.b.length])[(a ++ [m.b.length]).length-1]? = some m.b.length:=(by simp);have B:=W.put (x:=x) (p:=m.b.length) L Q (Nat.le_refl _) S Oy D (by rw[Y];omega);have X:aF.length-mG ((a ++ [m.b.length]).length-1)=0:=(by simp;omega);rw[X]at B;have u:Eff (fun j=>j=m.b.length+24+8*0) (ig d.b qv m.b.length) (ig (ig d.b qv m.b.length) (m.b.length+24+8*0) x):=Eff.put _ _ _;have f:fE (ig (ig d.b qv m.b.length) (m.b.length+24+8*0) x) 272 l1 (ig (ig d.b qv m.b.length) (m.b.length+24+8*0) x).length:=by
      rw[eO];refine L.l7 u (Nat.le_refl _) fun o s j C=>?_;subst C;refine L.body (.inr ⟨⟨m.b.length,6,24+8*dA (a.length:Int)⟩,?_,?_,?_⟩) s
      · rw[<- hl1];simp
      · simp only;omega
      · rw[iB];simp only;omega
    have R:∀e:Mk,e=(if a.length=0 then(d.cE 18 ((d.bS 18+1)%18446744073709551616)).put src m.b.length else(d.cE 18 ((d.bS 18+1)%18446744073709551616)).put (iZ a+16) m.b.length)->e.b=ig d.b qv m.b.length/\e.c=d.c/\e.ai=d.ai/\e.ak=d.ak/\e.main=d.main/\e.depth=d.depth/\e.h=(d.cE 18 ((d.bS 18+1)%18446744073709551616)).h/\∀i,i≠18->e.bS i=d.bS i:=by
      intro e z;subst z;rw[<- hq];split
      · exact⟨q,q,q,q,q,q,q,fun i hi=>cJ (m:=d) Xx⟩
      · exact⟨q,q,q,q,q,q,q,fun i hi=>cJ (m:=d) Xx⟩
    have M:=R _ q;clear R;generalize (if a.length=0 then(d.cE 18 ((d.bS 18+1)%18446744073709551616)).put src m.b.length else(d.cE 18 ((d.bS 18+1)%18446744073709551616)).put (iZ a+16) m.b.length)=e at *;obtain⟨T,M,ab,ad,ae,af,aa,ag⟩:=M;rw[lQ D,show aF.length-mG a.length=0 by omega];rw[<- T]at f B u;have ml:(e.put (m.b.length+24+8*0) x).b=ig e.b (m.b.length+24+8*0) x:=rfl;refine⟨l1,⟨by rw[ml];exact f,.inr hl1.symm,.inr q,by rw[ml];exact B,?_,by simp,?_,⟨M.trans A.1,ab.trans A.2.1,ad.trans A.2.2.1,ae.trans A.2.2.2,af.trans H,fun i n t y=>(ag i y).trans (O i n t)⟩,fun h=>(J h).same aa⟩⟩
    · rw[ml,T]
      have aj:Eff (zy src (a ++ [m.b.length])) m.b d.b:=(by rw[I];exact Eff.app _ _ _);refine aj.trans ((U.mono fun j C=>?_).trans ((T ▸ u).mono fun j C=>?_))
      · subst C
        rcases P.2 with h|⟨k,c,E,w⟩
        · exact .inl h
        exact .inr ⟨k,c,E,by omega,by omega⟩
      subst C;exact .inr ⟨a.length,m.b.length,by simp,by omega,by omega⟩
    rw[ml,eO,T,eO];omega
  rename_i hn;have an:=h.lo;have Z:=h.hi;have K:a≠[]:=by rintro rfl;have E:aF.length<=0:=Z;have w:¬aF.length=0:=hn;omega
  have v:=List.length_pos_iff.2 K;obtain⟨p,G⟩:∃p,a[a.length-1]? = some p:=⟨_,List.getElem?_eq_getElem Xx⟩;rw[lQ G];have B:=h.put F N (Nat.le_refl _) S K G Xx;have am:=h.le F G;have aq:mG a.length=mG (a.length-1)+dA ((a.length-1:Nat):Int):=by have:a.length=(a.length-1)+1:=(by omega);rw[this];rfl
  generalize hq:p+24+8*(aF.length-mG (a.length-1))=qv at *;have u:Eff (fun j=>j=qv) m.b (ig m.b qv x):=Eff.put _ _ _;refine⟨l,⟨?_,.inl q,.inl q,B,u.mono fun j C=>?_,K,?_,⟨q,q,q,q,q,fun _ _ _ _=>rfl⟩,fun h=>h.same q⟩⟩
  · show fE (ig m.b qv x) 272 l (ig m.b qv x).length
    rw[eO];refine F.l7 u (Nat.le_refl _) fun o s j C=>?_;subst C;refine F.body (.inr ⟨_,h.ob _ _ G,?_,?_⟩) s
    · simp only;omega
    rw[iB];simp only;omega
  · subst C
    exact .inr ⟨a.length-1,p,G,by omega,by omega⟩
  show(ig m.b qv x).length<=_;rw[eO];omega
end Go.Wk
namespace Go.Wk
open Go Go.RowKit
def sK (l:List Ob) (a:Nat):Prop:=∀o∈l,(a+8<=o.pos\/o.pos+16<=a) /\
  (o.kind=1->a+8<=o.pos+16\/o.pos+24<=a/\a+8<=o.pos+64\/o.pos+oP o.size<=a) /\
  (o.kind=2->a+8<=o.pos+16\/o.pos+24<=a/\a+8<=o.pos+40\/o.pos+oP o.size<=a) /\
  (o.kind=3->a+8<=o.pos\/o.pos+oP o.size<=a)
theorem AV {b:Ly} {l:List Ob} {e a:Nat} (d:fE b 272 l e) {x:Ob} (j:x∈l) (h1:x.pos+16<=a) (k:a+8<=x.pos+oP x.size) (f:x.kind≠3) (g:x.kind=1->x.pos+24<=a/\a+8<=x.pos+64) (i:x.kind=2->x.pos+24<=a/\a+8<=x.pos+40):sK l a:=by
  intro o c;have:=dQ o.size;have:=dQ x.size;have:=(d.mem c).size.1
  rcases d.sep c j with rfl|B|B
  · refine⟨by omega,fun h=>.inr (.inl (g h)),fun h=>.inr (.inl (i h)),fun h=>absurd h f⟩
  · exact⟨by omega,fun _=>by omega,fun _=>by omega,fun _=>by omega⟩
  exact⟨by omega,fun _=>by omega,fun _=>by omega,fun _=>by omega⟩
theorem JP {b:Ly} {l:List Ob} {e a:Nat} (c:fE b 272 l e) (h:a+8<=272):sK l a:=fun o d=>by have:=(c.mem d).ge;exact⟨by omega,fun _=>by omega,fun _=>by omega,fun _=>by omega⟩
theorem sK.mono {l r:List Ob} {a:Nat} (h:sK r a) (c:∀o∈l,o∈r):sK l a:=fun o b=>h o (c o b)
def oS (l:List Ob) (a:Nat):Prop:=∃o∈l,((o.kind=4\/o.kind=5)/\o.pos+16<=a/\a+8<=o.pos+oP o.size)\/(((o.kind=1/\64<=o.size)\/(o.kind=2/\40<=o.size))/\(a=o.pos+24\/a=o.pos+32))
theorem oS.mono {l r:List Ob} {a:Nat} (h:oS l a) (c:∀o∈l,o∈r):oS r a:=by obtain⟨o,b,h⟩:=h;exact⟨o,c o b,h⟩
theorem oS.adK {b:Ly} {l:List Ob} {e a:Nat} (h:oS l a) (f:fE b 272 l e):sK l a:=by
  obtain⟨o,d,⟨C,c,D⟩|⟨C,c⟩⟩:=h
  · exact AV f d c D Xx Xx Xx
  have:=dQ o.size;exact AV f d Xx Xx Xx Xx Xx
theorem oS.at {b:Ly} {l:List Ob} {e a:Nat} (h:oS l a) (d:fE b 272 l e):272<=a/\a+8<=e/\∀o∈l,(o.kind=1->a+8<=o.pos+40\/o.pos+oP o.size<=a)/\(o.kind=6->a+8<=o.pos\/o.pos+oP o.size<=a):=by
  obtain⟨x,D,h⟩:=h;have C:=d.mem D;have hk:=C.le;have G:=C.ge;have g:=dQ x.size;have c:x.pos+16<=a/\a+8<=x.pos+oP x.size/\x.kind≠6/\(x.kind=1->a+8<=x.pos+40):=by
    rcases h with⟨E,A,F⟩|⟨E,A⟩
    · exact⟨A,F,by omega,by omega⟩
    · exact⟨by omega,by omega,by omega,by omega⟩
  refine⟨by omega,by omega,fun o f=>?_⟩;have:=dQ o.size
  rcases d.sep f D with rfl|H|H
  · exact⟨fun h=>.inl (c.2.2.2 h),fun h=>absurd h c.2.2.1⟩
  · exact⟨fun _=>by omega,fun _=>by omega⟩
  exact⟨fun _=>by omega,fun _=>by omega⟩
def cM (m:Mk) (s:Ly):Nat:=cP m.c.cC m.c.cg s
structure sP (b:Ly) (l:List Ob) (h:Nat) (k:aN):Prop where
  ob:(⟨k.pos,1,64+k.bQ.length⟩:Ob)∈l
  bY:dW b (k.pos+16)=h
  bQ:seg b (k.pos+64) k.bQ.length=k.bQ
structure HV (b:Ly) (l:List Ob) (h:Nat) (k:aN):Prop where
  ob:(⟨k.pos,2,40+k.bQ.length⟩:Ob)∈l
  bY:dW b (k.pos+16)=h
  bQ:seg b (k.pos+40) k.bQ.length=k.bQ
theorem sP.l7 {b c:Ly} {l r:List Ob} {n:Nat} {k:aN} {S:Nat->Prop} (h:sP b l n k) (i:fE b 272 l b.length) (f:Eff S b c) (g:∀a,S a->sK l a) (j:∀o∈l,o∈r):sP c r n k:=by
  have e:=(i.mem h.ob).le;have C:=dQ (64+k.bQ.length);refine⟨j _ h.ob,(f.dW (by simp only at e;omega) fun a d=>?_).trans h.bY,(f.seg _ _ (by simp only at e;omega) fun a d=>?_).trans h.bQ⟩
  · have:=(g a d _ h.ob).2.1 rfl;simp only at this;omega
  have:=(g a d _ h.ob).2.1 rfl;simp only at this;omega
theorem HV.l7 {b c:Ly} {l r:List Ob} {n:Nat} {k:aN} {S:Nat->Prop} (h:HV b l n k) (i:fE b 272 l b.length) (f:Eff S b c) (g:∀a,S a->sK l a) (j:∀o∈l,o∈r):HV c r n k:=by
  have e:=(i.mem h.ob).le;have C:=dQ (40+k.bQ.length);refine⟨j _ h.ob,(f.dW (by simp only at e;omega) fun a d=>?_).trans h.bY,(f.seg _ _ (by simp only at e;omega) fun a d=>?_).trans h.bQ⟩
  · have:=(g a d _ h.ob).2.2.1 rfl;simp only at this;omega
  have:=(g a d _ h.ob).2.2.1 rfl;simp only at this;omega
structure Stat (m:Mk) (l:List Ob):Prop where
  eF:fE m.b 272 l m.b.length
  GK:(⟨272,4,16+16*m.c.ay⟩:Ob)∈l
  O1:(⟨288+16*m.c.ay,5,16+16*m.c.aC⟩:Ob)∈l
  n2:m.bS 2=288
  n4:m.bS 4=304+16*m.c.ay
  slots:1<=m.c.ay/\1<=m.c.aC
  data:∀k∈m.ai,sP m.b l (cM m k.bQ) k
  fld:∀k∈m.ak,HV m.b l (cM m k.bQ) k
  one:∀i j:Nat,∀k k':aN,m.ai[i]? = some k->m.ai[j]? = some k'->k.pos=k'.pos\/k.bQ=k'.bQ->i=j
  all:∀o∈l,o.kind=1->∃k∈m.ai,k.pos=o.pos
  afW:∀o∈l,o.kind=2->∃k∈m.ak,k.pos=o.pos
  cn:Cn m l
structure dP (m m':Mk) (l l':List Ob):Prop where
  eF:fE m'.b 272 l' m'.b.length
  sub:∃t,l'=l ++ t/\∀o∈t,(o.kind=1\/o.kind=2)/\m.b.length<=o.pos
  l7:Eff (oS l') m.b m'.b
  same:m'.c=m.c/\m'.main=m.main/\∀i,i≠6->i≠7->i<15->m'.bS i=m.bS i
  cn:Cn m l->Cn m' l'
theorem dP.mem {m m':Mk} {l a:List Ob} (h:dP m m' l a):∀o∈l,o∈a:=by obtain⟨t,c,_⟩:=h.sub;intro o b;rw[c];exact List.mem_append_left _ b
theorem dP.refl {m:Mk} {l:List Ob} (h:fE m.b 272 l m.b.length):dP m m l l:=⟨h,⟨[],by simp,by simp⟩,Eff.refl _ _,⟨q,q,fun _ _ _ _=>rfl⟩,id⟩
theorem dP.trans {m m' m'':Mk} {l d e:List Ob} (h:dP m m' l d) (k:dP m' m'' d e):dP m m'' l e:=by
  obtain⟨t,n,j⟩:=h.sub;obtain⟨p,f,G⟩:=k.sub;have H:=h.l7.len;refine⟨k.eF,⟨t ++ p,by rw[f,n,List.append_assoc],fun o a=>?_⟩,(h.l7.mono fun q g=>g.mono k.mem).trans k.l7,⟨k.same.1.trans h.same.1,k.same.2.1.trans h.same.2.1,fun i b C D=>(k.same.2.2 i b C D).trans (h.same.2.2 i b C D)⟩,fun c=>k.cn (h.cn c)⟩
  rcases List.mem_append.1 a with a|a
  · exact j o a
  have:=G o a;exact⟨this.1,by omega⟩
theorem dP.to {m m' m'':Mk} {l d:List Ob} (h:dP m m' l d) (hb:m''.b=m'.b) (j:m''.c=m'.c) (o:m''.main=m'.main) (a:∀i,i≠15->i≠16->i≠19->m''.bS i=m'.bS i) (k:m''.h.n.length=m'.h.n.length):dP m m'' l d :=
  ⟨by rw[hb];exact h.eF,h.sub,by rw[hb];exact h.l7,⟨j.trans h.same.1,o.trans h.same.2.1,fun i e f g=>(a i Xx Xx Xx).trans (h.same.2.2 i e f g)⟩,fun c=>(h.cn c).to k fun i hi=>a i Xx Xx Xx⟩
theorem dP.put {m:Mk} {l:List Ob} {a:Nat} (v:Nat) (e:fE m.b 272 l m.b.length) (f:oS l a):dP m (m.put a v) l l:=by have g:=f.adK e;refine⟨?_,⟨[],by simp,by simp⟩,(Eff.put m.b a v).mono fun x d=>d ▸ f,⟨q,q,fun _ _ _ _=>rfl⟩,fun c=>c.same q⟩;show fE (ig m.b a v) 272 l (ig m.b a v).length;rw[eO];exact e.l7 (Eff.put m.b a v) (Nat.le_refl _) fun o C x d=>by subst d;exact(g o C).1
theorem ads {o h r:Ly} (e:o=(h ++ r)) (a:h.length=16):seg o 0 16=h:=by subst e;exact lW _ _ a.symm
theorem dP.obj {m:Mk} {l:List Ob} {o r:Ly} {k s:Nat} (g:fE m.b 272 l m.b.length) (hk:k=1\/k=2) (h:o=TU k s ++ r) (j:o.length=oP s) (f:16<=s) (u:s<1000000):dP m (m.bU o).2 l (l ++ [⟨m.b.length,k,s⟩]):=by
  have d:(m.bU o).2.b=m.b ++ o:=rfl;refine⟨?_,⟨_,q,fun x C=>?_⟩,by rw[d];exact Eff.app _ _ _,⟨q,q,fun i t a G=>?_⟩,fun c=>c.obj o Xx⟩
  · have D:=(g.l7 (Eff.app (fun _=>False) m.b o) (Nat.le_refl _) (fun _ _ _ e=>e.elim)).app (o:=⟨m.b.length,k,s⟩) q Zx Zx f Zx ?_
    · rw[d,List.length_append,j];exact D
    have a:=iG (x:=m.b) (y:=o) (p:=m.b.length) (n:=16) (Nat.le_refl _);rw[Nat.sub_self,ads h (jP _ _)]at a;exact a
  · simp at C;subst C;exact⟨hk,Nat.le_refl _⟩
  simp only[Mk.bU];rw[cJ Xx,cJ Xx];rfl
theorem yF {bV:Nat}:∀(l:List aN) (n q:Nat),(nD bV l n q).1=n/\(nD bV l n q).2=q\/n<(nD bV l n q).1/\∃k∈l,(nD bV l n q).2=k.pos
  | [],_,_=>.inl ⟨rfl,rfl⟩
  | k :: r,n,q=>by
    simp only[nD];split
    · rcases yF (bV:=bV) r (n+1) k.pos with⟨h1,h2⟩|⟨h1,y,hy,h2⟩
      · exact .inr ⟨by omega,k,by simp,h2⟩
      · exact .inr ⟨by omega,y,by simp[hy],h2⟩
    · rcases yF (bV:=bV) r n q with h|⟨h1,y,hy,h2⟩
      · exact .inl h
      · exact .inr ⟨h1,y,by simp[hy],h2⟩
theorem dP.hang {m:Mk} {l:List Ob} {ks:List aN} {table p bV:Nat} (d:fE m.b 272 l m.b.length) (c:oS l (table+16*bV)/\oS l (table+16*bV+8)) (hk:∀k∈ks,oS l (k.pos+24)):dP m (m.hang ks table p bV).2 l l:=by
  unfold Mk.hang;have C:=yF (bV:=bV) ks 0 0;generalize nD bV ks 0 0=r at *;obtain⟨n,q⟩:=r;simp only at C ⊢;split
  · have a:=dP.put (m:=m) p d c.1
    exact a.trans (dP.put (m:=m.put (table+16*bV) p) p a.eF c.2)
  rename_i hn;have e:oS l (q+24):=by
    rcases C with⟨a,_⟩|⟨_,k,B,D⟩
    · omega
    · rw[D];exact hk k B
  have a:=dP.put (m:=m) p d e;exact a.trans (dP.put (m:=m.put (q+24) p) p a.eF c.2)
end Go.Wk
namespace Go.Wk
open Go Go.RowKit
theorem qg (b o:Ly) (q:Nat):dW (b ++ o) (b.length+q)=dW o q:=by rw[gJ Xx,Nat.add_sub_cancel_left]
theorem SV (b o:Ly) (q n:Nat):seg (b ++ o) (b.length+q) n=seg o q n:=by rw[iG Xx,Nat.add_sub_cancel_left]
theorem adT {k:Nat} (hk:1<=k/\k<=7) (ns:List Nat) (t:Ly) (b:∀v∈ns,v<18446744073709551616) :
    (∃r,pZ k (nums ns ++ t)=TU k (16+8*ns.length+t.length) ++ r)/\(pZ k (nums ns ++ t)).length=oP (16+8*ns.length+t.length) /\
    (∀i v:Nat,ns[i]? = some v->dW (pZ k (nums ns ++ t)) (16+8*i)=v)/\seg (pZ k (nums ns ++ t)) (16+8*ns.length) t.length=t:=by
  have a:(nums ns ++ t).length=8*ns.length+t.length:=by simp[ez]
  rw[xG hk,a,show 16+(8*ns.length+t.length)=16+8*ns.length+t.length by omega];refine⟨⟨_,List.append_assoc _ _ _⟩,?_,fun i v h=>?_,?_⟩
  · rw[List.length_append,List.length_append,jP,a,List.length_replicate];unfold oP;omega
  · rw[List.append_assoc,gJ (by rw[jP];omega),jP,Nat.add_sub_cancel_left,List.append_assoc]
    exact lM h (b v (List.mem_of_getElem? h))
  rw[List.append_assoc,iG (by rw[jP];omega),jP,show 16+8*ns.length-16=8*ns.length by omega,List.append_assoc,iG (by rw[ez];omega),ez,Nat.sub_self];exact lW _ _ q
theorem tj (m:Mk) (s:Ly):cM m s<18446744073709551616:=DX _ _ _
theorem Stat.step {m m':Mk} {l a:List Ob} (h:Stat m l) (s:dP m m' l a) (hd:∀k∈m'.ai,k∈m.ai\/sP m'.b a (cM m k.bQ) k) (p:∀k∈m'.ak,k∈m.ak\/HV m'.b a (cM m k.bQ) k)
    (h1:∀i j:Nat,∀k f:aN,m'.ai[i]? = some k->m'.ai[j]? = some f->k.pos=f.pos\/k.bQ=f.bQ->i=j) (h2:∀o∈a,o.kind=1->∃k∈m'.ai,k.pos=o.pos) (h3:∀o∈a,o.kind=2->∃k∈m'.ak,k.pos=o.pos):Stat m' a:=by
  have d:=s.mem;have D:∀e,oS a e->sK l e:=fun e n=>(n.adK s.eF).mono d;obtain⟨c,G,C⟩:=s.same;have g:∀t,cM m' t=cM m t:=fun t=>by unfold cM;rw[c]
  refine⟨s.eF,by rw[c];exact d _ h.GK,by rw[c];exact d _ h.O1,(C 2 Xy Xy Xy).trans h.n2,by rw[c];exact(C 4 Xy Xy Xy).trans h.n4,by rw[c];exact h.slots,fun k hk=>?_,fun k hk=>?_,h1,h2,h3,s.cn h.cn⟩
  · rw[g]
    rcases hd k hk with hk|hk
    · exact(h.data k hk).l7 h.eF s.l7 D d
    exact hk
  rw[g]
  rcases p k hk with hk|hk
  · exact(h.fld k hk).l7 h.eF s.l7 D d
  exact hk
theorem Stat.soft {m m':Mk} {l a:List Ob} (h:Stat m l) (s:dP m m' l a) (hd:m'.ai=m.ai) (b:m'.ak=m.ak) (c:a=l):Stat m' a :=
  h.step s (fun k hk=>.inl (hd ▸ hk)) (fun k hk=>.inl (b ▸ hk)) (by rw[hd];exact h.one) (by rw[hd,c];exact h.all) (by rw[b,c];exact h.afW)
theorem alY {m:Mk} {l:List Ob} (h:Stat m l) {s:Nat} (a:s<m.c.ay):oS l (m.bS 2+16*s)/\oS l (m.bS 2+16*s+8):=by have:=dQ (16+16*m.c.ay);rw[h.n2];exact⟨⟨_,h.GK,.inl ⟨.inl q,by simp only;omega,by simp only;omega⟩⟩,⟨_,h.GK,.inl ⟨.inl q,by simp only;omega,by simp only;omega⟩⟩⟩
theorem alZ {m:Mk} {l:List Ob} (h:Stat m l) {s:Nat} (a:s<m.c.aC):oS l (m.bS 4+16*s)/\oS l (m.bS 4+16*s+8):=by have:=dQ (16+16*m.c.aC);rw[h.n4];exact⟨⟨_,h.O1,.inl ⟨.inr q,by simp only;omega,by simp only;omega⟩⟩,⟨_,h.O1,.inl ⟨.inr q,by simp only;omega,by simp only;omega⟩⟩⟩
theorem acN {m:Mk} {l:List Ob} (h:Stat m l) (name:Ly) (ag:name.length<=1000) :
    ∃j,dP m (m.field name).2 l j/\Stat (m.field name).2 j/\(∃k∈(m.field name).2.ak,k.pos=(m.field name).1)/\(m.field name).2.ai=m.ai:=by
  unfold Mk.field;cases hk:oL name m.ak with
  | some p =>
    obtain⟨k,Q,R,_⟩:=yB hk;exact⟨l,dP.refl h.eF,h,⟨k,Q,R⟩,q⟩
  | none =>
    simp only;generalize hF:gu {bY:=cP m.c.cC m.c.cg name,b9:=0,dat:=0,au:=name}=o;have L:o=pZ 2 (nums [cM m name,0,0] ++ name):=hF.symm;obtain⟨⟨r,B⟩,E,K,F⟩:=adT (k:=2) Xy [cM m name,0,0] name (by have:=tj m name;intro v g;simp at g;omega);rw[<- L]at B E K F;simp only[List.length_cons,List.length_nil,Nat.zero_add,Nat.reduceAdd,Nat.reduceMul]at B E F;have G:=dP.obj (m:=m) (o:=o) h.eF (.inr q) B E Xx Xx;have P:(m.bU o).2.b=m.b ++ o:=rfl;have V:(m.bU o).1=m.b.length:=rfl;have H:=dR m o;have W:(m.bU o).2.bS 4=m.bS 4:=(by simp only[Mk.bU];rw[cJ Xx,cJ Xx];rfl);generalize m.bU o=z at *;obtain⟨p,a⟩:=z;simp only at G P V H W ⊢;subst V;have f:cP m.c.cC m.c.cg name%a.c.aC<m.c.aC:=(by rw[H.1];exact Nat.mod_lt _ (by have:=h.slots;omega));have I:=alZ h f;rw[<- W]at I;have s:=dP.hang (m:=a) (p:=m.b.length) (ks:=a.ak) G.eF ⟨I.1.mono G.mem,I.2.mono G.mem⟩ (fun k hk=>by
      rw[H.2.2.1]at hk;have:=(h.fld k hk).ob;exact⟨_,G.mem _ this,.inr ⟨.inr ⟨q,by simp only;omega⟩,.inl q⟩⟩)
    have J:=gV a a.ak (a.bS 4) m.b.length (cP m.c.cC m.c.cg name%a.c.aC);generalize a.hang a.ak (a.bS 4) m.b.length (cP m.c.cC m.c.cg name%a.c.aC)=z at *;obtain⟨n,d⟩:=z;simp only at s J ⊢;obtain⟨aa,S,T,ab,ad,ae⟩:=J;have M:=G.trans s;obtain⟨e,C⟩:∃e,e=({({d with depth:=max a.depth n}:Mk).cE 16 ((({d with depth:=max a.depth n}:Mk).bS 16+1)%18446744073709551616)with ak:=(({d with depth:=max a.depth n}:Mk).cE 16 ((({d with depth:=max a.depth n}:Mk).bS 16+1)%18446744073709551616)).ak ++ [({bQ:=name,pos:=m.b.length,bV:=cP m.c.cC m.c.cg name%a.c.aC,bw:=0,aT:=[]}:aN)]}:Mk):=⟨_,q⟩;show ∃j,dP m ({({d with depth:=max a.depth n}:Mk).cE 16 ((({d with depth:=max a.depth n}:Mk).bS 16+1)%18446744073709551616)with ak:=(({d with depth:=max a.depth n}:Mk).cE 16 ((({d with depth:=max a.depth n}:Mk).bS 16+1)%18446744073709551616)).ak ++ [({bQ:=name,pos:=m.b.length,bV:=cP m.c.cC m.c.cg name%a.c.aC,bw:=0,aT:=[]}:aN)]}:Mk) l j/\Stat ({({d with depth:=max a.depth n}:Mk).cE 16 ((({d with depth:=max a.depth n}:Mk).bS 16+1)%18446744073709551616)with ak:=(({d with depth:=max a.depth n}:Mk).cE 16 ((({d with depth:=max a.depth n}:Mk).bS 16+1)%18446744073709551616)).ak ++ [({bQ:=name,pos:=m.b.length,bV:=cP m.c.cC m.c.cg name%a.c.aC,bw:=0,aT:=[]}:aN)]}:Mk) j/\(∃k∈({({d with depth:=max a.depth n}:Mk).cE 16 ((({d with depth:=max a.depth n}:Mk).bS 16+1)%18446744073709551616)with ak:=(({d with depth:=max a.depth n}:Mk).cE 16 ((({d with depth:=max a.depth n}:Mk).bS 16+1)%18446744073709551616)).ak ++ [({bQ:=name,pos:=m.b.length,bV:=cP m.c.cC m.c.cg name%a.c.aC,bw:=0,aT:=[]}:aN)]}:Mk).ak,k.pos=m.b.length)/\({({d with depth:=max a.depth n}:Mk).cE 16 ((({d with depth:=max a.depth n}:Mk).bS 16+1)%18446744073709551616)with ak:=(({d with depth:=max a.depth n}:Mk).cE 16 ((({d with depth:=max a.depth n}:Mk).bS 16+1)%18446744073709551616)).ak ++ [({bQ:=name,pos:=m.b.length,bV:=cP m.c.cC m.c.cg name%a.c.aC,bw:=0,aT:=[]}:aN)]}:Mk).ai=m.ai;rw[<- C];have A:e.b=d.b/\e.c=d.c/\e.main=d.main/\e.ai=d.ai/\e.ak=d.ak ++ [({bQ:=name,pos:=m.b.length,bV:=cP m.c.cC m.c.cg name%a.c.aC,bw:=0,aT:=[]}:aN)]:=(by subst C;exact⟨q,q,q,q,q⟩);have S4:=M.to (m'':=e) A.1 A.2.1 A.2.2.1 (fun i _ _ af=>by
      subst C;exact(cJ (m:={d with depth:=max a.depth n}) Xx)) (by subst C;simp[Mk.cE])
    clear C;obtain⟨N,w,y,O,u⟩:=A;have D:e.ai=m.ai:=(by rw[O,S,H.2.1]);refine⟨_,S4,h.step S4 (fun k hk=>.inl (D ▸ hk)) (fun k hk=>?_) (by rw[D];exact h.one) (fun x C hk=>?_) (fun x C hk=>?_),?_,D⟩
    · rw[u,T,H.2.2.1,List.mem_append,List.mem_singleton]at hk
      rcases hk with hk|rfl
      · exact .inl hk
      · right
        have X:HV a.b (l ++ [⟨m.b.length,2,40+name.length⟩]) (cM m name) ({bQ:=name,pos:=m.b.length,bV:=cP m.c.cC m.c.cg name%a.c.aC,bw:=0,aT:=[]}:aN):=by
          refine⟨by simp,?_,?_⟩
          · rw[P,qg];exact K 0 _ q
          · rw[P,SV];exact F
        rw[N];exact X.l7 G.eF s.l7 (fun Z U=>U.adK s.eF) fun _ h=>h
    · rcases List.mem_append.1 C with C|C
      · rw[D];exact h.all x C hk
      · simp at C;subst C;simp at hk
    · rcases List.mem_append.1 C with C|C
      · obtain⟨k,t,Y⟩:=h.afW x C hk
        exact⟨k,by rw[u,T,H.2.2.1];exact List.mem_append_left _ t,Y⟩
      · simp at C;subst C
        exact⟨_,by rw[u];exact List.mem_append_right _ (List.mem_singleton.2 q),q⟩
    · exact⟨({bQ:=name,pos:=m.b.length,bV:=cP m.c.cC m.c.cg name%a.c.aC,bw:=0,aT:=[]}:aN),by rw[u];simp,q⟩
theorem yx:∀{s:Ly} {l:List aN} {j i:Nat},mQ s l j=some i->∃k,l[i-j]? = some k/\k.bQ=s/\j<=i
  | s,[],j,i,h=>by simp[mQ]at h
  | s,x :: l,j,i,h=>by
    simp only[mQ]at h;split at h
    · rename_i hx;simp at h;subst h;exact⟨x,by simp,hx,Nat.le_refl _⟩
    · obtain⟨k,a,b,c⟩:=yx h
      exact⟨k,by rw[show i-j=(i-(j+1))+1 by omega];simpa using a,b,by omega⟩
theorem vL:∀{s:Ly} {l:List aN} {j:Nat},mQ s l j=none->∀k∈l,k.bQ≠s
  | s,[],j,_,k,hk=>by simp at hk
  | s,x :: l,j,h,k,hk=>by
    simp only[mQ]at h;split at h
    · cases h
    · rename_i hx
      rcases List.mem_cons.1 hk with rfl|hk
      · exact hx
      · exact vL h k hk
structure zx (b:Ly) (p:Nat):Prop where
  ent:dW b (p+40)=0
  arr:dW b (p+48)=0
  cnt:dW b (p+56)=0
theorem zx.l7 {b c:Ly} {l d:List Ob} {p s:Nat} (h:zx b p) (e:(⟨p,1,s⟩:Ob)∈l) (t:64<=s) (g:fE b 272 l b.length) (i:fE c 272 d c.length) (k:∀o∈l,o∈d) (j:Eff (oS d) b c):zx c p:=by
  have f:=(g.mem e).le;have m:=dQ s;simp only at f;have a:∀q,40<=q->q<=56->dW c (p+q)=dW b (p+q):=fun q n D=>j.dW Xx fun r C=>by have:=((C.at i).2.2 _ (k _ e)).1 rfl;simp only at this;omega
  exact⟨(a 40 Xx Xx).trans h.ent,(a 48 Xx Xx).trans h.arr,(a 56 Xx Xx).trans h.cnt⟩
structure BM (m m':Mk) (l l':List Ob) (i:Nat) (t:Ly):Prop where
  step:dP m m' l l'
  eP:Stat m' l'
  got:∃k,m'.ai[i]? = some k/\k.bQ=t
  new:m'.ai=m.ai\/∃s p,m'.ai=m.ai ++ [({bQ:=t,pos:=p,bV:=s,bw:=0,aT:=[]}:aN)]/\zx m'.b p/\m.b.length<=p
theorem Ml {m:Mk} {l:List Ob} (h:Stat m l) (x:Pr) (aR:x.name.length<=64/\x.value.length<=256):∃aF,BM m (m.data x).2 l aF (m.data x).1 (au x):=by
  unfold Mk.data;cases hk:mQ (au x) m.ai 0 with
  | some i =>
    obtain⟨k,A,j,_⟩:=yx hk;exact⟨l,dP.refl h.eF,h,⟨k,by simpa using A,j⟩,.inl q⟩
  | none =>
    simp only;have ap:=vL hk;have aH:=ic x;generalize hF:iu {bY:=cP m.c.cC m.c.cg (au x),b9:=0,dr:=0,entry:=0,array:=0,bw:=0,au:=au x}=o;have an:o=pZ 1 (nums [cM m (au x),0,0,0,0,0] ++ au x):=hF.symm;obtain⟨⟨r,f1⟩,L,E,M⟩:=adT (k:=1) Xy [cM m (au x),0,0,0,0,0] (au x) (by have:=tj m (au x);intro v aD;simp at aD;omega);rw[<- an]at f1 L E M;simp only[List.length_cons,List.length_nil,Nat.zero_add,Nat.reduceAdd,Nat.reduceMul]at f1 L M;have s:=dP.obj (m:=m) (o:=o) h.eF (.inl q) f1 L Xx Xx;have Q:(m.bU o).2.b=m.b ++ o:=rfl;have af:(m.bU o).1=m.b.length:=rfl;have T:=dR m o;have ag:(m.bU o).2.bS 2=m.bS 2:=(by simp only[Mk.bU];rw[cJ Xx,cJ Xx];rfl);generalize m.bU o=z at *;obtain⟨p,d⟩:=z;simp only at s Q af T ag ⊢;subst af;have aC:cP m.c.cC m.c.cg (au x)%d.c.ay<m.c.ay:=(by rw[T.1];exact Nat.mod_lt _ (by have:=h.slots;omega));have S:=alY h aC;rw[<- ag]at S;have u:=dP.hang (m:=d) (p:=m.b.length) (ks:=d.ai) s.eF ⟨S.1.mono s.mem,S.2.mono s.mem⟩ (fun k hk=>by
      rw[T.2.1]at hk;have:=(h.data k hk).ob;exact⟨_,s.mem _ this,.inr ⟨.inl ⟨q,by simp only;omega⟩,.inl q⟩⟩)
    have G:=gV d d.ai (d.bS 2) m.b.length (cP m.c.cC m.c.cg (au x)%d.c.ay);generalize hsl:cP m.c.cC m.c.cg (au x)%d.c.ay=bV at *;generalize d.hang d.ai (d.bS 2) m.b.length bV=z at *;obtain⟨n,a⟩:=z;simp only at u G ⊢;obtain⟨aL,az,aA,aM,aO,aP⟩:=G;have ax:=s.trans u;generalize hx5:({(a.cE 19 (max (a.bS 19) n)).cE 15 (((a.cE 19 (max (a.bS 19) n)).bS 15+1)%18446744073709551616)with ai:=((a.cE 19 (max (a.bS 19) n)).cE 15 (((a.cE 19 (max (a.bS 19) n)).bS 15+1)%18446744073709551616)).ai ++ [({bQ:=au x,pos:=m.b.length,bV:=bV,bw:=0,aT:=[]}:aN)]}:Mk)=m5;have g:m5.b=a.b/\m5.c=a.c/\m5.main=a.main/\m5.ak=a.ak/\m5.ai=a.ai ++ [({bQ:=au x,pos:=m.b.length,bV:=bV,bw:=0,aT:=[]}:aN)]:=(by subst hx5;exact⟨q,q,q,q,q⟩);have U:=ax.to (m'':=m5) g.1 g.2.1 g.2.2.1 (fun i _ _ aQ=>by
      subst hx5;exact(cJ (m:=a.cE 19 (max (a.bS 19) n)) Xx).trans (cJ Xx)) (by subst hx5;simp[Mk.cE])
    clear hx5;obtain⟨ad,aJ,aK,a4,a5⟩:=g;have F:m5.ai=m.ai ++ [({bQ:=au x,pos:=m.b.length,bV:=bV,bw:=0,aT:=[]}:aN)]:=(by rw[a5,az,T.2.1]);have W:m5.ak=m.ak:=(by rw[a4,aA,T.2.2.1]);have C:(⟨m.b.length,1,64+(au x).length⟩:Ob)∈l ++ [⟨m.b.length,1,64+(au x).length⟩]:=(by simp);have aq:Stat m5 (l ++ [⟨m.b.length,1,64+(au x).length⟩]):=by
      refine h.step U (fun k hk=>?_) (fun k hk=>.inl (W ▸ hk)) (fun i J k t H N e=>?_) (fun y D hk=>?_) (fun y D hk=>?_)
      · rw[F,List.mem_append,List.mem_singleton]at hk
        rcases hk with hk|rfl
        · exact .inl hk
        · right
          have aE:sP d.b (l ++ [⟨m.b.length,1,64+(au x).length⟩]) (cM m (au x)) ({bQ:=au x,pos:=m.b.length,bV:=bV,bw:=0,aT:=[]}:aN):=by
            refine⟨C,?_,?_⟩
            · rw[Q,qg];exact E 0 _ q
            · rw[Q,SV];exact M
          rw[ad];exact aE.l7 s.eF u.l7 (fun aI aB=>aB.adK u.eF) fun _ h=>h
      · rw[F]at H N
        have ae:∀(i:Nat) (k:aN),m.ai[i]? = some k->k.pos+16<=m.b.length/\k.bQ≠au x:=fun i k H=>by have ah:=List.mem_of_getElem? H;have:=(h.eF.mem (h.data k ah).ob).le;have:=dQ (64+k.bQ.length);simp only at *;exact⟨by omega,ap k ah⟩
        have K:∀(i:Nat) (k:aN),(m.ai ++ [({bQ:=au x,pos:=m.b.length,bV:=bV,bw:=0,aT:=[]}:aN)])[i]? = some k->(m.ai[i]? = some k)\/i=m.ai.length/\k={bQ:=au x,pos:=m.b.length,bV:=bV,bw:=0,aT:=[]}:=fun i k H=>by
          rcases Nat.lt_or_ge i m.ai.length with hl|hl
          · rw[List.getElem?_append_left hl]at H;exact .inl H
          · have ao:=(List.getElem?_eq_some_iff.1 H).1
            simp at ao;rw[List.getElem?_append_right hl,show i-m.ai.length=0 by omega]at H;exact .inr ⟨by omega,by simpa using H.symm⟩
        rcases K i k H with A|⟨A,rfl⟩
        · rcases K J t N with j|⟨j,rfl⟩
          · exact h.one i J k t A j e
          · have:=ae i k A
            rcases e with e|e
            · simp only at e;omega
            · exact absurd e this.2
        · rcases K J t N with j|⟨j,rfl⟩
          · have:=ae J t j
            rcases e with e|e
            · simp only at e;omega
            · exact absurd e.symm this.2
          · omega
      · rw[F]
        rcases List.mem_append.1 D with D|D
        · obtain⟨k,A,j⟩:=h.all y D hk
          exact⟨k,List.mem_append_left _ A,j⟩
        · simp at D;subst D
          exact⟨({bQ:=au x,pos:=m.b.length,bV:=bV,bw:=0,aT:=[]}:aN),List.mem_append_right _ Oy,q⟩
      · rw[W]
        rcases List.mem_append.1 D with D|D
        · exact h.afW y D hk
        · simp at D;subst D;simp at hk
    have aj:zx d.b m.b.length:=⟨by rw[Q,qg];exact E 3 _ q,by rw[Q,qg];exact E 4 _ q,by rw[Q,qg];exact E 5 _ q⟩;have al:zx m5.b m.b.length:=(by rw[ad];exact aj.l7 C Xx s.eF u.eF u.mem u.l7);obtain⟨O,I,P,⟨R,aa,ab⟩,Y⟩:=acN aq x.name Xx;have Z:=(P.fld R aa).ob;generalize m5.field x.name=z at *;obtain⟨k,B⟩:=z;simp only at I P ab Y aa Z ⊢;subst ab;have aw:=I.mem _ C;have aG:oS O (m.b.length+32):=⟨_,aw,.inr ⟨.inl ⟨q,by simp only;omega⟩,.inr q⟩⟩;have sk:oS O (R.pos+32):=⟨_,Z,.inr ⟨.inr ⟨q,by simp only;omega⟩,.inr q⟩⟩;have w:=dP.put (m:=B) (lO B.b (R.pos+32:Nat) 8).1 I.eF aG;have ar:=P.soft w q q q;have X:=dP.put (m:=B.put (m.b.length+32) (lO B.b (R.pos+32:Nat) 8).1) m.b.length w.eF sk;have av:=ar.soft X q q q;have f:=I.trans (w.trans X);have V:((B.put (m.b.length+32) (lO B.b (R.pos+32:Nat) 8).1).put (R.pos+32) m.b.length).ai=m.ai ++ [({bQ:=au x,pos:=m.b.length,bV:=bV,bw:=0,aT:=[]}:aN)]:=(by show B.ai=_;rw[Y,F]);have am:=al.l7 C Xx U.eF f.eF f.mem f.l7;refine⟨O,U.trans f,av,⟨({bQ:=au x,pos:=m.b.length,bV:=bV,bw:=0,aT:=[]}:aN),by rw[V];simp,q⟩,.inr ⟨bV,m.b.length,V,am,Nat.le_refl _⟩⟩
end Go.Wk
namespace Go.Wk
open Go Go.RowKit
structure vE (b:Ly) (l:List Ob) (k:aN) (ps:List Nat):Prop where
  cnt:k.bw=ps.length
  word:dW b (k.pos+56)=ps.length
  ent:dW b (k.pos+40)=ps.getD 0 0
  chain:Chain b l (k.pos+48) k.aT (ps.drop 1)
theorem AK {b:Ly} {l:List Ob} {n:Nat} {k:aN} (h:sP b l n k):Src l (k.pos+48):=by have:=dQ (64+k.bQ.length);exact .inr ⟨_,h.ob,by simp,by simp only;omega,by simp only;omega⟩
theorem t7 (l:List Ob):Src l 176:=.inl Xy
theorem vE.l7 {b c:Ly} {l r:List Ob} {n:Nat} {k:aN} {ps:List Nat} {S:Nat->Prop} (h:vE b l k ps) (g:sP b l n k) (f:fE b 272 l b.length) (e:Eff S b c) (m:∀o∈l,o∈r)
    (h1:∀a,S a->a+8<=k.pos+40\/k.pos+64<=a) (h2:∀i x:Nat,k.aT[i]? = some x->∀a,S a->a+8<=x+16\/x+24+8*dA (i:Int)<=a):vE c r k ps:=by
  have j:=(f.mem g.ob).le;have C:=dQ (64+k.bQ.length);simp only at j;refine⟨h.cnt,(e.dW Xx fun a d=>?_).trans h.word,(e.dW Xx fun a d=>?_).trans h.ent,h.chain.l7 f (AK g) (Nat.le_refl _) e m (fun a d=>?_) h2⟩
  · have:=h1 a d;omega
  · have:=h1 a d;omega
  have:=h1 a d;omega
theorem Chain.vH {b f:Ly} {l c:List Ob} {src e:Nat} {d aF:List Nat} (h:Chain b l src d aF) (m:fE f 272 c e) (j:∀o∈l,o∈c) {i x a:Nat} (k:d[i]? = some x) (g:∀o∈c,o.kind=6->a+8<=o.pos\/o.pos+oP o.size<=a):a+8<=x+16\/x+24+8*dA (i:Int)<=a:=by have:=g _ (j _ (h.ob i x k)) q;rw[iB]at this;simp only at this;omega
theorem vE.soft {b c:Ly} {l r:List Ob} {n:Nat} {k:aN} {ps:List Nat} (h:vE b l k ps) (f:sP b l n k) (m:fE b 272 l b.length) (d:fE c 272 r c.length) (p:Eff (oS r) b c) (e:∀o∈l,o∈r):vE c r k ps:=by
  have D:=dQ (64+k.bQ.length);refine h.l7 f m p e (fun j a=>?_) (fun i x C j a=>?_)
  · have:=((a.at d).2.2 _ (e _ f.ob)).1 q
    simp only at this;omega
  exact h.chain.vH d e C fun o g hk=>((a.at d).2.2 o g).2 hk
theorem aaw {b c:Ly} {l r:List Ob} {e aF:List Nat} (h:Chain b l 176 e aF) (j:fE b 272 l b.length) (d:fE c 272 r c.length) (k:Eff (oS r) b c) (f:∀o∈l,o∈r):Chain c r 176 e aF:=by
  refine h.l7 j (t7 l) (Nat.le_refl _) k f (fun g a=>?_) (fun i x D g a=>?_)
  · have:=(a.at d).1;omega
  exact h.vH d f D fun o C hk=>((a.at d).2.2 o C).2 hk
theorem vE.new {b:Ly} {l:List Ob} {k:aN} (h:zx b k.pos) (c:k.bw=0) (a:k.aT=[]):vE b l k []:=by refine⟨c,h.cnt,h.ent,?_⟩;rw[a];exact⟨h.arr,by simp,by simp,by simp,by simp,Nat.le_refl _,Nat.le_refl _⟩
def afO (k:aN) (av:List Nat) (a:Nat):Prop:=a=k.pos+40\/a=k.pos+56\/zy (k.pos+48) av a
structure afP (m m':Mk) (l l':List Ob) (i e:Nat) (k k':aN) (ps:List Nat):Prop where
  eF:fE m'.b 272 l' m'.b.length
  sub:∃t,l'=l ++ t/\∀o∈t,o.kind=6/\m.b.length<=o.pos
  dat:m'.ai=m.ai.set i k'
  pos:k'.pos=k.pos/\k'.bQ=k.bQ/\k'.bV=k.bV
  arr:k'.aT=k.aT\/k'.aT=k.aT ++ [m.b.length]
  more:vE m'.b l' k' (ps ++ [e])
  l7:Eff (afO k k'.aT) m.b m'.b
  top:m'.b.length<=m.b.length+2100
  same:m'.c=m.c/\m'.ak=m.ak/\m'.main=m.main/\m'.depth=m.depth/\∀i,i≠6->i≠7->i≠18->m'.bS i=m.bS i
  cn:Cn m l->Cn m' l'
theorem XE {b:Ly} {l r:List Ob} {e n:Nat} {k:aN} (d:fE b 272 r e) (f:∀o∈l,o∈r) {c:Ly} (h:sP c l n k):∀o∈r,o.kind=6->k.pos+64<=o.pos\/o.pos+oP o.size<=k.pos:=fun o g a=>by
  have i:=dQ (64+k.bQ.length)
  rcases d.sep g (f _ h.ob)with rfl|hh|hh
  · simp at a
  · exact .inr hh
  · simp only at hh;exact .inl Xx
theorem LZ {b c:Ly} {l r:List Ob} {n:Nat} {k:aN} (g:sP c l n k) (f:∀o∈l,o∈r) (a:fE b 272 r b.length) {q:Nat} (v:Nat) (i:q=k.pos+40\/q=k.pos+56):fE (ig b q v) 272 r (ig b q v).length:=by have C:=dQ (64+k.bQ.length);rw[eO];exact a.l7 (Eff.put b q v) (Nat.le_refl _) fun o e h d=>by subst d;exact a.body (.inr ⟨_,f _ g.ob,by simp only;omega,by simp only;omega⟩) e
theorem aaf {m:Mk} {l:List Ob} {i e n:Nat} {k:aN} {ps:List Nat} (f:fE m.b 272 l m.b.length) (hk:m.ai[i]? = some k) (g:sP m.b l n k) (hd:vE m.b l k ps) (hb:m.b.length<900000) (F:e<18446744073709551616) (E:k.bw=0) :
    ∃J I,afP m (jN e i m) l J i e k I ps:=by
  have u:m.ai.getD i known0=k:=by simp[List.getD,hk]
  have V:=(f.mem g.ob).le;have N:=dQ (64+k.bQ.length);simp only at V;have K:=hd.cnt;unfold jN;simp only[u];rw[if_pos E];have v:ps=[]:=List.eq_nil_of_length_eq_zero Xx;subst v;have R:=LZ g (fun _ h=>h) f e (q:=k.pos+40) (.inl rfl);have y:=LZ g (fun _ h=>h) R 1 (q:=k.pos+56) (.inr rfl);have j:Eff (fun d=>d=k.pos+40\/d=k.pos+56) m.b (ig (ig m.b (k.pos+40) e) (k.pos+56) 1):=((Eff.put _ _ _).mono fun d a=>.inl a).trans ((Eff.put _ _ _).mono fun d a=>.inr a);have L:(ig (ig m.b (k.pos+40) e) (k.pos+56) 1).length=m.b.length:=by rw[eO,eO]
  have D:((m.put (k.pos+40) e).put (k.pos+56) 1).b=ig (ig m.b (k.pos+40) e) (k.pos+56) 1:=rfl;have C:=kX m (k.pos+40) e;have A:=kX (m.put (k.pos+40) e) (k.pos+56) 1;generalize (m.put (k.pos+40) e).put (k.pos+56) 1=M at *;obtain⟨r,p,s,P,G,Q⟩:=A;rw[C.1]at r;rw[C.2.1]at p;rw[C.2.2.1]at s;rw[C.2.2.2.1]at P;rw[C.2.2.2.2.1]at G;rw[C.2.2.2.2.2]at Q;clear C;generalize hB:ig (ig m.b (k.pos+40) e) (k.pos+56) 1=B at *;subst D;have w:dW M.b (k.pos+56)=1:=by rw[<- hB];exact iN (by rw[eO];omega) Xy
  have H:dW M.b (k.pos+40)=e:=by rw[<- hB];exact(fC Xx).trans (iN Xx F)
  clear hB;refine⟨l,{k with bw:=1},y,⟨[],(List.append_nil l).symm,by simp⟩,?_,⟨rfl,rfl,rfl⟩,.inl rfl,⟨rfl,w,H,?_⟩,j.mono fun d a=>a.elim .inl fun h=>.inr (.inl h),?_,⟨r,s,P,Q,fun t _ _ _=>?_⟩,fun c=>c.same G⟩
  · show M.ai.set i _=_
    rw[p]
  · refine hd.chain.l7 f (AK g) (Nat.le_refl _) j (fun _ h=>h) (fun d a=>by omega) (fun t x z d a=>?_)
    exact hd.chain.vH f (fun _ h=>h) z fun o W T=>by have:=XE f (fun _ h=>h) g o W T;omega
  · show M.b.length<=_
    omega
  show M.h.n.getD t 0=_;rw[G];rfl
theorem aae {m:Mk} {l:List Ob} {i e n:Nat} {k:aN} {ps:List Nat} (z:fE m.b 272 l m.b.length) (hk:m.ai[i]? = some k) (g:sP m.b l n k) (hd:vE m.b l k ps) (hb:m.b.length<900000) (L:e<18446744073709551616) (O:ps.length<1000000) (v:¬k.bw=0) :
    ∃j M,afP m (jN e i m) l j i e k M ps:=by
  have H:m.ai.getD i known0=k:=by simp[List.getD,hk]
  have P:=(z.mem g.ob).le;have N:=dQ (64+k.bQ.length);simp only at P;have p:=hd.cnt;unfold jN;simp only[H];rw[if_neg v];have I:k.bw-1=(ps.drop 1).length:=by simp;omega
  rw[I];obtain⟨j,a⟩:=MP (x:=e) z hd.chain (AK g) hb L;have J:=a.l7.len;have s:∀o∈l,o∈j:=by
    rcases a.sub with h|h
    · rw[h];exact fun _ h=>h
    · rw[h];exact fun o d=>List.mem_append_left _ d
  have R:=LU m.b (k.pos+40);generalize m.link k.aT (ps.drop 1).length (k.pos+48) e=r at *;obtain⟨u,t,f⟩:=r;simp only at a J ⊢;have E:=LZ g s a.eF (k.bw+1) (q:=k.pos+56) (.inr rfl);have w:Eff (fun u=>u=k.pos+56) f.b (ig f.b (k.pos+56) (k.bw+1)):=Eff.put _ _ _;have Q:⟨k.pos,1,64+k.bQ.length⟩∈j:=s _ g.ob;have D:Src j (k.pos+48):=(AK g).mono s;have A:=XE a.eF s g;have G:dW f.b (k.pos+40)=dW m.b (k.pos+40):=a.l7.dW Xx fun x C=>by
    rcases C with rfl|⟨B,c,K,S,T⟩
    · omega
    · have:=A _ (a.chain.ob B c K) rfl
      rw[iB]at this;simp only at this;omega
  refine⟨j,{k with aT:=u,bw:=k.bw+1},E,?_,?_,⟨rfl,rfl,rfl⟩,a.arr,⟨?_,?_,?_,?_⟩,?_,?_,⟨a.same.1,a.same.2.2.1,a.same.2.2.2.1,a.same.2.2.2.2.1,a.same.2.2.2.2.2⟩,fun c=>(a.cn c).same rfl⟩
  · rcases a.sub with h|h
    · exact⟨[],by simp[h],by simp⟩
    exact⟨_,h,by intro o d;simp at d;subst d;exact⟨rfl,Nat.le_refl _⟩⟩
  · show f.ai.set i _=_
    rw[a.same.2.1]
  · show k.bw+1=_
    simp;omega
  · refine(iN Xx Xx).trans ?_
    simp;omega
  · show dW (ig f.b (k.pos+56) (k.bw+1)) (k.pos+40)=_
    rw[fC Xx,G,hd.ent];cases ps with
    | nil=>simp at p;exact absurd p v
    | cons y r=>rfl
  · have:(ps ++ [e]).drop 1=ps.drop 1 ++ [e]:=by
      cases ps with
      | nil=>simp at p;exact absurd p v
      | cons y r=>rfl
    rw[this];refine a.chain.l7 a.eF D (Nat.le_refl _) w (fun _ h=>h) (fun x C=>by omega) (fun B x C y V=>?_);exact a.chain.vH a.eF (fun _ h=>h) C fun o d F=>by have:=A o d F;omega
  · exact(a.l7.mono fun x C=>.inr (.inr C)).trans (w.mono fun x C=>.inr (.inl C))
  show(ig f.b (k.pos+56) (k.bw+1)).length<=_;rw[eO];exact a.top
theorem Qs {m:Mk} {l:List Ob} {i e n:Nat} {k:aN} {ps:List Nat} (a:fE m.b 272 l m.b.length) (hk:m.ai[i]? = some k) (d:sP m.b l n k) (hd:vE m.b l k ps) (hb:m.b.length<900000) (c:e<18446744073709551616) (f:ps.length<1000000) :
    ∃h g,afP m (jN e i m) l h i e k g ps:=by
  by_cases h0:k.bw=0
  · exact aaf a hk d hd hb c h0
  exact aae a hk d hd hb c f h0
end Go.Wk
namespace Go.Wk
open Go Go.RowKit
structure eH where
  pos:Nat
  ent:gU
  who:List Nat
structure afM (b:Ly) (l:List Ob) (g:eH):Prop where
  ob:(⟨g.pos,3,64+16*g.ent.aF.length⟩:Ob)∈l
  seg:seg b g.pos (64+16*g.ent.aF.length)=cW g.ent
theorem afM.l7 {b c:Ly} {l r:List Ob} {g:eH} {S:Nat->Prop} (h:afM b l g) (f:fE b 272 l b.length) (i:Eff S b c) (k:∀a,S a->sK l a) (j:∀o∈l,o∈r):afM c r g:=by have e:=(f.mem h.ob).le;have C:=dQ (64+16*g.ent.aF.length);refine⟨j _ h.ob,(i.seg _ _ (by simp only at e;omega) fun a d=>?_).trans h.seg⟩;have:=(k a d _ h.ob).2.2.2 rfl;simp only at this;omega
structure amk (m:Mk):Prop where
  main:∀(i:Nat) (k:aN),m.ai[i]? = some k->∀a∈k.aT,a∉m.main
  one:∀(i j:Nat) (k k':aN) (a:Nat),m.ai[i]? = some k->m.ai[j]? = some k'->a∈k.aT->a∈k'.aT->i=j
structure lK (m:Mk) (l:List Ob) (es:List eH) (mp:List Nat) (f:Nat->List Nat):Prop where
  eP:Stat m l
  main:Chain m.b l 176 m.main mp
  dat:∀(i:Nat) (k:aN),m.ai[i]? = some k->vE m.b l k (f i)
  own:amk m
  ent:∀g∈es,afM m.b l g
  kin:(l.filter fun o=>decide (o.kind=3)).map Ob.pos=es.map eH.pos
theorem vK {l t:List Ob} (h:∀o∈t,o.kind≠3):((l ++ t).filter fun o=>decide (o.kind=3))=l.filter fun o=>decide (o.kind=3):=by
  have e:(t.filter fun o=>decide (o.kind=3))=[]:=List.filter_eq_nil_iff.2 fun o A=>by simpa using h o A
  rw[List.filter_append,e,List.append_nil]
structure lp (ds ds':List aN):Prop where
  len:ds'.length=ds.length
  get:∀(i:Nat) (k':aN),ds'[i]? = some k'->∃k,ds[i]? = some k/\k'.pos=k.pos/\k'.bQ=k.bQ
theorem lp.refl (ds:List aN):lp ds ds:=⟨q,fun _ k h=>⟨k,h,q,q⟩⟩
theorem lp.set {ds:List aN} {i:Nat} {k b:aN} (h:ds[i]? = some k) (h1:b.pos=k.pos) (c:b.bQ=k.bQ):lp ds (ds.set i b):=by
  refine⟨by simp,fun d y a=>?_⟩
  by_cases hj:i=d
  · subst hj
    rw[List.getElem?_set_self (List.getElem?_eq_some_iff.1 h).1]at a;cases a;exact⟨k,h,h1,c⟩
  rw[List.getElem?_set_ne hj]at a;exact⟨y,a,q,q⟩
theorem sP.congr {b:Ly} {l:List Ob} {n:Nat} {k a:aN} (h:sP b l n k) (h1:a.pos=k.pos) (c:a.bQ=k.bQ):sP b l n a:=by obtain⟨d,e,C⟩:=h;exact⟨by rw[h1,c];exact d,by rw[h1];exact e,by rw[h1,c];exact C⟩
theorem Stat.keep {m m':Mk} {l n:List Ob} {S:Nat->Prop} (h:Stat m l) (B:fE m'.b 272 n m'.b.length) (F:∃t,n=l ++ t/\∀o∈t,o.kind≠1/\o.kind≠2) (w:Eff S m.b m'.b) (v:∀u,S u->sK l u) (f:m'.c=m.c) (x:m'.ak=m.ak) (y:m'.bS 2=m.bS 2/\m'.bS 4=m.bS 4) (hd:lp m.ai m'.ai) (E:Cn m' n):Stat m' n:=by
  obtain⟨t,rfl,P⟩:=F;have g:∀o∈l,o∈l ++ t:=fun o a=>List.mem_append_left _ a;have s:∀t,cM m' t=cM m t:=fun t=>by unfold cM;rw[f]
  refine⟨B,by rw[f];exact g _ h.GK,by rw[f];exact g _ h.O1,y.1.trans h.n2,by rw[f];exact y.2.trans h.n4,by rw[f];exact h.slots,fun k hk=>?_,fun k hk=>?_,fun i z k e d Q R=>?_,fun o a C=>?_,fun o a C=>?_,E⟩
  · obtain⟨i,d⟩:=List.mem_iff_getElem?.1 hk
    obtain⟨j,p,C,D⟩:=hd.get i k d;rw[s,D];exact((h.data j (List.mem_of_getElem? p)).l7 h.eF w v g).congr C D
  · rw[x]at hk;rw[s]
    exact(h.fld k hk).l7 h.eF w v g
  · obtain⟨j,p,C,D⟩:=hd.get i k d
    obtain⟨T,H,q,r⟩:=hd.get z e Q;exact h.one i z j T p H (by rw[<- C,<- q,<- D,<- r];exact R)
  · rcases List.mem_append.1 a with a|a
    · obtain⟨k,hk,D⟩:=h.all o a C
      obtain⟨i,d⟩:=List.mem_iff_getElem?.1 hk;have A:=(List.getElem?_eq_some_iff.1 d).1;obtain⟨e,G⟩:∃e,m'.ai[i]? = some e:=⟨_,List.getElem?_eq_getElem (by rw[hd.len];exact A)⟩;obtain⟨j,H,q,r⟩:=hd.get i e G;rw[d]at H;cases H;exact⟨e,List.mem_of_getElem? G,q.trans D⟩
    exact absurd C (P o a).1
  rcases List.mem_append.1 a with a|a
  · rw[x];exact h.afW o a C
  exact absurd C (P o a).2
theorem lK.soft {m m':Mk} {l r:List Ob} {es:List eH} {z:List Nat} {f:Nat->List Nat} {i:Nat} {t:Ly} (h:lK m l es z f) (d:BM m m' l r i t) (K:∀i,m.ai.length<=i->f i=[]):lK m' r es z f:=by
  have H:=d.step.mem;have x:=d.step.eF;have v:=d.step.l7;have E:∀e,oS r e->sK l e:=fun e C=>(C.adK x).mono H;have D:=d.step.same.2.1;have B:∀(c:Nat) (k:aN),m.ai[c]? = some k->vE m'.b r k (f c):=fun c k a=>(h.dat c k a).soft (h.eP.data k (List.mem_of_getElem? a)) h.eP.eF x v H;have n:∀(c:Nat) (k:aN),m'.ai[c]? = some k->m.ai[c]? = some k\/(m.ai.length<=c/\k.bw=0/\k.aT=[]/\zx m'.b k.pos):=fun c k a=>by
    rcases d.new with j|⟨s,p,j,I,_⟩
    · rw[j]at a;exact .inl a
    · rw[j]at a
      rcases Nat.lt_or_ge c m.ai.length with F|F
      · rw[List.getElem?_append_left F]at a;exact .inl a
      · have A:=(List.getElem?_eq_some_iff.1 a).1
        simp at A;rw[List.getElem?_append_right F,show c-m.ai.length=0 by omega]at a;have:k={bQ:=t,pos:=p,bV:=s,bw:=0,aT:=[]}:=(by simpa using a.symm);subst this;exact .inr ⟨F,q,q,I⟩
  refine⟨d.eP,?_,fun c k a=>?_,⟨fun c k a e C=>?_,fun i c k y e w a C u=>?_⟩,fun g Q=>(h.ent g Q).l7 h.eP.eF v E H,?_⟩
  · rw[D];exact aaw h.main h.eP.eF x v H
  · rcases n c k a with a|⟨F,P,C,I⟩
    · exact B c k a
    rw[K c F];exact vE.new I P C
  · rw[D]
    rcases n c k a with a|⟨_,_,G,_⟩
    · exact h.own.main c k a e C
    rw[G]at C;simp at C
  · rcases n i k w with w|⟨_,_,G,_⟩
    · rcases n c y a with a|⟨_,_,G,_⟩
      · exact h.own.one i c k y e w a C u
      rw[G]at u;simp at u
    rw[G]at C;simp at C
  obtain⟨L,j,J⟩:=d.step.sub;rw[j,vK fun o R=>by have:=(J o R).1;omega];exact h.kin
theorem lK.entry {m:Mk} {l:List Ob} {es:List eH} {v:List Nat} {f:Nat->List Nat} (h:lK m l es v f) {E:gU} {who:List Nat} (hb:E.bD.length=16) (J:E.aF.length<=1000) :
    lK (m.bU (cW E)).2 (l ++ [⟨m.b.length,3,64+16*E.aF.length⟩]) (es ++ [⟨m.b.length,E,who⟩]) v f:=by
  have I:=lS E hb;have c:(m.bU (cW E)).2.b=m.b ++ cW E:=rfl;have T:=dR m (cW E);have C:∀i,i≠6->i≠7->(m.bU (cW E)).2.bS i=m.bS i:=fun i V W=>by simp only[Mk.bU];rw[cJ Xx,cJ Xx];rfl
  have w:=h.eP.cn.obj (cW E) (k:=3) (s:=64+16*E.aF.length) Xx;generalize (m.bU (cW E)).2=m' at *;obtain⟨R,H,B,u⟩:=T;have P:oP (64+16*E.aF.length)=64+16*E.aF.length:=by unfold oP;omega
  have j:(cW E).length=64+16*E.aF.length:=by omega
  have G:Eff (fun _=>False) m.b m'.b:=by rw[c];exact Eff.app _ _ _
  have Q:∃r,cW E=TU 3 (64+16*E.aF.length) ++ r:=by unfold cW;rw[xG Xx];rw[show 16+(nums [E.seq,E.bK,E.mono] ++ E.bD ++ nums [E.xor] ++ kU E.aF).length=64+16*E.aF.length by simp[ez,uK,hb];omega];exact⟨_,List.append_assoc _ _ _⟩
  obtain⟨r,A⟩:=Q;have F:fE m'.b 272 (l ++ [⟨m.b.length,3,64+16*E.aF.length⟩]) m'.b.length:=by
    have:=(h.eP.eF.l7 G (Nat.le_refl _) (fun _ _ _ a=>a.elim)).app (o:=⟨m.b.length,3,64+16*E.aF.length⟩) q Oy Oy Zx Zx ?_
    · simp only[P]at this;rw[c,List.length_append,j];rw[c]at this;exact this
    · have t:=iG (x:=m.b) (y:=cW E) (p:=m.b.length) (n:=16) (Nat.le_refl _)
      rw[Nat.sub_self,ads A (jP _ _)]at t;rw[c];exact t
  have e:∀o∈l,o∈l ++ [(⟨m.b.length,3,64+16*E.aF.length⟩:Ob)]:=fun o z=>List.mem_append_left _ z;refine⟨h.eP.keep F ⟨_,q,by simp⟩ G (fun _ a=>a.elim) R B ⟨C 2 Xy Xy,C 4 Xy Xy⟩ (by rw[H];exact lp.refl _) w,?_,fun i k d=>?_,⟨by rw[H,u];exact h.own.main,by rw[H];exact h.own.one⟩,fun g D=>?_,?_⟩
  · rw[u];exact h.main.l7 h.eP.eF (t7 l) (Nat.le_refl _) G e (fun _ a=>a.elim) (fun _ _ _ _ a=>a.elim)
  · rw[H]at d
    exact(h.dat i k d).l7 (h.eP.data k (List.mem_of_getElem? d)) h.eP.eF G e (fun _ a=>a.elim) (fun _ _ _ _ a=>a.elim)
  · rcases List.mem_append.1 D with D|D
    · exact(h.ent g D).l7 h.eP.eF G (fun _ a=>a.elim) e
    simp at D;subst D;refine⟨by simp,?_⟩;simp only;rw[c,<- j];exact seg_new _ _
  rw[List.filter_append,List.map_append,h.kin];simp
theorem EN {b:Ly} {l:List Ob} {e src a:Nat} {d:List Nat} (f:fE b 272 l e) (h:zy src d a) (j:∀k c:Nat,d[k]? = some c->(⟨c,6,24+8*dA (k:Int)⟩:Ob)∈l) {o:Ob} (i:o∈l) (g:∀c∈d,c≠o.pos):a=src\/a+8<=o.pos\/o.pos+oP o.size<=a:=by
  rcases h with h|⟨k,c,B,C,D⟩
  · exact .inl h
  right
  rcases f.sep i (j k c B)with A|A|A
  · exact absurd (congrArg Ob.pos A).symm (g c (List.mem_of_getElem? B))
  · simp only at A;omega
  rw[iB]at A;simp only at A;omega
theorem EP {b:Ly} {l:List Ob} {e src a:Nat} {d:List Nat} (f:fE b 272 l e) (h:zy src d a) (g:∀k c:Nat,d[k]? = some c->(⟨c,6,24+8*dA (k:Int)⟩:Ob)∈l) (i:sK l src):sK l a:=by
  rcases h with h|⟨k,c,A,B,C⟩
  · rw[h];exact i
  exact AV f (g k c A) Zx (by rw[iB];simp only;omega) Oy Oy Oy
end Go.Wk
namespace Go.Wk
open Go Go.RowKit
theorem wW {l:List Nat} {a:Nat} (h:a∈l):∃i:Nat,l[i]? = some a:=List.mem_iff_getElem?.1 h
theorem ajU {m:Mk} {l a:List Ob} {n:Nat} (h:a=l\/a=l ++ [(⟨m.b.length,6,24+8*n⟩:Ob)]):∃t,a=l ++ t/\∀o∈t,o.kind=6/\m.b.length<=o.pos:=by
  rcases h with h|h
  · exact⟨[],by simp[h],by simp⟩
  exact⟨_,h,by intro o c;simp at c;subst c;exact⟨q,Nat.le_refl _⟩⟩
theorem lK.link {m m':Mk} {l v:List Ob} {es:List eH} {F:List Nat} {f:Nat->List Nat} {x:Nat} {s:List Nat} {j:Mk} (h:lK m l es F f) (L:Linked m j l v 176 m.main s F x)
    (hb:m'.b=j.b) (a:m'.c=j.c) (hd:m'.ai=j.ai) (hf:m'.ak=j.ak) (hm':m'.main=s) (hn:m'.bS 2=j.bS 2/\m'.bS 4=j.bS 4) (hcn:Cn j v->Cn m' v):lK m' v es (F ++ [x]) f:=by
  obtain⟨U,X,Y,n,p,T⟩:=L.same;obtain⟨t,B,K⟩:=ajU L.sub;have r:=L.eF;have H:∀o∈l,o∈v:=fun o D=>by rw[B];exact List.mem_append_left _ D
  have E:=L.l7;have J:∀e,zy 176 s e->sK l e:=fun e C=>(EP r C L.chain.ob (JP r Xy)).mono H;have I:∀c∈s,c∈m.main\/c=m.b.length:=fun c a=>by
    rcases L.arr with u|u
    · rw[u]at a;exact .inl a
    · rw[u,List.mem_append,List.mem_singleton]at a;exact a
  have N:∀c∈s,∀o∈v,o.kind≠6->c≠o.pos:=fun c a o D hk u=>by
    obtain⟨i,d⟩:=wW a
    rcases r.sep D (L.chain.ob i c d)with G|G|G
    · subst G;exact hk q
    · have:=dQ o.size;have:=(r.mem D).size.1;simp only at G;omega
    · rw[iB]at G;simp only at G;omega
  have z:m'.ai=m.ai:=hd.trans X;refine⟨h.eP.keep (by rw[hb];exact r) ⟨t,B,fun o D=>by have:=(K o D).1;exact⟨by omega,by omega⟩⟩ (by rw[hb];exact E) J (a.trans U) (hf.trans Y) ⟨hn.1.trans (T 2 Xy Xy Xy),hn.2.trans (T 4 Xy Xy Xy)⟩ (by rw[z];exact lp.refl _) (hcn (L.cn h.eP.cn)),by rw[hb,hm'];exact L.chain,fun i k d=>?_,⟨fun i k d e C a=>?_,by rw[z];exact h.own.one⟩,fun g S=>by rw[hb];exact(h.ent g S).l7 h.eP.eF E J H,by rw[B,vK fun o D=>by have:=(K o D).1;omega];exact h.kin⟩
  · rw[z]at d
    have w:=h.eP.data k (List.mem_of_getElem? d);have Z:=dQ (64+k.bQ.length);have V:272<=k.pos:=(h.eP.eF.mem w.ob).ge;rw[hb];refine(h.dat i k d).l7 w h.eP.eF E H (fun e C=>?_) (fun M y R e C=>?_)
    · rcases EN r C L.chain.ob (H _ w.ob) (fun c a=>N c a _ (H _ w.ob) Oy)with A|A|A
      · omega
      · simp only at A;omega
      simp only at A;omega
    have Q:=(h.dat i k d).chain.ob M y R;have O:=(h.dat i k d).chain.le h.eP.eF R;have P:∀c∈s,c≠y:=fun c a u=>by
      subst u
      rcases I c a with A|A
      · exact h.own.main i k d c (List.mem_of_getElem? R) A
      · omega
    rcases EN r C L.chain.ob (H _ Q) P with A|A|A
    · omega
    · simp only at A;omega
    rw[iB]at A;simp only at A;omega
  rw[z]at d;rw[hm']at a
  rcases I e a with A|A
  · exact h.own.main i k d e C A
  obtain⟨M,W⟩:=wW C;have O:=(h.dat i k d).chain.le h.eP.eF W;omega
theorem rV {k:aN} {b:List Nat} {a:Nat} (h:afO k b a):(k.pos+40<=a/\a+8<=k.pos+64)\/zy (k.pos+48) b a:=by
  rcases h with h|h|h
  · left;omega
  · left;omega
  exact .inr h
theorem lK.hang {m m':Mk} {l K:List Ob} {es:List eH} {ag:List Nat} {f:Nat->List Nat} {i e:Nat} {k F:aN} (h:lK m l es ag f) (hi:m.ai[i]? = some k) (H:afP m m' l K i e k F (f i)):lK m' K es ag (fun d=>if d=i then f i ++ [e]else f d):=by
  obtain⟨an,ao,s4,s5,ah⟩:=H.same;obtain⟨t,aa,ae⟩:=H.sub;have B:=H.eF;have u:∀o∈l,o∈K:=fun o A=>by rw[aa];exact List.mem_append_left _ A
  have p:=H.l7;have T:=h.eP.data k (List.mem_of_getElem? hi);have au:=dQ (64+k.bQ.length);have ap:272<=k.pos:=(h.eP.eF.mem T.ob).ge;have v:lp m.ai m'.ai:=by rw[H.dat];exact lp.set hi H.pos.1 H.pos.2.1
  have Z:=H.more.chain.ob;have M:∀c∈F.aT,c∈k.aT\/c=m.b.length:=fun c G=>by
    rcases H.arr with e|e
    · rw[e]at G;exact .inl G
    · rw[e,List.mem_append,List.mem_singleton]at G;exact G
  have Q:∀c∈F.aT,∀o∈K,o.kind≠6->c≠o.pos:=fun c G o A hk e=>by
    obtain⟨i,hi⟩:=wW G
    rcases B.sep A (Z i c hi)with C|C|C
    · subst C;exact hk rfl
    · have:=dQ o.size;have:=(B.mem A).size.1;simp only at C;omega
    · rw[iB]at C;simp only at C;omega
  -- what is written stands U from another object's inside
  have U:∀o∈K,o.pos≠k.pos->(∀c∈F.aT,c≠o.pos)->∀j,afO k F.aT j->j+8<=o.pos\/o.pos+oP o.size<=j:=fun o A x G j s=>by
    have aq:o.pos+oP o.size<=k.pos\/k.pos+oP (64+k.bQ.length)<=o.pos:=by
      rcases B.sep A (u _ T.ob)with C|C|C
      · exact absurd (congrArg Ob.pos C) x
      · exact .inl C
      · exact .inr C
    rcases rV s with a|a
    · omega
    · rcases EN B a (by rw[<- H.pos.1]at *;exact Z) A G with X|X
      · omega
      · exact X
  have ab:∀j,afO k F.aT j->sK l j:=fun j s=>by
    have af:∀q,k.pos+40<=q->q+8<=k.pos+64->sK K q:=fun q a X=>AV B (u _ T.ob) Zx Zx Oy Zx Oy
    rcases rV s with a|a
    · exact(af j a.1 a.2).mono u
    · exact(EP B a Z (af _ Xx Xx)).mono u
  have L:∀(d:Nat) (y:aN),m'.ai[d]? = some y->(d=i/\y=F)\/(d≠i/\m.ai[d]? = some y):=fun d y D=>by
    rw[H.dat]at D
    by_cases I:i=d
    · subst I
      rw[List.getElem?_set_self (List.getElem?_eq_some_iff.1 hi).1]at D;exact .inl ⟨rfl,by simpa using D.symm⟩
    · rw[List.getElem?_set_ne I]at D
      exact .inr ⟨fun e=>I e.symm,D⟩
  have R:=h.eP.keep B ⟨t,aa,fun o A=>by have:=(ae o A).1;exact⟨by omega,by omega⟩⟩ p ab an ao ⟨ah 2 Xy Xy Xy,ah 4 Xy Xy Xy⟩ v (H.cn h.eP.cn);refine⟨R,?_,fun d y D=>?_,⟨fun d y D j s G=>?_,fun d J y S j D E s P=>?_⟩,fun g ak=>(h.ent g ak).l7 h.eP.eF p ab u,by rw[aa,vK fun o A=>by have:=(ae o A).1;omega];exact h.kin⟩
  · rw[s4]
    refine h.main.l7 h.eP.eF (t7 l) (Nat.le_refl _) p u (fun j s=>?_) (fun d y Y j s=>?_)
    · rcases rV s with a|a|⟨d,c,a,X,h3⟩
      · omega
      · omega
      have:=H.more.chain.le B a;omega
    have N:=h.main.ob d y Y;have w:=h.main.le h.eP.eF Y;have:=U _ (u _ N) (fun e=>by
      have:=h.eP.eF.sep N T.ob
      rcases this with C|C|C
      · cases C
      · rw[iB]at C;simp only at C e;omega
      · simp only at C e;omega) (fun c G e=>by
      simp only at e;subst e
      rcases M c G with a|a
      · exact h.own.main i k hi c a (List.mem_of_getElem? Y)
      · omega) j s
    rw[iB]at this;simp only at this;omega
  · rcases L d y D with⟨rfl,rfl⟩|⟨I,D⟩
    · rw[if_pos rfl];exact H.more
    rw[if_neg I];have r:=h.eP.data y (List.mem_of_getElem? D);have ar:=dQ (64+y.bQ.length);have aj:y.pos≠k.pos:=fun e=>I (h.eP.one d i y k D hi (.inl e));refine(h.dat d y D).l7 r h.eP.eF p u (fun j s=>?_) (fun n z O j s=>?_)
    · have:=U _ (u _ r.ob) aj (fun c G=>Q c G _ (u _ r.ob) Oy) j s
      simp only at this;omega
    have N:=(h.dat d y D).chain.ob n z O;have w:=(h.dat d y D).chain.le h.eP.eF O;have:=U _ (u _ N) (fun e=>by
      have:=h.eP.eF.sep N T.ob
      rcases this with C|C|C
      · cases C
      · rw[iB]at C;simp only at C e;omega
      · simp only at C e;omega) (fun c G e=>by
      simp only at e;subst e
      rcases M c G with a|a
      · exact I (h.own.one d i y k c D hi (List.mem_of_getElem? O) a)
      · omega) j s
    rw[iB]at this;simp only at this;omega
  · rw[s4]at G
    rcases L d y D with⟨rfl,rfl⟩|⟨I,D⟩
    · rcases M j s with a|a
      · exact h.own.main d k hi j a G
      obtain⟨n,al⟩:=wW G;have:=h.main.le h.eP.eF al;omega
    exact h.own.main d y D j s G
  have ad:∀(n:Nat) (z:aN),m.ai[n]? = some z->m.b.length∉z.aT:=fun n z O W=>by obtain⟨q,am⟩:=wW W;have:=(h.dat n z O).chain.le h.eP.eF am;omega
  rcases L d y D with⟨rfl,rfl⟩|⟨I,D⟩
  · rcases L J S E with⟨rfl,rfl⟩|⟨V,E⟩
    · rfl
    rcases M j s with a|a
    · exact h.own.one d J k S j hi E a P
    subst a;exact absurd P (ad J S E)
  rcases L J S E with⟨rfl,rfl⟩|⟨V,E⟩
  · rcases M j P with a|a
    · exact h.own.one d J y k j D hi s a
    subst a;exact absurd s (ad d y D)
  exact h.own.one d J y S j D E s P
end Go.Wk
namespace Go.Wk
open Go
abbrev plt (p q:Pr):Prop:=Op.bytesLess (whole p.pb) (whole q.pb)=true
theorem BB (p:Pr):¬plt p p:=by unfold plt;rw[acs];simp
theorem JZ {p q r:Pr} (h:plt p q) (k:plt q r):plt p r:=OW h k
theorem ahe {p q:Pr} (a:right p.pb=true) (b:right q.pb=true) (h:¬plt p q) (k:¬plt q p):p=q :=
  zf.1 (abK a b (acu (by simpa [plt]using h) (by simpa [plt]using k)))
abbrev Asc (l:List Pr):Prop:=l.Pairwise plt
theorem Xi:∀{l m:List Pr},Asc l->Asc m->(∀p,p∈l↔p∈m)->l=m
  | [],[],_,_,_=>rfl
  | [],b :: m,_,_,h=>by have:=(h b).2 Oy;simp at this
  | a :: l,[],_,_,h=>by have:=(h a).1 Oy;simp at this
  | a :: l,b :: m,hl,hm,h=>by
    obtain⟨e,g⟩:=List.pairwise_cons.1 hl;obtain⟨f,i⟩:=List.pairwise_cons.1 hm;have d:a=b:=by
      rcases List.mem_cons.1 ((h a).1 Oy)with d|A
      · exact d
      · rcases List.mem_cons.1 ((h b).2 Oy)with d|C
        · exact d.symm
        · exact absurd (JZ (e b C) (f a A)) (BB a)
    subst d;congr 1;refine Xi g i fun p=>⟨fun c=>?_,fun c=>?_⟩
    · rcases List.mem_cons.1 ((h p).1 (by simp[c]))with rfl|A
      · exact absurd (e p c) (BB p)
      · exact A
    · rcases List.mem_cons.1 ((h p).2 (by simp[c]))with rfl|A
      · exact absurd (f p c) (BB p)
      · exact A
def zZ (p:Pr):List Pr->List Pr
  | []=>[p]
  | q :: r=>if Op.bytesLess (au q) (au p)=true then q :: zZ p r else if q.pb=p.pb then q :: r else p :: q :: r
theorem KH (t:Ly) (o:List Pr) (k:Nat):lC t o (k+1)=lC t o k+1:=by
  induction o generalizing k with
  | nil=>rfl
  | cons q r ih=>unfold lC;split <;> simp[ih]
theorem aho (t:Ly) (o:List Pr):lC t o 0<=o.length:=by
  induction o with
  | nil=>simp[lC]
  | cons q r ih=>unfold lC;split <;> simp[KH,ih]
theorem KT:∀(n j:Nat) (o:List Pr),(lH n j o).length=o.length
  | 0,_,_=>rfl
  | n+1,j,o=>by unfold lH;rw[KT n];simp
theorem KS:∀(n j:Nat) (o:List Pr),n<=j->j<o.length->∀i,i<o.length->(lH n j o)[i]? = if j-n<i/\i<=j then o[i-1]? else o[i]?
  | 0,j,o,_,_,i,_=>by simp[lH];intro a b;omega
  | n+1,j,o,hn,hj,i,hi=>by
    unfold lH;have hd:o.getD (j-1) {name:=[],value:=[]}=o[j-1]:=(by simp[List.getD,show j-1<o.length by omega]);rw[KS n (j-1) _ Xx Ym i (by simpa using hi),hd]
    by_cases a:j-1-n<i/\i<=j-1
    · rw[if_pos a,if_pos Xx,List.getElem?_set_ne Xx]
    · rw[if_neg a]
      by_cases b:i=j
      · subst b
        rw[if_pos Xx,List.getElem?_set_self hj,List.getElem?_eq_getElem (show i-1<o.length by omega)]
      · rw[if_neg Xx,List.getElem?_set_ne Xx]
theorem abu (o:List Pr) (k:Nat) (p d:Pr) (hk:k<=o.length):(lH (o.length-k) o.length (o ++ [d])).set k p=o.take k ++ p :: o.drop k:=by
  apply List.ext_getElem?;intro i;have A:(lH (o.length-k) o.length (o ++ [d])).length=o.length+1:=by rw[KT];simp
  by_cases hi:i<o.length+1
  · by_cases h1:i=k
    · subst h1
      rw[List.getElem?_set_self Xx,List.getElem?_append_right Ym];simp[Nat.min_eq_left hk]
    rw[List.getElem?_set_ne (Ne.symm h1),KS _ _ _ Xx Oy i Ym]
    by_cases h2:o.length-(o.length-k)<i/\i<=o.length
    · rw[if_pos h2,List.getElem?_append_left Xx,List.getElem?_append_right Ym]
      simp only[List.length_take,Nat.min_eq_left hk];obtain⟨m,rfl⟩:∃m,i=k+1+m:=⟨i-(k+1),by omega⟩;rw[show k+1+m-k=m+1 by omega,List.getElem?_cons_succ,List.getElem?_drop];congr 1;omega
    rw[if_neg h2,List.getElem?_append_left Xx,List.getElem?_append_left Ym,List.getElem?_take,if_pos Xx]
  rw[List.getElem?_eq_none (by simp[A];omega),List.getElem?_eq_none Ym]
theorem aji (p:Pr) (o:List Pr):HF p o=zZ p o:=by
  have A:∀o:List Pr,(lC (au p) o 0<o.length/\(o.getD (lC (au p) o 0) {name:=[],value:=[]}).pb=p.pb->zZ p o=o) /\
      (¬(lC (au p) o 0<o.length/\(o.getD (lC (au p) o 0) {name:=[],value:=[]}).pb=p.pb)->zZ p o=o.take (lC (au p) o 0) ++ p :: o.drop (lC (au p) o 0)):=by
    intro o
    induction o with
    | nil=>simp[lC,zZ]
    | cons q r ih =>
      unfold lC zZ
      by_cases h1:Op.bytesLess (au q) (au p)=true
      · rw[if_pos h1,if_pos h1,KH]
        simp only[List.length_cons,Nat.add_lt_add_iff_right,List.getD_cons_succ,List.take_succ_cons,List.drop_succ_cons,List.cons_append,List.cons.injEq,true_and];exact ih
      · rw[if_neg h1,if_neg h1]
        simp only[List.length_cons,Nat.zero_lt_succ,true_and,List.getD_cons_zero,List.take_zero,List.drop_zero,List.nil_append];exact⟨fun h=>if_pos h,fun h=>if_neg h⟩
  unfold HF;simp only;split
  · rename_i h;exact((A o).1 h).symm
  rename_i h;rw[abu _ _ _ _ (aho _ _)];exact((A o).2 h).symm
theorem MQ {p q:Pr} {o:List Pr}:q∈zZ p o↔q=p\/q∈o:=by
  induction o with
  | nil=>simp[zZ]
  | cons x r ih =>
    unfold zZ;split
    · simp[ih];constructor
      · rintro(h|h|h) <;> simp[h]
      · rintro(h|h|h) <;> simp[h]
    · split
      · rename_i h;rw[zf]at h;subst h;simp
      · simp
theorem aga {p:Pr} {o:List Pr} (d:right p.pb=true) (c:∀q∈o,right q.pb=true) (h:Asc o):Asc (zZ p o):=by
  induction o with
  | nil=>simp[zZ]
  | cons x r ih =>
    obtain⟨C,D⟩:=List.pairwise_cons.1 h;unfold zZ;split
    · rename_i hx
      refine List.pairwise_cons.2 ⟨fun q a=>?_,ih (fun q a=>c q (by simp[a])) D⟩
      rcases MQ.1 a with rfl|a
      · exact hx
      · exact C q a
    · rename_i hx
      split
      · exact h
      · rename_i hne
        have b:plt p x:=by
          cases hb:Op.bytesLess (whole p.pb) (whole x.pb)with
          | true=>exact hb
          | false=>exact absurd (zf.2 (ahe (c x Oy) d hx (by simp[plt,hb]))) hne
        refine List.pairwise_cons.2 ⟨fun q a=>?_,h⟩
        rcases List.mem_cons.1 a with rfl|a
        · exact b
        · exact JZ b (C q a)
theorem XV:∀(l o x:List Pr),TT l o=(x,0)->(∀q∈o,right q.pb=true)->Asc o->Asc x/\(∀q∈x,right q.pb=true)/\(∀q,q∈x↔q∈o\/q∈l)/\x.length<=16
  | [],o,x,h,hr,ha=>by
    unfold TT at h;split at h
    · simp at h
    · rename_i hl
      obtain⟨rfl,_⟩:=Prod.mk.inj h;exact⟨ha,hr,by simp,by omega⟩
  | p :: r,o,x,h,hr,ha=>by
    unfold TT at h;split at h
    · rename_i h1;exact absurd (Prod.mk.inj h).2 h1
    · rename_i h1
      have b:right p.pb=true:=zJ.1 (Classical.not_not.1 h1);rw[aji]at h;obtain⟨c,d,e,f⟩:=XV r _ x h (fun q a=>by
        rcases MQ.1 a with rfl|a
        · exact b
        · exact hr q a) (aga b hr ha)
      refine⟨c,d,fun q=>?_,f⟩;rw[e,MQ,List.mem_cons];constructor
      · rintro((h|h)|h)
        · exact .inr (.inl h)
        · exact .inl h
        · exact .inr (.inr h)
      · rintro(h|h|h)
        · exact .inl (.inr h)
        · exact .inl (.inl h)
        · exact .inr h
theorem uM {l x:List Pr} (h:ku l=(x,0)):Asc x/\(∀q∈x,right q.pb=true)/\(∀q,q∈x↔q∈l)/\x.length<=16/\x≠[]:=by
  unfold ku at h;split at h
  · simp at h
  rename_i h0;obtain⟨B,C,A,D⟩:=XV l [] x h Oy List.Pairwise.nil;refine⟨B,C,by simpa using A,D,?_⟩;rintro rfl;cases l with
  | nil=>simp at h0
  | cons y r=>exact absurd ((A y).2 Oy) Oy
end Go.Wk
namespace Go.Wk
open Go Go.RowKit
def jf (ds:List aN) (i:Nat):List UInt8:=(ds.getD i known0).bQ
def pB (ds ds':List aN):Prop:=∀(i:Nat) (k:aN),ds[i]? = some k->∃k',ds'[i]? = some k'/\k'.pos=k.pos/\k'.bQ=k.bQ
theorem pB.refl (ds:List aN):pB ds ds:=fun _ k h=>⟨k,h,q,q⟩
theorem pB.trans {a b c:List aN} (h:pB a b) (k:pB b c):pB a c:=fun i x m=>by obtain⟨y,d,e,f⟩:=h i x m;obtain⟨z,g,j,l⟩:=k i y d;exact⟨z,g,j.trans e,l.trans f⟩
theorem lp.ext {a b:List aN} (h:lp a b):pB a b:=fun i k hk=>by have j:=(List.getElem?_eq_some_iff.1 hk).1;obtain⟨c,e⟩:∃c,b[i]? = some c:=⟨_,List.getElem?_eq_getElem (by rw[h.len];exact j)⟩;obtain⟨l,d,f,g⟩:=h.get i c e;rw[hk]at d;cases d;exact⟨c,e,f,g⟩
theorem pB.at {a b:List aN} (h:pB a b) {i:Nat} (hi:i<a.length):i<b.length/\gG b i=gG a i/\jf b i=jf a i:=by
  obtain⟨D,A,B,C⟩:=h i _ (List.getElem?_eq_getElem hi);refine⟨(List.getElem?_eq_some_iff.1 A).1,?_,?_⟩
  · unfold gG;simp only[List.getD_eq_getElem?_getD,A,List.getElem?_eq_getElem hi,Option.getD_some];exact B
  unfold jf;simp only[List.getD_eq_getElem?_getD,A,List.getElem?_eq_getElem hi,Option.getD_some];exact C
theorem BM.ext {m m':Mk} {l b:List Ob} {i:Nat} {t:Ly} (d:BM m m' l b i t):pB m.ai m'.ai:=by
  rcases d.new with e|⟨s,p,e,_⟩
  · rw[e];exact pB.refl _
  rw[e];exact fun c k a=>⟨k,by rw[List.getElem?_append_left (List.getElem?_eq_some_iff.1 a).1];exact a,q,q⟩
theorem mC {ds:List aN} {i:Nat} {k:aN} (h:ds[i]? = some k):jf ds i=k.bQ/\gG ds i=k.pos:=by unfold jf gG;simp only[List.getD_eq_getElem?_getD,h,Option.getD_some,and_self]
theorem CB (ds:List aN) (p:Nat) (b:List Nat):∀n,n<=b.length->(∀a,lN ds p b n<=a->a<n->p<gG ds (b.getD a 0))/\(0<lN ds p b n->gG ds (b.getD (lN ds p b n-1) 0)<=p)
  | 0,_=>⟨fun a c d=>by omega,fun h=>by simp[lN]at h⟩
  | n+1,hn=>by
    rw[lN];split
    · rename_i hp
      obtain⟨e,f⟩:=CB ds p b n Xx;refine⟨fun a c d=>?_,f⟩
      by_cases hj:a=n
      · subst hj;exact hp
      · exact e a c Xx
    · rename_i hp
      exact⟨fun a c d=>by omega,fun _=>by simp only[Nat.add_sub_cancel];omega⟩
theorem FQ {a:Type} {R:a->a->Prop} {l:List a} {n:Nat} {x:a} (h:l.Pairwise R) (h1:∀y∈l.take n,R y x) (f:∀y∈l.drop n,R x y):(l.take n ++ [x] ++ l.drop n).Pairwise R:=by
  rw[List.append_assoc,List.singleton_append];refine List.pairwise_append.2 ⟨h.take,List.pairwise_cons.2 ⟨f,h.drop⟩,fun e C b c=>?_⟩
  rcases List.mem_cons.1 c with rfl|c
  · exact h1 e C
  have d:=h;rw[<- List.take_append_drop n l]at d;exact(List.pairwise_append.1 d).2.2 e C b c
theorem NG {ds:List aN} {k:Nat} {a:List Nat} (h:a.Pairwise fun e b=>gG ds e<gG ds b) (hk:∀i∈a,gG ds i≠gG ds k):(mB ds k a).Pairwise fun e b=>gG ds e<gG ds b:=by
  obtain⟨f,g⟩:=CB ds (gG ds k) a a.length (Nat.le_refl _);have j:=BZ ds (gG ds k) a a.length;unfold mB;simp only;generalize lN ds (gG ds k) a a.length=n at *;refine FQ h (fun y D=>?_) (fun y D=>?_)
  · obtain⟨i,c⟩:=List.mem_iff_getElem?.1 D
    rw[List.getElem?_take]at c;split at c
    · rename_i hin
      have G:=hk y (List.mem_of_getElem? c);have C:=(List.getElem?_eq_some_iff.1 c).1;have l:=g Xx;have d:a[n-1]? = some (a.getD (n-1) 0):=(by simp[List.getD,List.getElem?_eq_getElem (show n-1<a.length by omega)]);have:gG ds y<=gG ds (a.getD (n-1) 0):=by
        by_cases he:i=n-1
        · subst he;rw[c]at d;have:=Option.some.inj d;rw[<- this];exact Nat.le_refl _
        · have H:=List.pairwise_iff_getElem.1 h i (n-1) C Xx Xx
          rw[List.getElem?_eq_getElem C]at c;rw[List.getElem?_eq_getElem (show n-1<a.length by omega)]at d;rw[Option.some.inj c,Option.some.inj d]at H;omega
      omega
    cases c
  obtain⟨i,c⟩:=List.mem_iff_getElem?.1 D;rw[List.getElem?_drop]at c;have C:=(List.getElem?_eq_some_iff.1 c).1;have:=f (n+i) Xx C;rw[List.getD_eq_getElem?_getD,c]at this;exact this
theorem VO (ds:List aN) (k:Nat) (b:List Nat):(mB ds k b).Perm (k :: b):=by unfold mB;simp only;generalize lN ds (gG ds k) b b.length=n;rw[List.append_assoc,List.singleton_append];have:=List.perm_middle (a:=k) (l₁:=b.take n) (l₂:=b.drop n);rw[List.take_append_drop]at this;exact this
structure afR (m:Mk) (dl:List Pr) (ps:List (List UInt8)) (od:List Nat):Prop where
  eq:ps=dl.map au
  lt:∀i∈od,i<m.ai.length
  perm:(od.map (jf m.ai)).Perm ps
  AI:od.Pairwise fun a b=>gG m.ai a<gG m.ai b
theorem zN {p q:Pr} (c:right p.pb=true) (d:right q.pb=true) (h:au p=au q):p=q:=by have a:=(o7 ((mH _).2 c)).2;have b:=(o7 ((mH _).2 d)).2;have C:whole p.pb=whole q.pb:=h;rw[C,b]at a;exact(zf.1 a).symm
theorem abL {m m':Mk} {l w:List Ob} {j:List Pr} {ps:List (List UInt8)} {e:List Nat} {i:Nat} {x:Pr} (h:afR m j ps e) (z:Stat m l) (d:BM m m' l w i (au x)) (v:au x∉j.map au) :
    afR m' (j ++ [x]) (ps ++ [(m'.ai.getD i known0).bQ]) (mB m'.ai i e):=by
  have C:=d.ext;obtain⟨k,hk,f⟩:=d.got;obtain⟨g,t⟩:=mC hk;have r:=(List.getElem?_eq_some_iff.1 hk).1;have G:(m'.ai.getD i known0).bQ=au x:=g.trans f;have n:e.map (jf m'.ai)=e.map (jf m.ai):=List.map_congr_left fun c a=>(C.at (h.lt c a)).2.2;have D:i∉e:=fun s=>by have H:jf m'.ai i∈e.map (jf m'.ai):=List.mem_map.2 ⟨i,s,q⟩;rw[n]at H;have:=h.perm.subset H;rw[h.eq,g,f]at this;exact v this
  refine⟨by rw[G,h.eq];simp,fun c a=>?_,?_,?_⟩
  · rcases JY a with rfl|a
    · exact r
    exact(C.at (h.lt c a)).1
  · refine((VO m'.ai i e).map _).trans ?_
    rw[List.map_cons,n,g,f,G];exact(List.Perm.cons _ h.perm).trans (List.perm_append_comm (l₁:=[au x]))
  refine NG ?_ fun c a p=>?_
  · refine List.Pairwise.imp_of_mem (fun {u b} ha hb hab=>?_) h.AI
    rw[(C.at (h.lt u ha)).2.1,(C.at (h.lt b hb)).2.1];exact hab
  obtain⟨y,o⟩:∃y,m'.ai[c]? = some y:=⟨_,List.getElem?_eq_getElem (C.at (h.lt c a)).1⟩;rw[(mC o).2,t]at p;have:=d.eP.one c i y k o hk (.inl p);subst this;exact D a
structure afL (m m':Mk) (l l':List Ob) (es:List eH) (mp:List Nat) (f:Nat->List Nat):Prop where
  img:lK m' l' es mp f
  ext:pB m.ai m'.ai
  same:m'.c=m.c/\m'.main=m.main/\∀i,i≠6->i≠7->i<15->m'.bS i=m.bS i
  len:m.ai.length<=m'.ai.length
theorem yg:∀(fs dl:List Pr) (m:Mk) (l:List Ob) (ps:List (List UInt8)) (od:List Nat) (es:List eH) (mp:List Nat) (f:Nat->List Nat),lK m l es mp f->(∀i,m.ai.length<=i->f i=[])->afR m dl ps od->(∀q∈fs,BD q)->((dl ++ fs).map au).Nodup ->
    ∃c,afL m (gI fs m ps od).2.2 l c es mp f/\afR (gI fs m ps od).2.2 (dl ++ fs) (gI fs m ps od).1 (gI fs m ps od).2.1
  | [],dl,m,l,ps,od,es,mp,f,h,hf,hw,_,_=>⟨l,⟨h,pB.refl _,⟨rfl,rfl,fun _ _ _ _=>rfl⟩,Nat.le_refl _⟩,by rw[List.append_nil];exact hw⟩
  | x :: r,dl,m,l,ps,od,es,mp,f,h,hf,hw,hb,hnd=>by
    obtain⟨u,a⟩:=Ml h.eP x (hb x Oy);have t:au x∉dl.map au:=fun o=>by rw[List.map_append,List.map_cons]at hnd;exact(List.nodup_append.1 hnd).2.2 _ o _ Oy rfl
    have g:=h.soft a hf;have w:=abL hw h.eP a t;have n:m.ai.length<=(m.data x).2.ai.length:=(by rcases a.new with e|⟨s,p,e,_⟩ <;> rw[e] <;> simp);obtain⟨c,b,j⟩:=yg r (dl ++ [x]) (m.data x).2 u _ _ es mp f g (fun i G=>hf i Xx) w (fun q k=>hb q (by simp[k])) (by rw[List.append_assoc];exact hnd);rw[List.append_assoc]at j;refine⟨c,⟨b.img,a.ext.trans b.ext,⟨b.same.1.trans a.step.same.1,b.same.2.1.trans a.step.same.2.1,fun i d C D=>(b.same.2.2 i d C D).trans (a.step.same.2.2 i d C D)⟩,lv n b.len⟩,j⟩
end Go.Wk
namespace Go.Wk
open Go Go.RowKit
theorem abM:∀{a b:List (List UInt8)},a.Perm b->∀v,nu v a=nu v b:=by
  intro a b h
  induction h with
  | nil=>exact fun _=>rfl
  | cons x _ ih=>exact fun v=>ih _
  | swap x y l=>intro v;simp only[nu];congr 1;rw[Nat.xor_assoc,Nat.xor_assoc,Nat.xor_comm (r7 y)]
  | trans _ _ ih1 ih2=>exact fun v=>(ih1 v).trans (ih2 v)
theorem Z6:∀(l:List (List UInt8)) (v:Nat),v<18446744073709551616->nu v l<18446744073709551616
  | [],_,h=>h
  | x :: r,v,h=>Z6 r _ (GW h (ES x))
structure afN (m m':Mk) (l':List Ob) (es:List eH) (mp:List Nat) (f:Nat->List Nat) (e n:Nat) (od:List Nat):Prop where
  img:lK m' l' es mp (fun j=>if j∈od then f j ++ [e]else f j)
  ds:lp m.ai m'.ai
  same:m'.c=m.c/\m'.ak=m.ak/\m'.main=m.main/\m'.depth=m.depth/\∀i,i≠6->i≠7->i≠18->m'.bS i=m.bS i
  top:m'.b.length<=m.b.length+2100*n
  ge:m.b.length<=m'.b.length
theorem lp.trans {a b c:List aN} (h:lp a b) (k:lp b c):lp a c:=⟨k.len.trans h.len,fun i x m=>by
  obtain⟨y,d,e,f⟩:=k.get i x m;obtain⟨z,g,j,l⟩:=h.get i y d;exact⟨z,g,e.trans j,f.trans l⟩⟩
theorem PZ {es:List eH} {t:List Nat} {e:Nat} (s:e<18446744073709551616):∀(d:List Nat) (m:Mk) (l:List Ob) (f:Nat->List Nat),lK m l es t f->(∀i∈d,i<m.ai.length)->d.Nodup->(∀i∈d,(f i).length<900000)->m.b.length+2100*d.length<900000 ->
    ∃n,afN m (kr e d m) n es t f e d.length d
  | [],m,l,f,h,_,_,_,_=>⟨l,⟨by simp only[List.not_mem_nil,if_false];exact h,lp.refl _,⟨q,q,q,q,fun _ _ _ _=>rfl⟩,Nat.le_refl _,Nat.le_refl _⟩⟩
  | i :: r,m,l,f,h,hi,hn,hl,hb=>by
    obtain⟨k,hk⟩:∃k,m.ai[i]? = some k:=⟨_,List.getElem?_eq_getElem (hi i Oy)⟩;simp only[List.length_cons]at hb;obtain⟨E,I,H⟩:=Qs (e:=e) h.eP.eF hk (h.eP.data k (List.mem_of_getElem? hk)) (h.dat i k hk) Xx s (by have:=hl i Oy;omega);have g:=h.hang hk H;have p:lp m.ai (jN e i m).ai:=(by rw[H.dat];exact lp.set hk H.pos.1 H.pos.2.1);have T:=H.top;obtain⟨v,w,x,y,z⟩:=H.same;rw[nK];rw[List.nodup_cons]at hn;have u:∀a∈r,(if a=i then f i ++ [e]else f a)=f a:=fun a c=>if_neg (by rintro rfl;exact hn.1 c);obtain⟨n,j⟩:=PZ s r (jN e i m) E _ g (fun a c=>by rw[p.len];exact hi a (by simp[c])) hn.2 (fun a c=>by simp only[u a c];exact hl a (by simp[c])) Xx;obtain⟨A,P,Q,R,B⟩:=j.same;have F:=j.top;refine⟨n,⟨?_,p.trans j.ds,⟨A.trans v,P.trans w,Q.trans x,R.trans y,fun a D o C=>(B a D o C).trans (z a D o C)⟩,by simp only[List.length_cons];omega,lv H.l7.len j.ge⟩⟩;have G:(fun a=>if a∈i :: r then f a ++ [e]else f a)=fun a=>if a∈r then(if a=i then f i ++ [e]else f a) ++ [e]else if a=i then f i ++ [e]else f a:=by
      funext a
      by_cases c:a=i
      · subst c;simp[hn.1]
      · simp[c]
    rw[G];exact j.img
def places (es:List eH) (i:Nat):List Nat:=(es.filter fun g=>decide (i∈g.who)).map eH.pos
theorem VP (es:List eH) (g:eH) (i:Nat):places (es ++ [g]) i=if i∈g.who then places es i ++ [g.pos]else places es i:=by
  unfold places;rw[List.filter_append,List.map_append]
  by_cases h:i∈g.who
  · rw[if_pos h];simp[h]
  rw[if_neg h];simp[h]
theorem FT (es:List eH) (i:Nat):(places es i).length<=es.length:=by unfold places;rw[List.length_map];exact List.length_filter_le _ _
structure wz (m:Mk) (g:eH):Prop where
  lt:∀i∈g.who,i<m.ai.length
  aF:g.ent.aF=g.who.map fun i=>{pos:=gG m.ai i,bY:=cM m (jf m.ai i)}
  AI:g.who.Pairwise fun a b=>gG m.ai a<gG m.ai b
  xor:g.ent.xor=nu 0 (g.who.map (jf m.ai))
  ok:gU.ok g.ent/\g.ent.seq≠0
  len:1<=g.who.length/\g.who.length<=16
structure OD (m:Mk) (g:eH) (r:Rec):Prop where
  seq:g.ent.seq=r.seq
  bK:g.ent.bK=r.bK
  mono:g.ent.mono=r.mono
  bD:g.ent.bD=r.bD
  ak:(g.who.map (jf m.ai)).Perm (r.ak.map au)
  AI:Asc r.ak
  right:∀q∈r.ak,right q.pb=true
theorem wz.ext {m m':Mk} {g:eH} (h:wz m g) (hd:pB m.ai m'.ai) (f:m'.c=m.c):wz m' g:=by
  have d:∀t,cM m' t=cM m t:=fun t=>by unfold cM;rw[f]
  refine⟨fun i a=>(hd.at (h.lt i a)).1,?_,?_,?_,h.ok,h.len⟩
  · rw[h.aF]
    exact List.map_congr_left fun i a=>by rw[(hd.at (h.lt i a)).2.1,(hd.at (h.lt i a)).2.2,d]
  · exact List.Pairwise.imp_of_mem (fun {e b} ha hb hab=>by rw[(hd.at (h.lt e ha)).2.1,(hd.at (h.lt b hb)).2.1];exact hab) h.AI
  rw[h.xor];congr 1;exact(List.map_congr_left fun i a=>(hd.at (h.lt i a)).2.2).symm
theorem OD.ext {m m':Mk} {g:eH} {r:Rec} (h:OD m g r) (w:wz m g) (hd:pB m.ai m'.ai):OD m' g r:=by refine⟨h.seq,h.bK,h.mono,h.bD,?_,h.AI,h.right⟩;have:g.who.map (jf m'.ai)=g.who.map (jf m.ai):=List.map_congr_left fun i A=>(hd.at (w.lt i A)).2.2;rw[this];exact h.ak
structure Img (m:Mk) (l:List Ob) (es:List eH):Prop where
  c:lK m l es (es.map eH.pos) (places es)
  n8:m.bS 8=es.length
  n9:m.bS 9<18446744073709551616
  n11:m.bS 11=m.main.getD 0 0
  n10:m.bS 10=(es.head?.map fun g=>g.ent.seq).getD 0
  who:∀g∈es,wz m g
  txt:∀k∈m.ai,∃q:Pr,right q.pb=true/\k.bQ=au q
theorem FU {es:List eH} {m:Mk} (h:∀g∈es,wz m g) (i:Nat) (hi:m.ai.length<=i):places es i=[]:=by unfold places;rw[List.map_eq_nil_iff,List.filter_eq_nil_iff];intro g A;simp only[decide_eq_true_eq];intro B;have:=(h g A).lt i B;omega
theorem lK.to {m m':Mk} {l:List Ob} {es:List eH} {i:List Nat} {f:Nat->List Nat} (h:lK m l es i f) (hb:m'.b=m.b) (a:m'.c=m.c) (hd:m'.ai=m.ai) (d:m'.ak=m.ak) (e:m'.main=m.main) (g:m'.bS 2=m.bS 2/\m'.bS 4=m.bS 4) (z:Cn m l->Cn m' l):lK m' l es i f:=by
  have D:∀t,cM m' t=cM m t:=fun t=>by unfold cM;rw[a]
  obtain⟨⟨o,p,G,H,q,r,s,u,v,j,n,C⟩,w,x,⟨P,Q⟩,R,y⟩:=h;exact⟨⟨by rw[hb];exact o,by rw[a];exact p,by rw[a];exact G,g.1.trans H,by rw[a];exact g.2.trans q,by rw[a];exact r,fun k hk=>by rw[hb,D];exact s k (hd ▸ hk),fun k hk=>by rw[hb,D];exact u k (d ▸ hk),by rw[hd];exact v,by rw[hd];exact j,by rw[d];exact n,z C⟩,by rw[hb,e];exact w,by rw[hb,hd];exact x,⟨by rw[hd,e];exact P,by rw[hd];exact Q⟩,by rw[hb];exact R,y⟩
end Go.Wk
namespace Go.Wk
open Go Go.RowKit
theorem tc (z:Mk) (n seq bK mono e:Nat) (bD:Ly) (i:Nat) (h:i≠8/\i≠9/\i≠10/\i≠12/\i≠13/\i≠14):(nJ z n seq bK mono e bD).bS i=z.bS i:=by
  unfold nJ;simp only;have A:(if n=0 then(z.cE 10 seq).cE 12 bK else z).bS i=z.bS i:=by
    split
    · rw[cJ Xx,cJ Xx]
    · rfl
  generalize (if n=0 then(z.cE 10 seq).cE 12 bK else z)=y at *;rw[<- A];show((((y.cE 8 ((y.bS 8+1)%18446744073709551616)).cE 9 seq).cE 13 bK).cE 14 mono).bS i=y.bS i;rw[cJ Xx,cJ Xx,cJ Xx,cJ Xx]
theorem acP (z:Mk) (n seq bK mono e:Nat) (bD:Ly) (h:z.h.n.length=20):(nJ z n seq bK mono e bD).bS 10=if n=0 then seq else z.bS 10:=by
  unfold nJ;simp only;have A:(if n=0 then(z.cE 10 seq).cE 12 bK else z).bS 10=if n=0 then seq else z.bS 10:=by
    split
    · rw[cJ Xx,AW Xx]
    · rfl
  generalize (if n=0 then(z.cE 10 seq).cE 12 bK else z)=y at *;rw[<- A];show((((y.cE 8 ((y.bS 8+1)%18446744073709551616)).cE 9 seq).cE 13 bK).cE 14 mono).bS 10=y.bS 10;rw[cJ Xx,cJ Xx,cJ Xx,cJ Xx]
theorem HX {ds:List aN} {c:List Nat} (h:c.Pairwise fun a b=>gG ds a<gG ds b):c.Nodup :=
  List.Pairwise.imp (fun {a b} hab e=>by subst e;exact Nat.lt_irrefl _ hab) h
theorem zC {fs:List Pr} (h:Asc fs) (a:∀q∈fs,right q.pb=true):(fs.map au).Nodup:=by
  unfold List.Nodup;rw[List.pairwise_map];exact List.Pairwise.imp_of_mem (fun {c b} ha hb hab e=>by
    have:=zN (a c ha) (a b hb) e;subst this;exact BB _ hab) h
theorem CK:∀(fs:List Pr) (m:Mk) (ps:List (List UInt8)) (od:List Nat),∀k∈(gI fs m ps od).2.2.ai,k∈m.ai\/∃q∈fs,k.bQ=au q
  | [],m,_,_,k,hk=>.inl hk
  | x :: r,m,ps,od,k,hk=>by
    rcases CK r (m.data x).2 _ _ k hk with h|⟨q,h1,h2⟩
    · rcases IC k h with h|h
      · exact .inl h
      · exact .inr ⟨x,by simp,h⟩
    · exact .inr ⟨q,by simp[h1],h2⟩
structure akj (m m':Mk) (l':List Ob) (es:List eH) (g:eH) (r:Rec):Prop where
  img:Img m' l' (es ++ [g])
  rcd:OD m' g r
  ext:pB m.ai m'.ai
  c:m'.c=m.c
  seq:r.seq=m.bS 9+1/\m'.bS 9=r.seq
  ge:m.b.length<=g.pos
  main:∃t,m'.main=m.main ++ t
  len:m.b.length<=m'.b.length
  bS:∀i,i<=5->m'.bS i=m.bS i
theorem HW {m m':Mk} {l:List Ob} {es:List eH} {raw:List Pr} {bK mono s:Nat} {bD:Ly} (h:Img m l es) (ok:vF m) (h20:m.h.n.length=20) (hb:bD.length=16) (ax:bK<18446744073709551616/\mono<18446744073709551616) (B:m.append raw bK mono bD=(s,0,m')) :
    ∃be g fs,ku raw=(fs,0)/\akj m m' be es g {seq:=s,bK:=bK,mono:=mono,bD:=bD,ak:=fs}:=by
  rcases hl:ku raw with⟨fs,c⟩
  by_cases u:c≠0
  · have e:m.append raw bK mono bD=(0,c,m):=by unfold Mk.append;simp only[hl];rw[if_pos u]
    rw[e]at B;exact absurd (congrArg (fun x=>x.2.1) B) u
  have aT:=Classical.not_not.1 u;subst aT
  by_cases S:m.bS 9=18446744073709551615
  · have e:m.append raw bK mono bD=(0,1,m):=by unfold Mk.append;simp only[hl];rw[if_neg u,if_pos S]
    rw[e]at B;have:=congrArg (fun x=>x.2.1) B;simp at this
  obtain⟨ap,Z,bq,a0,a1⟩:=uM hl;obtain⟨au,_⟩:=tu hl;have D:=uz fs m [] [] 0 (qh ok) au;obtain⟨bB,T,W⟩:=yg fs [] m l [] [] es (es.map eH.pos) (places es) h.c (fun i j=>FU h.who i j) ⟨q,by simp,by simp,List.Pairwise.nil⟩ au (by rw[List.nil_append];exact zC ap Z);have aE:=yT fs m [] [];have al:=CK fs m [] []
  rcases hd:gI fs m [] []with⟨ps,G,x⟩
  rw[hd,Nat.zero_add]at D;rw[hd]at T W aE al;rw[List.nil_append]at W;simp only at D T W aE al;have bC:=ok.small;have s4:=ok.nb;have bv:=D.app.le;have a7:=D.len.1;have aP:=D.app.ge;obtain⟨c1,c2,w⟩:=T.same;have n9:x.bS 9=m.bS 9:=w 9 Xy Xy Xy;have n8:x.bS 8=m.bS 8:=w 8 Xy Xy Xy;have ad:=h.n8;have bo:=h.n9;have bt:es.length<=40000:=by have:m.n8=es.length:=ad;omega
  have aW:=HX W.AI;have I:(x.bS 9+1)%18446744073709551616=m.bS 9+1:=by rw[n9];exact Nat.mod_eq_of_lt Xx
  generalize hE:({seq:=(x.bS 9+1)%18446744073709551616,bK:=bK,mono:=mono,bD:=bD,xor:=nu 0 ps,aF:=jd x G}:gU)=E;have a8:E.seq=m.bS 9+1/\E.bK=bK/\E.mono=mono/\E.bD=bD/\E.xor=nu 0 ps/\E.aF=jd x G:=by subst hE;exact⟨I,q,q,q,q,q⟩
  obtain⟨X,aG,aH,aI,aJ,aK⟩:=a8;have bw:E.aF.length=G.length:=by rw[aK];simp[jd]
  have af:E.bD.length=16:=by rw[aI];exact hb
  have aL:wz x ⟨x.b.length,E,G⟩:=by
    refine⟨W.lt,aK,W.AI,?_,⟨⟨?_,?_,?_,af,?_⟩,?_⟩,?_⟩
    · simp only;rw[aJ];exact abM W.perm.symm 0
    · simp only;rw[X];omega
    · simp only;rw[aG];exact ax.1
    · simp only;rw[aH];exact ax.2
    · simp only;rw[aJ];exact Z6 _ _ Xy
    · simp only;rw[X];omega
    · simp only;rw[a7];exact⟨List.length_pos_iff.2 a1,a0⟩
  have bh:OD x ⟨x.b.length,E,G⟩ {seq:=m.bS 9+1,bK:=bK,mono:=mono,bD:=bD,ak:=fs}:=by refine⟨X,aG,aH,aI,?_,ap,Z⟩;simp only;rw[<- W.eq];exact W.perm
  have J:=T.img.entry (E:=E) (who:=G) af Xx;have N:=(gF x (cW E));have v:=dR x (cW E);have F:∀i,i≠6->i≠7->(x.bU (cW E)).2.bS i=x.bS i:=fun i bz bA=>by simp only[Mk.bU];rw[cJ Xx,cJ Xx];rfl
  have o:=r8 x (cW E);have bx:=lS E af
  rcases ho:x.bU (cW E)with⟨e,C⟩
  rw[ho]at J N v F o;simp only at J N v F o;have aU:e=x.b.length:=N.1;subst aU;have f:C.bS 8=(es.map eH.pos).length:=by rw[F 8 Xy Xy,n8,ad,List.length_map]
  have bp:x.b.length<100000:=by omega
  obtain⟨bf,A⟩:=MP (x:=x.b.length) J.eP.eF J.main (t7 _) (by have:=N.2.1;omega) Xx;rw[<- f]at A;have p:=MU C C.main (C.bS 8) 176 x.b.length
  rcases hk:C.link C.main (C.bS 8) 176 x.b.length with⟨a,t,K⟩
  rw[hk]at A p;simp only at A p;have U:=kR (bK:=bK) (mono:=mono) (bD:=bD) hl u S hd (by rw[hE];exact ho) hk q;obtain⟨d,L⟩:∃d,d=(let aD:=({K with main:=a}:Mk).cE 11 (a.getD 0 0);({aD with h:={aD.h with cK:=iZ a%4294967296,dc:=t%4294967296}}:Mk)):=⟨_,q⟩;have P:∀i,i≠11->d.bS i=K.bS i:=fun i j=>by subst L;exact aX Xx
  have aO:d.bS 11=a.getD 0 0:=by subst L;exact mR (by show 11<K.h.n.length;omega)
  have a6:d.b=K.b/\d.c=K.c/\d.ai=K.ai/\d.ak=K.ak/\d.main=a/\d.h.n.length=K.h.n.length:=by subst L;exact⟨q,q,q,q,q,by simp[Mk.cE]⟩
  rw[<- L]at U;clear L;obtain⟨am,aM,aN,bk,an,bl⟩:=a6;have a2:=J.link A am aM aN bk an ⟨P 2 Xy,P 4 Xy⟩ (fun c=>c.to bl fun i j=>P i Xx);obtain⟨bi,bj,bE,bF,bH,aj⟩:=A.same;have br:=A.top;have aa:d.ai=x.ai:=by rw[aN,bj,v.2.1]
  have aV:x.b.length<18446744073709551616:=by omega
  have bs:=N.2.1;obtain⟨bg,H⟩:=PZ (e:=x.b.length) aV G d bf _ a2 (fun i j=>by rw[aa];exact W.lt i j) aW (fun i _=>by have:=FT es i;omega) (by rw[am];omega);have bu:=EZ x.b.length G d;generalize kr x.b.length G d=z at *;have U:m.append raw bK mono bD=if z.c.bG<z.b.length then(0,15,m)else((x.bS 9+1)%18446744073709551616,0,nJ z (C.bS 8) ((x.bS 9+1)%18446744073709551616) bK mono x.b.length bD):=U;rw[U]at B;split at B
  · have:=congrArg (fun x=>x.2.1) B;simp at this
  obtain⟨aA,aB,ag,bd,ah,a3,a4,bc,aC⟩:=uG z (C.bS 8) ((x.bS 9+1)%18446744073709551616) bK mono x.b.length bD;have ba:=fun i (j:i<=5)=>tc z (C.bS 8) ((x.bS 9+1)%18446744073709551616) bK mono x.b.length bD i Xx;have bb:=fun i (j:i≠8/\i≠9/\i≠10/\i≠12/\i≠13/\i≠14)=>tc z (C.bS 8) ((x.bS 9+1)%18446744073709551616) bK mono x.b.length bD i j;have aY:=acP z (C.bS 8) ((x.bS 9+1)%18446744073709551616) bK mono x.b.length bD;have aZ:=tc z (C.bS 8) ((x.bS 9+1)%18446744073709551616) bK mono x.b.length bD 11 Xy;obtain⟨ar,aR⟩:=Prod.mk.inj B;have aS:=(Prod.mk.inj aR).2;rw[I]at ar;generalize nJ z (C.bS 8) ((x.bS 9+1)%18446744073709551616) bK mono x.b.length bD=R at *;subst aS;subst ar;obtain⟨bm,bI,z3,bJ,z5⟩:=H.same;have ao:z.h.n.length=20:=by omega
  have a5:=(aC ao).1;have aq:=(aC ao).2;have bn:z.bS 8=es.length:=by rw[z5 8 Xy Xy Xy,P 8 Xy,aj 8 Xy Xy Xy,F 8 Xy Xy,n8,ad]
  have aQ:pB x.ai z.ai:=by have:=H.ds.ext;rw[aa]at this;exact this
  have ab:pB x.ai R.ai:=by rw[ag];exact aQ
  have ae:R.c=x.c:=by rw[aB,bm,aM,bi,v.1]
  have V:pB m.ai R.ai:=T.ext.trans ab;refine⟨bg,⟨x.b.length,E,G⟩,fs,q,⟨⟨?_,?_,?_,?_,?_,?_,?_⟩,bh.ext aL ab,V,by rw[ae,c1],⟨q,by rw[aq,I]⟩,aP,?_,?_,fun i j=>?_⟩⟩
  · have:=H.img.to (m':=R) aA aB ag bd ah ⟨a3,a4⟩ (fun c=>c.to bc fun i j=>bb i Xx)
    rw[List.map_append];have a9:places (es ++ [⟨x.b.length,E,G⟩])=fun M=>if M∈G then places es M ++ [x.b.length]else places es M:=funext fun M=>VP es ⟨x.b.length,E,G⟩ M;rw[a9];exact this
  · show R.n8=_
    rw[a5,show z.n8=es.length from bn,List.length_append,Nat.mod_eq_of_lt Xx];rfl
  · rw[aq,I];omega
  · rw[aZ,ah,z5 11 Xy Xy Xy,aO,z3,an]
  · rw[aY ao,f,List.length_map,z5 10 Xy Xy Xy,P 10 Xy,aj 10 Xy Xy Xy,F 10 Xy Xy,w 10 Xy Xy Xy,h.n10]
    cases es with
    | nil=>simp only[List.length_nil,if_true,List.nil_append,List.head?_cons,Option.map_some,Option.getD_some];rw[X,I]
    | cons y r=>simp
  · intro g Q
    rcases List.mem_append.1 Q with Q|Q
    · exact(h.who g Q).ext V (by rw[ae,c1])
    simp at Q;subst Q;exact aL.ext ab ae
  · intro k hk
    rw[ag]at hk;obtain⟨i,j⟩:=List.mem_iff_getElem?.1 hk;obtain⟨az,aw,_,ay⟩:=H.ds.get i k j;rw[aa]at aw
    rcases al az (List.mem_of_getElem? aw)with O|⟨Y,O,u⟩
    · obtain⟨Y,u,S⟩:=h.txt az O
      exact⟨Y,u,ay.trans S⟩
    exact⟨Y,Z Y O,ay.trans u⟩
  · rw[ah,z3,an]
    have av:C.main=m.main:=by rw[v.2.2.2,c2]
    rcases A.arr with e|e
    · exact⟨[],by rw[e,av,List.append_nil]⟩
    exact⟨_,by rw[e,av]⟩
  · rw[aA]
    have O:=A.l7.len;have u:=H.ge;rw[am]at u;omega
  rw[ba i j,z5 i Xx Xx Xx,P i Xx,aj i Xx Xx Xx,F i Xx Xx,w i Xx Xx Xx]
end Go.Wk
namespace Go.Wk
open Go Go.RowKit
def hk (m:Mk):Nat × Nat × Nat × List UInt8:=(m.h.gD,m.h.bN,m.h.state,m.h.cg)
theorem alz {m M:Mk} (h:M.h=m.h):hk M=hk m:=by unfold hk;rw[h]
theorem Yb (m:Mk) (l:List aN) (t p s:Nat):hk (m.hang l t p s).2=hk m:=by unfold hk;rw[(AQ m l t p s).1]
theorem adu (m:Mk) (x:Ly):hk (m.field x).2=hk m:=by
  unfold Mk.field;split
  · rfl
  simp only;have B:hk (m.bU (gu {bY:=cP m.c.cC m.c.cg x,b9:=0,dat:=0,au:=x})).2=hk m:=rfl;generalize m.bU (gu {bY:=cP m.c.cC m.c.cg x,b9:=0,dat:=0,au:=x})=r at *;obtain⟨p,A⟩:=r;simp only at B ⊢;have C:=Yb A A.ak (A.bS 4) p (cP m.c.cC m.c.cg x%A.c.aC);generalize A.hang A.ak (A.bS 4) p (cP m.c.cC m.c.cg x%A.c.aC)=r at *;obtain⟨n,D⟩:=r;exact C.trans B
theorem ag2 (m:Mk) (x:Pr):hk (m.data x).2=hk m:=by
  unfold Mk.data;split
  · rfl
  simp only;have C:hk (m.bU (iu {bY:=cP m.c.cC m.c.cg (au x),b9:=0,dr:=0,entry:=0,array:=0,bw:=0,au:=au x})).2=hk m:=rfl;generalize m.bU (iu {bY:=cP m.c.cC m.c.cg (au x),b9:=0,dr:=0,entry:=0,array:=0,bw:=0,au:=au x})=r at *;obtain⟨p,A⟩:=r;simp only at C ⊢;have D:=Yb A A.ai (A.bS 2) p (cP m.c.cC m.c.cg (au x)%A.c.ay);generalize A.hang A.ai (A.bS 2) p (cP m.c.cC m.c.cg (au x)%A.c.ay)=r at *;obtain⟨n,B⟩:=r;simp only at D ⊢;generalize hx5:({(B.cE 19 (max (B.bS 19) n)).cE 15 (((B.cE 19 (max (B.bS 19) n)).bS 15+1)%18446744073709551616)with ai:=((B.cE 19 (max (B.bS 19) n)).cE 15 (((B.cE 19 (max (B.bS 19) n)).bS 15+1)%18446744073709551616)).ai ++ [({bQ:=au x,pos:=p,bV:=cP m.c.cC m.c.cg (au x)%A.c.ay,bw:=0,aT:=[]}:aN)]}:Mk)=m5;have E:hk m5=hk B:=by subst hx5;rfl
  have F:=adu m5 x.name;generalize m5.field x.name=r at *;obtain⟨k,G⟩:=r;exact F.trans (E.trans (D.trans C))
theorem J9:∀(l:List Pr) (m:Mk) (ps:List (List UInt8)) (od:List Nat),hk (gI l m ps od).2.2=hk m
  | [],_,_,_=>rfl
  | x :: r,m,ps,od=>(J9 r _ _ _).trans (ag2 m x)
theorem Yc (m:Mk) (a:List Nat) (n src gN:Nat):hk (m.link a n src gN).2.2=hk m:=by
  unfold Mk.link;generalize eW a 0 0 0=r;obtain⟨A,C⟩:=r;simp only;split
  · have B:hk (m.bU (fe {next:=0,aF:=List.replicate (dA (a.length:Int)) 0})).2=hk m:=rfl
    generalize m.bU (fe {next:=0,aF:=List.replicate (dA (a.length:Int)) 0})=r at *;obtain⟨p,D⟩:=r;simp only at B ⊢;split
    · exact B
    exact B
  rfl
theorem QD (e:Nat):∀(a:List Nat) (m:Mk),hk (kr e a m)=hk m
  | [],_=>rfl
  | i :: r,m=>by
    rw[nK,QD e r];unfold jN;simp only;split
    · exact alz q
    · have g:=Yc m (m.ai.getD i known0).aT ((m.ai.getD i known0).bw-1) ((m.ai.getD i known0).pos+48) e
      generalize m.link (m.ai.getD i known0).aT ((m.ai.getD i known0).bw-1) ((m.ai.getD i known0).pos+48) e=r at *;obtain⟨b,t,c⟩:=r;exact(alz q).trans g
theorem ag3 (z:Mk) (n seq bK mono e:Nat) (bD:Ly):hk (nJ z n seq bK mono e bD)=hk z:=by
  unfold nJ;simp only;generalize hy:(if n=0 then(z.cE 10 seq).cE 12 bK else z)=y;have:hk y=hk z:=by subst hy;split <;> rfl
  exact this
theorem yI (m:Mk) (raw:List Pr) (bK mono:Nat) (bD:Ly):hk (m.append raw bK mono bD).2.2=hk m/\((m.append raw bK mono bD).2.1≠0->(m.append raw bK mono bD).2.2=m):=by
  rcases hl:ku raw with⟨l,c⟩
  by_cases h2:c≠0
  · have d:m.append raw bK mono bD=(0,c,m):=by unfold Mk.append;simp only[hl];rw[if_pos h2]
    rw[d];exact⟨q,fun _=>rfl⟩
  by_cases h3:m.bS 9=18446744073709551615
  · have d:m.append raw bK mono bD=(0,1,m):=by unfold Mk.append;simp only[hl];rw[if_neg h2,if_pos h3]
    rw[d];exact⟨q,fun _=>rfl⟩
  have g:=J9 l m [] []
  rcases hd:gI l m [] []with⟨I,D,x⟩
  rw[hd]at g;have i:hk (x.bU (cW {seq:=(x.bS 9+1)%18446744073709551616,bK:=bK,mono:=mono,bD:=bD,xor:=nu 0 I,aF:=jd x D})).2=hk x:=rfl
  rcases ho:x.bU (cW {seq:=(x.bS 9+1)%18446744073709551616,bK:=bK,mono:=mono,bD:=bD,xor:=nu 0 I,aF:=jd x D})with⟨d,A⟩
  rw[ho]at i;have G:=Yc A A.main (A.bS 8) 176 d
  rcases hk3:A.link A.main (A.bS 8) 176 d with⟨a,t,C⟩
  rw[hk3]at G;simp only at g i G;have f:m.append raw bK mono bD=_:=kR (bK:=bK) (mono:=mono) (bD:=bD) hl h2 h3 hd ho hk3 q;have H:=QD d D (let e:=({C with main:=a}:Mk).cE 11 (a.getD 0 0);{e with h:={e.h with cK:=iZ a%4294967296,dc:=t%4294967296}});have j:hk (let e:=({C with main:=a}:Mk).cE 11 (a.getD 0 0);({e with h:={e.h with cK:=iZ a%4294967296,dc:=t%4294967296}}:Mk))=hk C:=rfl;rw[j]at H;generalize kr d D (let e:=({C with main:=a}:Mk).cE 11 (a.getD 0 0);{e with h:={e.h with cK:=iZ a%4294967296,dc:=t%4294967296}})=z at f H;have f:m.append raw bK mono bD=if z.c.bG<z.b.length then(0,15,m)else((x.bS 9+1)%18446744073709551616,0,nJ z (A.bS 8) ((x.bS 9+1)%18446744073709551616) bK mono d bD):=f;rw[f];split
  · exact⟨q,fun _=>rfl⟩
  refine⟨?_,fun h=>absurd q h⟩;show hk (nJ _ _ _ _ _ _ _)=_;rw[ag3,H,G,i,g]
theorem WI (n:Nat):pR (List.replicate n {first:=0,tail:=0})=nums (List.replicate (2*n) 0):=by
  induction n with
  | zero=>rfl
  | succ n ih =>
    rw[List.replicate_succ,pR,ih,show 2*(n+1)=(2*n+1)+1 by omega,List.replicate_succ,List.replicate_succ];simp[nums]
theorem ahA {k:Nat} (hk:k=4\/k=5) (n:Nat):(∃r,dV k (List.replicate n {first:=0,tail:=0})=TU k (16+16*n) ++ r)/\(dV k (List.replicate n {first:=0,tail:=0})).length=16+16*n /\
    ∀i,i<2*n->dW (dV k (List.replicate n {first:=0,tail:=0})) (16+8*i)=0:=by
  have e:dV k (List.replicate n {first:=0,tail:=0})=pZ k (nums (List.replicate (2*n) 0) ++ []):=by unfold dV;rw[if_neg Xx,WI,List.append_nil]
  obtain⟨A,B,C,_⟩:=adT (k:=k) Xx (List.replicate (2*n) 0) [] (fun v E=>by rw[(List.mem_replicate.1 E).2];decide);rw[<- e]at A B C;simp only[List.length_replicate,List.length_nil,Nat.add_zero]at A B;rw[show 16+8*(2*n)=16+16*n by omega]at A B;exact⟨A,by rw[B];unfold oP;omega,fun i D=>C i 0 (by rw[List.getElem?_replicate,if_pos D])⟩
def rB (c:nA):List Ob:=[⟨272,4,16+16*c.ay⟩,⟨288+16*c.ay,5,16+16*c.aC⟩]
structure ahK (m:Mk):Prop where
  hk:hk m=(2,if m.c.cC then 4 else 0,1,m.c.cg)
  n0:m.bS 0=272
  n3:m.bS 3=16*m.c.ay
  n5:m.bS 5=16*m.c.aC
theorem RF {c:nA} {t:Nat} (h:c.ay<=10/\c.aC<=10) (h1:1<=c.ay/\1<=c.aC) (w:t<1000000):Img (iA c t) (rB c) []/\ahK (iA c t)/\(iA c t).bS 9=t:=by
  obtain⟨⟨T,j⟩,l,_⟩:=ahA (k:=4) (.inl q) c.ay;obtain⟨⟨v,m⟩,p,_⟩:=ahA (k:=5) (.inr q) c.aC;have e:(iA c t).b=List.replicate 272 0 ++ dV 4 (List.replicate c.ay {first:=0,tail:=0}) ++ dV 5 (List.replicate c.aC {first:=0,tail:=0}):=rfl;have a:(iA c t).h.n=(((((((((List.replicate 20 0).set 0 272).set 2 288).set 3 (16*c.ay)).set 4 ((List.replicate 272 (0:UInt8) ++ dV 4 (List.replicate c.ay {first:=0,tail:=0})).length+16)).set 5 (16*c.aC)).set 6 ((List.replicate 272 (0:UInt8) ++ dV 4 (List.replicate c.ay {first:=0,tail:=0})).length)).set 7 2).set 9 t):=rfl;have D:(List.replicate 272 (0:UInt8) ++ dV 4 (List.replicate c.ay {first:=0,tail:=0})).length=288+16*c.ay:=by rw[List.length_append,List.length_replicate,l];omega
  have s:(iA c t).b.length=304+16*c.ay+16*c.aC:=by rw[e,List.length_append,D,p];omega
  rw[D]at a;have bS:∀i,(iA c t).bS i=(iA c t).h.n.getD i 0:=fun _=>rfl;generalize hT4:dV 4 (List.replicate c.ay {first:=0,tail:=0})=T4 at *;generalize hT5:dV 5 (List.replicate c.aC {first:=0,tail:=0})=T5 at *;have Q:seg (iA c t).b 272 16=TU 4 (16+16*c.ay):=by rw[e,List.append_assoc,iG (by rw[List.length_replicate];exact Nat.le_refl _),List.length_replicate,Nat.sub_self,j,List.append_assoc];exact lW _ _ (jP _ _).symm
  have R:seg (iA c t).b (288+16*c.ay) 16=TU 5 (16+16*c.aC):=by rw[e,iG Xx,D,Nat.sub_self,m];exact lW _ _ (jP _ _).symm
  have u:oP (16+16*c.ay)=16+16*c.ay:=by unfold oP;omega
  have u5:oP (16+16*c.aC)=16+16*c.aC:=by unfold oP;omega
  have r:fE (iA c t).b 272 (rB c) (iA c t).b.length:=by refine⟨q,by simp,by simp,by simp only;omega,by simp only;omega,Q,?_⟩;simp only[u];rw[show 272+(16+16*c.ay)=288+16*c.ay by omega];refine⟨q,by simp,by simp,by simp only;omega,by simp only;omega,R,?_⟩;simp only[u5,fE];rw[s];omega
  have d:(iA c t).ai=[]:=rfl;have P:(iA c t).ak=[]:=rfl;have H:(iA c t).main=[]:=rfl;have f:(iA c t).c=c:=rfl;have G:Cn (iA c t) (rB c):=by
    refine⟨by rw[a];simp,by rw[bS,a,rB];rfl,by rw[bS,a];rfl,by rw[bS,a];rfl,by rw[bS,a];simp[rB],fun o g=>?_⟩;simp[rB]at g
    rcases g with rfl|rfl
    · exact⟨by simp,by simp,fun _=>⟨c.ay,h1.1,q⟩⟩
    · exact⟨by simp,by simp,fun _=>⟨c.aC,h1.2,q⟩⟩
  have C:dW (iA c t).b 176=0:=by rw[e,uq (by rw[D];omega),uq (by rw[List.length_replicate];omega)];show EK (((List.replicate 272 0).drop 176).take 8)=0;rw[List.drop_replicate,List.take_replicate];rfl
  refine⟨⟨⟨⟨r,by rw[f];simp[rB],by rw[f];simp[rB],by rw[bS,a];rfl,by rw[bS,a];simp only[f];show _+16=_;omega,by rw[f];exact h1,by rw[d];simp,by rw[P];simp,by rw[d];simp,by simp[rB],by simp[rB],G⟩,?_,by rw[d];simp,⟨by rw[d];simp,by rw[d];simp⟩,by simp,by simp[rB]⟩,by rw[bS,a];rfl,by rw[bS,a];show t<_;omega,by rw[bS,a,H];rfl,by rw[bS,a];rfl,by simp,by rw[d];simp⟩,⟨q,by rw[bS,a];rfl,by rw[bS,a];rfl,by rw[bS,a];rfl⟩,by rw[bS,a];rfl⟩;rw[H];exact⟨C,by simp,by simp,by simp,by simp,Nat.le_refl _,Nat.le_refl _⟩
end Go.Wk
namespace Go.Wk
open Go Go.RowKit
structure mM (m:Mk) (l:List Ob) (es:List eH) (rs:List Rec):Prop where
  img:Img m l es
  ok:vF m
  h20:m.h.n.length=20
  hd:ahK m
  len:es.length=rs.length
  rcd:∀(i:Nat) (g:eH) (r:Rec),es[i]? = some g->rs[i]? = some r->OD m g r
  rise:rs.Pairwise fun a b=>a.seq<b.seq
  top:∀r∈rs,1<=r.seq/\r.seq<=m.bS 9
structure BP (m m':Mk) (es es':List eH) (rs rs':List Rec):Prop where
  es:∃t,es'=es ++ t
  rs:∃t,rs'=rs ++ t
  main:∃t,m'.main=m.main ++ t
  ext:pB m.ai m'.ai
  c:m'.c=m.c
  len:m.b.length<=m'.b.length
  bS:∀i,i<=5->m'.bS i=m.bS i
theorem BP.refl (m:Mk) (es:List eH) (rs:List Rec):BP m m es es rs rs:=⟨⟨[],by simp⟩,⟨[],by simp⟩,⟨[],by simp⟩,pB.refl _,q,Nat.le_refl _,fun _ _=>rfl⟩
theorem BP.trans {a b c:Mk} {es e f:List eH} {rs g j:List Rec} (h:BP a b es e rs g) (k:BP b c e f g j):BP a c es f rs j:=by obtain⟨H,l⟩:=h.es;obtain⟨q,m⟩:=k.es;obtain⟨o,C⟩:=h.rs;obtain⟨r,n⟩:=k.rs;obtain⟨p,D⟩:=h.main;obtain⟨u3,G⟩:=k.main;exact⟨⟨H ++ q,by rw[m,l,List.append_assoc]⟩,⟨o ++ r,by rw[n,C,List.append_assoc]⟩,⟨p ++ u3,by rw[G,D,List.append_assoc]⟩,h.ext.trans k.ext,k.c.trans h.c,lv h.len k.len,fun i d=>(k.bS i d).trans (h.bS i d)⟩
theorem EQ {x fs:List Pr} (h:ku x=(fs,0)) (c:Asc x):fs=x:=by obtain⟨a,_,b,_⟩:=uM h;exact Xi a c b
theorem XW:∀(l o x:List Pr) (c:Nat),TT l o=(x,c)->c≠0->x=[]
  | [],o,x,c,h,hc=>by
    unfold TT at h;split at h
    · exact(Prod.mk.inj h).1.symm
    · exact absurd (Prod.mk.inj h).2.symm hc
  | p :: r,o,x,c,h,hc=>by
    unfold TT at h;split at h
    · exact(Prod.mk.inj h).1.symm
    · exact XW r _ x c h hc
theorem aat (l:List Pr):Asc (ku l).1:=by
  rcases h:ku l with⟨x,c⟩
  by_cases hc:c=0
  · subst hc;exact(uM h).1
  unfold ku at h;split at h
  · rw[<- (Prod.mk.inj h).1];exact List.Pairwise.nil
  rw[XW _ _ _ _ h hc];exact List.Pairwise.nil
theorem BR {α:Type} {l:List α} {p a:α} {k:Nat} (h:(l ++ [p])[k]? = some a):(k<l.length/\l[k]? = some a)\/(k=l.length/\a=p):=by
  rcases Nat.lt_or_ge k l.length with hk|hk
  · rw[List.getElem?_append_left hk]at h;exact .inl ⟨hk,h⟩
  have B:=(List.getElem?_eq_some_iff.1 h).1;simp at B;rw[List.getElem?_append_right hk,show k-l.length=0 by omega]at h;exact .inr ⟨by omega,by simpa using h.symm⟩
theorem Z0 {m m':Mk} {l:List Ob} {es:List eH} {rs:List Rec} {r:Rec} {s:Nat} (h:mM m l es rs) (B:r.seq=(m.bS 9+1)%18446744073709551616) (hb:r.bD.length=16) (A:r.bK<18446744073709551616/\r.mono<18446744073709551616) (x:Asc r.ak) (p:m.append r.ak r.bK r.mono r.bD=(s,0,m')) :
    ∃d o,mM m' d o (rs ++ [r])/\BP m m' es o rs (rs ++ [r]):=by
  have C:=yS m r.ak r.bK r.mono r.bD;have t:=xY (raw:=r.ak) (bK:=r.bK) (mono:=r.mono) h.ok hb (C.trans h.h20);have D:=(yI m r.ak r.bK r.mono r.bD).1;rw[p]at C t D;obtain⟨d,g,F,w,a⟩:=HW h.img h.ok h.h20 hb A p;have H:=EQ w x;subst H;have T:=h.img.n9;have P:s=m.bS 9+1:=a.seq.1;have E:m'.bS 9=s:=a.seq.2;have R:=a.img.n9;have j:r.seq=s:=by rw[B,P];exact Nat.mod_eq_of_lt Xx
  have u:({seq:=s,bK:=r.bK,mono:=r.mono,bD:=r.bD,ak:=r.ak}:Rec)=r:=by cases r;simp only at j;subst j;rfl
  have e:=a.rcd;rw[u]at e;refine⟨d,es ++ [g],⟨a.img,t,C.trans h.h20,⟨?_,?_,?_,?_⟩,by simp[h.len],fun i k Q v f=>?_,?_,fun y b=>?_⟩,⟨⟨_,q⟩,⟨_,q⟩,a.main,a.ext,a.c,a.len,a.bS⟩⟩
  · rw[D,h.hd.hk,a.c]
  · rw[a.bS 0 Xy];exact h.hd.n0
  · rw[a.bS 3 Xy,a.c];exact h.hd.n3
  · rw[a.bS 5 Xy,a.c];exact h.hd.n5
  · rcases BR v with⟨M,K⟩|⟨M,rfl⟩
    · rcases BR f with⟨_,G⟩|⟨G,_⟩
      · exact(h.rcd i k Q K G).ext (h.img.who k (List.mem_of_getElem? K)) a.ext
      have:=h.len;omega
    rcases BR f with⟨G,_⟩|⟨_,rfl⟩
    · have:=h.len;omega
    exact e
  · refine List.pairwise_append.2 ⟨h.rise,by simp,fun y b z n=>?_⟩
    simp at n;subst n;have:=(h.top y b).2;omega
  rw[E]
  rcases List.mem_append.1 b with b|b
  · have:=h.top y b;omega
  simp at b;subst b;omega
theorem G1 (s:Sq) (n:Nat):(s.record n).1.seq=n/\(s.record n).1.bD.length=16/\((s.record n).1.bK<18446744073709551616/\(s.record n).1.mono<18446744073709551616)/\Asc (s.record n).1.ak:=by
  refine⟨?_,zP s n,?_⟩
  · rcases h1:s.pairs 4 with⟨F,A⟩
    rcases h2:A.bS 40 with⟨a,B⟩
    rcases h3:B.bS 9 with⟨b,C⟩
    rcases h4:C.bS 3 with⟨c,G⟩
    simp only[Sq.record,h1,h2,h3,h4]
  rcases h1:s.pairs 4 with⟨F,A⟩
  rcases h2:A.bS 40 with⟨a,B⟩
  rcases h3:B.bS 9 with⟨b,C⟩
  rcases h4:C.bS 3 with⟨c,G⟩
  have D:=A.jw 40;have E:=B.jw 9;rw[h2]at D;rw[h3]at E;simp only[Sq.record,h1,h2,h3,h4];simp only at D E;exact⟨by omega,aat F⟩
theorem JL:∀(n:Nat) (s:Sq) (m:Mk) (l:List Ob) (es:List eH) (rs:List Rec),mM m l es rs ->
    ∃d b,mM (iW n s m rs).1 d b (iW n s m rs).2.1/\BP m (iW n s m rs).1 es b rs (iW n s m rs).2.1/\(iW n s m rs).2.1.length<=rs.length+n
  | 0,s,m,l,es,rs,h=>⟨l,es,h,BP.refl _ _ _,Nat.le_refl _⟩
  | n+1,s,m,l,es,rs,h=>by
    unfold iW;split
    · have a:=G1 s ((m.bS 9+1)%18446744073709551616)
      rcases hrec:s.record ((m.bS 9+1)%18446744073709551616)with⟨r,s1⟩
      rw[hrec]at a;have hk:=(yI m r.ak r.bK r.mono r.bD).2
      rcases ha:m.append r.ak r.bK r.mono r.bD with⟨e,c,m1⟩
      rw[ha]at hk;simp only[ha];split
      · rename_i hc
        have:=hk hc;simp only at this;subst this;exact⟨l,es,h,BP.refl _ _ _,Nat.le_add_right _ _⟩
      · rename_i hc
        have k:c=0:=Classical.not_not.1 hc;subst k;obtain⟨q,g,i,j⟩:=Z0 h a.1 a.2.1 a.2.2.1 a.2.2.2 ha;obtain⟨d,b,o,p,f⟩:=JL n s1 m1 q g _ i;exact⟨d,b,o,j.trans p,by rw[List.length_append]at f;simp only[List.length_singleton]at f;omega⟩
    · exact⟨l,es,h,BP.refl _ _ _,Nat.le_add_right _ _⟩
theorem adI {s e:Sq} {bG:Nat} {m:Mk} {rs:List Rec} (h:s.pK bG=(m,rs,e)):∃l es,mM m l es rs/\rs.length<=bG:=by
  have a:=uy s
  rcases h1:s.config with⟨c,E⟩
  rcases h2:E.bS 6 with⟨t,H⟩
  rw[h1]at a;have b:=E.jw 6;rw[h2]at b;simp only at b a;simp only[Sq.pK,h1,h2]at h;obtain⟨d,G,f⟩:=RF (c:=c) (t:=t) a.1 a.2.1 Xx;obtain⟨l,es,C,_,D⟩:=JL bG H (iA c t) (rB c) [] [] ⟨d,xe a.1 a.2.1 a.2.2,q,G,q,by simp,List.Pairwise.nil,by simp⟩;rw[h]at C D;exact⟨l,es,C,by simpa using D⟩
end Go.Wk
namespace Go.Wk
open Go Go.RowKit
def vA (aF:List Nat) (c r:Nat):List Nat:=(List.range r).map fun j=>aF.getD (c+j) 0
theorem GB (aF:List Nat) (c r:Nat):vA aF c (r+1)=aF.getD c 0 :: vA aF (c+1) r:=by unfold vA;rw[List.range_succ_eq_map,List.map_cons,List.map_map];congr 1;exact List.map_congr_left fun j _=>by simp only[Function.comp];congr 1;omega
theorem aci {b:Ly} {l:List Ob} {src:Nat} {d aF:List Nat} (h:Chain b l src d aF) (f:fE b 272 l b.length) {k a:Nat} (c:d[k]? = some a):iy 272 b a=({next:=d.getD (k+1) 0,aF:=vA aF (mG k) (dA (k:Int))},0):=by have D:=f.mem (h.ob k a c);have C:=h.le f c;have j:=rK (k:=(k:Int)) Xx;have e:=DG D Xy Zx;simp only at e;unfold iy;rw[if_neg Xx];unfold kD;rw[e];simp only;rw[if_neg Oy,if_neg Oy,if_neg Xx,show(24+8*dA (k:Int)-24)/8=dA (k:Int)by omega,h.next k a c];congr 2;unfold fZ vA;exact List.map_congr_left fun i g=>h.gN k a i c (List.mem_range.1 g)
structure sC (b:Ly) (aF:List Nat):Prop where
  ok:∀x∈aF,x≠0/\x<b.length
  AI:aF.Pairwise (· < ·)
theorem sC.get {b:Ly} {aF:List Nat} (h:sC b aF) {i:Nat} (hi:i<aF.length):aF.getD i 0≠0/\aF.getD i 0<b.length:=by
  have:aF.getD i 0∈aF:=by rw[List.getD_eq_getElem?_getD,List.getElem?_eq_getElem hi];exact List.getElem_mem hi
  exact h.ok _ this
theorem sC.lt {b:Ly} {aF:List Nat} (h:sC b aF) {i j:Nat} (c:i<j) (a:j<aF.length):aF.getD i 0<aF.getD j 0:=by rw[List.getD_eq_getElem?_getD,List.getD_eq_getElem?_getD,List.getElem?_eq_getElem Xx,List.getElem?_eq_getElem a];exact List.pairwise_iff_getElem.1 h.AI i j Xx a c
theorem ab8 {aF:List Nat} {c:Nat} (b:0<c) (a:c<=aF.length):qm (aF.take c)=aF.getD (c-1) 0:=by unfold qm;rw[List.getLast?_eq_getElem?,List.length_take,List.getElem?_take,Nat.min_eq_left a,if_pos Xx,List.getD_eq_getElem?_getD]
theorem Yf {b:Ly} {aF:List Nat} (h:sC b aF) {c:Nat} (a:c<aF.length):oM (aF.take c) (aF.getD c 0)=0:=by
  unfold oM
  by_cases h0:c=0
  · subst h0;simp
  rw[ab8 Xx Xx,if_neg];have:=h.lt (i:=c-1) (j:=c) Xx a;omega
theorem GN {aF:List Nat} {c:Nat} (a:c<aF.length):aF.take c ++ [aF.getD c 0]=aF.take (c+1):=by rw[List.take_add_one,List.getD_eq_getElem?_getD,List.getElem?_eq_getElem a];rfl
theorem PU {aF:List Nat} {c:Nat} (a:aF.length<=c):aF.getD c 0=0:=by rw[List.getD_eq_getElem?_getD,List.getElem?_eq_none a];rfl
theorem IK {b:Ly} {aF:List Nat} {bG:Nat} (h:sC b aF):∀(r c:Nat),c<=aF.length->c<=bG ->
    mr b bG (vA aF c r) (aF.take c)=if bG<=aF.length\/c+r<=aF.length then(aF.take (min bG (c+r)),0)else(aF,2)
  | 0,c,hc,hm=>by show(aF.take c,0)=_;rw[if_pos (.inr Xx),Nat.add_zero,Nat.min_eq_right hm]
  | r+1,c,hc,hm=>by
    have a:(aF.take c).length=c:=(by rw[List.length_take];omega);rw[GB,mr,a]
    by_cases h1:bG<=c
    · rw[if_pos h1,if_pos (.inl Xx),Nat.min_eq_left Xx,show bG=c by omega]
    · rw[if_neg h1]
      by_cases h2:c<aF.length
      · have d:=h.get h2
        rw[if_neg Xx,Yf h h2,if_neg Oy,GN h2,IK h r (c+1) Xx Xx,show c+1+r=c+(r+1)by omega]
      · rw[PU Xx,if_pos (.inl q),if_neg Xx,List.take_of_length_le Xx]
theorem CS {b:Ly} {l:List Ob} {src:Nat} {a aF:List Nat} {bG:Nat} (h:Chain b l src a aF) (i:fE b 272 l b.length) (hi:sC b aF):∀(d k ahead:Nat),k+d=a.length->(k=0->ahead=0)->(∀g,k=g+1->a[g]? = some ahead)->min bG (mG k)<=aF.length ->
    ∃c,qJ 272 b bG (a.getD k 0) ahead (aF.take (min bG (mG k)))=(aF.take (min bG aF.length),c)/\(c=0/\bG<=aF.length\/(c=2\/c=14)/\aF.length<bG)
  | d,k,ahead,hd,h0,h1,hk=>by
    have m:(aF.take (min bG (mG k))).length=min bG (mG k):=(by rw[List.length_take];omega);have o:=h.hi;rw[qJ,m]
    by_cases hm:bG<=mG k
    · rw[Nat.min_eq_left hm]at hk ⊢
      rw[if_pos (Nat.le_refl _),Nat.min_eq_left Xx];exact⟨0,q,.inl ⟨q,hk⟩⟩
    · rw[Nat.min_eq_right Xx]at hk ⊢
      rw[if_neg Xx]
      match d with
      | 0 =>
        have C:k=a.length:=(by omega);subst C;have:aF.length=mG a.length:=(by omega);rw[PU (Nat.le_refl _),if_pos (.inl q),<- this,Nat.min_eq_right Xx];exact⟨14,q,.inr ⟨.inr q,by omega⟩⟩
      | d+1 =>
        obtain⟨f,e⟩:∃f,a[k]? = some f:=⟨_,List.getElem?_eq_getElem Xx⟩;have G:=h.le i e;have D:=aci h i e;have n:ahead<f:=by
          by_cases hk0:k=0
          · have:=h0 hk0;omega
          · have:=h1 (k-1) Xx
            exact h.AI (k-1) ahead f this (by rw[show k-1+1=k by omega];exact e)
        rw[getD_some e,if_neg Xx,if_neg Xx,D];simp only;rw[if_neg Oy,IK hi _ _ hk Xx];have j:mG k+dA (k:Int)=mG (k+1):=rfl
        by_cases hb:bG<=aF.length\/mG k+dA (k:Int)<=aF.length
        · rw[if_pos hb]
          simp only;rw[if_neg Oy,j];exact CS h i hi d (k+1) f Xx Xx (fun g H=>by rw[show g=k by omega];exact e) (by rw[<- j];omega)
        · rw[if_neg hb]
          simp only;rw[if_pos Oy,Nat.min_eq_right Xx,List.take_length];exact⟨2,q,.inr ⟨.inl q,by omega⟩⟩
theorem UA {b:Ly} {l:List Ob} {src bG:Nat} {a aF:List Nat} (h:Chain b l src a aF) (d:fE b 272 l b.length) (hi:sC b aF) :
    ∃c,sF 272 b bG (a.getD 0 0)=(aF.take (min bG aF.length),c)/\(c=0/\bG<=aF.length\/(c=2\/c=14)/\aF.length<bG):=by
  have:=CS (bG:=bG) h d hi a.length 0 0 Xx (fun _=>rfl) (fun f e=>by omega) (by simp[mG]);simp only[mG,Nat.min_zero,List.take_zero]at this;exact this
theorem RN {b:Ly} {ps:List Nat} (h:sC b ps):∀(r c:Nat),c<=ps.length ->
    vR b ps.length (vA ps c r) (ps.take c)=(ps.take (min ps.length (c+r)),0,decide (ps.length<c+r))
  | 0,c,hc=>by show(ps.take c,0,false)=_;rw[Nat.add_zero,Nat.min_eq_right hc,show decide (ps.length<c)=false by simpa using hc]
  | r+1,c,hc=>by
    have d:(ps.take c).length=c:=(by rw[List.length_take];omega);rw[GB,vR,d]
    by_cases h1:ps.length<=c
    · rw[if_pos h1,Nat.min_eq_left Xx,show decide (ps.length<c+(r+1))=true by simp;omega,List.take_of_length_le h1,List.take_length]
    · have a:c<ps.length:=by omega
      have e:=h.get a;rw[if_neg h1,if_neg Xx,Yf h a,if_neg Oy,GN a,RN h r (c+1) Xx,show c+1+r=c+(r+1)by omega]
theorem Ww (ps:List Nat) (c r:Nat):vA (ps.drop 1) c r=vA ps (c+1) r:=by
  unfold vA;exact List.map_congr_left fun j _=>by rw[List.getD_eq_getElem?_getD,List.getElem?_drop,List.getD_eq_getElem?_getD];congr 2;omega
theorem JS {b:Ly} {l:List Ob} {src:Nat} {a ps:List Nat} (h:Chain b l src a (ps.drop 1)) (g:fE b 272 l b.length) (hi:sC b ps) (n:ps≠[]):∀(d k ahead:Nat),k+d=a.length->(k=0->ahead=0)->(∀f,k=f+1->a[f]? = some ahead)->mG k+1<=ps.length\/mG k >= ps.length-1 ->
    MY 272 b ps.length (a.getD k 0) ahead (ps.take (min ps.length (mG k+1)))=(ps,0)
  | d,k,ahead,hd,h0,h1,hk=>by
    have m:(ps.take (min ps.length (mG k+1))).length=min ps.length (mG k+1):=(by rw[List.length_take];omega);have C:=h.hi;simp only[List.length_drop]at C;rw[MY,m]
    by_cases hm:ps.length<=mG k+1
    · rw[Nat.min_eq_left hm,if_pos (Nat.le_refl _),List.take_length]
    · rw[Nat.min_eq_right Xx,if_neg Xx]
      match d with
      | 0 => 
        have D:k=a.length:=(by omega);subst D;omega
      | d+1 =>
        obtain⟨e,c⟩:∃e,a[k]? = some e:=⟨_,List.getElem?_eq_getElem Xx⟩;have G:=h.le g c;have i:=aci h g c;rw[Ww]at i;have o:ahead<e:=by
          by_cases hk0:k=0
          · have:=h0 hk0;omega
          · have:=h1 (k-1) Xx
            exact h.AI (k-1) ahead e this (by rw[show k-1+1=k by omega];exact c)
        rw[getD_some c,if_neg Xx,if_neg Xx,i];simp only;rw[if_neg Oy,RN hi _ _ Xx];have j:mG k+dA (k:Int)=mG (k+1):=rfl;simp only
        by_cases hb:ps.length<mG k+1+dA (k:Int)
        · rw[if_pos (by simpa using hb),Nat.min_eq_left Xx,List.take_length]
        · rw[if_neg (by simpa using hb),show mG k+1+dA (k:Int)=mG (k+1)+1 by rw[<- j];omega]
          exact JS h g hi n d (k+1) e Xx Xx (fun f H=>by rw[show f=k by omega];exact c) Xx
end Go.Wk
namespace Go.Wk
open Go Go.RowKit
theorem GP {m:Mk} (h:∀k∈m.ai,∃q:Pr,right q.pb=true/\k.bQ=au q) {k:aN} (hk:k∈m.ai):1<=k.bQ.length:=by obtain⟨q,_,A⟩:=h k hk;have:=ic q;rw[A];omega
def Pe (m:Mk) (k:aN) (ps:List Nat):fV:={bY:=cM m k.bQ,b9:=dW m.b (k.pos+24),dr:=dW m.b (k.pos+32),entry:=ps.getD 0 0,array:=k.aT.getD 0 0,bw:=ps.length,au:=k.bQ}
theorem Uc {m:Mk} {l:List Ob} {es:List eH} {j:List Nat} {f:Nat->List Nat} {i:Nat} {k:aN} (h:lK m l es j f) (hk:m.ai[i]? = some k) (o:1<=k.bQ.length):fF 272 m.b k.pos=(Pe m k (f i),0):=by have G:=h.eP.eF;have C:=h.eP.data k (List.mem_of_getElem? hk);have a:=h.dat i k hk;have c:=G.mem C.ob;have H:=dQ (64+k.bQ.length);have d:=c.ge;have e:=c.le;simp only at d e;unfold fF;rw[if_neg Xx];have D:=ajv (k:=1) (n:=6) c Xy Zx q Zx;simp only at D;rw[(vX D).2 Oy |>.2];rw[show k.pos+16+8*6=k.pos+64 by omega,show 64+k.bQ.length-(16+8*6)=k.bQ.length by omega,C.bQ];congr 1;have g:fZ m.b (k.pos+16) 6=[dW m.b (k.pos+16),dW m.b (k.pos+24),dW m.b (k.pos+32),dW m.b (k.pos+40),dW m.b (k.pos+48),dW m.b (k.pos+56)]:=rfl;rw[g,C.bY,a.ent,a.chain.word,a.word];rfl
theorem aeM {m:Mk} {l:List Ob} {es:List eH} {d:List Nat} {f:Nat->List Nat} {i:Nat} {k:aN} (h:lK m l es d f) (hk:m.ai[i]? = some k) (a:1<=k.bQ.length):k9 m.c.cC m.c.cg 272 m.b k.pos=(Pe m k (f i),0) :=
  Ze (Uc h hk a) (n:=cM m k.bQ) q q
theorem QH:∀{l:List lJ} {i:Nat} {x:lJ},l[i]? = some x->x.pos<18446744073709551616->x.bY<18446744073709551616->dW (kU l) (16*i)=x.pos/\dW (kU l) (16*i+8)=x.bY
  | [],_,_,h,_,_=>by simp at h
  | y :: l,0,x,h,h1,h2=>by simp at h;subst h;exact⟨lM (l:=[y.pos,y.bY]) (i:=0) q h1,lM (l:=[y.pos,y.bY]) (i:=1) q h2⟩
  | y :: l,i+1,x,h,h1,h2=>by have c:(nums [y.pos,y.bY]).length=16:=rfl;obtain⟨a,b⟩:=QH (l:=l) (i:=i) (by simpa using h) h1 h2;rw[kU,gJ Xx,gJ Xx,c,show 16*(i+1)-16=16*i by omega,show 16*(i+1)+8-16=16*i+8 by omega];exact⟨a,b⟩
theorem ajl {m:Mk} {l:List Ob} {g:eH} (a:Stat m l) (w:wz m g) (hb:m.b.length<1000000) {x:lJ} (c:x∈g.ent.aF):x.pos<18446744073709551616/\x.bY<18446744073709551616:=by rw[w.aF]at c;obtain⟨i,d,rfl⟩:=List.mem_map.1 c;have e:=w.lt i d;have hk:m.ai[i]? = some m.ai[i]:=List.getElem?_eq_getElem e;have:=(a.eF.mem (a.data _ (List.mem_of_getElem? hk)).ob).le;have:=dQ (64+(m.ai[i]).bQ.length);simp only at this ⊢;rw[(mC hk).2];exact⟨by simp only at *;omega,tj _ _⟩
theorem aiT {m:Mk} {l:List Ob} {es:List eH} {Z:List Nat} {f:Nat->List Nat} {g:eH} (h:lK m l es Z f) (w:wz m g) (Y:g∈es) (hb:m.b.length<1000000):ko 272 m.b g.pos=(g.ent,0):=by
  have O:=h.eP.eF;have F:=h.ent g Y;have u:=O.mem F.ob;have ae:=dQ (64+16*g.ent.aF.length);have V:=u.ge;have W:=u.le;have ad:g.ent.aF.length=g.who.length:=by rw[w.aF,List.length_map]
  have ab:=w.len;obtain⟨⟨S,U,n,e,o⟩,p⟩:=w.ok;simp only at V W;unfold ko;rw[if_neg Xx];have G:=Xo (k:=3) (ahead:=48) (gN:=16) u Xy Zx q Zx Zx;simp only at G;unfold o6;rw[G];simp only;rw[if_neg Oy]
  -- the body
  have N:seg m.b (g.pos+16) (64+16*g.ent.aF.length-16)=nums [g.ent.seq,g.ent.bK,g.ent.mono] ++ g.ent.bD ++ nums [g.ent.xor] ++ kU g.ent.aF:=by rw[SX F.seg Xx];unfold cW;have H:(nums [g.ent.seq,g.ent.bK,g.ent.mono] ++ g.ent.bD ++ nums [g.ent.xor] ++ kU g.ent.aF).length=48+16*g.ent.aF.length:=(by simp[ez,uK,e];omega);rw[xG Xx,List.append_assoc (TU _ _),iG (by rw[jP];omega),jP,Nat.sub_self];exact lW _ _ (by rw[H];omega)
  rw[N];generalize hX:nums [g.ent.seq,g.ent.bK,g.ent.mono] ++ g.ent.bD ++ nums [g.ent.xor] ++ kU g.ent.aF=X;have j:(nums [g.ent.seq,g.ent.bK,g.ent.mono]).length=24:=rfl;have Q:(nums [g.ent.xor]).length=8:=rfl;have z:X.length=48+16*g.ent.aF.length:=by rw[<- hX];simp[ez,uK,e];omega
  have d:X=nums [g.ent.seq,g.ent.bK,g.ent.mono] ++ (g.ent.bD ++ (nums [g.ent.xor] ++ kU g.ent.aF)):=by rw[<- hX];simp only[List.append_assoc]
  have R:dW X 0=g.ent.seq:=by rw[d];exact lM (l:=[g.ent.seq,g.ent.bK,g.ent.mono]) (i:=0) q S
  have aa:dW X 8=g.ent.bK:=by rw[d];exact lM (l:=[g.ent.seq,g.ent.bK,g.ent.mono]) (i:=1) q U
  have I:dW X 16=g.ent.mono:=by rw[d];exact lM (l:=[g.ent.seq,g.ent.bK,g.ent.mono]) (i:=2) q n
  have J:(X.drop 24).take 16=g.ent.bD:=by
    have:seg X 24 16=g.ent.bD:=(by rw[d,iG Xx,j,Nat.sub_self];exact lW _ _ e.symm);exact this
  have K:dW X 40=g.ent.xor:=by rw[d,gJ Xx,j,gJ Xx,e];exact lM (l:=[g.ent.xor]) (i:=0) q o
  have v:oW X 48 ((X.length-48)/16)=g.ent.aF:=by
    rw[z,show(48+16*g.ent.aF.length-48)/16=g.ent.aF.length by omega];apply List.ext_getElem?;intro i;unfold oW;rw[List.getElem?_map]
    by_cases hi:i<g.ent.aF.length
    · rw[List.getElem?_range hi,List.getElem?_eq_getElem hi]
      have A:=ajl h.eP w hb (List.getElem_mem hi);obtain⟨L,T⟩:=QH (List.getElem?_eq_getElem hi) A.1 A.2;have r:dW X (48+16*i)=(g.ent.aF[i]).pos:=(by rw[d,gJ Xx,j,gJ Xx,e,gJ Xx,Q,show 48+16*i-24-16-8=16*i by omega];exact L);have t:dW X (48+16*i+8)=(g.ent.aF[i]).bY:=(by rw[d,gJ Xx,j,gJ Xx,e,gJ Xx,Q,show 48+16*i+8-24-16-8=16*i+8 by omega];exact T);simp only[Option.map_some,Option.some.injEq];rw[r,t]
    · rw[List.getElem?_eq_none (by simpa using hi),List.getElem?_eq_none Xx];rfl
  have M:HC X=g.ent:=by unfold HC;rw[R,aa,I,J,K,v]
  unfold MD;rw[M,R,if_neg p,if_neg];intro P;have:xO g.ent.aF=true:=by
    rw[uS];intro s x y C D;rw[w.aF]at C D;rw[List.getElem?_map]at C D;cases hwx:g.who[s]? with
    | none=>rw[hwx]at C;cases C
    | some a =>
      cases hwy:g.who[s+1]? with
      | none=>rw[hwy]at D;cases D
      | some c =>
        rw[hwx]at C;rw[hwy]at D;simp only[Option.map_some,Option.some.injEq]at C D;subst C;subst D;simp only;have B:=(List.getElem?_eq_some_iff.1 hwx);have E:=(List.getElem?_eq_some_iff.1 hwy);have:=List.pairwise_iff_getElem.1 w.AI s (s+1) B.1 E.1 Xx;rw[B.2,E.2]at this;exact this
  rw[this]at P;cases P
theorem TA {q:Pr} (h:right q.pb=true):iH (au q)=(q,0):=by obtain⟨a,b⟩:=o7 ((mH _).2 h);have c:gE (au q)=0:=a;have d:nj (au q)=q.pb:=b;unfold iH;rw[c,d];rfl
theorem SI {m:Mk} {l:List Ob} {es:List eH} {B:List Nat} {f:Nat->List Nat} (h:lK m l es B f) (g:∀k∈m.ai,∃q:Pr,right q.pb=true/\k.bQ=au q):∀(d:List Nat) (fs:List Pr) (all:List (List UInt8)),(∀i∈d,i<m.ai.length) ->
    ∃a:List Pr,kZ m.c.cC m.c.cg 272 m.b (d.map fun i=>{pos:=gG m.ai i,bY:=cM m (jf m.ai i)}) fs all=((fs ++ a,all ++ d.map (jf m.ai)),0)/\a.map au=d.map (jf m.ai)/\∀q∈a,right q.pb=true
  | [],fs,all,_=>⟨[],by simp[kZ],rfl,by simp⟩
  | i :: r,fs,all,hw=>by
    have x:=hw i Oy;have hk:m.ai[i]? = some m.ai[i]:=List.getElem?_eq_getElem x;obtain⟨q,o,e⟩:=g _ (List.mem_of_getElem? hk);have z:=aeM h hk (GP g (List.mem_of_getElem? hk));obtain⟨n,C⟩:=mC hk;obtain⟨a,t,u,v⟩:=SI h g r (fs ++ [q]) (all ++ [jf m.ai i]) (fun A w=>hw A (by simp[w]));refine⟨q :: a,?_,by rw[List.map_cons,List.map_cons,u,n,e],fun y j=>?_⟩
    · rw[List.map_cons,kZ]
      simp only[C,z];have p:(Pe m m.ai[i] (f i)).au=au q:=e;have s:(Pe m m.ai[i] (f i)).bY=cM m (jf m.ai i):=(by rw[n];rfl);rw[if_neg Oy,if_neg (by rw[s];simp),p,TA o];simp only;rw[if_neg Oy,<- e,<- n,t];simp
    · rcases List.mem_cons.1 j with rfl|j
      · exact o
      · exact v y j
theorem ajN {m:Mk} {l:List Ob} {es:List eH} {y:List Nat} {f:Nat->List Nat} {g:eH} {r:Rec} (h:lK m l es y f) (x:∀k∈m.ai,∃q:Pr,right q.pb=true/\k.bQ=au q) (w:wz m g) (v:g∈es) (hb:m.b.length<1000000) (a:OD m g r) :
    ∃fs,nv m.c.cC m.c.cg 272 m.b g.pos=({seq:=r.seq,bK:=r.bK,mono:=r.mono,bD:=r.bD,ak:=fs},0)/\fs.Perm r.ak:=by
  obtain⟨e,C,p,G⟩:=SI h x g.who [] [] w.lt;rw[List.nil_append,List.nil_append]at C;have A:g.ent.aF.length=g.who.length:=by rw[w.aF,List.length_map]
  have z:=w.len;refine⟨e,?_,?_⟩
  · exact afj (all:=g.who.map (jf m.ai)) (n:=nu 0 (g.who.map (jf m.ai))) (aiT h w v hb) Xx ⟨a.seq.symm,a.bK.symm,a.mono.symm,a.bD.symm⟩ (by rw[w.aF];exact C) rfl w.xor
  have D:=a.ak;rw[<- p]at D
  -- payloads are told apart
  have o:∀(d b:List Pr),(∀q∈d,right q.pb=true)->(∀q∈b,right q.pb=true)->(d.map au).Perm (b.map au)->d.Perm b:=by
    intro d b H hb j;have i:∀(c:List Pr),(∀q∈c,right q.pb=true)->c=(c.map au).map fun t=>(iH t).1:=fun c s=>by
      rw[List.map_map];have:c.map ((fun t=>(iH t).1) ∘ au)=c.map id:=List.map_congr_left fun q u=>by simp[Function.comp,TA (s q u)]
      rw[this,List.map_id]
    rw[i d H,i b hb];exact j.map _
  exact o e r.ak G a.right D
end Go.Wk
namespace Go.Wk
open Go Go.RowKit
structure jb (m:Mk) (B:Ly) (H:bF) (l:List Ob) (es:List eH):Prop where
  len:B.length=m.b.length
  read:kE B=(H,0)
  opn:lR B=(some {b:=B,h:=H},0)
  n:∀i,i<20->i≠1->H.n.getD i 0=m.bS i
  key:H.bN=if m.c.cC then 4 else 0
  cg:H.cg=m.c.cg
  img:lK {m with b:=B} l es (es.map eH.pos) (places es)
theorem lK.bytes {m:Mk} {l:List Ob} {es:List eH} {f:Nat->List Nat} {r:List Nat} {d:Ly} (h:lK m l es r f) (w:d.length=m.b.length) (e:Eff (fun a=>a+8<=272) m.b d) (y:dW d 176=m.main.getD 0 0):lK {m with b:=d} l es r f:=by
  have C:=h.eP.eF;have H:∀a,a+8<=272->sK l a:=fun a c=>JP C c;have v:fE d 272 l d.length:=by rw[w];exact C.l7 e (Nat.le_refl _) fun o u a c=>by have:=(C.mem u).ge;omega
  have D:∀o∈l,o∈l:=fun _ h=>h;refine⟨h.eP.keep v ⟨[],by simp,by simp⟩ e H q q ⟨q,q⟩ (lp.refl _) (h.eP.cn.same q),?_,fun i k j=>?_,⟨h.own.main,h.own.one⟩,fun g s=>(h.ent g s).l7 C e H D,h.kin⟩
  · refine⟨y,h.main.ob,fun k a c=>?_,fun k a p c t=>?_,h.main.AI,h.main.lo,h.main.hi⟩
    · have:=h.main.le C c
      rw[e.dW Xx fun x n=>by omega];exact h.main.next k a c
    have:=h.main.le C c;rw[e.dW Xx fun x n=>by omega];exact h.main.gN k a p c t
  have G:=h.eP.data k (List.mem_of_getElem? j);have z:272<=k.pos:=(C.mem G.ob).ge;exact(h.dat i k j).l7 G C e D (fun a c=>by omega) fun p x n a c=>by have:=(h.dat i k j).chain.le C n;omega
structure abR (B:Ly) (h:ej):Prop where
  sign:B.take 8=KU
  bN:at4 B 12=h.bN
  state:(B.getD 16 0).toNat=h.state
  cg:(B.drop 24).take 16=h.cg
  n:∀i,i<20->dW B (88+8*i)=h.n.getD i 0
theorem OU {x y:Ly} {p:Nat} (h:x.length<=p):at4 (x ++ y) p=at4 y (p-x.length):=by show EK (seg (x ++ y) p 4)=EK (seg y (p-x.length) 4);rw[iG h]
theorem agb {v:Nat} (r:Ly) (h:v<4294967296):at4 (low v 4 ++ r) 0=v:=by show EK (seg (low v 4 ++ r) 0 4)=v;rw[lW _ _ (by rw[iq]),MO];exact Nat.mod_eq_of_lt h
theorem sY {x y:Ly} {p k:Nat} (hk:x.length=k) (h:k<=p):dW (x ++ y) p=dW y (p-k):=by rw[gJ Xx,hk]
theorem UK (h:ej) (depth:Nat) (r:Ly) (ok:ej.ok h) (s:h.state<256):abR (wQ h depth ++ r) h:=by
  obtain⟨m,d,o,C,G,H,e,⟨p,f⟩,_⟩:=ok;have g:wQ h depth ++ r=[76,80,75,83,72,72,82,72] ++ (low h.gD 4 ++ (low h.bN 4 ++ ([UInt8.ofNat h.state,0,0,0,0,0,0,0] ++ (h.cg ++ (h.dG ++ (h.bD ++ (h.seq ++ (nums h.n ++ (nums [depth] ++ (low h.cK 4 ++ (low h.dc 4 ++ (nums [h.dI] ++ r)))))))))))):=by unfold wQ;simp only[List.append_assoc]
  rw[g];refine⟨q,?_,?_,?_,fun i l=>?_⟩
  · rw[OU Oy,OU (by simp[iq])]
    simp only[iq,List.length_cons,List.length_nil];exact agb _ d
  · have b:∀y:List UInt8,([76,80,75,83,72,72,82,72] ++ (low h.gD 4 ++ (low h.bN 4 ++ y))).getD 16 0=y.getD 0 0:=fun y=>by
      have D:(low h.gD 4).length=4:=iq _ _;have c:(low h.bN 4).length=4:=iq _ _;simp only[List.getD_eq_getElem?_getD];rw[List.getElem?_append_right Oy,List.getElem?_append_right Ym,List.getElem?_append_right Ym,D,c];rfl
    rw[b];show(UInt8.ofNat h.state).toNat=_;rw[UInt8.toNat_ofNat',Nat.mod_eq_of_lt Xx]
  · show seg _ 24 16=_
    rw[iG Oy,iG (by simp[iq]),iG (by simp[iq]),iG (by simp[iq])];simp only[iq,List.length_cons,List.length_nil];exact lW _ _ C.symm
  rw[sY (k:=8) q Xx,sY (k:=4) (iq _ _) Xx,sY (k:=4) (iq _ _) Xx,sY (k:=8) q Xx,sY (k:=16) C Xx,sY (k:=16) G Xx,sY (k:=16) H Xx,sY (k:=16) e Xx,show 88+8*i-8-4-4-8-16-16-16-16=8*i by omega];have j:i<h.n.length:=by omega
  have a:h.n[i]? = some (h.n.getD i 0):=by simp[List.getD,List.getElem?_eq_getElem j]
  exact lM a (f _ (List.mem_of_getElem? a))
theorem Zd {b:Ly} {i:Nat} (h:i<21):(gP b).n.getD i 0=dW b (88+8*i):=by show(((List.range 21).map fun q=>if q<21 then dW b (88+8*q)else 0)).getD i 0=_;rw[List.getD_eq_getElem?_getD,List.getElem?_map,List.getElem?_range h];simp[h]
theorem zH {m:Mk} {l:List Ob} {es:List eH} {rs:List Rec} {st:Nat} (h:mM m l es rs) (a:ej.ok m.h) (r:st<=2):abR (lG m st) {m.h with state:=st,n:=m.h.n.set 1 (m.b.length-272)}/\(lG m st).length=m.b.length/\Eff (fun d=>d+8<=272) m.b (lG m st):=by
  have G:=h.img.c.eP.eF;have o:=h.ok.small;have D:=G.le;have i:ej.ok {m.h with state:=st,n:=m.h.n.set 1 (m.b.length-272)}:=⟨a.1,a.2.1,(by show st<_;omega),a.2.2.2.1,a.2.2.2.2.1,a.2.2.2.2.2.1,a.2.2.2.2.2.2.1,xh a.2.2.2.2.2.2.2.1 Xx,a.2.2.2.2.2.2.2.2⟩;have g:=yH {m.h with state:=st,n:=m.h.n.set 1 (m.b.length-272)} m.depth i;have f:=UK {m.h with state:=st,n:=m.h.n.set 1 (m.b.length-272)} m.depth (m.b.drop 272) i (by show st<_;omega);have C:lG m st=wQ {m.h with state:=st,n:=m.h.n.set 1 (m.b.length-272)} m.depth ++ m.b.drop 272:=rfl;rw[<- C]at f;have e:(lG m st).length=m.b.length:=by rw[C,List.length_append,g,List.length_drop];omega
  have j:Eff (fun d=>d+8<=272) m.b (lG m st):=by
    refine⟨by rw[e];exact Nat.le_refl _,fun q n p k=>?_⟩
    by_cases hn:n=0
    · subst hn;simp[seg]
    · have H:272<=q:=by
        by_cases h1:272<=q
        · exact h1
        · exfalso
          have:=k (min q 264) Xx;omega
      rw[C,iG Xx,g];unfold seg;rw[List.drop_drop,show 272+(q-272)=q by omega]
  exact⟨f,e,j⟩
theorem aaN {m:Mk} {l:List Ob} {es:List eH} {rs:List Rec} {st:Nat} {a:Ly} (h:mM m l es rs) (O:st<=2) (hb:abR a {m.h with state:=st,n:=m.h.n.set 1 (m.b.length-272)}) (e:a.length=m.b.length) (K:Eff (fun J=>J+8<=272) m.b a):jb m a (gP a) l es:=by
  have q:=h.img.c.eP.eF;have M:=h.ok.small;have L:=q.le;have d:∀i,i<20->i≠1->(gP (a)).n.getD i 0=m.bS i:=fun i R Q=>by rw[Zd Xx,hb.n i R];show(m.h.n.set 1 _).getD i 0=_;rw[aX Xx];rfl
  have x:(gP (a)).n.getD 1 0=m.b.length-272:=by rw[Zd Xx,hb.n 1 Xx];show(m.h.n.set 1 _).getD 1 0=_;exact mR (by have:=h.h20;omega)
  have H:=h.hd.hk;unfold hk at H;simp only[Prod.mk.injEq]at H;obtain⟨_,T,_,B⟩:=H;have w:(gP (a)).bN=if m.c.cC then 4 else 0:=hb.bN.trans T;have G:(gP (a)).cg=m.c.cg:=hb.cg.trans B;have D:(gP (a)).state=st:=hb.state;have F:=(q.mem h.img.c.eP.GK).le;have I:=(q.mem h.img.c.eP.O1).le;have o:=dQ (16+16*m.c.ay);have u5:=dQ (16+16*m.c.aC);simp only at F I;have sl:=h.img.c.eP.slots;have r:(gP (a)).n.getD 0 0=272:=(d 0 Xy Xy).trans h.hd.n0;have V:(gP (a)).n.getD 2 0=288:=(d 2 Xy Xy).trans h.img.c.eP.n2;have n3:(gP (a)).n.getD 3 0=16*m.c.ay:=(d 3 Xy Xy).trans h.hd.n3;have W:(gP (a)).n.getD 4 0=304+16*m.c.ay:=(d 4 Xy Xy).trans h.img.c.eP.n4;have E:(gP (a)).n.getD 5 0=16*m.c.aC:=(d 5 Xy Xy).trans h.hd.n5;have u:yo (gP (a))=(m.b.length,true):=by unfold yo;rw[r,x,Nat.mod_eq_of_lt Xx,if_neg Xx,show 272+(m.b.length-272)=m.b.length by omega]
  have A:qH (gP (a)) (a).length=0:=by
    unfold qH;rw[u,w,D,r,x,V,n3,W,E,e];have y:¬andNot (if m.c.cC=true then 4 else 0) 4≠0:=(by cases m.c.cC <;> decide);rw[if_neg y,if_neg Xx,if_neg Xx,if_neg Oy];have P:∀(p s t:Nat),p%8=0->s≠0->s%16=0->288<=p->p+s<=t->jX (gP (a)) p s t=0:=fun p s t Q N f g k=>by unfold jX;rw[r,if_neg Xx,if_neg Xx,if_neg Xx]
    simp only;rw[P 288 _ _ Xx Xx Xx Xx Xx,if_neg Oy];exact P _ _ _ Xx Xx Xx Xx Xx
  have C:kE (a)=(gP (a),0):=by
    unfold kE;have z:vt (a) KU=true:=(by unfold vt;rw[if_pos (by show 8<=_;omega)];exact decide_eq_true hb.sign);rw[if_neg Xx,if_neg (by rw[z];simp),A,if_neg Oy]
  refine⟨e,C,?_,d,w,G,h.img.c.bytes e K ?_⟩
  · unfold lR
    rw[C];simp only;rw[if_neg Oy,u];simp only;rw[<- e,List.take_length]
  have:=hb.n 11 Xy;rw[show 88+8*11=176 by rfl]at this;rw[this];exact(aX (l:=m.h.n) (i:=1) (j:=11) (v:=m.b.length-272) Xy).trans h.img.n11
theorem opened {m:Mk} {l:List Ob} {es:List eH} {rs:List Rec} {st:Nat} (h:mM m l es rs) (d:ej.ok m.h) (a:st<=2):jb m (lG m st) (gP (lG m st)) l es:=by obtain⟨b,c,C⟩:=zH h d a;exact aaN h a b c C
end Go.Wk
namespace Go.Wk
open Go Go.RowKit
def GC (a b:Rec):Bool:=decide (a.seq=b.seq) && (decide (a.bK=b.bK) && (decide (a.mono=b.mono) && (decide (a.bD=b.bD) && (allIn b.ak a.ak && allIn a.ak b.ak))))
theorem OI {a b:List Pr} (h:∀q,q∈a->q∈b):allIn b a=true:=by
  induction a with
  | nil=>rfl
  | cons p r ih =>
    rw[allIn,if_pos (adp.2 (h p Oy))];exact ih fun q A=>h q (by simp[A])
theorem WA {a b:Rec} (h1:a.seq=b.seq) (e:a.bK=b.bK) (f:a.mono=b.mono) (g:a.bD=b.bD) (d:∀q,q∈a.ak↔q∈b.ak):GC a b=true:=by unfold GC;rw[OI fun q c=>(d q).1 c,OI fun q c=>(d q).2 c];simp[h1,e,f,g]
theorem QU {H:bF} {k:Bool} (h:H.bN=if k then 4 else 0):decide (H.bN &&& 4≠0)=k:=by rw[h];cases k<;>decide
section
variable {m:Mk} {B:Ly} {H:bF} {l:List Ob} {es:List eH} {rs:List Rec}
theorem Zh:∀{l:List Ob} {p e:Nat},fE B p l e->(l.map Ob.pos).Pairwise (· < ·)
  | [],_,_,_=>List.Pairwise.nil
  | o :: r,p,e,h=>by obtain⟨d,f,g,i,j,k,a⟩:=h;have m:=dQ o.size;rw[List.map_cons];refine List.pairwise_cons.2 ⟨fun x b=>?_,Zh a⟩;obtain⟨y,c,rfl⟩:=List.mem_map.1 b;have:=(a.mem c).ge;omega
theorem CX {i:List Nat} {f:Nat->List Nat} (h:lK m l es i f):sC m.b (es.map eH.pos):=by
  have a:=h.eP.eF;refine⟨fun x e=>?_,?_⟩
  · obtain⟨g,d,rfl⟩:=List.mem_map.1 e
    have c:=a.mem (h.ent g d).ob;have C:=c.ge;have D:=c.le;have:=dQ (64+16*g.ent.aF.length);simp only at C D;omega
  rw[<- h.kin];exact((Zh a).sublist (List.filter_sublist.map _))
theorem acJ (b:mM m l es rs) (a:jb m B H l es):sF (H.n.getD 0 0) B (H.n.getD 8 0) (H.n.getD 11 0)=(es.map eH.pos,0):=by
  have e:H.n.getD 0 0=272:=(a.n 0 Xy Xy).trans b.hd.n0;have f:H.n.getD 8 0=es.length:=(a.n 8 Xy Xy).trans b.img.n8;have d:H.n.getD 11 0=m.main.getD 0 0:=(a.n 11 Xy Xy).trans b.img.n11;rw[e,f,d];obtain⟨c,D,C⟩:=UA (bG:=es.length) a.img.main a.img.eP.eF (CX a.img);rw[List.length_map,Nat.min_self,List.take_of_length_le (by rw[List.length_map];exact Nat.le_refl _)]at D;rw[D]
  rcases C with⟨rfl,_⟩|⟨_,C⟩
  · rfl
  rw[List.length_map]at C;omega
theorem wz.bytes {m':Mk} {g:eH} (h:wz m g) (hd:m'.ai=m.ai) (a:m'.c=m.c):wz m' g:=h.ext (by rw[hd];exact pB.refl _) a
theorem ahq (c:mM m l es rs) (d:jb m B H l es) {i:Nat} {x:Nat} {r:Rec} (a:(es.map eH.pos)[i]? = some x) (j:rs[i]? = some r) :
    ∃y,nv (decide (H.bN &&& 4≠0)) H.cg (H.n.getD 0 0) B x=(y,0)/\GC y r=true/\y.seq=r.seq/\y.bK=r.bK/\y.mono=r.mono/\y.bD=r.bD/\y.ak.Perm r.ak:=by
  have D:H.n.getD 0 0=272:=(d.n 0 Xy Xy).trans c.hd.n0;rw[List.getElem?_map]at a;cases hg:es[i]? with
  | none=>rw[hg]at a;cases a
  | some g =>
    rw[hg]at a;simp only[Option.map_some,Option.some.injEq]at a;subst a;have e:=List.mem_of_getElem? hg;have w:wz {m with b:=B} g:=(c.img.who g e).bytes rfl rfl;have h:OD {m with b:=B} g r:=(c.rcd i g r hg j).ext (m':={m with b:=B}) (c.img.who g e) (pB.refl _);obtain⟨G,f,C⟩:=ajN d.img c.img.txt w e (by have:=c.ok.small;have:=d.len;show B.length<_;omega) h;rw[QU d.key,d.cg,D];exact⟨_,f,WA rfl rfl rfl rfl fun q=>C.mem_iff,rfl,rfl,rfl,rfl,C⟩
theorem agL (a:mM m l es rs) (b:jb m B H l es):H.n.getD 0 0=272:=(b.n 0 Xy Xy).trans a.hd.n0
def n3 (l:List Ob):Nat:=(l.filter fun o=>decide (o.kind=3)).length
end
end Go.Wk
namespace Go.Wk
open Go Go.RowKit
theorem ahn {P:Program} {n:Nat} {A:Fr n} {D:List Deferred} {l:List (Nat × Value)} {w:World} {d:Tmp} {ty:TypeId} {ps:String} {af:Array Edge} {x:Operand} {t u e:TypeId} {p:Addr} {g:Option (Nat × Bool)} (f:ev n l x=some (.pointer (some p))) (a:P.underlying t=some (.pointer e)) :
    bZ P ⟨some d,.binOp .neq t x (.const (.pointer none)) u,ty,ps,af,g⟩ (aQ A D l).eval w (.bool true):=by
  have c:P.underlying t=some (.pointer (P.pointee t)):=by rw[a];simp[Program.pointee,a]
  have h:=run_neq_pointer_nil (P:=P) w t (some p) c;have b:(aQ A D l).eval (.const (.pointer none)) = .pointer none:=rfl;have C:(eqGuard .neq t x (.const (.pointer none)) (.pointer (some p)) (.pointer none)).run P w = .ok () w:=by unfold eqGuard;simp
  simp[bZ,execOp,bM f,b,C,h]
def HN (v:dx) (p:Nat):Rec × Nat:=nv (decide (v.h.bN &&& 4≠0)) v.h.cg (v.h.n.getD 0 0) v.b p
def j5 (v:dx):List Nat->Nat->Nat->List Nat->List Nat
  | [],_,_,o=>o
  | p :: r,i,last,o=>if(HN v p).2=0/\last<(HN v p).1.seq then j5 v r (i+1) (HN v p).1.seq (o ++ [i])else j5 v r (i+1) last o
def rq (v:dx) (at_:List Nat) (i:Nat):Rec × Nat:=if i<at_.length then HN v (at_.getD i 0)else(xN,2)
section
variable {v:dx} {at_ g o:List Nat} {i p last c:Nat} {r:Rec}
theorem yD (h:¬i<at_.length):j5 v (at_.drop i) i last o=o:=by rw[er Xx];rfl
theorem yE (h:at_[i]? = some p) (d:HN v p=(r,c)) (a:c=0) (b:last<r.seq):j5 v (at_.drop i) i last o=j5 v (at_.drop (i+1)) (i+1) r.seq (o ++ [i]):=by subst a;rw[cH h,j5,d,if_pos ⟨q,b⟩]
theorem DK (h:at_[i]? = some p) (b:HN v p=(r,c)) (a:¬(c=0/\last<r.seq)):j5 v (at_.drop i) i last o=j5 v (at_.drop (i+1)) (i+1) last o:=by rw[cH h,j5,b,if_neg a]
theorem Y9 (h:at_[i]? = some p):rq v at_ i=HN v p:=by have A:=(List.getElem?_eq_some_iff.1 h).1;unfold rq;rw[if_pos A,List.getD_eq_getElem?_getD,h];rfl
def atF (at_:List Nat) (i:Nat):Nat × Nat:=if i<at_.length then(at_.getD i 0,0)else(0,2)
theorem akp (h:at_[i]? = some p):atF at_ i=(p,0):=by have A:=(List.getElem?_eq_some_iff.1 h).1;unfold atF;rw[if_pos A,List.getD_eq_getElem?_getD,h];rfl
theorem aiF (h:¬i<at_.length):atF at_ i=(0,2):=by unfold atF;rw[if_neg h]
theorem ad8 {x:Rec × Nat} (h:atF at_ i=(p,c)) (a:c=0) (b:HN v p=x):rq v at_ i=x:=by
  unfold atF at h;unfold rq;split at h
  · rename_i hi;cases h;rw[if_pos hi];exact b
  cases h;cases a
theorem aaj (h:atF at_ i=(p,c)) (a:c≠0):rq v at_ i=(xN,c):=by
  unfold atF at h;unfold rq;split at h
  · cases h;exact absurd q a
  rename_i hi;cases h;rw[if_neg hi]
structure TV (v:dx) (at_:List Nat) (g:List Nat) (last:Nat):Prop where
  ok:∀i∈g,i<at_.length/\(rq v at_ i).2=0/\0<(rq v at_ i).1.seq/\(rq v at_ i).1.seq<=last
  AI:g.Pairwise fun a b=>(rq v at_ a).1.seq<(rq v at_ b).1.seq
theorem Wq:TV v at_ [] 0:=⟨by simp,List.Pairwise.nil⟩
theorem td:∀(n i last:Nat) (o:List Nat),i+n=at_.length->TV v at_ o last->o.length<=i->∃q,TV v at_ (j5 v (at_.drop i) i last o) q/\(j5 v (at_.drop i) i last o).length<=at_.length
  | 0,i,last,o,h,hr,hl=>⟨last,by rw[yD Xx];exact⟨hr,by omega⟩⟩
  | n+1,i,last,o,h,hr,hl=>by
    obtain⟨p,d⟩:∃p,at_[i]? = some p:=⟨_,List.getElem?_eq_getElem Xx⟩
    rcases hv:HN v p with⟨r,c⟩
    by_cases hc:c=0/\last<r.seq
    · rw[yE d hv hc.1 hc.2]
      have e:rq v at_ i=(r,c):=(Y9 d).trans hv;refine td n (i+1) r.seq (o ++ [i]) Xx ⟨fun m a=>?_,?_⟩ Ym
      · rcases List.mem_append.1 a with a|a
        · obtain⟨g,j,k,s⟩:=hr.ok m a
          exact⟨g,j,k,by omega⟩
        · simp at a;subst a;rw[e];exact⟨by omega,hc.1,by simp only;omega,Nat.le_refl _⟩
      · refine List.pairwise_append.2 ⟨hr.AI,by simp,fun f l b hb=>?_⟩
        simp at hb;subst hb;have:=(hr.ok f l).2.2.2;rw[e];simp only;omega
    · rw[DK d hv hc]
      exact td n (i+1) last o Xx hr Xx
end
section
variable {m:Mk} {B:Ly} {H:bF} {l:List Ob} {es:List eH} {rs:List Rec}
theorem PW (a:mM m l es rs) (g:jb m B H l es):∀(n i last:Nat),i+n=es.length->(∀r,rs[i]? = some r->last<r.seq)->j5 {b:=B,h:=H} ((es.map eH.pos).drop i) i last (List.range i)=List.range es.length
  | 0,i,last,h,_=>by rw[yD (by rw[List.length_map];omega),show i=es.length by omega]
  | n+1,i,last,h,hl=>by have t:=a.len;obtain⟨p,f⟩:∃p,(es.map eH.pos)[i]? = some p:=⟨_,List.getElem?_eq_getElem (by rw[List.length_map];omega)⟩;obtain⟨r,c⟩:∃r,rs[i]? = some r:=⟨_,List.getElem?_eq_getElem Xx⟩;obtain⟨y,s,_,j,_⟩:=ahq a g f c;have o:HN {b:=B,h:=H} p=(y,0):=s;rw[yE f o q (by rw[j];exact hl r c),<- List.range_succ];refine PW a g n (i+1) y.seq Xx fun u k=>?_;have d:=(List.getElem?_eq_some_iff.1 c);have e:=(List.getElem?_eq_some_iff.1 k);have:=List.pairwise_iff_getElem.1 a.rise i (i+1) d.1 e.1 Xx;rw[d.2,e.2]at this;rw[j];exact this
theorem ZW (a:mM m l es rs) (d:jb m B H l es):j5 {b:=B,h:=H} (es.map eH.pos) 0 0 []=List.range es.length :=
  PW a d es.length 0 0 Xx fun r c=>(a.top r (List.mem_of_getElem? c)).1
end
theorem rj (v:dx) (at_:List Nat):(j5 v at_ 0 0 []).length<=at_.length:=by
  obtain⟨last,_,A⟩:=td at_.length 0 0 [] Xx (Wq (v:=v) (at_:=at_)) (Nat.le_refl _)
  rwa [List.drop_zero]at A
theorem afk {b:Ly} {out:List Nat} {x:Nat} (h:sR b out) (d:¬(x=0\/b.length<=x)) (hi:oM out x=0):sR b (out ++ [x]):=by
  have a:qm (out ++ [x])=x:=by unfold qm;simp
  unfold sR;rw[a,List.length_append,List.length_singleton];have c:=h.1;unfold oM at hi
  by_cases he:out=[]
  · subst he;simp;omega
  by_cases hx:x<=qm out
  · rw[if_pos ⟨he,hx⟩]at hi;cases hi
  omega
theorem yq {b:Ly} {bG:Nat}:∀(aF out:List Nat),sR b out->sR b (mr b bG aF out).1
  | [],out,h=>h
  | x :: r,out,h=>by
    unfold mr;split
    · exact h
    · split
      · exact h
      · rename_i h0
        split
        · exact h
        · rename_i hi
          exact yq r _ (afk h h0 (Classical.not_not.1 hi))
theorem IL {s bG:Nat} {b:Ly}:∀(k p a:Nat) (out:List Nat),b.length-a<=k->sR b out->sR b (qJ s b bG p a out).1
  | k,p,a,out,hk,h=>by
    rw[qJ];split
    · exact h
    · split
      · exact h
      · split
        · exact h
        · split
          · exact h
          · split
            · exact yq _ _ h
            · match k with
              | 0=>omega
              | k+1=>exact IL k _ p _ Xx (yq _ _ h)
theorem agn {s bG p c:Nat} {b:Ly} {a:List Nat} (h:sF s b bG p=(a,c)):a.length<=b.length:=by have:=GA (IL (s:=s) (bG:=bG) b.length p 0 [] Xx (SK b));have e:qJ s b bG p 0 []=(a,c):=h;rw[e]at this;exact this
end Go.Wk
namespace Go.Wk
open Go Go.RowKit
section
variable {P:Program} {n:Nat} {A:Fr n} {D:List Deferred} {l:List (Nat × Value)} {w:World} {d:Option Tmp} {ty:TypeId} {ps:String} {af:Array Edge} {g:Option (Nat × Bool)}
end
theorem TI {l:List (List UInt8)} {i:Nat} {x:Ly} (h:l[i]? = some x):l.getD i []=x:=by rw[List.getD_eq_getElem?_getD,h];rfl
def PE (a b:eT):Bool:=decide (a.name=b.name) && pQ a.values b.values
def UB:List eT->List eT->Bool
  | [],_=>true
  | a :: r,b :: s=>if PE a b=true then UB r s else false
  | _ :: _,[]=>false
theorem CU {a b:List eT} {i:Nat} (h:¬i<a.length):UB (a.drop i) b=true:=by rw[er Xx];rfl
theorem uD {a b:List eT} {i:Nat} {p q:eT} (h:a[i]? = some p) (k:b[i]? = some q):UB (a.drop i) (b.drop i)=if PE p q=true then UB (a.drop (i+1)) (b.drop (i+1))else false:=by rw[cH h,cH k];rfl
def CV (a b:List eT):Bool:=if a.length=b.length then UB a b else false
def PF:List (List eT)->List (List eT)->Bool
  | [],_=>true
  | a :: r,b :: s=>if CV a b=true then PF r s else false
  | _ :: _,[]=>false
theorem CW {a b:List (List eT)} {i:Nat} (h:¬i<a.length):PF (a.drop i) b=true:=by rw[er Xx];rfl
theorem uE {a b:List (List eT)} {i:Nat} {p q:List eT} (h:a[i]? = some p) (k:b[i]? = some q):PF (a.drop i) (b.drop i)=if CV p q=true then PF (a.drop (i+1)) (b.drop (i+1))else false:=by rw[cH h,cH k];rfl
def yt (a b:List (List eT)):Bool:=if a.length=b.length then PF a b else false
def Zo (a b:eL):Bool:=yt a.rows b.rows
end Go.Wk
namespace Go.Wk
open Go Go.RowKit
def zD (v:dx) (p:Pr):Nat × Nat:=findF v.h.n v.b 4 (cP (decide (v.h.bN &&& 4≠0)) v.h.cg (au p)) (au p)
def inG (v:dx) (at_:List Nat) (x i:Nat):Bool:=decide (at_.getD i 0∈(ofF (v.h.n.getD 0 0) v.b x).1)
def j7 (v:dx) (at_:List Nat):List Nat:=j5 v at_ 0 0 []
def tf (v:dx) (at_:List Nat) (p:Pr):List Nat :=
  if right p.pb=false then[]else if(zD v p).2≠0 then[]else(j7 v at_).filter (inG v at_ (zD v p).1)
def abZ (v:dx) (at_:List Nat) (a:eT):List Nat:=a.values.flatMap fun s=>tf v at_ {name:=a.name,value:=s}
def ng (v:dx) (at_:List Nat) (out:List Nat) (a:eT):List Nat:=out.filter fun i=>decide (i∈abZ v at_ a)
def HS (v:dx) (at_:List Nat) (l:List eT):List Nat:=l.foldl (ng v at_) (j7 v at_)
def oO (l:List Nat):List Nat:=l.mergeSort fun x y=>decide (x<=y)
def MA (p:Nat):List Nat->List Nat
  | []=>[]
  | q :: r=>if q=p then MA q r else q :: MA q r
def ki:List Nat->List Nat
  | []=>[]
  | p :: r=>p :: MA p r
def qV (v:dx) (at_:List Nat) (m:eL):List Nat:=if Zo m {rows:=[]}=true then j7 v at_ else ki (oO (m.rows.flatMap (HS v at_)))
section
variable {v:dx} {at_:List Nat} {p:Pr} {l r:List Nat} {x y i n:Nat}
theorem yC (v:dx):∀(l:List Nat) (i last:Nat) (o:List Nat),o.Pairwise (· < ·)->(∀x∈o,x<i)->(j5 v l i last o).Pairwise (· < ·)/\∀x∈j5 v l i last o,x<i+l.length
  | [],i,_,o,h,hb=>⟨h,fun x a=>by have:=hb x a;simp only[List.length_nil];omega⟩
  | p :: r,i,last,o,h,hb=>by
    rw[j5];have f:i+(p :: r).length=(i+1)+r.length:=(by simp only[List.length_cons];omega);rw[f];split
    · refine yC v r (i+1) _ _ ?_ ?_
      · rw[List.pairwise_append]
        refine⟨h,by simp,fun e d b c=>?_⟩;simp at c;subst c;exact hb e d
      · intro x a
        rcases List.mem_append.1 a with a|a
        · have:=hb x a;omega
        · simp at a;omega
    · exact yC v r (i+1) _ _ h fun x a=>by have:=hb x a;omega
theorem DL (v:dx) (at_:List Nat):(j7 v at_).Pairwise (· < ·)/\∀x∈j7 v at_,x<at_.length:=by have:=yC v at_ 0 0 [] List.Pairwise.nil Oy;rw[Nat.zero_add]at this;exact this
theorem XY (h:right p.pb=false):tf v at_ p=[]:=by unfold tf;rw[if_pos h]
theorem QB {x c:Nat} (h:right p.pb=true) (b:zD v p=(x,c)) (a:c≠0):tf v at_ p=[]:=by unfold tf;rw[if_neg (by simp[h]),b,if_pos a]
theorem adq {x c:Nat} (h:right p.pb=true) (b:zD v p=(x,c)) (a:c=0):tf v at_ p=(j7 v at_).filter (inG v at_ x):=by unfold tf;rw[if_neg (by simp[h]),b,if_neg (by simp[a])]
theorem afn (v:dx) (at_:List Nat):∀(l:List eT) (o:List Nat),o.Pairwise (· < ·)->(l.foldl (ng v at_) o).Pairwise (· < ·)/\∀x∈l.foldl (ng v at_) o,x∈o
  | [],_,h=>⟨h,fun _ h=>h⟩
  | a :: r,o,h=>by obtain⟨b,c⟩:=afn v at_ r (ng v at_ o a) (h.filter _);exact⟨b,fun x d=>(List.mem_filter.1 (c x d)).1⟩
theorem aht (v:dx) (at_:List Nat) (l:List eT):∀x∈HS v at_ l,x∈j7 v at_:=(afn v at_ l _ (DL v at_).1).2
theorem Zn (v:dx) (at_:List Nat):∀(l:List eT) (o:List Nat),(l.foldl (ng v at_) o).length<=o.length
  | [],_=>Nat.le_refl _
  | _ :: r,o=>lv (Zn v at_ r _) (List.length_filter_le _ _)
theorem ac2:∀(l:List Nat) (p:Nat),(∀x∈l,p<=x)->l.Pairwise (·<=·)->(MA p l).Pairwise (· < ·)/\(∀x∈MA p l,p<x)/\∀x,x∈MA p l\/x=p↔x∈l\/x=p
  | [],p,_,_=>⟨List.Pairwise.nil,by simp[MA],by simp[MA]⟩
  | q :: r,p,hp,hs=>by
    rw[List.pairwise_cons]at hs;obtain⟨b,a,c⟩:=ac2 r q hs.1 hs.2;have f:=hp q Oy;rw[MA];split
    · rename_i e
      subst e;refine⟨b,a,fun x=>(c x).trans ?_⟩;simp only[List.mem_cons];constructor
      · rintro(h|h)
        · exact .inl (.inr h)
        · exact .inr h
      · rintro((h|h)|h)
        · exact .inr h
        · exact .inl h
        · exact .inr h
    · refine⟨List.pairwise_cons.2 ⟨a,b⟩,fun x d=>?_,fun x=>?_⟩
      · rcases List.mem_cons.1 d with h|h
        · omega
        · have:=a x h;omega
      · have:=c x
        simp only[List.mem_cons];constructor
        · rintro((h|h)|h)
          · exact .inl (.inl h)
          · rcases this.1 (.inl h)with h|h
            · exact .inl (.inr h)
            · exact .inl (.inl h)
          · exact .inr h
        · rintro((h|h)|h)
          · exact .inl (.inl h)
          · rcases this.2 (.inl h)with h|h
            · exact .inl (.inr h)
            · exact .inl (.inl h)
          · exact .inr h
theorem wC {l:List Nat} (a:l.Pairwise (·<=·)):(ki l).Pairwise (· < ·)/\∀x,x∈ki l↔x∈l:=by
  cases l with
  | nil=>exact⟨List.Pairwise.nil,fun _=>Iff.rfl⟩
  | cons p r =>
    rw[List.pairwise_cons]at a;obtain⟨b,c,C⟩:=ac2 r p a.1 a.2;refine⟨List.pairwise_cons.2 ⟨c,b⟩,fun x=>?_⟩;have:=C x;show x∈p :: MA p r↔x∈p :: r;simp only[List.mem_cons];constructor
    · rintro(h|h)
      · exact .inl h
      · exact(this.1 (.inl h)).elim .inr .inl
    · rintro(h|h)
      · exact .inl h
      · exact(this.2 (.inl h)).elim .inr .inl
theorem T1 (l:List Nat):(oO l).Pairwise (·<=·):=by have:=List.pairwise_mergeSort (le:=fun x y:Nat=>decide (x<=y)) (by intro a b c;simp;omega) (by intro a b;simp;omega) l;exact this.imp fun h=>by simpa using h
theorem zq (l:List Nat) (x:Nat):x∈oO l↔x∈l:=List.mem_mergeSort
theorem rM (l:List Nat):(oO l).length=l.length:=by unfold oO;simp
theorem acR (v:dx) (at_:List Nat) (m:eL):(qV v at_ m).Pairwise (· < ·)/\∀x∈qV v at_ m,x∈j7 v at_:=by
  unfold qV;split
  · exact⟨(DL v at_).1,fun _ h=>h⟩
  obtain⟨A,B⟩:=wC (T1 (m.rows.flatMap (HS v at_)));refine⟨A,fun x D=>?_⟩;have:=(zq _ _).1 ((B x).1 D);obtain⟨l,_,C⟩:=List.mem_flatMap.1 this;exact aht v at_ l x C
theorem xQ {m:eL}:Zo m {rows:=[]}=true↔m.rows=[]:=by
  unfold Zo yt;cases h:m.rows with
  | nil=>simp[PF]
  | cons a r=>simp
theorem ZS {m:eL} (h:m.rows≠[]):qV v at_ m=ki (oO (m.rows.flatMap (HS v at_))):=by unfold qV;rw[if_neg fun e=>h (xQ.1 e)]
def AH (e:TypeId) (w:World) (b cap:Nat) (xs:List Nat):Prop:=∃cur,bC w b cur e/\cur.length=cap/\xs.length<=cap/\cur.take xs.length=xs.map fun n=>(.int .i64 n)
end
abbrev vN (n:Nat):Value:=.int .i64 n
section
variable {e:TypeId} {w w':World} {b cap:Nat} {xs:List Nat}
theorem AH.md {S:List Nat} (h:AH e w b cap xs) (m:Md S w w') (d:b∉S):AH e w' b cap xs:=by obtain⟨a,c,C⟩:=h;exact⟨a,c.md m d,C⟩
theorem AH.o (h:AH e w b cap xs) (m:Md [] w w'):AH e w' b cap xs:=h.md m Oy
instance an2:Tp w w' (AH e w b cap xs) (AH e w' b cap xs):=⟨fun m h=>h.o m⟩
theorem AH.cell (h:AH e w b cap xs) {i x:Nat} (hi:xs[i]? = some x):w.cell? ⟨b,i,none⟩=some (vN x):=by
  obtain⟨B,C,E,F,D⟩:=h;have A:=(List.getElem?_eq_some_iff.1 hi).1;rw[C.cell];have:(xs.map vN)[i]? = some (vN x):=by rw[List.getElem?_map,hi];rfl
  rw[<- D,List.getElem?_take,if_pos A]at this;exact this
theorem AH.at_ {o i k n c:Nat} {x:Nat} (h:AH e w b cap xs) (hi:xs[i]? = some x) (eq:o+k=i):At w (.slice (some ⟨b,o,none⟩) n c) k [vN x]:=by
  refine⟨⟨b,o,none⟩,n,c,q,fun j u A=>?_⟩;cases j with
  | succ j=>simp at A
  | zero =>
    simp at A;subst A;rw[Addr.kH,show o+(k+0)=i by omega];exact h.cell hi
theorem AH.into (h:AH e w b cap xs) {i z:Nat} (hi:i<xs.length):∃cur,bC w b cur e/\i<cur.length/\∀a,bC a b (cur.set i (vN z)) e->AH e a b cap (xs.set i z):=by obtain⟨cur,c,d,C,D⟩:=h;refine⟨cur,c,by omega,fun a f=>⟨_,f,by simpa using d,by simpa using C,?_⟩⟩;rw[List.length_set,List.take_set,D,List.map_set]
theorem AH.clear (h:AH e w b cap xs) {i:Nat} (hi:i<=xs.length):∃cur,bC w b cur e/\i+(xs.length-i)*1<=cur.length/\∀a us,us.length=(xs.length-i)*1->bC a b (fB cur i us) e->AH e a b cap (xs.take i):=by
  obtain⟨cur,c,d,g,C⟩:=h;refine⟨cur,c,by omega,fun a us f D=>⟨_,D,?_,?_,?_⟩⟩
  · rw[wi (by rw[f];omega),d]
  · rw[List.length_take];omega
  unfold fB;have G:(cur.take i).length=i:=by rw[List.length_take];omega
  rw[List.length_take,Nat.min_eq_left hi,List.append_assoc,List.take_append_of_le_length Xx,List.take_of_length_le Xx,List.map_take,<- C,List.take_take,Nat.min_eq_left hi]
theorem Ow.rwn {lo Q:Nat->Prop} {v:Value} (h:Ow eI e lo w Q v xs) (j:0<xs.length):∃b cap,v = .slice (some ⟨b,0,none⟩) xs.length cap/\cap<=maxLen/\AH e w b cap xs/\lo b/\¬Q b:=by obtain⟨⟨k,H,C⟩,a⟩:=h;obtain⟨b,cap,c,rfl,g,d,f,G,D⟩:=H.blk j;obtain⟨rfl,_⟩:=CR C;have i:eI.n=1:=rfl;rw[i]at G D;exact⟨b,cap,q,f,⟨c,g,by omega,d,by rw[<- Nat.mul_one xs.length,D]⟩,(a b q).1,(a b q).2⟩
theorem AH.ow {lo Q:Nat->Prop} (h:AH e w b cap xs) (f:cap<=maxLen) (g:lo b) (i:¬Q b) (j:∀x∈xs,x<9223372036854775808):Ow eI e lo w Q (.slice (some ⟨b,0,none⟩) xs.length cap) xs:=by obtain⟨k,C,H,D,c⟩:=h;refine⟨⟨xs.map vN,?_,AL fun x d=>j x d⟩,fun G a=>by simp[ah]at a;subst a;exact⟨g,i⟩⟩;have:=Own.cG (sz:=1) (m:=xs.length) C D f Xx;rw[Nat.mul_one,c]at this;exact this
end
theorem uj {l:List Nat} {j s:Nat} (h:j<l.length):(l.set j s).take (j+1)=l.take j ++ [s]:=by rw[List.take_add_one,List.getElem?_set_self h,List.take_set_of_le (Nat.le_refl _)];rfl
theorem GI {b n cap i:Nat} (h:i<cap):lY 1 (.slice (some ⟨b,0,none⟩) n cap) i n = .slice (some ⟨b,i,none⟩) (n-i) (cap-i):=by simp only[lY,Nat.mul_one];rw[if_neg Xx];simp[Addr.kH]
theorem TD {b n cap j:Nat} (h:0<cap):lY 1 (.slice (some ⟨b,0,none⟩) n cap) 0 j = .slice (some ⟨b,0,none⟩) j cap:=by simp only[lY];rw[if_neg Xx];simp[Addr.kH]
end Go.Wk
namespace Go.Wk
open Go Go.RowKit
section
variable {α:Type} {l:List α} {q:α->Bool} {x:α} {i:Nat}
theorem ags (h:¬i<l.length):(l.drop i).filter q=[]:=by rw[er Xx];rfl
theorem agt (h:l[i]? = some x) (a:q x=true):(l.drop i).filter q=x :: (l.drop (i+1)).filter q:=by rw[cH h,List.filter_cons_of_pos a]
theorem ajc (h:l[i]? = some x) (a:q x=false):(l.drop i).filter q=(l.drop (i+1)).filter q:=by rw[cH h,List.filter_cons_of_neg (by simp[a])]
theorem acU {β:Type} {f:α->List β} (h:¬i<l.length):(l.drop i).flatMap f=[]:=by rw[er Xx];rfl
theorem XM {a:Type} {f:α->List a} {y:List a} (h:l[i]? = some x) (b:f x=y):(l.drop i).flatMap f=y ++ (l.drop (i+1)).flatMap f:=by rw[cH h,List.flatMap_cons,b]
theorem adh {β:Type} {f:β->α->β} {o:β} (h:¬i<l.length):(l.drop i).foldl f o=o:=by rw[er Xx];rfl
theorem ZT {β:Type} {f:β->α->β} {o:β} (h:l[i]? = some x):(l.drop i).foldl f o=(l.drop (i+1)).foldl f (f o x):=by rw[cH h];rfl
def zY (q:α->Bool):List α->Nat->Int
  | [],_=>-1
  | x :: r,i=>if q x=true then((i:Nat):Int)else zY q r (i+1)
theorem adx (h:¬i<l.length):zY q (l.drop i) i = -1:=by rw[er Xx];rfl
theorem ady (h:l[i]? = some x) (a:q x=true):zY q (l.drop i) i=((i:Nat):Int):=by rw[cH h,zY,if_pos a]
theorem ag5 (h:l[i]? = some x) (a:q x=false):zY q (l.drop i) i=zY q (l.drop (i+1)) (i+1):=by rw[cH h,zY,if_neg (by simp[a])]
theorem JA:∀(l:List α) (k:Nat) (z:Int),zY q l k=z->(z = -1/\l.filter (fun x=>!q x)=l)\/∃i,z=((k+i:Nat):Int)/\i<l.length/\l.take i ++ (l.drop (i+1)).filter (fun x=>!q x)=l.filter (fun x=>!q x)
  | [],k,z,h=>.inl ⟨h.symm,rfl⟩
  | x :: r,k,z,h=>by
    rw[zY]at h
    by_cases hx:q x=true
    · rw[if_pos hx]at h
      refine .inr ⟨0,by rw[<- h];rfl,by simp,?_⟩;rw[List.filter_cons,if_neg (by simp[hx])];simp
    · rw[if_neg hx]at h
      have a:(!q x)=true:=by simp at hx;simp[hx]
      rcases JA r (k+1) z h with⟨A,B⟩|⟨i,A,B,C⟩
      · exact .inl ⟨A,by rw[List.filter_cons,if_pos a,B]⟩
      · refine .inr ⟨i+1,by rw[A];congr 1;omega,by simpa using B,?_⟩
        rw[List.filter_cons,if_pos a,List.take_succ_cons,List.drop_succ_cons,List.cons_append,C]
end
section
variable {v:dx} {at_:List Nat} {p:Pr} {x y c d s j:Nat} {b pl:Ly} {ps:List Nat} {r:Bool}
theorem ad7 (h:mI p=(b,c)) (a:c≠0):right p.pb=false:=by
  unfold mI at h;unfold right Pr.pb;split at h
  · rename_i h1;simp[h1]
  split at h
  · rename_i h1;simp;omega
  have:=congrArg Prod.snd h;exact absurd this.symm a
theorem agB (h:mI p=(b,c)) (a:c=0):right p.pb=true/\b=au p:=by
  subst a;unfold mI at h;unfold right Pr.pb;split at h
  · have:=congrArg Prod.snd h;simp at this
  rename_i h1;split at h
  · have:=congrArg Prod.snd h;simp at this
  rename_i h2;refine⟨by simp at h1 ⊢;exact⟨h1,by omega⟩,(congrArg Prod.fst h).symm⟩
theorem abn (h:right p.pb=true):p.name.length<=64/\p.value.length<=256:=by unfold right Pr.pb ew at h;simp at h;omega
theorem ad3 (h1:atF at_ j=(y,c)) (g:j<at_.length) (e:ofF (v.h.n.getD 0 0) v.b x=(ps,d)) (f:decide (y∈ps)=r):inG v at_ x j=r:=by unfold atF at h1;rw[if_pos g]at h1;have a:=congrArg Prod.fst h1;unfold inG;rw[e];simp only at a ⊢;rw[a];exact f
theorem afY (v:dx) (at_:List Nat) (l:List (List UInt8)) (b:Ly):(l.flatMap fun s=>tf v at_ {name:=b,value:=s}).length<=l.length*(j7 v at_).length:=by
  induction l with
  | nil=>simp
  | cons a r ih =>
    rw[List.flatMap_cons,List.length_append,List.length_cons,Nat.succ_mul];have:(tf v at_ {name:=b,value:=a}).length<=(j7 v at_).length:=by
      unfold tf;split
      · exact Nat.zero_le _
      · split
        · exact Nat.zero_le _
        · exact List.length_filter_le _ _
    omega
theorem ag1:(tf v at_ p).length<=(j7 v at_).length:=by have:=afY v at_ [p.value] p.name;simpa using this
end
end Go.Wk
namespace Go.Wk
open Go Go.RowKit
theorem Ow.own {α:Type} {T:Dt α} {w:World} {Q Q':Nat->Prop} {e:TypeId} {lo:Nat->Prop} {v:Value} {xs:List α} (h:Ow T e lo w Q v xs) (t:∀b,Q b->Q' b) (u:∀b,ah v=some b->Q' b):Ls T w Q' v xs:=by obtain⟨⟨B,C,D⟩,K⟩:=h;obtain⟨a,A,rfl,E,F,G,H⟩:=py C;exact⟨a,A,B,q,E,F,G,fun p J _=>u _ (by subst J;rfl),H,D.sub fun b I _=>t b I⟩
end Go.Wk
namespace Go.Wk
open Go Go.RowKit
section
variable {p q i y:Nat} {l:List Nat}
theorem yQ (h:l[i]? = some y):l.getD i 0=y:=by rw[List.getD_eq_getElem?_getD,h];rfl
theorem XF (h:¬i<l.length):MA p (l.drop i)=[]:=by rw[er Xx];rfl
theorem PC (h:l[i]? = some q):MA p (l.drop i)=if q=p then MA q (l.drop (i+1))else q :: MA q (l.drop (i+1)):=by rw[cH h];rfl
theorem CG (h:l.length<2):ki l=l:=by
  match l,h with
  | [],_=>rfl
  | [_],_=>rfl
  | _ :: _ :: _,h=>simp at h;omega
theorem CI (h:1<=l.length):l.take 1 ++ MA (l.getD (1-1) 0) (l.drop 1)=ki l:=by
  cases l with
  | nil=>simp at h
  | cons p r=>rfl
theorem MB:∀(l:List Nat) (p:Nat),∀x∈MA p l,x∈l
  | [],_,_,h=>h
  | q :: r,p,x,h=>by
    rw[MA]at h;split at h
    · exact List.mem_cons_of_mem _ (MB r q x h)
    · rcases List.mem_cons.1 h with h|h
      · rw[h];exact List.mem_cons_self
      · exact List.mem_cons_of_mem _ (MB r q x h)
theorem LW {x:Nat} (h:x∈ki l):x∈l:=by
  cases l with
  | nil=>exact h
  | cons p r =>
    rcases List.mem_cons.1 h with h|h
    · rw[h];exact List.mem_cons_self
    · exact List.mem_cons_of_mem _ (MB r p x h)
end
end Go.Wk
namespace Go.Wk
open Go Go.RowKit
def ZA (p:Ly) (l:List Pr):Bool:=l.any fun q=>decide (au q=p)
section
variable {m:Mk} {B:Ly} {H:bF} {l:List Ob} {es:List eH} {rs:List Rec}
theorem NH {d:List Nat} {f:Nat->List Nat} (h:lK m l es d f) (i:Nat):sC m.b (places es i):=by obtain⟨c,C⟩:=CX h;have a:(places es i).Sublist (es.map eH.pos):=List.filter_sublist.map _;exact⟨fun x D=>c x (a.subset D),C.sublist a⟩
theorem ac0 (k:mM m l es rs) (a:jb m B H l es) {o:Ob} (w:o∈l) (h1:o.kind=1) :
    ∃(i:Nat) (b:aN),m.ai[i]? = some b/\b.pos=o.pos/\alF (decide (H.bN &&& 4≠0)) H.cg (H.n.getD 0 0) B o.pos=(b.bQ,0)/\ofF (H.n.getD 0 0) B o.pos=(places es i,0):=by
  obtain⟨b,D,v⟩:=a.img.eP.all o w h1;obtain⟨i,e⟩:=List.mem_iff_getElem?.1 D;have j:=GP k.img.txt D;have G:=Uc a.img e j;have s:=aeM a.img e j;have C:=NH a.img i;have f:=a.img.dat i b e;rw[QU a.key,a.cg,agL k a,<- v];refine⟨i,b,e,q,?_,?_⟩
  · unfold alF;rw[show k9 m.c.cC m.c.cg 272 B b.pos=_ from s];rfl
  cases hps:places es i with
  | nil=>exact FE G Oy (.inl (by rw[hps];rfl))
  | cons p r =>
    have d:=C.get (i:=0) (by rw[hps];simp);rw[hps]at G d f C;simp only[List.getD_cons_zero]at d;have u:gO B p=false:=(by unfold gO;simp only[decide_eq_false_iff_not];exact fun h=>h.elim d.1 (fun h=>by have:=d.2;exact absurd this (by show ¬p<B.length;omega)));refine(rY G Oy (by simp[Pe]) u).trans ?_;have g:=JS (ps:=p :: r) f.chain a.img.eP.eF C Oy b.aT.length 0 0 Xx (fun _=>rfl) (fun y x=>by omega) (by simp[mG]);have t:min (p :: r).length (mG 0+1)=1:=(by simp[mG]);rw[t]at g;exact g
theorem XZ (f:mM m l es rs) (o:jb m B H l es) {i j:Nat} {g:eH} {r:Rec} {b:aN} (e:es[i]? = some g) (n:rs[i]? = some r) (hk:m.ai[j]? = some b):ZA b.bQ r.ak=true↔j∈g.who:=by
  have D:=List.mem_of_getElem? e;have k:=f.rcd i g r e n;have w:=f.img.who g D;have G:ZA b.bQ r.ak=true↔b.bQ∈r.ak.map au:=by unfold ZA;rw[List.any_eq_true,List.mem_map];exact⟨fun⟨q,a,C⟩=>⟨q,a,dT C⟩,fun⟨q,a,C⟩=>⟨q,a,decide_eq_true C⟩⟩
  rw[G,<- k.ak.mem_iff,List.mem_map];constructor
  · rintro⟨c,a,C⟩
    obtain⟨y,d⟩:∃y,m.ai[c]? = some y:=⟨_,List.getElem?_eq_getElem (w.lt c a)⟩;rw[(mC d).1]at C;have:=o.img.eP.one c j y b d hk (.inr C);subst this;exact a
  exact fun h=>⟨j,h,(mC hk).1⟩
end
end Go.Wk
namespace Go.Wk
open Go Go.RowKit
def iv (ks:List aN) (s:Nat):List Nat:=(ks.filter fun k=>decide (k.bV=s)).map aN.pos
theorem uU (ks:List aN) (k:aN) (s:Nat):iv (ks ++ [k]) s=if k.bV=s then iv ks s ++ [k.pos]else iv ks s:=by
  unfold iv;rw[List.filter_append,List.map_append]
  by_cases h:k.bV=s
  · rw[if_pos h];simp[h]
  rw[if_neg h];simp[h]
theorem kG {ks:List aN} {s p:Nat} (h:p∈iv ks s):∃k∈ks,k.pos=p/\k.bV=s:=by obtain⟨k,hk,rfl⟩:=List.mem_map.1 h;obtain⟨A,B⟩:=List.mem_filter.1 hk;exact⟨k,A,q,dT B⟩
theorem afy {ks:List aN} {k:aN} (h:k∈ks):k.pos∈iv ks k.bV:=List.mem_map.2 ⟨k,List.mem_filter.2 ⟨h,decide_eq_true q⟩,q⟩
theorem KW (ks:List aN) (s:Nat):(iv ks s).Sublist (ks.map aN.pos):=List.filter_sublist.map _
theorem DV (s:Nat):∀(ks:List aN) (n q:Nat),nD s ks n q=(n+(iv ks s).length,(iv ks s).getLastD q)
  | [],_,_=>rfl
  | k :: r,n,q=>by
    rw[nD];unfold iv;rw[List.filter_cons]
    by_cases h:k.bV=s
    · rw[if_pos h,if_pos (decide_eq_true h),DV s r]
      simp only[List.map_cons,List.length_cons,List.getLastD_cons];unfold iv;congr 1;omega
    · rw[if_neg h,if_neg (by simpa using h),DV s r];rfl
theorem uH {l:List Nat} {p i:Nat} (h:i<l.length):(l ++ [p]).getD i 0=l.getD i 0:=by rw[List.getD_eq_getElem?_getD,List.getD_eq_getElem?_getD,List.getElem?_append_left h]
theorem ZU (l:List Nat) (p:Nat):(l ++ [p]).getD l.length 0=p:=by rw[List.getD_eq_getElem?_getD,List.getElem?_append_right (Nat.le_refl _),Nat.sub_self];rfl
theorem IY {l:List Nat} {i:Nat} (h:l.length<=i):l.getD i 0=0:=by rw[List.getD_eq_getElem?_getD,List.getElem?_eq_none h];rfl
theorem yK (l:List Nat) (h:l≠[]):l[l.length-1]? = some (l.getLastD 0):=by
  rw[<- List.getLast?_eq_getElem?,List.getLastD_eq_getLast?];cases hq:l.getLast? with
  | none=>exact absurd (List.getLast?_eq_none_iff.1 hq) h
  | some x=>rfl
theorem aar (l:List Nat) (p:Nat):(l ++ [p]).getLastD 0=p:=by simp[List.getLastD_eq_getLast?]
structure mD (b:Ly) (tab n:Nat) (ks:List aN):Prop where
  bV:∀k∈ks,k.bV<n
  head:∀s:Nat,s<n->dW b (tab+16*s)=(iv ks s).getD 0 0
  next:∀s j p:Nat,(iv ks s)[j]? = some p->dW b (p+24)=(iv ks s).getD (j+1) 0
def abS (tab n:Nat) (ks:List aN) (a:Nat):Prop:=(∃s:Nat,s<n/\a=tab+16*s)\/∃k∈ks,a=k.pos+24
theorem mD.keep {b c:Ly} {tab n:Nat} {ks:List aN} (h:mD b tab n ks) (f:∀a,abS tab n ks a->dW c a=dW b a):mD c tab n ks:=by refine⟨h.bV,fun s e=>(f _ (.inl ⟨s,e,q⟩)).trans (h.head s e),fun s i p d=>?_⟩;obtain⟨k,hk,g,_⟩:=kG (List.mem_of_getElem? d);exact(f _ (.inr ⟨k,hk,by rw[g]⟩)).trans (h.next s i p d)
def nL (k:aN):Nat × Nat × List UInt8:=(k.pos,k.bV,k.bQ)
theorem KV {ks b:List aN} (h:b.map nL=ks.map nL) (s:Nat):iv b s=iv ks s:=by
  have a:∀ks:List aN,iv ks s=((ks.map nL).filter fun q=>decide (q.2.1=s)).map Prod.fst:=fun ks=>by unfold iv;rw[List.filter_map,List.map_map];rfl
  rw[a,a,h]
theorem wX {ks b:List aN} (h:b.map nL=ks.map nL) {k:aN} (hk:k∈b):∃x∈ks,x.pos=k.pos/\x.bV=k.bV/\x.bQ=k.bQ:=by have:nL k∈ks.map nL:=h ▸ List.mem_map.2 ⟨k,hk,q⟩;obtain⟨x,D,d⟩:=List.mem_map.1 this;obtain⟨c,a⟩:=Prod.mk.inj d;obtain⟨a,C⟩:=Prod.mk.inj a;exact⟨x,D,c,a,C⟩
theorem mD.key {b:Ly} {tab n:Nat} {ks c:List aN} (h:mD b tab n ks) (hk:c.map nL=ks.map nL):mD b tab n c:=by refine⟨fun k d=>?_,fun s C=>by rw[KV hk];exact h.head s C,fun s f p a=>by rw[KV hk]at a ⊢;exact h.next s f p a⟩;obtain⟨x,D,_,e,_⟩:=wX hk d;rw[<- e];exact h.bV x D
def vn (b:Ly) (ks:List aN) (tab p s:Nat):List UInt8 :=
  ig (if(iv ks s).length=0 then ig b (tab+16*s) p else ig b ((iv ks s).getLastD 0+24) p) (tab+16*s+8) p
theorem adn (m:Mk) (ks:List aN) (tab p s:Nat):(m.hang ks tab p s).2.b=vn m.b ks tab p s:=by unfold Mk.hang;rw[DV];simp only[Nat.zero_add];unfold vn;split <;> rfl
theorem IZ (b:Ly) (ks:List aN) (tab p s:Nat):(vn b ks tab p s).length=b.length:=by unfold vn;rw[eO];split <;> rw[eO]
section
variable {b:Ly} {tab n:Nat} {ks:List aN} {k:aN}
theorem LR {l:List Nat} (h:l.Pairwise (· < ·)) {i j a c:Nat} (e:l[i]? = some a) (f:l[j]? = some c) (g:i<j):a<c:=by obtain⟨b,rfl⟩:=List.getElem?_eq_some_iff.1 e;obtain⟨d,rfl⟩:=List.getElem?_eq_some_iff.1 f;exact List.pairwise_iff_getElem.1 h i j b d g
theorem NI (c:(ks.map aN.pos).Pairwise (· < ·)) {x y:aN} (e:x∈ks) (f:y∈ks) (g:x.pos=y.pos):x=y:=by
  obtain⟨i,b⟩:=List.mem_iff_getElem?.1 e;obtain⟨d,a⟩:=List.mem_iff_getElem?.1 f;have C:(ks.map aN.pos)[i]? = some x.pos:=by rw[List.getElem?_map,b];rfl
  have D:(ks.map aN.pos)[d]? = some y.pos:=by rw[List.getElem?_map,a];rfl
  rcases Nat.lt_trichotomy i d with A|rfl|A
  · have:=LR c C D A;omega
  · rw[b]at a;exact Option.some.inj a
  have:=LR c D C A;omega
theorem DR (g:k.bV<n) {a p:Nat} (h1:a+8<=tab+16*k.bV\/tab+16*k.bV+16<=a) (f:∀x∈ks,a+8<=x.pos+24\/x.pos+32<=a):dW (vn b ks tab p k.bV) a=dW b a:=by
  unfold vn;rw[fC Xx];split
  · exact fC Xx
  rename_i hne;have d:=yK (iv ks k.bV) (fun c=>hne (by rw[c];rfl));obtain⟨x,e,c,_⟩:=kG (List.mem_of_getElem? d);have:=f x e;exact fC Xx
theorem mD.hang (h:mD b tab n ks) (o:k.bV<n) (m:∀x∈ks,tab+16*n<=x.pos) (F:tab+16*n<=k.pos) (E:∀x∈ks,x.pos+40<=k.pos) (pair:∀x∈ks,∀y∈ks,x.pos=y.pos\/x.pos+40<=y.pos\/y.pos+40<=x.pos)
    (nd:(ks.map aN.pos).Pairwise (· < ·)) (hn:dW b (k.pos+24)=0) (hl:k.pos+40<=b.length) (hk:k.pos<18446744073709551616):mD (vn b ks tab k.pos k.bV) tab n (ks ++ [k]):=by
  have R:(iv ks k.bV).Pairwise (· < ·):=nd.sublist (KW ks k.bV);have f:∀(c:Ly) (l:Nat),abS tab n (ks ++ [k]) l->dW (ig c (tab+16*k.bV+8) k.pos) l=dW c l:=fun c l A=>by
    refine fC ?_
    rcases A with⟨s,X,rfl⟩|⟨x,a,rfl⟩
    · rcases Nat.lt_or_ge k.bV s with M|M <;> omega
    · rcases List.mem_append.1 a with a|a
      · have:=m x a;omega
      · rw[List.mem_singleton]at a;subst a;omega
  have r:∀s:Nat,s<n->abS tab n (ks ++ [k]) (tab+16*s):=fun s o=>.inl ⟨s,o,rfl⟩;have i:∀x∈ks,abS tab n (ks ++ [k]) (x.pos+24):=fun x a=>.inr ⟨x,by simp[a],rfl⟩;have t:abS tab n (ks ++ [k]) (k.pos+24):=.inr ⟨k,by simp,rfl⟩;have v:∀x∈ks ++ [k],x.bV<n:=fun x a=>by
    rcases List.mem_append.1 a with a|a
    · exact h.bV x a
    · rw[List.mem_singleton]at a;subst a;exact o
  unfold vn
  by_cases h0:(iv ks k.bV).length=0
  · have u:iv ks k.bV=[]:=List.eq_nil_of_length_eq_zero h0
    rw[if_pos h0];refine⟨v,fun s C=>?_,fun s g p d=>?_⟩
    · rw[f _ _ (r s C),uU]
      by_cases e:k.bV=s
      · subst e
        rw[if_pos rfl,u,iN Xx hk];rfl
      rw[if_neg e,fC (by rcases Nat.lt_or_ge k.bV s with M|M<;>omega)];exact h.head s C
    rw[uU]at d ⊢
    by_cases e:k.bV=s
    · subst e
      rw[if_pos rfl,u]at d ⊢;obtain rfl:g=0:=by have:=(List.getElem?_eq_some_iff.1 d).1;simp at this;exact this
      obtain rfl:k.pos=p:=by simpa using d
      rw[f _ _ t,fC Xx,hn];rfl
    rw[if_neg e]at d ⊢;obtain⟨x,a,H,_⟩:=kG (List.mem_of_getElem? d);have:=m x a;subst H;rw[f _ _ (i x a),fC Xx];exact h.next s g _ d
  rw[if_neg h0];have z:iv ks k.bV≠[]:=fun e=>h0 (by rw[e];rfl);have j:=yK _ z;generalize (iv ks k.bV).getLastD 0=q at j;obtain⟨y,G,Q,w⟩:=kG (List.mem_of_getElem? j);have T:=m y G;have V:=E y G;refine⟨v,fun s C=>?_,fun s g p d=>?_⟩
  · rw[f _ _ (r s C),fC Xx,h.head s C,uU]
    by_cases e:k.bV=s
    · subst e;rw[if_pos rfl,uH Xx]
    rw[if_neg e]
  rw[uU]at d ⊢
  by_cases e:k.bV=s
  · subst e
    rw[if_pos rfl]at d ⊢
    rcases Nat.lt_trichotomy g ((iv ks k.bV).length-1)with D|D|D
    · rw[List.getElem?_append_left Xx]at d
      obtain⟨x,a,H,_⟩:=kG (List.mem_of_getElem? d);have:=LR R d j Xx;subst H;have:=pair x a y G;rw[f _ _ (i x a),fC Xx,h.next _ g _ d,uH Xx]
    · rw[List.getElem?_append_left Xx,D,j]at d
      cases d;rw[f _ _ (by rw[<- Q];exact i y G),iN Xx hk,D,show(iv ks k.bV).length-1+1=(iv ks k.bV).length by omega,ZU]
    have:=(List.getElem?_eq_some_iff.1 d).1;simp only[List.length_append,List.length_singleton]at this;obtain rfl:g=(iv ks k.bV).length:=by omega
    rw[List.getElem?_append_right (Nat.le_refl _),Nat.sub_self]at d;obtain rfl:k.pos=p:=by simpa using d
    rw[f _ _ t,fC Xx,hn,IY Oy]
  rw[if_neg e]at d ⊢;obtain⟨x,a,H,P⟩:=kG (List.mem_of_getElem? d);have W:x.pos≠y.pos:=fun B=>e (by rw[<- w,<- P,NI nd a G B]);have:=pair x a y G;subst H;rw[f _ _ (i x a),fC Xx];exact h.next s g _ d
end
def qo (t:Ly):List UInt8:=t.takeWhile fun c=>decide (c≠61)
theorem aa2 {q:Pr} (h:∀c∈q.name,c≠61):qo (au q)=q.name:=by unfold qo au;rw[List.append_assoc,List.takeWhile_append_of_pos (fun c A=>decide_eq_true (h c A))];simp
def nC (ds:List aN) (t:Ly):List Nat:=(ds.filter fun k=>decide (qo k.bQ=t)).map aN.pos
theorem IA (ds:List aN) (k:aN) (t:Ly):nC (ds ++ [k]) t=if qo k.bQ=t then nC ds t ++ [k.pos]else nC ds t:=by
  unfold nC;rw[List.filter_append,List.map_append]
  by_cases h:qo k.bQ=t
  · rw[if_pos h];simp[h]
  rw[if_neg h];simp[h]
theorem yc {ds:List aN} {t:Ly} {p:Nat} (h:p∈nC ds t):∃k∈ds,k.pos=p/\qo k.bQ=t:=by obtain⟨k,hk,rfl⟩:=List.mem_map.1 h;obtain⟨A,B⟩:=List.mem_filter.1 hk;exact⟨k,A,q,dT B⟩
theorem IB {ks b:List aN} (h:b.map nL=ks.map nL) (t:Ly):nC b t=nC ks t:=by
  have a:∀ks:List aN,nC ks t=((ks.map nL).filter fun q=>decide (qo q.2.2=t)).map Prod.fst:=fun ks=>by unfold nC;rw[List.filter_map,List.map_map];rfl
  rw[a,a,h]
structure ve (b:Ly) (ds fs:List aN):Prop where
  head:∀f∈fs,dW b (f.pos+32)=(nC ds f.bQ).getLastD 0
  next:∀(t:Ly) (j p:Nat),(nC ds t)[j]? = some p->dW b (p+32)=if j=0 then 0 else(nC ds t).getD (j-1) 0
theorem ve.keep {b c:Ly} {ds fs:List aN} (h:ve b ds fs) (h1:∀k∈ds,dW c (k.pos+32)=dW b (k.pos+32)) (g:∀f∈fs,dW c (f.pos+32)=dW b (f.pos+32)):ve c ds fs:=by refine⟨fun f a=>(g f a).trans (h.head f a),fun t i p d=>?_⟩;obtain⟨k,hk,e,_⟩:=yc (List.mem_of_getElem? d);subst e;exact(h1 k hk).trans (h.next t i _ d)
theorem ve.key {b:Ly} {ds a fs:List aN} (h:ve b ds fs) (hk:a.map nL=ds.map nL):ve b a fs :=
  ⟨fun f d=>by rw[IB hk];exact h.head f d,fun t e p c=>by rw[IB hk]at c ⊢;exact h.next t e p c⟩
theorem ve.field {b:Ly} {ds fs:List aN} {f:aN} (h:ve b ds fs) (c:dW b (f.pos+32)=0) (d:∀k∈ds,qo k.bQ≠f.bQ):ve b ds (fs ++ [f]):=by
  refine⟨fun g a=>?_,h.next⟩
  rcases List.mem_append.1 a with a|a
  · exact h.head g a
  rw[List.mem_singleton]at a;subst a;rw[c];have:nC ds g.bQ=[]:=by unfold nC;rw[List.map_eq_nil_iff,List.filter_eq_nil_iff];intro k hk;simpa using d k hk
  rw[this];rfl
theorem ve.put {b:Ly} {ds fs:List aN} {f k:aN} {v:Nat} (h:ve b ds fs) (c:f∈fs) (j:f.bQ=qo k.bQ) (m:v=dW b (f.pos+32)) (one:∀x∈fs,∀y∈fs,(x.bQ=y.bQ↔x.pos=y.pos))
    (ap1:∀x∈ds,(x.pos+40<=k.pos\/k.pos+40<=x.pos)/\(x.pos+40<=f.pos\/f.pos+40<=x.pos)) (ap2:∀g∈fs,(g.pos+40<=k.pos\/k.pos+40<=g.pos)/\(g.pos=f.pos\/g.pos+40<=f.pos\/f.pos+40<=g.pos)) (hk:k.pos<18446744073709551616) (l1:k.pos+40<=b.length) (l2:f.pos+40<=b.length) :
    ve (ig (ig b (k.pos+32) v) (f.pos+32) k.pos) (ds ++ [k]) fs:=by
  have r:=(ap2 f c).1;refine⟨fun g C=>?_,fun t d p a=>?_⟩
  · rw[IA]
    by_cases e:qo k.bQ=g.bQ
    · rw[if_pos e,aar,(one g C f c).1 (by rw[j,e]),iN (by rw[eO];omega) hk]
    rw[if_neg e];have q:=ap2 g C;have o:g.pos≠f.pos:=fun n=>e (by rw[(one g C f c).2 n,j]);rw[fC Xx,fC Xx];exact h.head g C
  rw[IA]at a ⊢
  by_cases e:qo k.bQ=t
  · rw[if_pos e]at a ⊢
    rcases Nat.lt_or_ge d (nC ds t).length with F|F
    · rw[List.getElem?_append_left F]at a
      obtain⟨x,i,D,_⟩:=yc (List.mem_of_getElem? a);have G:=ap1 x i;subst D;rw[fC Xx,fC Xx,h.next t d _ a];split
      · rfl
      rw[uH Xx]
    have:=(List.getElem?_eq_some_iff.1 a).1;simp only[List.length_append,List.length_singleton]at this;obtain rfl:d=(nC ds t).length:=by omega
    rw[List.getElem?_append_right (Nat.le_refl _),Nat.sub_self]at a;obtain rfl:k.pos=p:=by simpa using a
    have l:=h.head f c;rw[j,e]at l;rw[fC Xx,iN Xx (by rw[m];exact LU _ _),m,l];split
    · rename_i h0
      rw[List.eq_nil_of_length_eq_zero h0];rfl
    rename_i h0;have:=yK (nC ds t) (fun H=>h0 (by rw[H];rfl));rw[uH Xx,List.getD_eq_getElem?_getD,this];rfl
  rw[if_neg e]at a ⊢;obtain⟨x,i,D,_⟩:=yc (List.mem_of_getElem? a);have G:=ap1 x i;subst D;rw[fC Xx,fC Xx];exact h.next t d _ a
end Go.Wk
