/- Part 3 of what the walk of a law stands on: GuardR, VLe, VGet, VHead, VHead2, VHead3, VHead4, VView, VView2, VData, VFo, VFo1, VTold, VFo2. No statement is proved here. -/
import Derived.Test.YtmobbnpkkmeoiaaGreatSAI2
import Derived.Test.YtmobbnpkkmeoiaaGreatRows
set_option linter.unusedVariables false
set_option linter.unusedSimpArgs false
namespace Go.Wk
open Go Go.RowKit
def FI (v:Value):List PanicEntry:=[{v,recovered:=false}]
def OM (P:Program) (t:TypeId):Bool:=match P.underlying t with|some (.interface _)=>true|_=>false
def EI (P:Program) (t:TypeId):Bool:=match P.underlying t with|some (.interface _)=>false|some _=>true|none=>false
theorem zF {P:Program} {t:TypeId} (h:EI P t=true):∃X,P.underlying t=some X∧∀Y,X≠.interface Y:=by
  unfold EI at h
  split at h
  · cases h
  · rename_i X h1 h2;exact⟨X,h2,fun Y e=>h1 Y e⟩
  cases h
theorem DK {P:Program} {t:TypeId} (h:OM P t=true):∃X,P.underlying t=some (.interface X):=by
  unfold OM at h
  split at h
  · exact⟨_,by assumption⟩
  cases h
section
variable {P:Program} {ops:Array Oper} {Q:Exit→Act→World→Prop} {rest:List Oper}
variable {n:Nat} {A:Fr n} {D:List Deferred} {l:List (Nat × Value)} {w:World}
variable {d:Tmp} {op:Op} {ty:TypeId} {ps:String} {af:Array Edge} {g:Option (Nat × Bool)}
theorem door {vs:List Value} {m:Nat} (hn:m=n) (hle:Nat.ble vs.length n=true) :
    ∃B:Fr n,b9 B [] (tY 0 vs)={tmps:=vs.toArray ++ Array.replicate (m-vs.toArray.size) undef,defers:=[]}:=by
  have hle':vs.length≤n:=lB hle
  have D:(vs.toArray ++ Array.replicate (m-vs.toArray.size) undef).size=n:=by simp[hn];omega
  refine⟨⟨_,D⟩,JC ?_⟩
  intro p G
  obtain⟨j,E,F⟩:=EG G
  obtain⟨A,C⟩:=List.getElem?_eq_some_iff.1 F
  simp only[E,Nat.zero_add,Array.getD]
  rw[dif_pos Vw]
  show(vs.toArray ++ _)[j]'_=_
  rw[Array.getElem_append_left (by simpa using A)]
  simpa using C
theorem ahO {f:FuncId} {fn:Func} {c:Code} {vs:List Value} {R:Ending→World→Prop} (hf:P.funcs[f]? = some fn) (hb:fn.body=some c) (hn:fn.ntmps=n) (hle:Nat.ble vs.length n=true)
    (h:∀B:Fr n,c.wp P (bodyPostD P fn R) (b9 B [] (tY 0 vs)) w):Calls P f vs.toArray w R:=by
  refine calls_of_wp_defers hf hb ?_
  obtain⟨B,A⟩:=door hn hle
  rw[← A];exact h B
theorem ahP {f:FuncId} {fn:Func} {c:Code} {vs:List Value} {u:FrameMode} {R:Ending→FrameMode→World→Prop} (hf:P.funcs[f]? = some fn) (hb:fn.body=some c) (hn:fn.ntmps=n) (hle:Nat.ble vs.length n=true)
    (h:∀(B:Fr n) (c₀:Go.Frame) (cs:List Go.Frame),c₀.mode=u→c.wpS P (bodyPostS P fn c₀ cs R) (b9 B [] (tY 0 vs)) (c₀ :: cs) w):CallsD P f vs.toArray u w R:=by
  refine callsD_of_wpS hf hb fun c₀ cs C=>?_
  obtain⟨B,A⟩:=door hn hle
  rw[← A];exact h B c₀ cs C
theorem lU {f:FuncId} {xs:List Operand} {vs:List Value} {d':Option Tmp} (hx:evs n l xs=some vs) :
    dS P ⟨d',.makeFunc (.func f) #[] xs.toArray,ty,ps,af,g⟩ (b9 A D l).eval w (.func (.func f) #[] vs.toArray):=by
  have B:=nB (A:=A) (D:=D) hx
  simp[dS,execOp,Instr.makeFunc,B]
theorem ZN (dd:Deferred) (v:Option Tmp) (x:Value):({b9 A D l with defers:=dd :: (b9 A D l).defers}.put v x)=match v with|some t=>b9 A (dd :: D) ((t,x) :: l)|none=>b9 A (dd :: D) l:=by
  have B:∀l:List (Nat × Value),({b9 A D l with defers:=dd :: (b9 A D l).defers}:Act)=b9 A (dd :: D) l:=by
    intro l
    rw[gU]
    induction l with
    | nil=>rfl
    | cons p r ih=>simp only[b9,Act.put]at ih ⊢;simp only[← ih]
  rw[B]
  cases v <;> rfl
theorem aec {f:FuncId} {c:Operand} {ts:Array TypeId} {cs:List Value} {d':Option Tmp} (hc:ev n l c=some (.func (.func f) #[] cs.toArray))
    (k:wpList P ops Q rest (match d' with|some t=>b9 A (⟨.fn (.func f) cs.toArray,#[]⟩ :: D) ((t,undef) :: l)|none=>b9 A (⟨.fn (.func f) cs.toArray,#[]⟩ :: D) l) w) :
    wpList P ops Q (⟨d',.defer {callee:=.value c,args:=#[],argTypes:=ts},ty,ps,af,none⟩ :: rest) (b9 A D l) w:=by
  refine iC q ?_
  unfold Oper.wp
  have B:(execOp (b9 A D l).eval ⟨d',.defer {callee:=.value c,args:=#[],argTypes:=ts},ty,ps,af,none⟩).run P w = .ok (.defer ⟨.fn (.func f) cs.toArray,#[]⟩) w:=by
    simp[execOp,resolve,cF hc,Deferred.ofValue]
  rw[B]
  show wpList P ops Q rest ({b9 A D l with defers:=_ :: (b9 A D l).defers}.put d' undef) w
  rw[ZN]
  cases d' <;> exact k
theorem aaz {f:FuncId} {c:Operand} {xs:List Operand} {ts:Array TypeId} {vs cs:List Value} {R:Ending→World→Prop} {d':Option Tmp} (hc:ev n l c=some (.func (.func f) #[] cs.toArray)) (hf:ea P f=true) (ha:evs n l xs=some vs) (hr:Calls P f (vs ++ cs).toArray w R)
    (k:∀e w',R e w'→(∃v,e = .returned v∧wpList P ops Q rest ((b9 A D l).put d' v) w')∨∃ch,e = .panicked ch∧Q (.panic ch) (b9 A D l) w') :
    wpList P ops Q (⟨d',.call {callee:=.value c,args:=xs.toArray,argTypes:=ts},ty,ps,af,none⟩ :: rest) (b9 A D l) w:=by
  refine iC q ?_
  unfold Oper.wp
  have E:=nB (A:=A) (D:=D) ha
  have B:(execOp (b9 A D l).eval ⟨d',.call {callee:=.value c,args:=xs.toArray,argTypes:=ts},ty,ps,af,none⟩).run P w = .ok (.enter f (vs ++ cs).toArray) w:=by
    simp only[execOp,resolve,cF hc,Deferred.ofValue,List.map_toArray,E]
    simp[invoke,pG hf]
  rw[B]
  refine hr.mono fun e w' C=>?_
  rcases k e w' C with⟨v,rfl,hk⟩|⟨ch,rfl,hk⟩
  · exact hk
  exact hk
theorem j4 {f:FuncId} {xs:List Operand} {ts:Array TypeId} {vs:List Value} {R:Ending→World→Prop} (hf:ea P f=true) (ha:evs n l xs=some vs) (hr:Calls P f vs.toArray w R)
    (k:∀e w',R e w'→(∃v,e = .returned v∧wpList P ops Q rest (b9 A D ((d,v) :: l)) w')∨∃ch,e = .panicked ch∧Q (.panic ch) (b9 A D l) w') :
    wpList P ops Q (⟨some d,.call {callee:=.value (.func f),args:=xs.toArray,argTypes:=ts},ty,ps,af,none⟩ :: rest) (b9 A D l) w:=by
  refine iC q ?_
  unfold Oper.wp
  rw[yj hf ha]
  refine hr.mono fun e w' B=>?_
  rcases k e w' B with⟨v,rfl,hk⟩|⟨ch,rfl,hk⟩
  · exact hk
  exact hk
theorem ot {x:Operand} {t:TypeId} {v:Value} {d':Option Tmp} (hT:EI P t=true) (hx:ev n l x=some v) :
    dS P ⟨d',.makeInterface t x,ty,ps,af,g⟩ (b9 A D l).eval w (.iface t v):=by
  obtain⟨X,hT,B⟩:=zF hT
  cases X <;> simp_all [dS,execOp,cF hx,Instr.makeInterface,run_underlying hT]
theorem qi {x:Operand} {t:TypeId} {v:Value} {d':Option Tmp} (hx:ev n l x=some (.iface t v)) (k:Q (.panic (FI (.iface t v))) (b9 A D l) w) :
    wpList P ops Q (⟨d',.panic x,ty,ps,af,none⟩ :: rest) (b9 A D l) w:=by
  refine iC q ?_
  unfold Oper.wp
  have B:(execOp (b9 A D l).eval ⟨d',.panic x,ty,ps,af,none⟩).run P w = .halt (.panic (.iface t v)) w:=by
    simp[execOp,cF hx,Instr.panic,goPanic]
  rw[B];exact k
theorem gV {fn:Func} {R:Ending→World→Prop} {ch:List PanicEntry} (h:R (.panicked ch) w):bodyPost P fn R (.panic ch) (b9 A [] l) w:=⟨gU,h⟩
theorem afb {t s:TypeId} {v:Value} {X} (w:World) (dd:Nat) (hT:P.underlying t=some (.interface X)):(Op.equalIn (dd+1) t (.iface s v) .nilIface).run P w = .ok false w:=by
  simp only[Op.equalIn,Sem.run_bind,run_underlying hT,Result.andThen_ok,Sem.run_pure]
theorem afa {t:TypeId} {X} (w:World) (dd:Nat) (hT:P.underlying t=some (.interface X)):(Op.equalIn (dd+1) t .nilIface .nilIface).run P w = .ok true w:=by
  simp only[Op.equalIn,Sem.run_bind,run_underlying hT,Result.andThen_ok,Sem.run_pure]
theorem agh {x:Operand} {t u s:TypeId} {v:Value} (hx:ev n l x=some (.iface s v)) (hT:OM P t=true) :
    dS P ⟨some d,.binOp .neq t x (.const .nilIface) u,ty,ps,af,g⟩ (b9 A D l).eval w (.bool true):=by
  obtain⟨X,hT⟩:=DK hT
  have C:(b9 A D l).eval (.const .nilIface) = .nilIface:=rfl
  have E:(eqGuard .neq t x (.const .nilIface) (.iface s v) .nilIface).run P w = .ok () w:=by unfold eqGuard;simp
  have B:(binOp .neq t (.iface s v) .nilIface).run P w = .ok (.bool true) w:=by
    simp only[binOp,Op.equal,Op.maxDepth,Sem.run_bind,afb w 9999 hT,Result.andThen_ok,Sem.run_pure,Bool.not_false]
  simp[dS,execOp,cF hx,C,E,B]
theorem agi {x:Operand} {t u:TypeId} (hx:ev n l x=some .nilIface) (hT:OM P t=true) :
    dS P ⟨some d,.binOp .neq t x (.const .nilIface) u,ty,ps,af,g⟩ (b9 A D l).eval w (.bool false):=by
  obtain⟨X,hT⟩:=DK hT
  have C:(b9 A D l).eval (.const .nilIface) = .nilIface:=rfl
  have E:(eqGuard .neq t x (.const .nilIface) .nilIface .nilIface).run P w = .ok () w:=by unfold eqGuard;simp
  have B:(binOp .neq t .nilIface .nilIface).run P w = .ok (.bool false) w:=by
    simp only[binOp,Op.equal,Op.maxDepth,Sem.run_bind,afa w 9999 hT,Result.andThen_ok,Sem.run_pure,Bool.not_true]
  simp[dS,execOp,cF hx,C,E,B]
end
section
variable {P:Program} {ops:Array Oper} {QS:Exit→Act→List Go.Frame→World→Prop} {cs:List Go.Frame} {rest:List Nat}
variable {n:Nat} {A:Fr n} {D:List Deferred} {l:List (Nat × Value)} {w:World}
theorem aeb {i d:Nat} {o:Oper} (v:Value) (ho:ops[i]? = some o) (hg:o.guard=none) (hd:o.dst=some d) (hr:dS P o (b9 A D l).eval w v) (k:wpOpsS P ops QS rest (b9 A D ((d,v) :: l)) cs w) :
    wpOpsS P ops QS (i :: rest) (b9 A D l) cs w:=by
  have B:Region.wanted o (yielded ops (b9 A D l).tmps)=true:=by simp[Region.wanted,hg]
  unfold dS at hr
  simp only[wpOpsS,ho,B,if_true,hr,Oper.upon,hd]
  exact k
theorem aiI {i d:Nat} {o:Oper} {ts:Array TypeId} (ho:ops[i]? = some o) (hg:o.guard=none) (hd:o.dst=some d) (hop:o.op = .call {callee:=.builtin .recover,args:=#[],argTypes:=ts}) {v:Value} {older:List PanicEntry} {c:Go.Frame} {cs':List Go.Frame} (hcs:cs=c :: cs')
    (hm:c.mode = .panicking ({v,recovered:=false} :: older)) (k:wpOpsS P ops QS rest (b9 A D ((d,v) :: l)) ({c with mode:=.panicking ({v,recovered:=true} :: older)} :: cs') w) :
    wpOpsS P ops QS (i :: rest) (b9 A D l) cs w:=by
  have E:Region.wanted o (yielded ops (b9 A D l).tmps)=true:=by simp[Region.wanted,hg]
  have C:(execOp (b9 A D l).eval o).run P w = .ok .recover w:=by
    simp[execOp,hop,resolve,invoke,builtin]
  subst hcs
  have B:recoverD (c :: cs')=some (v,{c with mode:=.panicking ({v,recovered:=true} :: older)} :: cs'):=by simp[recoverD,hm]
  simp only[wpOpsS,ho,E,if_true,C,B,hd]
  exact k
theorem agz {i d:Nat} {o:Oper} {ts:Array TypeId} (ho:ops[i]? = some o) (hg:o.guard=none) (hd:o.dst=some d) (hop:o.op = .call {callee:=.builtin .recover,args:=#[],argTypes:=ts}) {c:Go.Frame} {cs':List Go.Frame} (hcs:cs=c :: cs')
    (hm:c.mode = .returning) (k:wpOpsS P ops QS rest (b9 A D ((d,.nilIface) :: l)) cs w) :
    wpOpsS P ops QS (i :: rest) (b9 A D l) cs w:=by
  have E:Region.wanted o (yielded ops (b9 A D l).tmps)=true:=by simp[Region.wanted,hg]
  have C:(execOp (b9 A D l).eval o).run P w = .ok .recover w:=by
    simp[execOp,hop,resolve,invoke,builtin]
  subst hcs
  have B:recoverD (c :: cs')=none:=by simp[recoverD,hm]
  simp only[wpOpsS,ho,E,if_true,C,B,hd]
  exact k
theorem aea (k:QS .normal (b9 A D l) cs w):wpOpsS P ops QS [] (b9 A D l) cs w:=k
end
section
variable {P:Program} {n:Nat} {A:Fr n} {l:List (Nat × Value)} {w:World}
theorem ak2 {fn:Func} {c₀:Go.Frame} {cs:List Go.Frame} {R:Ending→FrameMode→World→Prop} {u':FrameMode} {e:Exit} (he:tu e) (hr:fn.results = #[]) (hR:R (.returned (.tuple #[])) u' w) :
    bodyPostS P fn c₀ cs R e (b9 A [] l) ({c₀ with mode:=u'} :: cs) w:=by
  have h:=qO (P:=P) (w:=w) (A:=A) (D:=[]) (l:=l) (fn:=fn) (rs:=[]) (vs:=[]) hr trivial
  cases e with
  | normal=>exact⟨gU,u',q,_,h,hR⟩
  | ret=>exact⟨gU,u',q,_,h,hR⟩
  | _=>exact he.elim
theorem ak3 {fn:Func} {c₀:Go.Frame} {cs:List Go.Frame} {R:Ending→FrameMode→World→Prop} {u:FrameMode} {e:Exit} (hc:c₀.mode=u) (he:tu e) (hr:fn.results = #[]) (hR:R (.returned (.tuple #[])) u w) :
    bodyPostS P fn c₀ cs R e (b9 A [] l) (c₀ :: cs) w:=by
  have h:({c₀ with mode:=u}:Go.Frame)=c₀:=by subst hc;rfl
  have:=ak2 (P:=P) (A:=A) (l:=l) (c₀:=c₀) (cs:=cs) (u':=u) he hr hR
  rwa [h]at this
theorem leave1 {fn:Func} {R:Ending→World→Prop} {t ty:Nat} {d:Deferred} {u:FrameMode} {f:FuncId} {cs:List Value} (hu:u≠.run) (hd:d=⟨.fn (.func f) cs.toArray,#[]⟩) (hf:ea P f=true) (hr:fn.results = #[.cell t ty]) {p:Addr} (ht:ev n l (.tmp t)=some (.pointer (some p)))
    (h:CallsD P f cs.toArray u w fun e u' w'=>e = .returned (.tuple #[])∧settle u' = .returning∧∃v,(loadVar ty p).run P w' = .ok v w'∧R (.returned v) w') :
    Leaves P fn (b9 A [d] l).tmps R [d] u w:=by
  subst hd
  refine leaves_cons hu (f:=f) (args:=cs.toArray) (by simp[invoke,pG hf]) (h.mono ?_)
  rintro e u' w' ⟨rfl,C,v,D,B⟩
  show Leaves P fn _ R [] (settle u') w'
  rw[C]
  exact⟨v,qO (A:=A) (rs:=[.cell t ty]) (vs:=[v]) hr ⟨⟨p,ht,D⟩,tV⟩,B⟩
end
section
variable {P:Program} {n:Nat} {A:Fr n} {D:List Deferred} {l:List (Nat × Value)} {w:World} {d:Option Tmp} {ty:TypeId} {ps:String} {af:Array Edge} {g:Option (Nat × Bool)}
theorem aac {x:Operand} {t a:TypeId} {v:Value} (hT:EI P a=true) (hx:ev n l x=some (.iface a v)) :
    dS P ⟨d,.typeAssert x t a true,ty,ps,af,g⟩ (b9 A D l).eval w (.tuple #[v,.bool true]):=by
  obtain⟨X,hT,B⟩:=zF hT
  cases X <;> simp_all [dS,execOp,cF hx,Instr.typeAssert,run_underlying hT]
end
end Go.Wk
namespace Go.Proofs.YtmobbnpkkmeoiaaGreat
open Go Go.Wk Go.RowKit
set_option linter.unusedVariables false
set_option linter.unusedSimpArgs false
attribute [local irreducible] wpList wpQuiet wpStill iq Code.wp Calls bodyPost
variable {w:World} {Q:Nat→Prop}
noncomputable abbrev Zp:=Tryz.prog
theorem nS:iO Zp 5 1=true:=Ym
theorem tL:jF Zp 5=true:=Ym
theorem gX:Zp.underlying 24=some (.slice 5):=Ym
theorem lZ:Zp.underlying 26=some (.int .u64):=Ym
theorem u5:Zp.underlying 5=some (.int .u8):=Ym
theorem SD (uQ:Up w Q) (n:Int) (a0:(-9223372036854775808≤n∧n<9223372036854775808)) :
  Calls Zp 56 #[(.int .i64 (n:Int))] w fun en w'=>∃r0:Bool,en = .returned (.bool r0)∧Md [] w w'∧p5 n=r0:=by
 have M:=Md.refl [] w;have H:=uQ;refine enter (n:=17) Tryz.func56 q q q fun B=>ns (an q (nm q (st _ (nj (a:=n) (b:=1) q q) (mv q ?_))));refine dQ (t:=5) q (fun C=>?_) (fun C=>?_)
 ·(have F:=dT C);refine sk C (sk C (st _ (bF q C q) (mv q (sk q (sk q (st _ (bF q q q) (mv q (sk q (sk q (st _ (bF q q q) (ar q ?_)))))))))));exact d9 (v:=(.bool true)) trivial q ⟨q,tV⟩ ⟨true,q,M,(by simp only[p5];exact decide_eq_true Oh)⟩
 (have F:=dF C);refine sg C (bf q) (sg C (nj (a:=n) (b:=2) q q) (st _ (aY q C q) (mv q ?_)));refine dQ (t:=9) q (fun D=>?_) (fun D=>?_)
 ·(have G:=dT D);refine sk D (sk D (st _ (bF q D q) (mv q (sk q (sk q (st _ (bF q q q) (ar q ?_)))))));exact d9 (v:=(.bool true)) trivial q ⟨q,tV⟩ ⟨true,q,M,(by simp only[p5];exact decide_eq_true Oh)⟩
 (have G:=dF D);refine sg D (bf q) (sg D (nj (a:=n) (b:=4) q q) (st _ (aY q D q) (mv q ?_)));refine dQ (t:=13) q (fun A=>?_) (fun A=>?_)
 ·(have E:=dT A);refine sk A (sk A (st _ (bF q A q) (ar q ?_)));exact d9 (v:=(.bool true)) trivial q ⟨q,tV⟩ ⟨true,q,M,(by simp only[p5];exact decide_eq_true Oh)⟩
 (have E:=dF A);refine sg A (bf q) (sg A (nj (a:=n) (b:=8) q q) (st _ (aY q A q) (ar q ?_)));exact d9 (v:=(.bool ((decide (n=8))))) trivial q ⟨q,tV⟩ ⟨(decide (n=8)),q,M,(by simp only[p5];exact(decide_eq_decide.2 Oh))⟩
theorem TA (uQ:Up w Q) {v0:Value} {l:Ly} (h0:Ls fF w Q v0 l) (a:Int) (a1:(-9223372036854775808≤a∧a<9223372036854775808)) (n:Int) (a2:(-9223372036854775808≤n∧n<9223372036854775808)) :
  Calls Zp 112 #[v0,(.int .i64 (a:Int)),(.int .i64 (n:Int))] w fun en w'=>∃r0:Nat,∃r1:Bool,en = .returned (.tuple #[(.int .u64 r0),(.bool r1)])∧Md [] w w'∧r0<18446744073709551616∧mE l a n=(r0,r1):=by
 have u:=h0.gd;have M:=Md.refl [] w;have p:=uQ;have Z:∀b,Q b→Q b:=fun _ h=>h;have P:∀b,Q b→b<w.heap.size→Q b:=fun _ h _=>h;refine enter (n:=59) Tryz.func112 q q q fun B=>ns (dP q (an q (aP (aP ?_))));refine RI (fun b=>[(41,.bool b),(0,v0),(1,(.int .i64 (a:Int))),(2,(.int .i64 (n:Int))),(6,(.int .u64 ((0:Nat):Int))),(7,(.bool false))]) (fun b w'=>w=w'∧(b=true↔¬(p5 n=true∧0≤a∧a+n≤l.length))) ?_ ?_
 ·refine mv q (st _ (aad (a:=n) (b:=1) q q) (mv q ?_));refine dQ (t:=12) q (fun H=>?_) (fun H=>?_)
  ·(have T:=dT H);refine sg H (bf q) (sg H (aad (a:=n) (b:=2) q q) (st _ (bF q H q) (mv q ?_)));refine dQ (t:=16) q (fun I=>?_) (fun I=>?_)
   ·(have U:=dT I);refine sg I (bf q) (sg I (aad (a:=n) (b:=4) q q) (st _ (bF q I q) (mv q ?_)));refine dQ (t:=20) q (fun J=>?_) (fun J=>?_)
    ·(have V:=dT J);refine sg J (bf q) (sg J (aad (a:=n) (b:=8) q q) (st _ (bF q J q) (mv q ?_)));refine dQ (t:=24) q (fun K=>?_) (fun K=>?_)
     ·(have W:=dT K);refine sk K (sk K (st _ (bF q K q) (mv q (sk q (sk q (sk q (sk q (st _ (bF q q q) (mv q (sk q (sk q (sk q (sk q ?_)))))))))))));refine sk q (sk q (st _ (bF q q q) (aI ?_)));refine⟨q,jn true ?_ ?_⟩
      ·exact⟨q,q,q,q,q,q,tV⟩
      ·exact⟨q,by rw[gG];simp;omega⟩
     ·(have W:=dF K);refine sg K (bf q) (sg K (sd (a:=a) (b:=0) q q) (st _ (aY q K q) (mv q ?_)));refine dQ (t:=28) q (fun C=>?_) (fun C=>?_)
      ·(have E:=dT C);refine sk C (sk C (sk C (sk C (st _ (bF q C q) (mv q (sk q (sk q (sk q (sk q (sk q (sk q (st _ (bF q q q) (aI ?_)))))))))))));refine⟨q,jn true ?_ ?_⟩
       ·exact⟨q,q,q,q,q,q,tV⟩
       ·exact⟨q,by rw[gG];simp;omega⟩
      ·(have E:=dF C);refine sg C (bf q) (sg C (bf q) (sg C (jK q gX h0.eJ) (sg C (wN (a:=a) (b:=((l.length:Nat):Int)) q q) (st _ (aY q C q) (mv q ?_)))));refine dQ (t:=34) q (fun A=>?_) (fun A=>?_)
       ·(have F:=dT A);refine sk A (sk A (sk A (sk A (sk A (sk A (st _ (bF q A q) (aI ?_)))))));refine⟨q,jn true ?_ ?_⟩
        ·exact⟨q,q,q,q,q,q,tV⟩
        ·exact⟨q,by rw[gG];simp;omega⟩
       ·(have F:=dF A);refine sg A (bf q) (sg A (jK q gX h0.eJ) (sg A (bf q) (sg A (lV (a:=((l.length:Nat):Int)) (b:=a) q q Oh) (sg A (bf q) (sg A (sd (a:=((l.length:Nat):Int)-a) (b:=n) q q) (st _ (aY q A q) ?_))))));refine dQ (t:=41) q (fun D=>?_) (fun D=>?_)
        ·(have G:=dT D);refine aI ?_;refine⟨q,jn true ?_ ?_⟩
         ·exact⟨zP q D,q,q,q,q,q,tV⟩
         ·exact⟨q,by rw[gG];simp;omega⟩
        ·(have G:=dF D);refine aI ?_;refine⟨q,jn false ?_ ?_⟩
         ·exact⟨zP q D,q,q,q,q,q,tV⟩
         ·exact⟨q,by rw[gG];simp;omega⟩
    ·(have V:=dF J);refine sk J (sk J (st _ (aY q J q) (mv q (sg q (bf q) (sg q (sd (a:=a) (b:=0) q q) (st _ (aY q q q) (mv q ?_)))))));refine dQ (t:=28) q (fun C=>?_) (fun C=>?_)
     ·(have E:=dT C);refine sk C (sk C (sk C (sk C (st _ (bF q C q) (mv q (sk q (sk q (sk q (sk q (sk q (sk q (st _ (bF q q q) (aI ?_)))))))))))));refine⟨q,jn true ?_ ?_⟩
      ·exact⟨q,q,q,q,q,q,tV⟩
      ·exact⟨q,by rw[gG];simp;omega⟩
     ·(have E:=dF C);refine sg C (bf q) (sg C (bf q) (sg C (jK q gX h0.eJ) (sg C (wN (a:=a) (b:=((l.length:Nat):Int)) q q) (st _ (aY q C q) (mv q ?_)))));refine dQ (t:=34) q (fun A=>?_) (fun A=>?_)
      ·(have F:=dT A);refine sk A (sk A (sk A (sk A (sk A (sk A (st _ (bF q A q) (aI ?_)))))));refine⟨q,jn true ?_ ?_⟩
       ·exact⟨q,q,q,q,q,q,tV⟩
       ·exact⟨q,by rw[gG];simp;omega⟩
      ·(have F:=dF A);refine sg A (bf q) (sg A (jK q gX h0.eJ) (sg A (bf q) (sg A (lV (a:=((l.length:Nat):Int)) (b:=a) q q Oh) (sg A (bf q) (sg A (sd (a:=((l.length:Nat):Int)-a) (b:=n) q q) (st _ (aY q A q) ?_))))));refine dQ (t:=41) q (fun D=>?_) (fun D=>?_)
       ·(have G:=dT D);refine aI ?_;refine⟨q,jn true ?_ ?_⟩
        ·exact⟨zP q D,q,q,q,q,q,tV⟩
        ·exact⟨q,by rw[gG];simp;omega⟩
       ·(have G:=dF D);refine aI ?_;refine⟨q,jn false ?_ ?_⟩
        ·exact⟨zP q D,q,q,q,q,q,tV⟩
        ·exact⟨q,by rw[gG];simp;omega⟩
   ·(have U:=dF I);refine sk I (sk I (st _ (aY q I q) (mv q (sk q (sk q (st _ (aY q q q) (mv q (sg q (bf q) (sg q (sd (a:=a) (b:=0) q q) (st _ (aY q q q) (mv q ?_)))))))))));refine dQ (t:=28) q (fun C=>?_) (fun C=>?_)
    ·(have E:=dT C);refine sk C (sk C (sk C (sk C (st _ (bF q C q) (mv q (sk q (sk q (sk q (sk q (sk q (sk q (st _ (bF q q q) (aI ?_)))))))))))));refine⟨q,jn true ?_ ?_⟩
     ·exact⟨q,q,q,q,q,q,tV⟩
     ·exact⟨q,by rw[gG];simp;omega⟩
    ·(have E:=dF C);refine sg C (bf q) (sg C (bf q) (sg C (jK q gX h0.eJ) (sg C (wN (a:=a) (b:=((l.length:Nat):Int)) q q) (st _ (aY q C q) (mv q ?_)))));refine dQ (t:=34) q (fun A=>?_) (fun A=>?_)
     ·(have F:=dT A);refine sk A (sk A (sk A (sk A (sk A (sk A (st _ (bF q A q) (aI ?_)))))));refine⟨q,jn true ?_ ?_⟩
      ·exact⟨q,q,q,q,q,q,tV⟩
      ·exact⟨q,by rw[gG];simp;omega⟩
     ·(have F:=dF A);refine sg A (bf q) (sg A (jK q gX h0.eJ) (sg A (bf q) (sg A (lV (a:=((l.length:Nat):Int)) (b:=a) q q Oh) (sg A (bf q) (sg A (sd (a:=((l.length:Nat):Int)-a) (b:=n) q q) (st _ (aY q A q) ?_))))));refine dQ (t:=41) q (fun D=>?_) (fun D=>?_)
      ·(have G:=dT D);refine aI ?_;refine⟨q,jn true ?_ ?_⟩
       ·exact⟨zP q D,q,q,q,q,q,tV⟩
       ·exact⟨q,by rw[gG];simp;omega⟩
      ·(have G:=dF D);refine aI ?_;refine⟨q,jn false ?_ ?_⟩
       ·exact⟨zP q D,q,q,q,q,q,tV⟩
       ·exact⟨q,by rw[gG];simp;omega⟩
  ·(have T:=dF H);refine sk H (sk H (st _ (aY q H q) (mv q (sk q (sk q (st _ (aY q q q) (mv q (sk q (sk q (st _ (aY q q q) (mv q (sg q (bf q) (sg q (sd (a:=a) (b:=0) q q) ?_)))))))))))));refine st _ (aY q q q) (mv q ?_);refine dQ (t:=28) q (fun C=>?_) (fun C=>?_)
   ·(have E:=dT C);refine sk C (sk C (sk C (sk C (st _ (bF q C q) (mv q (sk q (sk q (sk q (sk q (sk q (sk q (st _ (bF q q q) (aI ?_)))))))))))));refine⟨q,jn true ?_ ?_⟩
    ·exact⟨q,q,q,q,q,q,tV⟩
    ·exact⟨q,by rw[gG];simp;omega⟩
   ·(have E:=dF C);refine sg C (bf q) (sg C (bf q) (sg C (jK q gX h0.eJ) (sg C (wN (a:=a) (b:=((l.length:Nat):Int)) q q) (st _ (aY q C q) (mv q ?_)))));refine dQ (t:=34) q (fun A=>?_) (fun A=>?_)
    ·(have F:=dT A);refine sk A (sk A (sk A (sk A (sk A (sk A (st _ (bF q A q) (aI ?_)))))));refine⟨q,jn true ?_ ?_⟩
     ·exact⟨q,q,q,q,q,q,tV⟩
     ·exact⟨q,by rw[gG];simp;omega⟩
    ·(have F:=dF A);refine sg A (bf q) (sg A (jK q gX h0.eJ) (sg A (bf q) (sg A (lV (a:=((l.length:Nat):Int)) (b:=a) q q Oh) (sg A (bf q) (sg A (sd (a:=((l.length:Nat):Int)-a) (b:=n) q q) (st _ (aY q A q) ?_))))));refine dQ (t:=41) q (fun D=>?_) (fun D=>?_)
     ·(have G:=dT D);refine aI ?_;refine⟨q,jn true ?_ ?_⟩
      ·exact⟨zP q D,q,q,q,q,q,tV⟩
      ·exact⟨q,by rw[gG];simp;omega⟩
     ·(have G:=dF D);refine aI ?_;refine⟨q,jn false ?_ ?_⟩
      ·exact⟨zP q D,q,q,q,q,q,tV⟩
      ·exact⟨q,by rw[gG];simp;omega⟩
 ·rintro c B _ ⟨rfl,L⟩
  refine wB c (fun D=>?_) (fun D=>?_)
  ·replace L:=L.1 D;refine au (iF q D (ns (dP q (ar q (aS ?_)))));exact eB (vs:=[(.int .u64 ((0:Nat):Int)),(.bool false)]) trivial q ⟨q,q,tV⟩ q ⟨0,false,q,M,Oh,(AH Oh)⟩
  ·replace L:=mt L.2 (by rw[D];simp);refine au (kC q D (bh (au (aP ?_))));replace L:=Classical.not_not.1 L;have y:=za L.1;refine aQ (an q (aP (nm q (st _ (lV (a:=n) (b:=1) q q Oh) (dP q (nt (bG ?_)))))))
   refine u7 (fun(v:Nat) (i:Int)=>[(8,(.int .u64 v)),(9,(.int .i64 (i:Int))),(0,v0),(1,(.int .i64 (a:Int))),(6,(.int .u64 ((0:Nat):Int))),(7,(.bool false))]) (fun(v:Nat) (i:Int) w'=>∃Q':Nat→Prop,(∀b,Q' b→Q b)∧(∀b,Q b→b<w.heap.size→Q' b)∧Up w' Q'∧Md [] w w'∧Ls fF w' Q' v0 l∧(-1≤i∧i<n)∧v=vM ((l.drop (a+(i+1)).toNat).take (n-1-i).toNat)∧v<18446744073709551616) (fun(v:Nat) (i:Int)=>(i+1).toNat) (x0:=0) (x1:=(n-1)) ?_ ?_ ?_
   ·exact⟨q,q,q,q,q,q,tV⟩
   ·exact⟨Q,Z,P,uQ,M,h0,Oh,(by simp[show n-1-(n-1)=0 by omega,vM]),Oh⟩
   ·clear M uQ Z P h0
    rintro v i B z ⟨g,Z,P,uQ,M,h0,e,N,f⟩;refine aP (nm q (st _ (rY (a:=i) (b:=0) q q) (nt ?_)));refine cu q (fun R=>?_) (fun R=>?_)
    ·(have X:=dT R);have j:=vt (l:=(l.drop (a+(i+1)).toNat).take (n-1-i).toNat) (k:=7) Vw;rw[← N]at j;refine bh (au (aP (bG (aQ (mv q (st _ (nK (a:=v) (b:=256) 18446744073709551616 q q q Oh) (m2 q q (mv q (st _ (gh (a:=a) (b:=i) q q Oh) (st _ (rZ (i:=a+i) 1 q q gX nS h0.eJ Oh) ?_))))))))));obtain⟨S,Y⟩:=fK (l:=l) (i:=(a+i).toNat) Oh;obtain⟨x,d,O⟩:=h0.get Y;obtain⟨rfl,_⟩:=d;have r:=UInt8.toNat_lt S;replace O:At _ v0 (((a+i).toNat)*1) [(b8 S)]:=O;refine st _ ((dR (kk:=((a+i).toNat)*1) 0 q q tL O q).to (b:=(b8 S)) q) (st _ (ew (a:=S.toNat) 18446744073709551616 q (by rw[u5];rfl) lZ q (lj (UInt8.toNat_lt _) Om)) (st _ (gW (a:=(v*256)) (b:=S.toNat) 18446744073709551616 q q q Oh) (dP q (aI ?_))));clear O;refine bX (au (aQ (mv q (st _ (lV (a:=i) (b:=1) q q Oh) (an q ?_)))));refine rK (x0:=((v*256)+S.toNat)) (x1:=(i-1)) Oh ⟨(fu q (by rfl)),(fu q Oh),q,q,q,q,tV⟩ ⟨g,Z,P,uQ,M,h0,Oh,(by rw[N];have o:=Pm (k:=(n-1-i).toNat) Y;rw[show(n-1-(i-1)).toNat=(n-1-i).toNat+1 by omega,show(a+(i-1+1)).toNat=(a+i).toNat by omega,o,show(a+i).toNat+1=(a+(i+1)).toNat by omega];omega),Oh⟩
    ·(have X:=dF R);refine dY (bU (bU (eT (au (nm q (dP q (ar q ?_)))))));exact eB (vs:=[(.int .u64 v),(.bool true)]) trivial q ⟨q,q,tV⟩ q ⟨v,true,q,M,Vx,(by rw[mE,if_pos Oh,N,show i = -1 by omega];simp)⟩
theorem ajK:ea Zp 56=true:=Ym
theorem pJ (uQ:Up w Q) {v0:Value} {l:Ly} (h0:Ls fF w Q v0 l) (a:Int) (a1:(-9223372036854775808≤a∧a<9223372036854775808)) (n:Int) (a2:(-9223372036854775808≤n∧n<9223372036854775808)) :
  Calls Zp 26 #[v0,(.int .i64 (a:Int)),(.int .i64 (n:Int))] w fun en w'=>∃r0:Nat,∃r1:Bool,en = .returned (.tuple #[(.int .u64 r0),(.bool r1)])∧Md [] w w'∧r0<18446744073709551616∧mE l a n=(r0,r1):=by
 have p:=h0.gd;have M:=Md.refl [] w;have j:=uQ;have P:∀b,Q b→Q b:=fun _ h=>h;have F:∀b,Q b→b<w.heap.size→Q b:=fun _ h _=>h;refine enter (n:=42) Tryz.func26 q q q fun B=>ns (dP q (an q (aP (nm q (ax ajK q (SD uQ (n) Oh) ?_)))));rintro en u ⟨Z,rfl,R,d⟩;refine rv ?_;obtain⟨h0,uQ,M⟩:=k3 R h0 uQ M;refine st _ (jw q) (mv q ?_);refine dQ (t:=13) q (fun C=>?_) (fun C=>?_)
 ·(have J:=AB C);refine sk C (sk C (st _ (bF q C q) (mv q (sk q (sk q (sk q (sk q (sk q (sk q (st _ (bF q q q) (nt (iF q q (ns ?_)))))))))))));refine dP q (ar q (aS ?_));exact eB (vs:=[(.int .u64 ((0:Nat):Int)),(.bool false)]) trivial q ⟨q,q,tV⟩ q ⟨0,false,q,M,Oh,(AH (by rintro⟨U,V,W⟩;simp_all))⟩
 ·(have J:=AA C);refine sg C (bf q) (sg C (sd (a:=a) (b:=0) q q) (st _ (aY q C q) (mv q ?_)));refine dQ (t:=17) q (fun A=>?_) (fun A=>?_)
  ·(have K:=dT A);refine sk A (sk A (sk A (sk A (sk A (sk A (st _ (bF q A q) (nt (iF q q (ns (dP q (ar q ?_)))))))))));refine aS ?_;exact eB (vs:=[(.int .u64 ((0:Nat):Int)),(.bool false)]) trivial q ⟨q,q,tV⟩ q ⟨0,false,q,M,Oh,(AH (by rintro⟨U,V,W⟩;omega))⟩
  ·(have K:=dF A);have e:=za (n:=n) (by simp_all);refine sg A (bf q) (sg A (bf q) (sg A (jK q gX h0.eJ) (sg A (bf q) (sg A (lV (a:=((l.length:Nat):Int)) (b:=n) q q Oh) (sg A (wN (a:=a) (b:=((l.length:Nat):Int)-n) q q) (st _ (aY q A q) (nt ?_)))))));refine cu q (fun G=>?_) (fun G=>?_)
   ·(have L:=dT G);refine ns (dP q (ar q (aS ?_)));exact eB (vs:=[(.int .u64 ((0:Nat):Int)),(.bool false)]) trivial q ⟨q,q,tV⟩ q ⟨0,false,q,M,Oh,(AH (by rintro⟨U,V,W⟩;omega))⟩
   ·(have L:=dF G);refine bh (au (aP ?_));have T:p5 n=true∧0≤a∧a+n≤l.length:=⟨by simp_all,by omega,by omega⟩;have e:=za T.1;refine aQ (an q (aP (nm q (st _ (lV (a:=n) (b:=1) q q Oh) (dP q (nt (bG ?_)))))))
    refine u7 (fun(v:Nat) (i:Int)=>[(8,(.int .u64 v)),(9,(.int .i64 (i:Int))),(0,v0),(1,(.int .i64 (a:Int))),(6,(.int .u64 ((0:Nat):Int))),(7,(.bool false))]) (fun(v:Nat) (i:Int) w'=>∃Q':Nat→Prop,(∀b,Q' b→Q b)∧(∀b,Q b→b<w.heap.size→Q' b)∧Up w' Q'∧Md [] w w'∧Ls fF w' Q' v0 l∧(-1≤i∧i<n)∧v=vM ((l.drop (a+(i+1)).toNat).take (n-1-i).toNat)∧v<18446744073709551616) (fun(v:Nat) (i:Int)=>(i+1).toNat) (x0:=0) (x1:=(n-1)) ?_ ?_ ?_
    ·exact⟨q,q,q,q,q,q,tV⟩
    ·exact⟨Q,P,F,uQ,M,h0,Oh,(by simp[show n-1-(n-1)=0 by omega,vM]),Oh⟩
    ·clear M uQ P F h0
     rintro v i B x ⟨c,P,F,uQ,M,h0,X,D,Y⟩;refine aP (nm q (st _ (rY (a:=i) (b:=0) q q) (nt ?_)));refine cu q (fun H=>?_) (fun H=>?_)
     ·(have N:=dT H);have f:=vt (l:=(l.drop (a+(i+1)).toNat).take (n-1-i).toNat) (k:=7) Vw;rw[← D]at f;refine bh (au (aP (bG (aQ (mv q (st _ (aiA (a:=v) (b:=8) 18446744073709551616 q q 64 q q q Oh) (m2 q q (mv q (st _ (gh (a:=a) (b:=i) q q Oh) (st _ (rZ (i:=a+i) 1 q q gX nS h0.eJ Oh) ?_))))))))));obtain⟨I,O⟩:=fK (l:=l) (i:=(a+i).toNat) Oh;obtain⟨r,S,E⟩:=h0.get O;obtain⟨rfl,_⟩:=S;have o:=UInt8.toNat_lt I;replace E:At _ v0 (((a+i).toNat)*1) [(b8 I)]:=E;refine st _ ((dR (kk:=((a+i).toNat)*1) 0 q q tL E q).to (b:=(b8 I)) q) (st _ (ew (a:=I.toNat) 18446744073709551616 q (by rw[u5];rfl) lZ q (lj (UInt8.toNat_lt _) Om)) (st _ (aky (a:=(v*2 ^ 8%18446744073709551616)) (b:=I.toNat) 18446744073709551616 q q q q Oh) (dP q (aI ?_))));clear E;refine bX (au (aQ (mv q (st _ (lV (a:=i) (b:=1) q q Oh) (an q ?_)))));refine rK (x0:=((v*2 ^ 8%18446744073709551616) ||| I.toNat)) (x1:=(i-1)) Oh ⟨(fu q (by rfl)),(fu q Oh),q,q,q,q,tV⟩ ⟨c,P,F,uQ,M,h0,Oh,(by rw[adV Oh,D];have g:=Pm (k:=(n-1-i).toNat) O;rw[show(n-1-(i-1)).toNat=(n-1-i).toNat+1 by omega,show(a+(i-1+1)).toNat=(a+i).toNat by omega,g,show(a+i).toNat+1=(a+(i+1)).toNat by omega]),(by rw[adV Oh];have:=UInt8.toNat_lt I;omega)⟩
     ·(have N:=dF H);refine dY (bU (bU (eT (au (nm q (dP q (ar q ?_)))))));exact eB (vs:=[(.int .u64 v),(.bool true)]) trivial q ⟨q,q,tV⟩ q ⟨v,true,q,M,Vx,(by rw[mE,if_pos Oh,D,show i = -1 by omega];simp)⟩
theorem iK:gZ Zp 36 91=true:=Ym
theorem ajg:iO Zp 126 1=true:=Ym
theorem ajh:iO Zp 129 1=true:=Ym
theorem ahH:xW Zp 126 1 8=true:=Ym
theorem ahI:xW Zp 129 1 8=true:=Ym
theorem yw:ea Zp 26=true:=Ym
theorem aff:ea Zp 53=true:=Ym
theorem ali:ea Zp 54=true:=Ym
theorem alj:ea Zp 55=true:=Ym
theorem eD:Zp.follows .mixedOrders=true:=Ym
theorem afD:bg Zp 36 0=some 0:=Ym
theorem LR:bg Zp 36 1=some 1:=Ym
theorem ES:bg Zp 36 10=some 70:=Ym
theorem ET:bg Zp 36 11=some 71:=Ym
theorem EU:bg Zp 36 12=some 72:=Ym
theorem EV:bg Zp 36 13=some 73:=Ym
theorem EW:bg Zp 36 14=some 74:=Ym
theorem EX:bg Zp 36 15=some 75:=Ym
theorem Qj:bg Zp 36 16=some 76:=Ym
theorem Qk:bg Zp 36 17=some 77:=Ym
theorem adp:bg Zp 36 18=some 78:=Ym
theorem adq:bg Zp 36 19=some 79:=Ym
theorem afE:bg Zp 36 2=some 2:=Ym
theorem adr:bg Zp 36 20=some 80:=Ym
theorem ads:bg Zp 36 21=some 81:=Ym
theorem EY:bg Zp 36 22=some 82:=Ym
theorem EZ:bg Zp 36 23=some 83:=Ym
theorem FA:bg Zp 36 24=some 84:=Ym
theorem FB:bg Zp 36 25=some 85:=Ym
theorem adt:bg Zp 36 26=some 86:=Ym
theorem adu:bg Zp 36 27=some 87:=Ym
theorem adv:bg Zp 36 28=some 88:=Ym
theorem adw:bg Zp 36 29=some 89:=Ym
theorem WE:bg Zp 36 3=some 3:=Ym
theorem adx:bg Zp 36 30=some 90:=Ym
theorem afF:bg Zp 36 4=some 19:=Ym
theorem afG:bg Zp 36 5=some 35:=Ym
theorem afH:bg Zp 36 6=some 51:=Ym
theorem pD:bg Zp 36 7=some 67:=Ym
theorem LU:bg Zp 36 8=some 68:=Ym
theorem LV:bg Zp 36 9=some 69:=Ym
theorem aiy:jF Zp 126=true:=Ym
theorem aiz:jF Zp 129=true:=Ym
theorem gD:jF Zp 24=true:=Ym
theorem bA:jF Zp 26=true:=Ym
theorem jj:jF Zp 32=true:=Ym
theorem zS:gY Zp 36=some [(0,1),(1,1),(2,1),(3,16),(19,16),(35,16),(51,16),(67,1),(68,1),(69,1),(70,1),(71,1),(72,1),(73,1),(74,1),(75,1),(76,1),(77,1),(78,1),(79,1),(80,1),(81,1),(82,1),(83,1),(84,1),(85,1),(86,1),(87,1),(88,1),(89,1),(90,1)]:=Ym
theorem aiS:Zp.underlying 124=some (.slice 126):=Ym
theorem aiT:Zp.underlying 127=some (.slice 129):=Ym
theorem u3:Zp.underlying 3=some (.int .i64):=Ym
theorem iJ:Zp.underlying 32=some (.int .u32):=Ym
theorem u34:Zp.underlying 34=some (.array 16 5):=Ym
theorem z36:fP Zp 36=some ([.int .u32 0,.int .u32 0,.int .i64 0] ++ (List.replicate 64 (.int .u8 0) ++ (List.replicate 21 (.int .u64 0) ++ ([.int .u32 0,.int .u32 0,.int .u64 0])))):=Ym
theorem abU {w:World} {b:Nat}:Calls Zp 54 #[.pointer (some ⟨b,0,none⟩)] w fun en w'=>∃x,en = .returned (.slice (some ⟨x,0,none⟩) 4 4)∧w.heap.size≤x∧Md [] w w'∧cg w' x (ptrs b 3 16 4) 126:=by
 refine enter (n:=16) Tryz.func54 q q q fun B=>ns (an q (aP (dZ (ml 12) [12,13] (fun w'=>Md [] w w') eD Ym ?_)));intro I C;refine⟨C,?_⟩;refine mo q (mz (fun w' A=>dr q) (mz (fun w' A=>aM q WE) (mo q (mz (fun w' A=>dr q) (mz (fun w' A=>aM q afF) (mo q (mz (fun w' A=>dr q) (mz (fun w' A=>aM q afG) (mo q (mz (fun w' A=>dr q) (mz (fun w' A=>aM q afH) (ej (ri aiS ahH Om q q q (by simp[qW,Value.oneCell']) Om ?_)))))))))))));intro x G E H D F;refine ar q ?_;exact jq trivial q q ⟨x,q,ly C.size E,C.k D,(show cg G x (ptrs b 3 16 4) 126 from F)⟩
theorem YP {w:World} {b:Nat}:Calls Zp 55 #[.pointer (some ⟨b,0,none⟩)] w fun en w'=>∃x,en = .returned (.slice (some ⟨x,0,none⟩) 21 21)∧w.heap.size≤x∧Md [] w w'∧cg w' x (ptrs b 67 1 21) 129:=by
 refine enter (n:=67) Tryz.func55 q q q fun B=>ns (an q (aP (dZ (ml 63) [63,64] (fun w'=>Md [] w w') eD Ym ?_)));intro I C;refine⟨C,?_⟩;refine mo q (mz (fun w' A=>dr q) (mz (fun w' A=>aM q pD) (mo q (mz (fun w' A=>dr q) (mz (fun w' A=>aM q LU) (mo q (mz (fun w' A=>dr q) (mz (fun w' A=>aM q LV) (mo q (mz (fun w' A=>dr q) (mz (fun w' A=>aM q ES) (mo q (mz (fun w' A=>dr q) ?_)))))))))))));refine mz (fun w' A=>aM q ET) (mo q (mz (fun w' A=>dr q) (mz (fun w' A=>aM q EU) (mo q (mz (fun w' A=>dr q) (mz (fun w' A=>aM q EV) (mo q (mz (fun w' A=>dr q) (mz (fun w' A=>aM q EW) (mo q (mz (fun w' A=>dr q) (mz (fun w' A=>aM q EX) (mo q ?_)))))))))))));refine mz (fun w' A=>dr q) (mz (fun w' A=>aM q Qj) ?_)
 refine mo q (mz (fun w' A=>dr q) (mz (fun w' A=>aM q Qk) (mo q (mz (fun w' A=>dr q) (mz (fun w' A=>aM q adp) (mo q (mz (fun w' A=>dr q) (mz (fun w' A=>aM q adq) (mo q (mz (fun w' A=>dr q) (mz (fun w' A=>aM q adr) (mo q (mz (fun w' A=>dr q) ?_)))))))))))));refine mz (fun w' A=>aM q ads) (mo q (mz (fun w' A=>dr q) (mz (fun w' A=>aM q EY) (mo q (mz (fun w' A=>dr q) (mz (fun w' A=>aM q EZ) (mo q (mz (fun w' A=>dr q) (mz (fun w' A=>aM q FA) (mo q (mz (fun w' A=>dr q) (mz (fun w' A=>aM q FB) (mo q ?_)))))))))))));refine mz (fun w' A=>dr q) (mz (fun w' A=>aM q adt) (mo q (mz (fun w' A=>dr q) (mz (fun w' A=>aM q adu) (ej (ri aiT ahI Om q q q (by simp[qW,Value.oneCell']) Om ?_))))));intro x G E H D F;refine ar q ?_;exact jq trivial q q ⟨x,q,ly C.size E,C.k D,(show cg G x (ptrs b 67 1 21) 129 from F)⟩
theorem vp {w:World} {Q:Nat→Prop} {b1:Nat} {v0:Value} {l:Ly} (hB:cg w b1 [v0] 24) (h0:Ls fF w Q v0 l) (a:Nat) (ha:a+4≤l.length) :
  Calls Zp 53 #[.int .i64 (a:Int),.pointer (some ⟨b1,0,none⟩)] w fun en w'=>en = .returned (.int .u32 ((at4 l a:Nat):Int))∧Md [] w w':=by
 have L:=h0.gd;refine enter (n:=14) Tryz.func53 q q q fun B=>ns (an q (ns (st _ (aC q gD hB q) (mv q (ax yw q (pJ (Q:=fun _=>True) (fun _ _=>trivial) (h0.sub fun _ _ _=>trivial) (a:Int) Oh 4 Oh) ?_)))));rintro en H ⟨F,G,rfl,D,E,A⟩;refine rv ?_;have C:mE l a 4=(at4 l a,true):=AG (k:=4) (.inl q) ha;rw[C]at A;obtain⟨rfl,rfl⟩:=Prod.mk.inj A;refine mv q (se q q (se q q (dP q (an q (nm q (st _ (ew (a:=at4 l a) 4294967296 q (by rw[lZ];rfl) iJ q (BP _ _)) (ar q ?_)))))));exact jq trivial q q ⟨q,D⟩
set_option maxRecDepth 100000 in
theorem Se (uQ:Up w Q) {v0:Value} {b:Ly} (h00:Ls fF w Q v0 b) (p0:272≤b.length) :
  Calls Zp 23 #[v0] w fun en w'=>∃r0:bS,en = .returned (.agg (bS.cells r0).toArray)∧Md [] w w'∧bS.ok r0∧fO b=r0:=by
 have L:=h00.gd;obtain⟨U,f,F⟩:∃U:Nat→Prop,(∀x,w.heap.size≤x→¬U x)∧Ls fF w U v0 b:=⟨fun x=>x<w.heap.size,fun x h k=>by omega,h00.sub fun x _ h=>h⟩;clear h00;have M:=Md.refl [] w;refine enter (n:=73) Tryz.func23 q q q fun B=>ns (gO q (fU F.bZ) ?_);intro O w1 g1 l1 C A;obtain⟨F,M⟩:=k2 C F M;refine cw z36 ?_;intro S w2 t l2 C E;replace F:=F.o C;obtain⟨Z,hZ,E⟩:∃Z,(bS.cells (kE b 0 0 0 0)).length=Z.length∧cg w2 S Z 36:=⟨_,q,E⟩;have Am:O≠S:=(by have:=A.lt;omega);replace A:=A.o C;replace t:=ly M.size t;replace M:=M.k C;refine nt (ns (st _ (aC q gD A q) (st _ (bQ (i:=16) 1 q q gX nS F.eJ Oh) ?_)));obtain⟨x,hx⟩:=fK (l:=b) (i:=16) Oh;obtain⟨cx,Aa,R⟩:=F.get hx;obtain⟨rfl,_⟩:=Aa;have ex:b.getD 16 0=x:=(by simp[List.getD,hx]);have lx:=UInt8.toNat_lt x;replace R:At _ v0 (16*1) [(b8 x)]:=R;refine st _ ((dR (kk:=16*1) 0 q q tL R q).to (b:=(b8 x)) q) ?_;clear R;refine st _ (ew (a:=x.toNat) 9223372036854775808 q (by rw[u5];rfl) u3 q Oh) (st (.agg (bS.cells (kE b 0 0 0 0)).toArray) (by rw[show bS.cells (kE b 0 0 0 0)=bS.cells {kE b 0 0 0 0 with state:=x.toNat} by rw[← ex];rfl];exact nJ (cs:=bS.cells {kE b 0 0 0 0 with state:=x.toNat}) (ps:=[(2,2)]) z36 zS q q (by simp[qW,Value.oneCell']) q q q) (cw z36 ?_));intro I w3 P l3 C D;replace F:=F.o C;have K:O≠I:=(by have:=A.lt;omega);have J:S≠I:=(by have:=E.lt;omega);obtain⟨A,E⟩:=k2 C A E;replace P:=ly M.size P;replace M:=M.k C;refine iN q q (by exact iK) (fun u hu=>bI bS.one u hu) D q ?_;intro w4 C D;have N:∀x∈[I],¬U x:=(by intro y r;simp at r;subst r;exact f _ P);have Ao:∀x∈[S],¬U x:=(by intro y r;simp at r;subst r;exact f _ t);replace F:=F.md C N;replace A:=A.tC C K;replace E:=E.tC C J;replace M:=M.fW C P;refine nt (aP ?_)
 refine aQ (st _ (FO q) (an q (nm q (uS (cs:=[.pointer (some ⟨O,0,none⟩)]) q aff q (vp A F 8 Oh) ?_))));rintro en w5 ⟨rfl,C⟩;refine rv ?_;obtain⟨F,A,E,D,M⟩:=k5 C F A E D M;refine mv q (uS (cs:=[.pointer (some ⟨O,0,none⟩)]) q aff q (vp A F 12 Oh) ?_);rintro en w6 ⟨rfl,C⟩;refine rv ?_;obtain⟨F,A,E,D,M⟩:=k5 C F A E D M;refine sf q afD (bK q q jj q D (by(show _<91;decide)) ?_);intro w7 C D;replace F:=F.md C N;replace A:=A.tC C K;replace E:=E.tC C J;replace M:=M.fW C P;refine sf q LR (bK q q jj q D (by(show _<91;decide)) ?_);intro w8 C D;replace F:=F.md C N;replace A:=A.tC C K;replace E:=E.tC C J;replace M:=M.fW C P;replace D:cg w8 I (bS.cells (kE b (at4 b 8) (at4 b 12) 0 0)) 36:=D;refine nt (ns (an q (aP (ns (ax ali q (abU (b:=I)) ?_)))));rintro en w9 ⟨Y,rfl,gi,C,G⟩;refine rv ?_;have Ac:Y≠I:=(by have:=D.lt;omega);obtain⟨F,A,E,D⟩:=k4 C F A E D;replace gi:=ly M.size gi;replace M:=M.k C;have g:XK (.slice (some ⟨Y,0,none⟩) 4 4) 4:=⟨_,_,q,Nat.le_refl _,by simp[maxLen],by simp⟩;refine sL q aiS g (mv q (nt (bG ?_)))
 refine u7 (fun(k:Nat) (a:Nat)=>[(24,(.int .i64 k)),(5,(.int .i64 a)),(1,.pointer (some ⟨O,0,none⟩)),(2,.pointer (some ⟨S,0,none⟩)),(3,.pointer (some ⟨I,0,none⟩)),(4,.func (.func 53) #[] #[.pointer (some ⟨O,0,none⟩)]),(22,.slice (some ⟨Y,0,none⟩) 4 4),(23,.int .i64 ((4:Nat):Int))])
  (fun(k:Nat) (a:Nat) w'=>Md [] w w'∧Ls fF w' U v0 b∧cg w' O [v0] 24∧cg w' S Z 36∧cg w' I (bS.cells (kE b (at4 b 8) (at4 b 12) k 0)) 36∧cg w' Y (ptrs I 3 16 4) 126∧k≤4∧a=24+16*k) (fun(k:Nat) (a:Nat)=>4-k) (x0:=0) (x1:=24) ?_ ?_ ?_
 ·exact⟨q,q,q,q,q,q,q,q,tV⟩
 ·exact⟨M,F,A,E,D,G,by omega,q⟩
 clear M F A E D G
 rintro k a B Aq ⟨M,F,A,E,D,G,hk,p⟩;refine ns (st _ (gy (a:=k) (b:=4) q q) (nt (aP ?_)));refine cu q (fun V=>?_) (fun V=>?_)
 ·have d:=dT V
  refine bh (au (aP (bG (ns (st _ ((bQ (i:=k) 1 q q aiS ajg g Oh).to (b:=.pointer (some ⟨Y,k,none⟩)) (by simp[oH,Addr.nW])) (st _ (aC (b:=Y) (j:=k) (u:=.pointer (some ⟨I,3+k*16,none⟩)) q aiy G (Qy Oh)) (an q ?_)))))));have v:=F.eJ;refine HN [(0,true),(1,true),(2,true),(3,true),(4,true),(5,true),(6,true),(7,false),(8,true),(9,true)] (fun w'=>cg w' O [v0] 24) eD Ym ?_;intro Ar C;obtain⟨F,A,E,D,G,M⟩:=k6 C F A E D G M;refine⟨A,?_⟩;refine mo q (mo q (mz (fun w' X=>dr q) (mz (fun w' X=>ir u34 nS q Om) (mz (fun w' X=>aC q gD X q) (mo q (Go.Wk.m (p6 v0 a b.length) (fun w' X=>by exact pF a b.length gX nS q v Oh Oh ⟨_,q⟩ q) ?_))))));refine mF ?_ rfl;have hT:=F.by.tail a Oh;refine AY gX nS q q D hT (yR _) (by have:(bS.cells (kE b (at4 b 8) (at4 b 12) k 0)).length=91:=rfl;simp;omega) ?_;intro As C D;clear hT;rw[← List.map_take,p,acf Oh p0]at D;replace F:=F.md C N;replace A:=A.tC C K;replace E:=E.tC C J;replace G:=G.tC C Ac;replace M:=M.fW C P;refine aI ⟨q,A,?_⟩;have Ai:min ((b.drop a).map b8).length 16=16:=Vw;refine mz (fun w' X=>gW (a:=a) (b:=min ((b.drop a).map b8).length 16) 9223372036854775808 q q q Oh) (mz (fun w' X=>eI q) (ej (bX (au (aQ (st _ (rA (a:=k) (b:=1) q q Oh) (mv q (nt ?_))))))));exact rK (x0:=k+1) (x1:=a+min ((b.drop a).map b8).length 16) Oh ⟨q,q,q,q,q,q,q,q,tV⟩ ⟨M,F,A,E,D,G,by omega,by omega⟩
 have d:=dF V
 obtain rfl:k=4:=by omega
 subst p;clear G;refine dY (bU (bU (eT (au (aP (ns (ax alj q (YP (b:=I)) ?_)))))));rintro en Au ⟨c,rfl,gj,C,H⟩;refine rv ?_;have Ad:c≠I:=(by have:=D.lt;omega);obtain⟨F,A,E,D,M⟩:=k5 C F A E D M;have o:XK (.slice (some ⟨c,0,none⟩) 21 21) 21:=⟨_,_,q,Nat.le_refl _,by simp[maxLen],by simp⟩;refine sL q aiT o (mv q (nt (bG ?_)))
 refine u7 (fun(j:Nat) (a:Nat)=>[(40,(.int .i64 j)),(5,(.int .i64 a)),(1,.pointer (some ⟨O,0,none⟩)),(2,.pointer (some ⟨S,0,none⟩)),(3,.pointer (some ⟨I,0,none⟩)),(4,.func (.func 53) #[] #[.pointer (some ⟨O,0,none⟩)]),(38,.slice (some ⟨c,0,none⟩) 21 21),(39,.int .i64 ((21:Nat):Int))])
  (fun(j:Nat) (a:Nat) w'=>Md [] w w'∧Ls fF w' U v0 b∧cg w' O [v0] 24∧cg w' S Z 36∧cg w' I (bS.cells (kE b (at4 b 8) (at4 b 12) 4 j)) 36∧cg w' c (ptrs I 67 1 21) 129∧j≤21∧a=88+8*j) (fun(j:Nat) (a:Nat)=>21-j) (x0:=0) (x1:=24+16*4) ?_ ?_ ?_
 ·exact⟨q,q,q,q,q,q,q,q,tV⟩
 ·exact⟨M,F,A,E,D,H,by omega,q⟩
 clear M F A E D H
 rintro j a B Aw ⟨M,F,A,E,D,H,hj,p⟩;refine ns (st _ (gy (a:=j) (b:=21) q q) (nt (aP ?_)));refine cu q (fun W=>?_) (fun W=>?_)
 ·have T:=dT W
  refine bh (au (aP (bG (ns (st _ ((bQ (i:=j) 1 q q aiT ajh o Oh).to (b:=.pointer (some ⟨c,j,none⟩)) (by simp[oH,Addr.nW])) (st _ (aC (b:=c) (j:=j) (u:=.pointer (some ⟨I,67+j*1,none⟩)) q aiz H (Qy Oh)) (an q (nm q (st _ (aC q gD A q) (mv q (ax yw q (pJ (Q:=fun _=>True) (fun _ _=>trivial) (F.sub fun _ _ _=>trivial) (a:Int) Oh 8 Oh) ?_)))))))))));rintro en Ax ⟨r0,r1,rfl,C,hr,e⟩;refine rv ?_;have z:mE b a 8=(eY b a,true):=AG (k:=8) (.inr q) Oh;rw[z]at e;obtain⟨rfl,rfl⟩:=Prod.mk.inj e;obtain⟨F,A,E,D,H,M⟩:=k6 C F A E D H M;refine mv q (st (.int .u64 ((eY b a:Nat):Int)) (jC q q) (se q q (sn q (bK (b:=I) (j:=67+j*1) q q bA q D (by have:(bS.cells (kE b (at4 b 8) (at4 b 12) 4 j)).length=91:=rfl;omega) ?_))));intro Ay C D;rw[Nat.mul_one,p,Z9 T]at D;replace F:=F.md C N;replace A:=A.tC C K;replace E:=E.tC C J;replace H:=H.tC C Ad;replace M:=M.fW C P;refine nt (aQ (mv q (st _ (rA (a:=a) (b:=8) q q Oh) (dP q (aI (bX (au (aQ (st _ (rA (a:=j) (b:=1) q q Oh) (mv q (nt ?_)))))))))));exact rK (x0:=j+1) (x1:=a+8) Oh ⟨q,q,q,q,q,q,q,q,tV⟩ ⟨M,F,A,E,D,H,by omega,by omega⟩
 have T:=dF W
 obtain rfl:j=21:=by omega
 subst p;clear H;refine dY (bU (bU (eT (au (ns (m2 q q (uS (cs:=[.pointer (some ⟨O,0,none⟩)]) q aff q (vp A F 256 Oh) ?_)))))));rintro en A0 ⟨rfl,C⟩;refine rv ?_;obtain⟨F,A,E,D,M⟩:=k5 C F A E D M;refine m2 q q (st _ (rA (a:=256) (b:=4) q q Oh) (uS (cs:=[.pointer (some ⟨O,0,none⟩)]) q aff q (vp A F 260 Oh) ?_));rintro en A5 ⟨rfl,C⟩;refine rv ?_;obtain⟨F,A,E,D,M⟩:=k5 C F A E D M;refine sf q adv (bK q q jj q D (by(show _<91;decide)) ?_);intro A9 C D;replace F:=F.md C N;replace A:=A.tC C K;replace E:=E.tC C J;replace M:=M.fW C P;refine sf q adw (bK q q jj q D (by(show _<91;decide)) ?_);intro Ba C D;replace F:=F.md C N;replace A:=A.tC C K;replace E:=E.tC C J;replace M:=M.fW C P;refine nt (ns (st _ (aC q gD A q) (mv q (st _ (rA (a:=256) (b:=8) q q Oh) (ax yw q (pJ (Q:=fun _=>True) (fun _ _=>trivial) (F.sub fun _ _ _=>trivial) ((264:Nat):Int) Oh 8 Oh) ?_)))));rintro en Bb ⟨r0,r1,rfl,C,hr,e⟩;refine rv ?_;have z:mE b ((264:Nat):Int) 8=(eY b 264,true):=AG (k:=8) (.inr q) Oh;rw[z]at e;obtain⟨rfl,rfl⟩:=Prod.mk.inj e;obtain⟨E,D,M⟩:=k3 C E D M;refine mv q (st (.int .u64 ((eY b 264:Nat):Int)) (jC q q) (se q q (sf q adx (bK q q bA q D (by(show _<91;decide)) ?_))));intro Ae C D;replace E:=E.tC C J;replace M:=M.fW C P
 replace D:cg Ae I (bS.cells (fO b)) 36:=D;refine nt (ns (st _ (oq q (by exact iK) D) (iN q q (by exact iK) (fun u hu=>bI bS.one u hu) E hZ ?_)));intro Bc C E;replace M:=M.fW C t;refine nt (iP ?_);exact ak4 trivial q q (by exact iK) E ⟨_,q,M,Ql p0,q⟩
theorem alh:ea Zp 52=true:=Ym
theorem u9:Zp.underlying 9=some (.string):=Ym
theorem RZ (uQ:Up w Q) {v0:Value} {a:Ly} (h0:Ls fF w Q v0 a) {v1:Value} {b:Ly} (h1:Ls fF w Q v1 b) :
  Calls Zp 52 #[v0,v1] w fun en w'=>∃r0:Bool,en = .returned (.bool r0)∧Md [] w w'∧decide (a=b)=r0:=by
 have C:=h0.gd;have D:=h1.gd;have M:=Md.refl [] w;have A:=uQ;refine enter (n:=10) Tryz.func52 q q q fun B=>ns (an q (nm q (st _ (rX (s:=a) gX u5 u9 q h0.by) (mv q (st _ (rX (s:=b) gX u5 u9 q h1.by) (st _ (SV (a:=a) (b:=b) q q) (ar q ?_)))))));exact d9 (v:=(.bool ((decide (a=b))))) trivial q ⟨q,tV⟩ ⟨(decide (a=b)),q,M,(by simp(disch:=first|omega|assumption|simp) only [SS,reduceIte])⟩
theorem YR (uQ:Up w Q) {v0:Value} {b:Ly} (h0:Ls fF w Q v0 b) {v1:Value} {p:Ly} (h1:Ls fF w Q v1 p) :
  Calls Zp 22 #[v0,v1] w fun en w'=>∃r0:Bool,en = .returned (.bool r0)∧Md [] w w'∧qM b p=r0:=by
 have I:=h0.gd;have J:=h1.gd;have M:=Md.refl [] w;have H:=uQ;refine enter (n:=18) Tryz.func22 q q q fun B=>ns (an q (nm q (sL q gX h0.eJ (mv q (sL q gX h1.eJ (st _ (zH (a:=b.length) (b:=p.length) q q) (mv q ?_)))))));refine dQ (t:=10) q (fun A=>?_) (fun A=>?_)
 ·(have C:=dT A);refine sg A (bf q) (sg A (bf q) (sg A (jK q gX h1.eJ) (sg A (jy 1 0 p.length gX nS q h0.eJ Oh Oh q ⟨_,q⟩) ?_)));have F:=h0.head (hi:=p.length) Oh;refine sg A (bf q) (gL q q q A alh q (RZ uQ F h1) ?_);rintro en K ⟨D,rfl,G,E⟩;refine rv ?_;replace M:=M.k G;refine st _ (bF q A q) (ar q ?_);exact d9 (v:=(.bool D)) trivial q ⟨q,tV⟩ ⟨D,q,M,(by rw[qM]<;>simp(disch:=first|omega|assumption|simp) only [SS,reduceIte,C,E])⟩
 (have C:=dF A);refine sk A (sk A (sk A (sk A (sk A (sk A (st _ (aY q A q) (ar q ?_)))))));exact d9 (v:=(.bool false)) trivial q ⟨q,tV⟩ ⟨false,q,M,(by rw[qM]<;>simp(disch:=first|omega|assumption|simp) only [SS,reduceIte,C])⟩
theorem OE (uQ:Up w Q) (h:bS) (a0_0:bS.ok h) :
  Calls Zp 24 #[.agg (bS.cells h).toArray] w fun en w'=>∃r0:Nat,∃r1:Bool,en = .returned (.tuple #[(.int .u64 r0),(.bool r1)])∧Md [] w w'∧r0<18446744073709551616∧vJ h=(r0,r1):=by
 have M:=Md.refl [] w;have J:=uQ;refine enter (n:=15) Tryz.func24 q q q fun B=>ns (gO (cs:=(bS.cells h)) q q ?_);intro G N C I H E;have F:=uQ _ C;replace C:=ly M.size C;replace M:=M.k H;refine dP q (an q (ns (sf q pD (sl (u:=(.int .u64 ((h.n.getD 0 0:Nat):Int))) q bA E q ?_))));have K:h.n.getD 0 0<18446744073709551616:=(eW a0_0.2.2.2.2.2.2.2.1 0);refine sf q LU (sl (u:=(.int .u64 ((h.n.getD 1 0:Nat):Int))) q bA E q ?_);have L:h.n.getD 1 0<18446744073709551616:=(eW a0_0.2.2.2.2.2.2.2.1 1);refine st _ (sN (a:=(h.n.getD 0 0)) (b:=(h.n.getD 1 0)) 18446744073709551616 q q q q) (an q (aP (nm q (sf q pD (sl (u:=(.int .u64 ((h.n.getD 0 0:Nat):Int))) q bA E q (st _ (gy (a:=(((h.n.getD 0 0)+(h.n.getD 1 0))%18446744073709551616)) (b:=(h.n.getD 0 0)) q q) (nt ?_)))))));refine cu q (fun D=>?_) (fun D=>?_)
 ·(have A:=dT D);refine ns (dP q (ar q (aS ?_)));exact eB (vs:=[(.int .u64 ((0:Nat):Int)),(.bool false)]) trivial q ⟨q,q,tV⟩ q ⟨0,false,q,M,Oh,(by rw[vJ]<;>simp(disch:=first|omega|assumption|simp) only [SS,reduceIte,A])⟩
 (have A:=dF D);refine bh (au (nm q (dP q (ar q ?_))));exact eB (vs:=[(.int .u64 ((((h.n.getD 0 0)+(h.n.getD 1 0))%18446744073709551616:Nat):Int)),(.bool true)]) trivial q ⟨q,q,tV⟩ q ⟨((h.n.getD 0 0)+(h.n.getD 1 0))%18446744073709551616,true,q,M,Oh,(by rw[vJ]<;>simp(disch:=first|omega|assumption|simp) only [SS,reduceIte,A])⟩
theorem CW (uQ:Up w Q) (h:bS) (a0_0:bS.ok h) (p:Nat) (a1:p<18446744073709551616) (size:Nat) (a2:size<18446744073709551616) (e:Nat) (a3:e<18446744073709551616) :
  Calls Zp 25 #[.agg (bS.cells h).toArray,(.int .u64 p),(.int .u64 size),(.int .u64 e)] w fun en w'=>∃r0:Nat,en = .returned (.int .i64 r0)∧Md [] w w'∧r0<9223372036854775808∧lY h p size e=r0:=by
 have M:=Md.refl [] w;have X:=uQ;refine enter (n:=45) Tryz.func25 q q q fun B=>ns (gO (cs:=(bS.cells h)) q q ?_);intro U Z N W V R;have T:=uQ _ N;replace N:=ly M.size N;replace M:=M.k V;refine an q (aP (bG (nm q (st _ (pu (a:=p) (b:=8) q q Oh) (st _ (fw (a:=(p%8)) (b:=0) q q) (dP q (nt ?_)))))));refine cu q (fun S=>?_) (fun S=>?_)
 ·(have I:=dT S);refine ns (ar q (bE (aS ?_)));exact d9 (v:=(.int .i64 ((3:Nat):Int))) trivial q ⟨q,tV⟩ ⟨3,q,M,Oh,(by rw[lY]<;>simp(disch:=first|omega|assumption|simp) only [SS,reduceIte,I])⟩
 (have I:=dF S);refine nm q (st _ (gw (a:=size) (b:=0) q q) (mv q ?_));refine dQ (t:=16) q (fun F=>?_) (fun F=>?_)
 ·(have D:=dT F);refine sk F (sk F (sk F (st _ (bF q F q) (an q (iF q q (ns (ar q (bE (aS ?_)))))))));exact d9 (v:=(.int .i64 ((5:Nat):Int))) trivial q ⟨q,tV⟩ ⟨5,q,M,Oh,(by rw[lY]<;>simp(disch:=first|omega|assumption|simp) only [SS,reduceIte,I,D])⟩
 (have D:=dF F);refine sg F (bf q) (sg F (pu (a:=size) (b:=16) q q Oh) (sg F (fw (a:=(size%16)) (b:=0) q q) (st _ (aY q F q) (an q ?_))));refine cu q (fun O=>?_) (fun O=>?_)
 ·(have E:=dT O);refine ns (ar q (bE (aS ?_)));exact d9 (v:=(.int .i64 ((5:Nat):Int))) trivial q ⟨q,tV⟩ ⟨5,q,M,Oh,(by rw[lY]<;>simp(disch:=first|omega|assumption|simp) only [SS,reduceIte,I,D,E])⟩
 (have E:=dF O);refine nm q (sf q pD (sl (u:=(.int .u64 ((h.n.getD 0 0:Nat):Int))) q bA R q ?_));have Y:h.n.getD 0 0<18446744073709551616:=(eW a0_0.2.2.2.2.2.2.2.1 0);refine st _ (gy (a:=p) (b:=(h.n.getD 0 0)) q q) (mv q ?_);refine dQ (t:=26) q (fun A=>?_) (fun A=>?_)
 ·(have H:=dT A);refine sk A (sk A (sk A (sk A (sk A (st _ (bF q A q) (mv q (sk q (sk q (sk q (st _ (bF q q q) (mv q (sk q (sk q ?_)))))))))))));refine sk q (sk q (sk q (st _ (bF q q q) (an q (iF q q (ns (ar q (bE (aS ?_)))))))));exact d9 (v:=(.int .i64 ((2:Nat):Int))) trivial q ⟨q,tV⟩ ⟨2,q,M,Oh,(by rw[lY]<;>simp(disch:=first|omega|assumption|simp) only [SS,reduceIte,I,D,E,H])⟩
 (have H:=dF A);refine sg A (bf q) (sg A (aM q pD) (sg A ((aC q bA R q).to (b:=(.int .u64 ((h.n.getD 0 0:Nat):Int))) q) (sg A (nL (a:=p) (b:=(h.n.getD 0 0)) 18446744073709551616 q q q Oh) (sg A (gy (a:=(p-(h.n.getD 0 0))) (b:=16) q q) (st _ (aY q A q) (mv q ?_))))));refine dQ (t:=33) q (fun G=>?_) (fun G=>?_)
 ·(have J:=dT G);refine sk G (sk G (sk G (st _ (bF q G q) (mv q (sk q (sk q (sk q (sk q (sk q (st _ (bF q q q) (an q (iF q q ?_))))))))))));refine ns (ar q (bE (aS ?_)));exact d9 (v:=(.int .i64 ((2:Nat):Int))) trivial q ⟨q,tV⟩ ⟨2,q,M,Oh,(by rw[lY]<;>simp(disch:=first|omega|assumption|simp) only [SS,reduceIte,I,D,E,H,J])⟩
 (have J:=dF G);refine sg G (bf q) (sg G (bf q) (sg G (lJ (a:=p) (b:=e) q q) (st _ (aY q G q) (mv q ?_))));refine dQ (t:=38) q (fun C=>?_) (fun C=>?_)
 ·(have K:=dT C);refine sk C (sk C (sk C (sk C (sk C (st _ (bF q C q) (an q (iF q q (ns (ar q (bE ?_))))))))));refine aS ?_;exact d9 (v:=(.int .i64 ((2:Nat):Int))) trivial q ⟨q,tV⟩ ⟨2,q,M,Oh,(by rw[lY]<;>simp(disch:=first|omega|assumption|simp) only [SS,reduceIte,I,D,E,H,J,K])⟩
 (have K:=dF C);refine sg C (bf q) (sg C (bf q) (sg C (bf q) (sg C (nL (a:=e) (b:=p) 18446744073709551616 q q q Oh) (sg C (lJ (a:=size) (b:=(e-p)) q q) (st _ (aY q C q) (an q ?_))))));refine cu q (fun P=>?_) (fun P=>?_)
 ·(have L:=dT P);refine ns (ar q (bE (aS ?_)));exact d9 (v:=(.int .i64 ((2:Nat):Int))) trivial q ⟨q,tV⟩ ⟨2,q,M,Oh,(by rw[lY]<;>simp(disch:=first|omega|assumption|simp) only [SS,reduceIte,I,D,E,H,J,K,L])⟩
 (have L:=dF P);refine bh (bX (au (ns (ar q ?_))));exact d9 (v:=(.int .i64 ((0:Nat):Int))) trivial q ⟨q,tV⟩ ⟨0,q,M,Oh,(by rw[lY]<;>simp(disch:=first|omega|assumption|simp) only [SS,reduceIte,I,D,E,H,J,K,L])⟩
theorem ko:xW Zp 5 1 1=true:=Ym
theorem akU:ea Zp 22=true:=Ym
theorem akV:ea Zp 23=true:=Ym
theorem ajC:ea Zp 24=true:=Ym
theorem ajD:ea Zp 25=true:=Ym
theorem jl:jF Zp 3=true:=Ym
theorem RG (uQ:Up w Q) {v0:Value} {l:Ly} (h0:Ls fF w Q v0 l) (p0:l.length≤140737488355328) :
  Calls Zp 27 #[v0] w fun en w'=>∃u0:Value,∃r0:List UInt8,∃Q':Nat→Prop,en = .returned (u0)∧Md [] w w'∧rj w w' Q Q'∧Ow fF 5 (ck [] w) w' Q' u0 r0∧l=r0:=by
 obtain⟨a,A,T,R,V⟩:∃a A,v0 = .slice a l.length A∧l.length≤A∧(a=none→l=[]):=by
  obtain⟨a,A,j,e,M,k,N,_⟩:=h0;exact⟨a,A,e,M,fun h=>List.eq_nil_of_length_eq_zero (by have:=N h;omega)⟩
 refine enter (n:=8) Tryz.func27 q q q fun B=>ns (an q (aP (nm q (st (.bool a.isNone) (by exact agf (a:=a) (m:=l.length) (c:=A) (by rw[← T];rfl) gX) (nt ?_)))));refine cu q (fun H=>?_) (fun H=>?_)
 ·have S:l=[]:=V (Option.isNone_iff_eq_none.1 H)
  refine ns (ar q (aS ?_));exact jq trivial q q ⟨_,[],Q,q,Md.refl [] w,⟨fun x h _=>h,fun x h=>h,uQ⟩,Ow.nil _ _ _ _ _,S⟩
 refine bh ?_
 refine au (ns (kJ gX ko ?_));intro b i D W C O;obtain⟨K,J,Z,X,f⟩:=kR uQ D W C;have P:Ow fF 5 (ck [] w) i K (.slice (some ⟨b,0,none⟩) 0 0) []:=Ow.e5 (m:=0) O q q (by simp[maxLen]) (.inr D) X;replace h0:=(h0.sub J).o C;refine mv q (qh (sz:=1) q gX ko q q P h0.lz f (ck.new C) Vw Vw ?_);intro p r L Y d g E F o _ U;refine ar q ?_;exact jq trivial q q ⟨_,_,L,q,C.fW F D,⟨fun x G I=>Y x (J x G I) (lj I C.size),fun x G=>Z x (d x G),g⟩,E,by simp⟩
theorem vO (uQ:Up w Q) {v0:Value} {l:Ly} (h0:Ls fF w Q v0 l) (p0:l.length≤140737488355328) :
  Calls Zp 27 #[v0] w fun en w'=>∃u0:Value,∃r0:List UInt8,en = .returned (u0)∧Md [] w w'∧Ls fF w' Q u0 r0∧l=r0 :=
 (RG uQ h0 p0).mono fun en w' ⟨u0,r0,Q2,he,hm,kq,k0,hF⟩=>⟨u0,r0,he,hm,k0.ls kq.2.1 (ck.up uQ),hF⟩
set_option maxRecDepth 100000 in
abbrev lC:bS:={iG:=0,bW:=0,state:=0,cG:=pV,eO:=pV,bV:=pV,seq:=pV,n:=(List.replicate 21 0),eu:=0,eC:=0,eM:=0}
set_option maxHeartbeats 4000000 in
theorem YS (uQ:Up w Q) {v0:Value} {b:Ly} (h0:Ls fF w Q v0 b) :
  Calls Zp 9 #[v0] w fun en w'=>∃r0:bS,∃r1:Nat,en = .returned (.tuple #[.agg (bS.cells r0).toArray,(.int .i64 r1)])∧Md [] w w'∧bS.ok r0∧r1<9223372036854775808∧lp b=(r0,r1):=by
 have L0:=h0.gd;have M:=Md.refl [] w;have Bt:=uQ;refine enter (n:=90) Tryz.func9 q q q fun B=>ns (cw z36 ?_);intro v w1 i A0 E A;obtain⟨Q2,r,sT,A9,V⟩:=kR uQ i A0 E;replace i:=ly M.size i;replace h0:=(h0.sub r).o E;replace M:=M.k E;replace uQ:=V;clear V r sT;have H:ck [] w v:=.inr i;replace A:cg _ _ (bS.cells (lC)) _:=A;have Bh:bS.ok (lC):=(by exact⟨Om,Om,Om,q,q,q,q,(mh _),Om,Om,Om⟩);refine an q (aP (bG (nm q (sL q gX h0.eJ (st _ (gy (a:=b.length) (b:=272) q q) (dP q (nt ?_)))))));refine cu q (fun h9=>?_) (fun h9=>?_)
 ·(have R:=dT h9);refine ns (st _ (dw (us:=[]) (cs:=(bS.cells (lC))) [] z36 zS q q trivial trivial q q) (aT (us:=(bS.cells (lC))) q q (by exact iK) (by exact fun u S=>bI (bS.one) u S) A (lB q) ?_));have F:=A;clear A;intro w4 E A;replace M:=M.step E (hI H);clear F;replace A:cg _ _ (bS.cells (lC)) _:=A;refine ar q (bE (aS ?_));exact eB (vs:=[(.agg (bS.cells (lC)).toArray),(.int .i64 ((22:Nat):Int))]) trivial q ⟨⟨_,q,ey (cs:=(bS.cells (lC))) (by exact iK) A⟩,q,tV⟩ q ⟨(lC),22,q,M,Vx,Oh,(QG R)⟩
 (have R:=dF h9);refine nm q (bO [[(b8 76)],[(b8 80)],[(b8 75)],[(b8 83)],[(b8 72)],[(b8 72)],[(b8 82)],[(b8 72)]] gX ko Om Om q q ⟨q,q,q,q,q,q,q,q,tV⟩ ⟨q,q,q,q,q,q,q,q,tV⟩ q Om ?_);intro e w5 l As E Z;have Aj:v≠e:=(by have:=A.lt;omega);have k:ck [] w e:=ck.new M _ l;obtain⟨Q6,r,sT,c,V⟩:=kR uQ l As E;replace h0:=(h0.sub r).o E;obtain⟨A,M⟩:=k2 E A M;replace uQ:=V;clear V r sT;refine XF gX u5 q (show cg _ _ (([76,80,75,83,72,72,82,72]:Ly).map b8) _ from Z) (By.e5 (show cg _ _ (([76,80,75,83,72,72,82,72]:Ly).map b8) _ from Z) q Om) ?_;intro w7 E hY;have Af:=Z;clear Z;have hS:∀b∈[e],¬Q6 b:=(hI c);replace h0:=h0.md E hS;replace A:=A.md E Nv;replace uQ:=uQ.md E;replace M:=M.step E (hI k);obtain⟨Q8,fQ,fT,Ag⟩:=E2 (Q:=Q6) hY;replace h0:=h0.sub (fun b d _=>fQ b d);replace uQ:Up w7 Q8:=fun b d=>fQ b (uQ b d);clear Af hS fQ fT hY c;refine ax akU q (YR uQ h0 Ag) ?_;rintro en w9 ⟨Bi,rfl,E,T⟩;refine rv ?_;obtain⟨h0,A,uQ,M⟩:=k4 E h0 A uQ M;refine st _ (jw q) (an q ?_);refine cu q (fun y=>?_) (fun y=>?_)
 ·(have o:=AB y);refine ns (st _ (dw (us:=[]) (cs:=(bS.cells (lC))) [] z36 zS q q trivial trivial q q) (aT (us:=(bS.cells (lC))) q q (by exact iK) (by exact fun u S=>bI (bS.one) u S) A (lB q) ?_));have F:=A;clear A;intro Bu E A;replace M:=M.step E (hI H);clear F;replace A:cg _ _ (bS.cells (lC)) _:=A;refine ar q (bE (aS ?_));exact eB (vs:=[(.agg (bS.cells (lC)).toArray),(.int .i64 ((6:Nat):Int))]) trivial q ⟨⟨_,q,ey (cs:=(bS.cells (lC))) (by exact iK) A⟩,q,tV⟩ q ⟨(lC),6,q,M,Vx,Oh,(FT R (by rw[T];exact o))⟩
 (have o:=AA y);refine bh (bX (au (nm q (ax akV q (Se uQ h0 Oh) ?_))));rintro en Bv ⟨C,rfl,E,D,K⟩;refine rv ?_;obtain⟨h0,A,uQ,M⟩:=k4 E h0 A uQ M;refine cw z36 ?_;intro x Bw j A5 E G;have Av:v≠x:=(by have:=A.lt;omega);obtain⟨Aw,r,sT,Ah,V⟩:=kR uQ j A5 E;replace j:=ly M.size j;replace h0:=(h0.sub r).o E;obtain⟨A,M⟩:=k2 E A M;replace uQ:=V;clear V r sT;have Ai:ck [] w x:=.inr j;replace G:cg _ _ (bS.cells (lC)) _:=G;have Ba:bS.ok (lC):=(by exact⟨Om,Om,Om,q,q,q,q,(mh _),Om,Om,Om⟩);refine aT (us:=(bS.cells C)) q q (by exact iK) (by exact fun u S=>bI (bS.one) u S) G (lB q) ?_
 have Ar:=G;clear G;intro Bx E G;have hS:∀b∈[x],¬Aw b:=(hI Ah);replace h0:=h0.md E hS;replace A:=A.md E Nv;replace uQ:=uQ.md E;replace M:=M.step E (hI Ai);clear Ar hS;replace G:cg _ _ (bS.cells C) _:=G;refine nt (ns (st _ (dh (bS.cells C) q (by exact iK) G q) (ax ajC q (OE uQ C D) ?_)));rintro en Bz ⟨W,Be,rfl,E,Bb,L⟩;refine rv ?_;obtain⟨h0,A,G,uQ,M⟩:=k5 E h0 A G uQ M;refine mv q (se q q (se q q (dP q (an q (aP (bG (ns (sf q LR (sl (u:=(.int .u32 C.bW)) q jj G q ?_)))))))));have Bl:C.bW<4294967296:=D.2.1;refine st _ (ZY (a:=C.bW) (b:=4) 4294967296 q q q q Oh) (st _ (fw (a:=(andNot C.bW 4)) (b:=0) q q) (an q ?_));refine cu q (fun z=>?_) (fun z=>?_)
 ·(have I:=dT z);refine ns (st _ (dw (us:=[]) (cs:=(bS.cells (lC))) [] z36 zS q q trivial trivial q q) (aT (us:=(bS.cells (lC))) q q (by exact iK) (by exact fun u S=>bI (bS.one) u S) A (lB q) ?_));have F:=A;clear A;intro B0 E A;replace M:=M.step E (hI H);clear F;replace A:cg _ _ (bS.cells (lC)) _:=A;refine ar q (bE (aS ?_));exact eB (vs:=[(.agg (bS.cells (lC)).toArray),(.int .i64 ((7:Nat):Int))]) trivial q ⟨⟨_,q,ey (cs:=(bS.cells (lC))) (by exact iK) A⟩,q,tV⟩ q ⟨(lC),7,q,M,Vx,Oh,(nM R T (by simp_all) K (by rw[lM L];rw[if_pos I]) Om)⟩
 (have I:=dF z);refine ns (sf q afE (sl (u:=(.int .i64 C.state)) q jl G q ?_));have Bm:C.state<9223372036854775808:=D.2.2.1;refine st _ (lJ (a:=C.state) (b:=2) q q) (an q ?_);refine cu q (fun Aa=>?_) (fun Aa=>?_)
 ·(have J:=dT Aa);refine ns (st _ (dw (us:=[]) (cs:=(bS.cells (lC))) [] z36 zS q q trivial trivial q q) (aT (us:=(bS.cells (lC))) q q (by exact iK) (by exact fun u S=>bI (bS.one) u S) A (lB q) ?_));have F:=A;clear A;intro B3 E A;replace M:=M.step E (hI H);clear F;replace A:cg _ _ (bS.cells (lC)) _:=A;refine ar q (bE (aS ?_));exact eB (vs:=[(.agg (bS.cells (lC)).toArray),(.int .i64 ((8:Nat):Int))]) trivial q ⟨⟨_,q,ey (cs:=(bS.cells (lC))) (by exact iK) A⟩,q,tV⟩ q ⟨(lC),8,q,M,Vx,Oh,(nM R T (by simp_all) K (by rw[lM L];rw[if_neg I,if_pos J]) Om)⟩
 (have J:=dF Aa);refine ns (sf q pD (sl (u:=(.int .u64 ((C.n.getD 0 0:Nat):Int))) q bA G q ?_));have Bn:C.n.getD 0 0<18446744073709551616:=(eW D.2.2.2.2.2.2.2.1 0);refine st _ (gy (a:=(C.n.getD 0 0)) (b:=272) q q) (mv q ?_);refine dQ (t:=43) q (fun O=>?_) (fun O=>?_)
 ·(have Al:=dT O);refine sk O (sk O (sk O (sk O (st _ (bF q O q) (mv q (sk q (sk q (sk q (sk q (st _ (bF q q q) (an q (iF q q ?_))))))))))));refine ns (st _ (dw (us:=[]) (cs:=(bS.cells (lC))) [] z36 zS q q trivial trivial q q) (aT (us:=(bS.cells (lC))) q q (by exact iK) (by exact fun u S=>bI (bS.one) u S) A (lB q) ?_));have F:=A;clear A;intro B4 E A;replace M:=M.step E (hI H);clear F;replace A:cg _ _ (bS.cells (lC)) _:=A;refine ar q (bE (aS ?_));exact eB (vs:=[(.agg (bS.cells (lC)).toArray),(.int .i64 ((5:Nat):Int))]) trivial q ⟨⟨_,q,ey (cs:=(bS.cells (lC))) (by exact iK) A⟩,q,tV⟩ q ⟨(lC),5,q,M,Vx,Oh,(nM R T (by simp_all) K (by rw[lM L];rw[if_neg I,if_neg J,if_pos Oh]) Om)⟩
 (have Al:=dF O);refine sg O (aM q pD) (sg O ((aC q bA G q).to (b:=(.int .u64 ((C.n.getD 0 0:Nat):Int))) q) (sg O (pu (a:=(C.n.getD 0 0)) (b:=8) q q Oh) (sg O (fw (a:=((C.n.getD 0 0)%8)) (b:=0) q q) (st _ (aY q O q) (mv q ?_)))));refine dQ (t:=49) q (fun P=>?_) (fun P=>?_)
 ·(have Am:=dT P);refine sk P (sk P (sk P (sk P (st _ (bF q P q) (an q (iF q q (ns (st _ (dw (us:=[]) (cs:=(bS.cells (lC))) [] z36 zS q q trivial trivial q q) (aT (us:=(bS.cells (lC))) q q (by exact iK) (by exact fun u S=>bI (bS.one) u S) A (lB q) ?_)))))))));have F:=A;clear A;intro B5 E A;replace M:=M.step E (hI H);clear F;replace A:cg _ _ (bS.cells (lC)) _:=A;refine ar q (bE (aS ?_));exact eB (vs:=[(.agg (bS.cells (lC)).toArray),(.int .i64 ((5:Nat):Int))]) trivial q ⟨⟨_,q,ey (cs:=(bS.cells (lC))) (by exact iK) A⟩,q,tV⟩ q ⟨(lC),5,q,M,Vx,Oh,(nM R T (by simp_all) K (by rw[lM L];rw[if_neg I,if_neg J,if_pos Oh]) Om)⟩
 (have Am:=dF P);refine sg P (aM q LU) (sg P ((aC q bA G q).to (b:=(.int .u64 ((C.n.getD 1 0:Nat):Int))) q) ?_);have Bo:C.n.getD 1 0<18446744073709551616:=(eW D.2.2.2.2.2.2.2.1 1);refine sg P (pu (a:=(C.n.getD 1 0)) (b:=8) q q Oh) (sg P (fw (a:=((C.n.getD 1 0)%8)) (b:=0) q q) (st _ (aY q P q) (an q ?_)));refine cu q (fun Ab=>?_) (fun Ab=>?_)
 ·(have Ak:=dT Ab);refine ns (st _ (dw (us:=[]) (cs:=(bS.cells (lC))) [] z36 zS q q trivial trivial q q) (aT (us:=(bS.cells (lC))) q q (by exact iK) (by exact fun u S=>bI (bS.one) u S) A (lB q) ?_));have F:=A;clear A;intro B6 E A;replace M:=M.step E (hI H);clear F;replace A:cg _ _ (bS.cells (lC)) _:=A;refine ar q (bE (aS ?_));exact eB (vs:=[(.agg (bS.cells (lC)).toArray),(.int .i64 ((5:Nat):Int))]) trivial q ⟨⟨_,q,ey (cs:=(bS.cells (lC))) (by exact iK) A⟩,q,tV⟩ q ⟨(lC),5,q,M,Vx,Oh,(nM R T (by simp_all) K (by rw[lM L];rw[if_neg I,if_neg J,if_pos Oh]) Om)⟩
 (have Ak:=dF Ab);refine nm q (st _ (jw q) (mv q ?_));refine dQ (t:=59) q (fun N=>?_) (fun N=>?_)
 ·(have Ap:=AB N);refine sk N (sk N (sk N (sk N (sk N (st _ (bF q N q) (an q (iF q q (ns (st _ (dw (us:=[]) (cs:=(bS.cells (lC))) [] z36 zS q q trivial trivial q q) (aT (us:=(bS.cells (lC))) q q (by exact iK) (by exact fun u S=>bI (bS.one) u S) A (lB q) ?_))))))))));have F:=A;clear A;intro B7 E A;replace M:=M.step E (hI H);clear F;replace A:cg _ _ (bS.cells (lC)) _:=A;refine ar q (bE (aS ?_));exact eB (vs:=[(.agg (bS.cells (lC)).toArray),(.int .i64 ((2:Nat):Int))]) trivial q ⟨⟨_,q,ey (cs:=(bS.cells (lC))) (by exact iK) A⟩,q,tV⟩ q ⟨(lC),2,q,M,Vx,Oh,(nM R T (by simp_all) K (by rw[lM L];rw[if_neg I,if_neg J,if_neg Oh,if_pos (by(left;simp_all))]) Om)⟩
 (have Ap:=AA N);refine sg N (bf q) (sg N (bf q) (sg N (jK q gX h0.eJ) (sg N (ew (a:=b.length) 18446744073709551616 q (by rw[u3];rfl) lZ q Oh) (sg N (lJ (a:=W) (b:=b.length) q q) (st _ (aY q N q) (an q ?_))))));refine cu q (fun Ac=>?_) (fun Ac=>?_)
 ·(have Ao:=dT Ac);refine ns (st _ (dw (us:=[]) (cs:=(bS.cells (lC))) [] z36 zS q q trivial trivial q q) (aT (us:=(bS.cells (lC))) q q (by exact iK) (by exact fun u S=>bI (bS.one) u S) A (lB q) ?_));have F:=A;clear A;intro B8 E A;replace M:=M.step E (hI H);clear F;replace A:cg _ _ (bS.cells (lC)) _:=A;refine ar q (bE (aS ?_));exact eB (vs:=[(.agg (bS.cells (lC)).toArray),(.int .i64 ((2:Nat):Int))]) trivial q ⟨⟨_,q,ey (cs:=(bS.cells (lC))) (by exact iK) A⟩,q,tV⟩ q ⟨(lC),2,q,M,Vx,Oh,(nM R T (by simp_all) K (by rw[lM L];rw[if_neg I,if_neg J,if_neg Oh,if_pos (by(right;omega))]) Om)⟩
 (have Ao:=dF Ac);refine bh (bX (au (aP (ns (st _ (dh (bS.cells C) q (by exact iK) G q) (sf q LV (sl (u:=(.int .u64 ((C.n.getD 2 0:Nat):Int))) q bA G q ?_)))))));have Bp:C.n.getD 2 0<18446744073709551616:=(eW D.2.2.2.2.2.2.2.1 2);refine sf q ES (sl (u:=(.int .u64 ((C.n.getD 3 0:Nat):Int))) q bA G q ?_);have Bq:C.n.getD 3 0<18446744073709551616:=(eW D.2.2.2.2.2.2.2.1 3);refine mv q (ax ajD q (CW uQ C D (C.n.getD 2 0) Oh (C.n.getD 3 0) Oh W Oh) ?_);rintro en B9 ⟨X,rfl,E,Bc,g⟩;refine rv ?_;obtain⟨A,G,uQ,M⟩:=k4 E A G uQ M;refine an q (nm q (st _ (fw (a:=X) (b:=0) q q) (nt ?_)));refine cu q (fun Ad=>?_) (fun Ad=>?_)
 ·(have U:=dT Ad);refine ns (st _ (dw (us:=[]) (cs:=(bS.cells (lC))) [] z36 zS q q trivial trivial q q) (mv q (aT (us:=(bS.cells (lC))) q q (by exact iK) (by exact fun u S=>bI (bS.one) u S) A (lB q) ?_)));have F:=A;clear A;intro Ca E A;replace M:=M.step E (hI H);clear F;replace A:cg _ _ (bS.cells (lC)) _:=A;refine ar q (aS ?_);exact eB (vs:=[(.agg (bS.cells (lC)).toArray),(.int .i64 X)]) trivial q ⟨⟨_,q,ey (cs:=(bS.cells (lC))) (by exact iK) A⟩,q,tV⟩ q ⟨(lC),X,q,M,Vx,Vx,(nM R T (by simp_all) K (by rw[lM L];rw[if_neg I,if_neg J,if_neg Oh,if_neg (by rintro(h|h)<;>first|omega|simp_all),g,if_pos U]) U)⟩
 (have U:=dF Ad);refine bh (au (aP (ns (st _ (dh (bS.cells C) q (by exact iK) G q) (sf q ET (sl (u:=(.int .u64 ((C.n.getD 4 0:Nat):Int))) q bA G q ?_))))));have Br:C.n.getD 4 0<18446744073709551616:=(eW D.2.2.2.2.2.2.2.1 4);refine sf q EU (sl (u:=(.int .u64 ((C.n.getD 5 0:Nat):Int))) q bA G q ?_);have Bs:C.n.getD 5 0<18446744073709551616:=(eW D.2.2.2.2.2.2.2.1 5);refine mv q (ax ajD q (CW uQ C D (C.n.getD 4 0) Oh (C.n.getD 5 0) Oh W Oh) ?_);rintro en Cb ⟨Y,rfl,E,Bd,p⟩;refine rv ?_;obtain⟨A,G,M⟩:=k3 E A G M;refine an q (nm q (st _ (fw (a:=Y) (b:=0) q q) (nt ?_)));refine cu q (fun Ae=>?_) (fun Ae=>?_)
 ·(have f:=dT Ae);refine ns (st _ (dw (us:=[]) (cs:=(bS.cells (lC))) [] z36 zS q q trivial trivial q q) (mv q (aT (us:=(bS.cells (lC))) q q (by exact iK) (by exact fun u S=>bI (bS.one) u S) A (lB q) ?_)));have F:=A;clear A;intro Cc E A;replace M:=M.step E (hI H);clear F;replace A:cg _ _ (bS.cells (lC)) _:=A;refine ar q (aS ?_);exact eB (vs:=[(.agg (bS.cells (lC)).toArray),(.int .i64 Y)]) trivial q ⟨⟨_,q,ey (cs:=(bS.cells (lC))) (by exact iK) A⟩,q,tV⟩ q ⟨(lC),Y,q,M,Vx,Vx,(nM R T (by simp_all) K (by rw[lM L];rw[if_neg I,if_neg J,if_neg Oh,if_neg (by rintro(h|h)<;>first|omega|simp_all),g,if_neg U,p]) f)⟩
 (have f:=dF Ae);refine bh (au (ns (st _ (dh (bS.cells C) q (by exact iK) G q) (aT (us:=(bS.cells C)) q q (by exact iK) (by exact fun u S=>bI (bS.one) u S) A (lB q) ?_))));have F:=A;clear A;intro Cd E A;replace M:=M.step E (hI H);clear F;replace A:cg _ _ (bS.cells C) _:=A;refine ar q ?_;exact eB (vs:=[(.agg (bS.cells C).toArray),(.int .i64 ((0:Nat):Int))]) trivial q ⟨⟨_,q,ey (cs:=(bS.cells C)) (by exact iK) A⟩,q,tV⟩ q ⟨C,0,q,M,D,Oh,(adK R T (by simp_all) K (by rw[lM L];rw[if_neg I,if_neg J,if_neg Oh,if_neg (by rintro(h|h)<;>first|omega|simp_all),g,if_neg U,p];simpa using f))⟩
theorem ajE:ea Zp 27=true:=Ym
theorem fn9:ea Zp 9=true:=Ym
theorem alA:gY Zp 73=some [(0,1),(1,91)]:=Ym
theorem z73:fP Zp 73=some ([.slice none 0 0,.int .u32 0,.int .u32 0,.int .i64 0] ++ (List.replicate 64 (.int .u8 0) ++ (List.replicate 21 (.int .u64 0) ++ ([.int .u32 0,.int .u32 0,.int .u64 0])))):=Ym
set_option maxRecDepth 100000 in
theorem uW (uQ:Up w Q) {v0:Value} {b:Ly} (h0:Ls fF w Q v0 b) (p0:b.length≤140737488355328) :
  Calls Zp 13 #[v0] w fun en w'=>∃u0:Value,∃r0:Option (eR),∃r1:Nat,en = .returned (.tuple #[u0,(.int .i64 r1)])∧Md [] w w'∧Po fA 73 w' Q u0 r0∧r1<9223372036854775808∧kO b=(r0,r1):=by
 have L0:=h0.gd;have M:=Md.refl [] w;have t:=uQ;have l:∀b,Q b→Q b:=fun _ h=>h;refine enter (n:=28) Tryz.func13 q q q fun B=>ns (dP q (an q (nm q (ax fn9 q (YS uQ h0) ?_))));rintro en w1 ⟨C,L,rfl,D,P,z,X⟩;refine rv ?_;obtain⟨h0,uQ,M⟩:=k3 D h0 uQ M;refine mv q (se q q (se q q (cw z36 ?_)));intro V w2 O r D A;obtain⟨Q3,j,k,Z,J⟩:=kR uQ O r D;replace l:=tT l k;replace O:=ly M.size O;replace h0:=(h0.sub j).o D;replace M:=M.k D;replace uQ:=J;clear J j k;have c:ck [] w V:=.inr O;replace A:cg _ _ (bS.cells (lC)) _:=A;have y:bS.ok (lC):=(by exact⟨Om,Om,Om,q,q,q,q,(mh _),Om,Om,Om⟩);refine aT (us:=(bS.cells C)) q q (by exact iK) (by exact fun u hu=>bI (bS.one) u hu) A (lB q) ?_
 have g:=A;clear A;intro w5 D A;have v:∀b∈[V],¬Q3 b:=(hI Z);replace h0:=h0.md D v;replace uQ:=uQ.md D;replace M:=M.step D (hI c);clear g v;replace A:cg _ _ (bS.cells C) _:=A;refine an q (aP (nm q (st _ (fw (a:=L) (b:=0) q q) (nt ?_))));refine cu q (fun W=>?_) (fun W=>?_)
 ·(have H:=dT W);refine nm q (dP q (ar q (aS ?_)));exact eB (vs:=[(.pointer none),(.int .i64 L)]) trivial q ⟨q,q,tV⟩ q ⟨_,none,L,q,M,q,Vx,(by rw[kO,X,if_pos H])⟩
 (have H:=dF W);refine bh (au (ns (st _ (dh (bS.cells C) q (by exact iK) A q) (ax ajC q (OE uQ C P) ?_))));rintro en w6 ⟨U,Ab,rfl,D,Aa,e⟩;refine rv ?_;obtain⟨h0,A,uQ,M⟩:=k4 D h0 A uQ M;refine mv q (se q q (se q q (dP q (an q (aP ?_)))));have I:=A;refine dZ [(0,true),(1,true),(2,true),(4,true),(3,false)] [5,6,7,8] (fun w'=>Md [] w6 w') eD Ym ?_;intro w7 G;refine⟨G.mono Oq,?_⟩;have o:=G.mono (T:=[]) Oq;have rf:lp b=(C,0):=(by rw[X];simp only[Prod.mk.injEq,true_and];omega);have en:=QH rf e;refine mo q (mo q (mz (fun w' x=>jy 1 0 U gX nS q h0.eJ Oh Oh q ⟨_,q⟩) ?_));have Y:=h0.head (hi:=U) Oh;refine mz (fun w' x=>dh (bS.cells C) q (by exact iK) (I.o x) q) ?_;obtain⟨A,Y,uQ,M⟩:=k4 G A Y uQ M;refine mF ?_ rfl;refine ax ajE q (vO uQ Y Wy) ?_;rintro en w9 ⟨K,N,rfl,D,E,Ae⟩;refine rv ?_;obtain⟨A,uQ,M,o⟩:=k4 D A uQ M o;refine aI ⟨q,o,?_⟩;refine ej ?_;clear I;clear o;refine st _ (dw (us:=[[K],(bS.cells C)]) (cs:=(eR.cells (({b:=N,h:=C}:eR)) K)) [(0,0,1),(1,1,91)] z73 alA q q ⟨(fU E.bZ),q,tV⟩ ⟨q,q,tV⟩ q q) (gO (cs:=(eR.cells (({b:=N,h:=C}:eR)) K)) q q ?_);intro R Ah F i D f;have d:V≠R:=(by have:=A.lt;omega);obtain⟨Ac,j,k,p,J⟩:=kR uQ F i D
 replace l:=tT l k;replace F:=ly M.size F;replace E:=(E.sub j).o D;replace M:=M.k D;replace uQ:=J;clear J j k;refine dP q (ar q ?_);exact eB (vs:=[(.pointer (some ⟨R,0,none⟩)),(.int .i64 ((0:Nat):Int))]) trivial q ⟨q,q,tV⟩ q ⟨_,(some (({b:=N,h:=C}:eR))),0,q,M,⟨_,_,q,t _ F,f,dV Vx (E.sub (fun b S _=>l b S))⟩,Oh,(by rw[kO,X,if_neg H,e];simp_all)⟩
theorem oV:gZ Zp 101 2=true:=Ym
theorem lF:gZ Zp 40 3=true:=Ym
theorem fG:iO Zp 26 1=true:=Ym
theorem iR:xW Zp 26 1 8=true:=Ym
theorem afc:ea Zp 10=true:=Ym
theorem ahY:ea Zp 84=true:=Ym
theorem ahZ:ea Zp 85=true:=Ym
theorem qG:bg Zp 40 0=some 0:=Ym
theorem afI:bg Zp 40 1=some 1:=Ym
theorem nH:bg Zp 40 2=some 2:=Ym
theorem ahn:gY Zp 101=some [(0,1),(1,1)]:=Ym
theorem MD:gY Zp 40=some [(0,1),(1,1),(2,1)]:=Ym
theorem jr:Zp.underlying 29=some (.slice 26):=Ym
theorem UB:fP Zp 101=some [.int .u64 0,.slice none 0 0]:=Ym
theorem z40:fP Zp 40=some [.int .i64 0,.int .i64 0,.int .u64 0]:=Ym
abbrev mP:jf:={kind:=0,flags:=0,size:=0}
theorem vw (uQ:Up w Q) {v0:Value} {b:Ly} (h0:Ls fF w Q v0 b) (p:Nat) (a1:p<18446744073709551616) :
  Calls Zp 10 #[v0,(.int .u64 p)] w fun en w'=>∃r0:jf,∃r1:Nat,en = .returned (.tuple #[.agg (jf.cells r0).toArray,(.int .i64 r1)])∧Md [] w w'∧jf.ok r0∧r1<9223372036854775808∧e6 b p=(r0,r1):=by
 have L0:=h0.gd;have M:=Md.refl [] w;have Bb:=uQ;refine enter (n:=78) Tryz.func10 q q q fun B=>ns (cw z40 ?_);intro Ac w1 e Ar E A;obtain⟨Q2,sQ,sT,Au,Z⟩:=kR uQ e Ar E;replace e:=ly M.size e;replace h0:=(h0.sub sQ).o E;replace M:=M.k E;replace uQ:=Z;clear Z sQ sT;have F:ck [] w Ac:=.inr e;replace A:cg _ _ (jf.cells (mP)) _:=A;have A5:jf.ok (mP):=(by exact⟨Om,Om,Om⟩);refine an q (nm q (sL q gX h0.eJ (st _ (ew (a:=b.length) 18446744073709551616 q (by rw[u3];rfl) lZ q Oh) (dP q (nt (aP (bG (ns (mv q (st _ (pu (a:=p) (b:=8) q q Oh) (st _ (fw (a:=(p%8)) (b:=0) q q) ?_)))))))))));refine an q ?_;refine cu q (fun j=>?_) (fun j=>?_)
 ·(have H:=dT j);refine ns (st _ (dw (us:=[]) (cs:=(jf.cells (mP))) [] z40 MD q q trivial trivial q q) (aT (us:=(jf.cells (mP))) q q (by exact lF) (by exact fun u P=>bI (jf.one) u P) A (lB q) ?_));have C:=A;clear A;intro w4 E A;replace M:=M.step E (hI F);clear C;replace A:cg _ _ (jf.cells (mP)) _:=A;refine ar q (bE (aS ?_));exact eB (vs:=[(.agg (jf.cells (mP)).toArray),(.int .i64 ((3:Nat):Int))]) trivial q ⟨⟨_,q,ey (cs:=(jf.cells (mP))) (by exact lF) A⟩,q,tV⟩ q ⟨(mP),3,q,M,Vx,Oh,(abR H)⟩
 (have H:=dF j);refine ns (m2 q q (st _ (lJ (a:=p) (b:=b.length) q q) (mv q ?_)));refine dQ (t:=20) q (fun I=>?_) (fun I=>?_)
 ·(have Ae:=dT I);refine sk I (sk I (sk I (sk I (st _ (bF q I q) (an q (iF q q (ns (st _ (dw (us:=[]) (cs:=(jf.cells (mP))) [] z40 MD q q trivial trivial q q) (aT (us:=(jf.cells (mP))) q q (by exact lF) (by exact fun u P=>bI (jf.one) u P) A (lB q) ?_)))))))));have C:=A;clear A;intro w5 E A;replace M:=M.step E (hI F);clear C;replace A:cg _ _ (jf.cells (mP)) _:=A;refine ar q (bE (aS ?_));exact eB (vs:=[(.agg (jf.cells (mP)).toArray),(.int .i64 ((2:Nat):Int))]) trivial q ⟨⟨_,q,ey (cs:=(jf.cells (mP))) (by exact lF) A⟩,q,tV⟩ q ⟨(mP),2,q,M,Vx,Oh,(OA H Oh)⟩
 (have Ae:=dF I);refine sg I (bf q) (sg I (bf q) (sg I (nL (a:=b.length) (b:=p) 18446744073709551616 q q q Oh) (sg I (gy (a:=(b.length-p)) (b:=16) q q) (st _ (aY q I q) (an q ?_)))));refine cu q (fun k=>?_) (fun k=>?_)
 ·(have Ad:=dT k);refine ns (st _ (dw (us:=[]) (cs:=(jf.cells (mP))) [] z40 MD q q trivial trivial q q) (aT (us:=(jf.cells (mP))) q q (by exact lF) (by exact fun u P=>bI (jf.one) u P) A (lB q) ?_));have C:=A;clear A;intro w6 E A;replace M:=M.step E (hI F);clear C;replace A:cg _ _ (jf.cells (mP)) _:=A;refine ar q (bE (aS ?_));exact eB (vs:=[(.agg (jf.cells (mP)).toArray),(.int .i64 ((2:Nat):Int))]) trivial q ⟨⟨_,q,ey (cs:=(jf.cells (mP))) (by exact lF) A⟩,q,tV⟩ q ⟨(mP),2,q,M,Vx,Oh,(OA H Oh)⟩
 (have Ad:=dF k);refine bh (bX (au (ns (m2 q q (st _ (nL (a:=b.length) (b:=p) 18446744073709551616 q q q Oh) (an q (aP ?_)))))));have W:=h0;refine dZ [(0,true),(1,true),(2,true),(3,true),(4,true),(5,true),(6,true),(7,true),(8,true),(9,true),(10,true),(11,true),(12,false)] [13] (fun w'=>Md [] w1 w') eD Ym ?_;intro w7 U;refine⟨U.mono Oq,?_⟩;have MC:=U.mono (T:=[]) Oq;refine mo q (mo q (mz (fun w' g=>bQ (i:=p) 1 q q gX nS h0.eJ Oh) ?_));obtain⟨d,R⟩:=fK (l:=b) (i:=p) Oh;obtain⟨c9,Aq,f⟩:=W.get R;obtain⟨rfl,_⟩:=Aq;have Bn:=UInt8.toNat_lt d;replace f:At _ v0 (p*1) [(b8 d)]:=f;refine mz (fun w' g=>(dR (kk:=p*1) 0 q q tL (f.o g) q).to (b:=(b8 d)) q) (mz (fun w' g=>ew (a:=d.toNat) 9223372036854775808 q (by rw[u5];rfl) u3 q (lj (UInt8.toNat_lt _) Om)) (mo q (mo q (mz (fun w' g=>gW (a:=p) (b:=1) 18446744073709551616 q q q Oh) (mz (fun w' g=>bQ (i:=p+1) 1 q q gX nS h0.eJ Oh) ?_)))));obtain⟨N,L⟩:=fK (l:=b) (i:=p+1) Oh;obtain⟨Ba,Ak,S⟩:=W.get L;obtain⟨rfl,_⟩:=Ak;have A9:=UInt8.toNat_lt N;replace S:At _ v0 ((p+1)*1) [(b8 N)]:=S;refine mz (fun w' g=>(dR (kk:=(p+1)*1) 0 q q tL (S.o g) q).to (b:=(b8 N)) q) (mz (fun w' g=>ew (a:=N.toNat) 9223372036854775808 q (by rw[u5];rfl) u3 q (lj (UInt8.toNat_lt _) Om)) (mz (fun w' g=>dw (us:=[[(.int .i64 d.toNat)],[(.int .i64 N.toNat)]]) (cs:=(jf.cells (({kind:=d.toNat,flags:=N.toNat,size:=0}:jf)))) [(0,0,1),(1,1,1)] z40 MD q q ⟨q,q,tV⟩ ⟨q,q,tV⟩ q q) ?_))
 obtain⟨h0,A,uQ,M⟩:=k4 U h0 A uQ M;refine mF ?_ rfl;refine cw z40 ?_;intro h Bd V As E D;have Ap:=ly MC.size V;have Am:Ac≠h:=(by have:=A.lt;omega);obtain⟨Ao,sQ,sT,z,Z⟩:=kR uQ V As E;replace V:=ly M.size V;replace h0:=(h0.sub sQ).o E;obtain⟨A,M,MC⟩:=k3 E A M MC;replace uQ:=Z;clear Z sQ sT;have Y:ck [] w h:=.inr V;replace D:cg _ _ (jf.cells (mP)) _:=D;have Av:jf.ok (mP):=(by exact⟨Om,Om,Om⟩);refine aI ⟨q,MC,?_⟩;refine ej ?_;clear W;clear MC;refine aT (us:=(jf.cells (({kind:=d.toNat,flags:=N.toNat,size:=0}:jf)))) q q (by exact lF) (by exact fun u P=>bI (jf.one) u P) D (lB q) ?_;have X:=D;clear D;intro Be E D;have hS:∀b∈[h],¬Ao b:=(hI z);replace h0:=h0.md E hS;replace A:=A.md E Nv;replace uQ:=uQ.md E;replace M:=M.step E (hI Y);clear X hS;replace D:cg _ _ (jf.cells (({kind:=d.toNat,flags:=N.toNat,size:=0}:jf))) _:=D;refine aI ?_;clear f;clear S;refine au (ns (m2 q q (st _ (ew (a:=p) 9223372036854775808 q (by rw[lZ];rfl) u3 q Oh) (st _ (rA (a:=p) (b:=8) q q Oh) (ax yw q (pJ uQ h0 (((p+8:Nat):Int)) Oh (8) Oh) ?_)))));rintro en Bf ⟨c,Ay,rfl,E,Aw,O⟩;refine rv ?_;replace A:=A.o E
 obtain⟨D,M⟩:=k2 E D M;refine mv q (se q q (se q q (sf q nH (bK q q bA q D (lB q) ?_))));have X:=D;clear D;intro Bg E D;replace A:=A.md E Nv;replace M:=M.step E (hI Y);clear X;obtain⟨G,J⟩:∃y,y=({({kind:=d.toNat,flags:=N.toNat,size:=0}:jf)with size:=c}:jf):=⟨_,q⟩;replace D:cg _ _ (jf.cells ({({kind:=d.toNat,flags:=N.toNat,size:=0}:jf)with size:=c})) _:=D;rw[← J]at D;refine nt (aP (bG (ns (sf q qG (sl (u:=(.int .i64 G.kind)) q jl D q (st _ (gy (a:=G.kind) (b:=1) q q) (mv q ?_)))))));refine dQ (t:=55) q (fun K=>?_) (fun K=>?_)
 ·(have Ag:=dT K);refine sk K (sk K (sk K (st _ (bF q K q) (an q (iF q q (ns (st _ (dw (us:=[]) (cs:=(jf.cells (mP))) [] z40 MD q q trivial trivial q q) (aT (us:=(jf.cells (mP))) q q (by exact lF) (by exact fun u P=>bI (jf.one) u P) A (lB q) ?_))))))));have C:=A;clear A;intro Bh E A;replace M:=M.step E (hI F);clear C;replace A:cg _ _ (jf.cells (mP)) _:=A;refine ar q (bE (aS ?_));exact eB (vs:=[(.agg (jf.cells (mP)).toArray),(.int .i64 ((4:Nat):Int))]) trivial q ⟨⟨_,q,ey (cs:=(jf.cells (mP))) (by exact lF) A⟩,q,tV⟩ q ⟨(mP),4,q,M,Vx,Oh,(by rw[rD J H Oh (jW R) (jW L) (tZ O q Oh),if_pos Oh];rfl)⟩
 (have Ag:=dF K);refine sg K (aM q qG) (sg K ((aC q jl D q).to (b:=(.int .i64 G.kind)) q) (sg K (lJ (a:=G.kind) (b:=7) q q) (st _ (aY q K q) (an q ?_))));refine cu q (fun o=>?_) (fun o=>?_)
 ·(have Af:=dT o);refine ns (st _ (dw (us:=[]) (cs:=(jf.cells (mP))) [] z40 MD q q trivial trivial q q) (aT (us:=(jf.cells (mP))) q q (by exact lF) (by exact fun u P=>bI (jf.one) u P) A (lB q) ?_));have C:=A;clear A;intro Bi E A;replace M:=M.step E (hI F);clear C;replace A:cg _ _ (jf.cells (mP)) _:=A;refine ar q (bE (aS ?_));exact eB (vs:=[(.agg (jf.cells (mP)).toArray),(.int .i64 ((4:Nat):Int))]) trivial q ⟨⟨_,q,ey (cs:=(jf.cells (mP))) (by exact lF) A⟩,q,tV⟩ q ⟨(mP),4,q,M,Vx,Oh,(by rw[rD J H Oh (jW R) (jW L) (tZ O q Oh),if_pos Oh];rfl)⟩
 (have Af:=dF o);refine ns (sf q afI (sl (u:=(.int .i64 G.flags)) q jl D q (st _ (fw (a:=G.flags) (b:=0) q q) (an q ?_))));refine cu q (fun r=>?_) (fun r=>?_)
 ·(have Ah:=dT r);refine ns (st _ (dw (us:=[]) (cs:=(jf.cells (mP))) [] z40 MD q q trivial trivial q q) (aT (us:=(jf.cells (mP))) q q (by exact lF) (by exact fun u P=>bI (jf.one) u P) A (lB q) ?_));have C:=A;clear A;intro Bj E A;replace M:=M.step E (hI F);clear C;replace A:cg _ _ (jf.cells (mP)) _:=A;refine ar q (bE (aS ?_));exact eB (vs:=[(.agg (jf.cells (mP)).toArray),(.int .i64 ((7:Nat):Int))]) trivial q ⟨⟨_,q,ey (cs:=(jf.cells (mP))) (by exact lF) A⟩,q,tV⟩ q ⟨(mP),7,q,M,Vx,Oh,(by rw[rD J H Oh (jW R) (jW L) (tZ O q Oh),if_neg Oh,if_pos Oh];rfl)⟩
 (have Ah:=dF r);refine ns (sf q nH (sl (u:=(.int .u64 G.size)) q bA D q (st _ (gy (a:=G.size) (b:=16) q q) (an q ?_))));refine cu q (fun v=>?_) (fun v=>?_)
 ·(have Ai:=dT v);refine ns (st _ (dw (us:=[]) (cs:=(jf.cells (mP))) [] z40 MD q q trivial trivial q q) (aT (us:=(jf.cells (mP))) q q (by exact lF) (by exact fun u P=>bI (jf.one) u P) A (lB q) ?_));have C:=A;clear A;intro Bk E A;replace M:=M.step E (hI F);clear C;replace A:cg _ _ (jf.cells (mP)) _:=A;refine ar q (bE (aS ?_));exact eB (vs:=[(.agg (jf.cells (mP)).toArray),(.int .i64 ((5:Nat):Int))]) trivial q ⟨⟨_,q,ey (cs:=(jf.cells (mP))) (by exact lF) A⟩,q,tV⟩ q ⟨(mP),5,q,M,Vx,Oh,(by rw[rD J H Oh (jW R) (jW L) (tZ O q Oh),if_neg Oh,if_neg Oh,if_pos Oh];rfl)⟩
 (have Ai:=dF v);refine ns (sf q nH (sl (u:=(.int .u64 G.size)) q bA D q (mv q (st _ (lJ (a:=G.size) (b:=(b.length-p)) q q) (an q ?_)))));refine cu q (fun x=>?_) (fun x=>?_)
 ·(have Aj:=dT x);refine ns (st _ (dw (us:=[]) (cs:=(jf.cells (mP))) [] z40 MD q q trivial trivial q q) (aT (us:=(jf.cells (mP))) q q (by exact lF) (by exact fun u P=>bI (jf.one) u P) A (lB q) ?_));have C:=A;clear A;intro Bl E A;replace M:=M.step E (hI F);clear C;replace A:cg _ _ (jf.cells (mP)) _:=A;refine ar q (bE (aS ?_));exact eB (vs:=[(.agg (jf.cells (mP)).toArray),(.int .i64 ((2:Nat):Int))]) trivial q ⟨⟨_,q,ey (cs:=(jf.cells (mP))) (by exact lF) A⟩,q,tV⟩ q ⟨(mP),2,q,M,Vx,Oh,(by rw[rD J H Oh (jW R) (jW L) (tZ O q Oh),if_neg Oh,if_neg Oh,if_neg Oh,if_pos Oh];rfl)⟩
 (have Aj:=dF x);refine bh (bX (au (ns (st _ (dh (jf.cells G) q (by exact lF) D q) (aT (us:=(jf.cells G)) q q (by exact lF) (by exact fun u P=>bI (jf.one) u P) A (lB q) ?_)))));have C:=A;clear A;intro Bm E A;replace M:=M.step E (hI F);clear C;replace A:cg _ _ (jf.cells G) _:=A;refine ar q ?_;exact eB (vs:=[(.agg (jf.cells G).toArray),(.int .i64 ((0:Nat):Int))]) trivial q ⟨⟨_,q,ey (cs:=(jf.cells G)) (by exact lF) A⟩,q,tV⟩ q ⟨G,0,q,M,(by exact⟨Oh,Oh,Oh⟩),Oh,(by rw[rD J H Oh (jW R) (jW L) (tZ O q Oh),if_neg Oh,if_neg Oh,if_neg Oh,if_neg Oh])⟩
theorem yh (uQ:Up w Q) {v0:Value} {b:Ly} (h0:Ls fF w Q v0 b) (p:Nat) (a1:p<18446744073709551616) (kind:Nat) (a2:kind<9223372036854775808) (ahead:Nat) (a3:ahead<9223372036854775808) (iI:Nat) (a4:iI<9223372036854775808) (p0:ahead≤1000) (p1:iI≠0∧iI≤1000) :
  Calls Zp 84 #[v0,(.int .u64 p),(.int .i64 kind),(.int .i64 ahead),(.int .i64 iI)] w fun en w'=>∃u0:Value,∃r0:List UInt8,∃r1:Nat,en = .returned (.tuple #[u0,(.int .i64 r1)])∧Md [] w w'∧Ls fF w' Q u0 r0∧r1<9223372036854775808∧k9 b p kind ahead iI=(r0,r1):=by
 have o:=h0.gd;have M:=Md.refl [] w;have l:=uQ;have c:∀b,Q b→Q b:=fun _ h=>h;refine enter (n:=56) Tryz.func84 q q q fun B=>ns (dP q (an q (ns (m2 q q (ax afc q (vw uQ h0 p Oh) ?_)))));rintro en z ⟨A,N,rfl,L,I,f,J⟩;refine rv ?_;obtain⟨h0,uQ,M⟩:=k3 L h0 uQ M;refine mv q (se q q (se q q (cw z40 ?_)));intro R w2 G X L D;obtain⟨j,g,i,O,Y⟩:=kR uQ G X L;replace c:=tT c i;replace G:=ly M.size G;replace h0:=(h0.sub g).o L;replace M:=M.k L;replace uQ:=Y;clear Y g i;have P:ck [] w R:=.inr G;replace D:cg _ _ (jf.cells (mP)) _:=D;have e:jf.ok (mP):=(by exact⟨Om,Om,Om⟩);refine aT (us:=(jf.cells A)) q q (by exact lF) (by exact fun u k=>bI (jf.one) u k) D (lB q) ?_;have V:=D;clear D;intro w5 L D;have d:∀b∈[R],¬j b:=(hI O);replace h0:=h0.md L d;replace M:=M.step L (hI P);clear V d;replace D:cg _ _ (jf.cells A) _:=D;refine an q (nm q (st _ (rA (a:=16) (b:=ahead) q q Oh) (st _ (ew (a:=16+ahead) 18446744073709551616 q (by rw[u3];rfl) lZ q Oh) ?_)))
 refine an q (aP (bG (nm q (st _ (fw (a:=N) (b:=0) q q) (dP q (nt ?_))))));refine cu q (fun S=>?_) (fun S=>?_)
 ·(have E:=dT S);refine nm q (dP q (ar q (bE (aS ?_))));exact eB (vs:=[SN,(.int .i64 N)]) trivial q ⟨q,q,tV⟩ q ⟨_,[],N,q,M,(Ls.nil _ _ _),Vx,(by rw[k9]<;>simp(disch:=first|omega|assumption|simp) only [SS,reduceIte,J,E])⟩
 (have E:=dF S);refine ns (sf q qG (sl (u:=(.int .i64 A.kind)) q jl D q ?_));have v:A.kind<9223372036854775808:=I.1;refine mv q (st _ (fw (a:=A.kind) (b:=kind) q q) (an q ?_));refine cu q (fun T=>?_) (fun T=>?_)
 ·(have F:=dT T);refine ns (dP q (ar q (bE (aS ?_))));exact eB (vs:=[SN,(.int .i64 ((4:Nat):Int))]) trivial q ⟨q,q,tV⟩ q ⟨_,[],4,q,M,(Ls.nil _ _ _),Oh,(by rw[k9]<;>simp(disch:=first|omega|assumption|simp) only [SS,reduceIte,J,E,F])⟩
 (have F:=dF T);refine ns (sf q nH (sl (u:=(.int .u64 A.size)) q bA D q ?_));have x:A.size<18446744073709551616:=I.2.2;refine mv q (st _ (FN (a:=A.size) (b:=(16+ahead)) q q) (mv q ?_));refine dQ (t:=38) q (fun C=>?_) (fun C=>?_)
 ·(have H:=dT C);refine sk C (sk C (sk C (sk C (sk C (sk C (sk C (sk C (st _ (bF q C q) (an q (iF q q (ns (dP q ?_))))))))))));refine ar q (bE (aS ?_));exact eB (vs:=[SN,(.int .i64 ((5:Nat):Int))]) trivial q ⟨q,q,tV⟩ q ⟨_,[],5,q,M,(Ls.nil _ _ _),Oh,(by rw[k9]<;>simp(disch:=first|omega|assumption|simp) only [SS,reduceIte,J,E,F,H])⟩
 (have H:=dF C);refine sg C (aM q nH) (sg C ((aC q bA D q).to (b:=(.int .u64 A.size)) q) (sg C (bf q) (sg C (nL (a:=A.size) (b:=(16+ahead)) 18446744073709551616 q q q Oh) (sg C (bf q) (sg C (ew (a:=iI) 18446744073709551616 q (by rw[u3];rfl) lZ q Oh) (sg C (pu (a:=(A.size-(16+ahead))) (b:=iI) q q Oh) ?_))))));have y:(A.size-(16+ahead))%iI<iI:=Nat.mod_lt _ Oh;refine sg C (fw (a:=((A.size-(16+ahead))%iI)) (b:=0) q q) (st _ (aY q C q) (an q ?_));refine cu q (fun U=>?_) (fun U=>?_)
 ·(have K:=dT U);refine ns (dP q (ar q (bE (aS ?_))));exact eB (vs:=[SN,(.int .i64 ((5:Nat):Int))]) trivial q ⟨q,q,tV⟩ q ⟨_,[],5,q,M,(Ls.nil _ _ _),Oh,(by rw[k9]<;>simp(disch:=first|omega|assumption|simp) only [SS,reduceIte,J,E,F,H,K])⟩
 (have K:=dF U);refine bh (bX (au (ns ?_)));have r:=lO J E;refine m2 q q (st _ (gW (a:=p) (b:=16) 18446744073709551616 q q q Oh) (mv q (sf q nH (sl (u:=(.int .u64 A.size)) q bA D q (st _ (gW (a:=p) (b:=A.size) 18446744073709551616 q q q Oh) (st _ (jy 1 (p+16) (p+A.size) gX nS q h0.eJ Oh Oh ⟨_,q⟩ ⟨_,q⟩) ?_))))));have Z:=h0.part (p+16) (p+A.size) Oh Oh;refine dP q (ar q ?_);exact eB (vs:=[(nP 1 v0 (p+16) (p+A.size)),(.int .i64 ((0:Nat):Int))]) trivial q ⟨q,q,tV⟩ q ⟨_,((b.take (p+A.size)).drop (p+16)),0,q,M,(Z.sub (fun b W _=>c b W)),Oh,(by rw[k9]<;>simp(disch:=first|omega|assumption|simp) only [SS,reduceIte,J,E,F,H,K])⟩
theorem CN (uQ:Up w Q) {v0:Value} {b:Ly} (h0:Ls fF w Q v0 b) (p0:b.length%8=0) (p1:b.length≤140737488355328) :
  Calls Zp 85 #[v0] w fun en w'=>∃u0:Value,∃r0:List Nat,en = .returned (u0)∧Md [] w w'∧Ls ec w' Q u0 r0∧gN b 0 (b.length/8)=r0:=by
 have u:=h0.gd;have M:=Md.refl [] w;have Z:=uQ;have J:∀b,Q b→Q b:=fun _ h=>h;have D:∀b,Q b→b<w.heap.size→Q b:=fun _ h _=>h;refine enter (n:=24) Tryz.func85 q q q fun B=>ns (an q (ns (dP q (nt (aP (ns (dP q (nt (bG ?_)))))))));refine ni (fun(K:Value) (l:List Nat) (i:Nat)=>[(3,K),(4,(.int .i64 i)),(0,v0),(2,SN)]) (fun(K:Value) (l:List Nat) (i:Nat) w'=>∃Q':Nat→Prop,(∀b,Q' b→Q b)∧(∀b,Q b→b<w.heap.size→Q' b)∧Up w' Q'∧Md [] w w'∧Ow ec 26 (ck [] w) w' Q' K l∧Ls fF w' Q' v0 b∧i%8=0∧i≤b.length∧l=gN b 0 (i/8)) (fun(K:Value) (l:List Nat) (i:Nat)=>b.length-i) (x0:=SN) (x1:=([]:List Nat)) (x2:=0) ?_ ?_ ?_
 ·exact⟨q,q,q,q,tV⟩
 ·exact⟨Q,J,D,uQ,M,(Ow.nil _ _ _ _ _),h0,Oh,Oh,q⟩
 clear M uQ J D h0
 rintro K l i B y ⟨p,J,D,uQ,M,A,h0,P,f,F⟩;refine aP (ns (m2 q q (sL q gX h0.eJ (st _ (gy (a:=i) (b:=b.length) q q) (nt ?_)))));refine cu q (fun H=>?_) (fun H=>?_)
 ·(have O:=dT H);refine bh (au (aP (bG (ns (m2 q q (ax yw q (pJ uQ h0 (((i:Nat):Int)) Oh (8) Oh) ?_))))));rintro en z ⟨G,o,rfl,C,j,V⟩;refine rv ?_;obtain⟨A,h0,uQ,M⟩:=k4 C A h0 uQ M;refine mv q (se q q (se q q (dP q (an q (aQ ?_)))));have x:l.length=i/8:=(by rw[F,lR]);refine m2 q q (bO [[(.int .u64 G)]] jr iR Om Om q q ⟨q,tV⟩ ⟨q,tV⟩ q Om ?_);intro c w4 N g C E;have U:=uQ _ N;obtain⟨A,h0,uQ,M⟩:=k4 C A h0 uQ M;replace E:=Ls.e5 (m:=1) (R:=p) (T:=ec) (xs:=[G]) E ⟨_,_,q,⟨q,Oh⟩,q⟩ q Om U;refine gu (sz:=1) (by rfl) jr iR q q A E (fun _ h _=>h) uQ (ck.new M) Wy Wy ?_;intro t w7 r Y k S W C d _ X;have L:=A;clear A;replace J:=tT J k;replace D:=fun b I e=>Y b (D b I e) (lj e M.size);replace h0:=(h0.sub Y).md C d;replace uQ:=uQ.md C;replace M:=M.ez C (fun b I=>(L.2 b I).1);replace uQ:=S;clear S Y k d X;refine dP q (aI (bX (au (aQ (mv q (st _ (rA (a:=i) (b:=8) q q Oh) (an q ?_)))))));refine kF (x0:=t) (x1:=(l ++ ([G]))) (x2:=(i+8)) Oh ⟨q,(fu q Oh),q,q,tV⟩ ⟨r,J,D,uQ,M,W,h0,Oh,Oh,(PS F P Oh V)⟩
 (have O:=dF H);refine dY (bU (bU (eT (au (nm q (ar q ?_))))));exact d9 (v:=K) trivial q ⟨q,tV⟩ ⟨_,l,q,M,(A.ls (fun b I=>J b I) (ck.up Z)),(by rw[F,show i=b.length by omega])⟩
theorem wW (uQ:Up w Q) {v0:Value} {b:Ly} (h0:Ls fF w Q v0 b) (p:Nat) (a1:p<18446744073709551616) (p0:b.length≤140737488355328) :
  Calls Zp 81 #[v0,(.int .u64 p)] w fun en w'=>∃u0_0:Value,∃r0:jv,∃r1:Nat,en = .returned (.tuple #[.agg (jv.cells r0 u0_0).toArray,(.int .i64 r1)])∧Md [] w w'∧jv.ok r0∧Ls ec w' Q u0_0 r0.aD∧r1<9223372036854775808∧lg b p=(r0,r1):=by
 have L0:=h0.gd;have M:=Md.refl [] w;have Ae:=uQ;have k:∀b,Q b→Q b:=fun _ h=>h;refine enter (n:=27) Tryz.func81 q q q fun B=>ns (cw UB ?_);intro X w1 O j F A;obtain⟨Q2,x,y,V,c⟩:=kR uQ O j F;replace k:=tT k y;replace O:=ly M.size O;replace h0:=(h0.sub x).o F;replace M:=M.k F;replace uQ:=c;clear c x y;have L:ck [] w X:=.inr O;replace A:cg _ _ (jv.cells (({next:=0,aD:=[]}:jv)) SN) _:=A;have t:jv.ok (({next:=0,aD:=[]}:jv)):=(by exact(by exact(show(({next:=0,aD:=[]}:jv)).next<18446744073709551616 from Wy)));refine an q (ns (m2 q q (ax ahY q (yh uQ h0 p Oh 6 Oh 8 Oh 8 Oh Oh Oh) ?_)));rintro en w4 ⟨z,Aa,N,rfl,F,Y,v,U⟩;refine rv ?_;obtain⟨A,uQ,M⟩:=k3 F A uQ M;refine mv q (se q q (se q q (dP q (an q (aP (nm q (st _ (fw (a:=N) (b:=0) q q) (nt ?_))))))));refine cu q (fun S=>?_) (fun S=>?_)
 ·(have G:=dT S);refine ns (st _ (dw (us:=[]) (cs:=(jv.cells (({next:=0,aD:=[]}:jv)) SN)) [] UB ahn q q trivial trivial q q) (mv q (aT (us:=(jv.cells (({next:=0,aD:=[]}:jv)) SN)) q q (by exact oV) (by exact fun u g=>bI (jv.one q) u g) A (lB q) ?_)));have J:=A;clear A;intro w5 F A;replace M:=M.step F (hI L);clear J;replace A:cg _ _ (jv.cells (({next:=0,aD:=[]}:jv)) SN) _:=A;refine ar q (aS ?_);exact eB (vs:=[(.agg (jv.cells (({next:=0,aD:=[]}:jv)) SN).toArray),(.int .i64 N)]) trivial q ⟨⟨_,q,ey (cs:=(jv.cells (({next:=0,aD:=[]}:jv)) SN)) (by exact oV) A⟩,q,tV⟩ q ⟨_,(({next:=0,aD:=[]}:jv)),N,q,M,Vx,(Ls.nil _ _ _),Vx,(SY U G)⟩
 (have G:=dF S);refine bh (au (ns ?_));have bo:=ud U (Classical.not_not.1 G);refine mv q (ax ahZ q (CN uQ Y Oh Oh) ?_);rintro en w6 ⟨E,C,rfl,F,H,d⟩;refine rv ?_;obtain⟨A,M⟩:=k2 F A M;refine an q (aP ?_);have ra:=SZ U G d;have I:=H;refine dZ (ml 5) [5,6,7] (fun w'=>Md [] w6 w') eD Ym ?_;intro w7 K;refine⟨K.mono Oq,?_⟩;have MC:=K.mono (T:=[]) Oq;refine mo q (mz (fun w' e=>bQ (i:=0) 1 q q jr fG H.eJ Oh) ?_);obtain⟨R,Z⟩:=fK (l:=C) (i:=0) Oh;obtain⟨c9,f,P⟩:=I.get Z;obtain⟨rfl,r⟩:=f;replace P:At _ E (0*1) [(.int .u64 R)]:=P;refine mz (fun w' e=>(dR (kk:=0*1) 0 q q bA (P.o e) q).to (b:=(.int .u64 R)) q) (mo q (mz (fun w' e=>jy 1 1 C.length jr fG q H.eJ Oh Oh ⟨_,q⟩ q) ?_));have D:=H.tail (lo:=1) Oh;refine ej ?_;obtain⟨A,D,M⟩:=k3 K A D M;clear I;clear MC;refine st _ (dw (us:=[[(.int .u64 R)],[(nP 1 E 1 C.length)]]) (cs:=(jv.cells (({next:=R,aD:=C.drop 1}:jv)) (nP 1 E 1 C.length))) [(0,0,1),(1,1,1)] UB ahn q q ⟨q,(fU D.bZ),tV⟩ ⟨q,q,tV⟩ q q) (aT (us:=(jv.cells (({next:=R,aD:=C.drop 1}:jv)) (nP 1 E 1 C.length))) q q (by exact oV) (by exact fun u g=>bI (jv.one D.bZ) u g) A (lB q) ?_)
 have J:=A;clear A;intro Af F A;have o:∀b∈[X],¬Q2 b:=(hI V);replace D:=D.md F o;replace M:=M.step F (hI L);clear J o;replace A:cg _ _ (jv.cells (({next:=R,aD:=C.drop 1}:jv)) (nP 1 E 1 C.length)) _:=A;refine dP q (aI ?_);clear P;refine au (iP ?_);exact eB (vs:=[(.agg (jv.cells (({next:=R,aD:=C.drop 1}:jv)) (nP 1 E 1 C.length)).toArray),(.int .i64 ((0:Nat):Int))]) trivial q ⟨⟨_,q,ey (cs:=(jv.cells (({next:=R,aD:=C.drop 1}:jv)) (nP 1 E 1 C.length))) (by exact oV) A⟩,q,tV⟩ q ⟨_,(({next:=R,aD:=C.drop 1}:jv)),0,q,M,Vx,(D.sub (fun b W _=>k b W)),Oh,(by rw[ra.2.2,List.getD_eq_getElem?_getD,Z];rfl)⟩
theorem abN:ea Zp 37=true:=Ym
theorem uH:EI Zp 203=true:=Ym
theorem sK:bg Zp 73 0=some 0:=Ym
theorem qH:bg Zp 73 1=some 1:=Ym
theorem FJ:gY Zp 203=some [(0,1)]:=Ym
theorem z203:fP Zp 203=some [.int .i64 0]:=Ym
theorem uV (uQ:Up w Q) {v0:Value} {v:eR} (h0:Pt fA 73 w Q v0 v) :
  Calls Zp 37 #[v0] w fun en w'=>∃r0:Nat,en = .returned (.int .u64 r0)∧Md [] w w'∧r0<18446744073709551616∧v.b.length=r0:=by
 obtain⟨D,E,rfl,C,h0,qn⟩:=h0;obtain⟨G,rfl,I,A⟩:=eL qn;have M:=Md.refl [] w;have F:=uQ;refine enter (n:=9) Tryz.func37 q q q fun B=>ns (an q (nm q (sn q (sf q sK (sl (u:=G) q gD h0 q ?_)))));have H:=A.gd;refine sL q gX A.eJ (st _ (ew (a:=v.b.length) 18446744073709551616 q (by rw[u3];rfl) lZ q Oh) (ar q ?_));exact d9 (v:=(.int .u64 v.b.length)) trivial q ⟨q,tV⟩ ⟨v.b.length,q,M,Oh,q⟩
theorem qT (uQ:Up w Q) {v0:Value} {v:eR} (h0:Pt fA 73 w Q v0 v) (p:Nat) (a1:p<18446744073709551616) :
  Calls Zp 80 #[v0,(.int .u64 p)] w fun en w'=>(en = .returned (.tuple #[])∧Md [] w w'∧qY (v.h.n.getD 0 0) v.b p=0)∨∃cp:Nat,en = .panicked (FI (.iface 203 (.agg #[.int .i64 cp])))∧(cp≠0∧cp<9223372036854775808)∧Md [] w w'∧qY (v.h.n.getD 0 0) v.b p=cp:=by
 obtain⟨K,L,rfl,F,h0,qn⟩:=h0;obtain⟨S,rfl,I,H⟩:=eL qn;have M:=Md.refl [] w;have P:=uQ;refine enter (n:=19) Tryz.func80 q q q fun B=>ns (m2 q q (sn q (sf q qH (sf q pD (sl (u:=(.int .u64 ((v.h.n.getD 0 0:Nat):Int))) q bA h0 q ?_)))));have R:v.h.n.getD 0 0<18446744073709551616:=(eW I.2.2.2.2.2.2.2.1 0);refine st _ (gy (a:=p) (b:=(v.h.n.getD 0 0)) q q) (mv q ?_);refine dQ (t:=11) q (fun A=>?_) (fun A=>?_)
 ·(have D:=dT A);refine sk A (sk A (sk A (sk A (st _ (bF q A q) (nt (iF q q (aQ (st _ (dw (us:=[[(.int .i64 ((2:Nat):Int))]]) (cs:=(Stop.cells (({code:=2}:Stop)))) [(0,0,1)] z203 FJ q q ⟨q,tV⟩ ⟨q,tV⟩ q q) (st _ (ot uH q) (qi q ?_))))))))));exact gV (Or.inr ⟨2,q,⟨by omega,by omega⟩,M,(by unfold qY;rw[if_pos Oh])⟩)
 (have D:=dF A);refine sg A (bf q) (sg A (bf q) (gL q q q A abN q (uV uQ ⟨_,_,q,F,h0,dV I H⟩) ?_));rintro en T ⟨G,rfl,O,J,N⟩;refine rv ?_;replace M:=M.k O;refine sg A (zH (a:=p) (b:=G) q q) (st _ (aY q A q) (nt ?_));refine cu q (fun C=>?_) (fun C=>?_)
 ·(have E:=dT C);refine aQ (st _ (dw (us:=[[(.int .i64 ((2:Nat):Int))]]) (cs:=(Stop.cells (({code:=2}:Stop)))) [(0,0,1)] z203 FJ q q ⟨q,tV⟩ ⟨q,tV⟩ q q) (st _ (ot uH q) (qi q ?_)));exact gV (Or.inr ⟨2,q,⟨by omega,by omega⟩,M,(by unfold qY;rw[if_pos Oh])⟩)
 (have E:=dF C);refine bh ?_;exact eB (vs:=[]) trivial q trivial q (Or.inl ⟨q,M,(by unfold qY;rw[if_neg Oh])⟩)
theorem sA (uQ:Up w Q) (c:Nat) (a0:c<9223372036854775808) :
  Calls Zp 82 #[(.int .i64 c)] w fun en w'=>(en = .returned (.tuple #[])∧Md [] w w'∧c=0)∨∃cp:Nat,en = .panicked (FI (.iface 203 (.agg #[.int .i64 cp])))∧(cp≠0∧cp<9223372036854775808)∧Md [] w w'∧c=cp:=by
 have M:=Md.refl [] w;have D:=uQ;refine enter (n:=7) Tryz.func82 q q q fun B=>nm q (st _ (fw (a:=c) (b:=0) q q) (nt ?_));refine cu q (fun A=>?_) (fun A=>?_)
 ·(have C:=dT A);refine aQ (mv q (st _ (dw (us:=[[(.int .i64 c)]]) (cs:=(Stop.cells (({code:=c}:Stop)))) [(0,0,1)] z203 FJ q q ⟨q,tV⟩ ⟨q,tV⟩ q q) (st _ (ot uH q) (qi q ?_))));exact gV (Or.inr ⟨c,q,⟨by omega,by omega⟩,M,q⟩)
 (have C:=dF A);refine bh ?_;exact eB (vs:=[]) trivial q trivial q (Or.inl ⟨q,M,Oh⟩)
theorem EL (uQ:Up w Q) {v0:Value} {b:Ly} (h0:Ls fF w Q v0 b) (p:Nat) (a1:p<18446744073709551616) (kind:Nat) (a2:kind<9223372036854775808) (n:Nat) (a3:n<9223372036854775808) (p0:n≤1000) (p1:b.length≤140737488355328) :
  Calls Zp 126 #[v0,(.int .u64 p),(.int .i64 kind),(.int .i64 n)] w fun en w'=>∃u0:Value,∃r0:List Nat,∃u1:Value,∃r1:List UInt8,∃r2:Nat,en = .returned (.tuple #[u0,u1,(.int .i64 r2)])∧Md [] w w'∧Ls ec w' Q u0 r0∧Ls fF w' Q u1 r1∧r2<9223372036854775808∧lX b p kind n=(r0,r1,r2):=by
 have L0:=h0.gd;have M:=Md.refl [] w;have Ao:=uQ;have Y:∀b,Q b→Q b:=fun _ h=>h;have H:∀b,Q b→b<w.heap.size→Q b:=fun _ h _=>h;refine enter (n:=71) Tryz.func126 q q q fun B=>ns (dP q (dP q (an q (ns (m2 q q (ax afc q (vw uQ h0 p Oh) ?_))))));rintro en w1 ⟨A,X,rfl,E,O,Ax,S⟩;refine rv ?_;obtain⟨h0,uQ,M⟩:=k3 E h0 uQ M;refine mv q (se q q (se q q (cw z40 ?_)));intro c w2 K Ag E C;obtain⟨Q3,o,sT,N,W⟩:=kR uQ K Ag E;replace Y:=tT Y sT;replace H:=fun b I hl=>o b (H b I hl) (lj hl M.size);replace K:=ly M.size K;replace h0:=(h0.sub o).o E;replace M:=M.k E;replace uQ:=W;clear W o sT;have Z:ck [] w c:=.inr K;replace C:cg _ _ (jf.cells (mP)) _:=C;have Aw:jf.ok (mP):=(by exact⟨Om,Om,Om⟩);refine aT (us:=(jf.cells A)) q q (by exact lF) (by exact fun u hu=>bI (jf.one) u hu) C (lB q) ?_;have k:=C;clear C;intro w5 E C;have hS:∀b∈[c],¬Q3 b:=(hI N);replace h0:=h0.md E hS;replace uQ:=uQ.md E;replace M:=M.step E (hI Z);clear k hS;replace C:cg _ _ (jf.cells A) _:=C;refine an q (aP (bG (nm q (st _ (fw (a:=X) (b:=0) q q) (dP q (nt ?_))))));refine cu q (fun e=>?_) (fun e=>?_)
 ·(have G:=dT e);refine nm q (dP q (dP q (ar q (bE (aS ?_)))));exact eB (vs:=[SN,SN,(.int .i64 X)]) trivial q ⟨q,q,q,tV⟩ q ⟨_,[],_,[],X,q,M,(Ls.nil _ _ _),(Ls.nil _ _ _),Vx,(by rw[lX]<;>simp(disch:=first|omega|assumption|simp) only [SS,reduceIte,S,G])⟩
 (have G:=dF e);refine ns (sf q qG (sl (u:=(.int .i64 A.kind)) q jl C q ?_));have q6:A.kind<9223372036854775808:=O.1;refine mv q (st _ (fw (a:=A.kind) (b:=kind) q q) (an q ?_));refine cu q (fun f=>?_) (fun f=>?_)
 ·(have L:=dT f);refine ns (dP q (dP q (ar q (bE (aS ?_)))));exact eB (vs:=[SN,SN,(.int .i64 ((4:Nat):Int))]) trivial q ⟨q,q,q,tV⟩ q ⟨_,[],_,[],4,q,M,(Ls.nil _ _ _),(Ls.nil _ _ _),Oh,(by rw[lX]<;>simp(disch:=first|omega|assumption|simp) only [SS,reduceIte,S,G,L])⟩
 (have L:=dF f);refine ns (sf q nH (sl (u:=(.int .u64 A.size)) q bA C q ?_));have q7:A.size<18446744073709551616:=O.2.2;refine mv q (st _ (nK (a:=8) (b:=n) 9223372036854775808 q q q Oh) (st _ (rA (a:=16) (b:=(8*n)) q q Oh) (st _ (ew (a:=16+(8*n)) 18446744073709551616 q (by rw[u3];rfl) lZ q Oh) (st _ (FN (a:=A.size) (b:=(16+(8*n))) q q) (an q ?_)))));refine cu q (fun g=>?_) (fun g=>?_)
 ·(have P:=dT g);refine ns (dP q (dP q (ar q (bE (aS ?_)))));exact eB (vs:=[SN,SN,(.int .i64 ((5:Nat):Int))]) trivial q ⟨q,q,q,tV⟩ q ⟨_,[],_,[],5,q,M,(Ls.nil _ _ _),(Ls.nil _ _ _),Oh,(by rw[lX]<;>simp(disch:=first|omega|assumption|simp) only [SS,reduceIte,S,G,L,P])⟩
 (have P:=dF g);refine bh (bX (au (ns ?_)));have ff:=lO S G;refine m2 q q (st _ (gW (a:=p) (b:=16) 18446744073709551616 q q q Oh) (mv q (sf q nH (sl (u:=(.int .u64 A.size)) q bA C q (st _ (gW (a:=p) (b:=A.size) 18446744073709551616 q q q Oh) (st _ (jy 1 (p+16) (p+A.size) gX nS q h0.eJ Oh Oh ⟨_,q⟩ ⟨_,q⟩) ?_))))));have D:=h0.part (p+16) (p+A.size) Oh Oh;refine an q (ns ?_);have bl:((b.take (p+A.size)).drop (p+16)).length=A.size-16:=(by simp only[List.length_drop,List.length_take];omega);refine an q (aP (ns (m2 q q (nt (bG ?_)))));refine ni (fun(v:Value) (l:List Nat) (i:Nat)=>[(14,v),(50,(.int .i64 i)),(3,(.int .i64 n)),(8,SN),(9,SN),(10,(.int .i64 ((0:Nat):Int))),(13,(nP 1 v0 (p+16) (p+A.size))),(49,(.int .i64 n))]) (fun(v:Value) (l:List Nat) (i:Nat) w'=>∃Q':Nat→Prop,(∀b,Q' b→Q b)∧(∀b,Q b→b<w.heap.size→Q' b)∧Up w' Q'∧Md [] w w'∧Ow ec 26 (ck [] w) w' Q' v l∧Ls fF w' Q' (nP 1 v0 (p+16) (p+A.size)) ((b.take (p+A.size)).drop (p+16))∧i≤n∧l=gN ((b.take (p+A.size)).drop (p+16)) 0 i) (fun(v:Value) (l:List Nat) (i:Nat)=>n-i) (x0:=SN) (x1:=([]:List Nat)) (x2:=0) ?_ ?_ ?_
 ·exact⟨q,q,q,q,q,q,q,q,tV⟩
 ·exact⟨Q3,Y,H,uQ,M,(Ow.nil _ _ _ _ _),D,Oh,q⟩
 clear M uQ Y H N h0 C D
 rintro v l i B w9 ⟨Aj,Y,H,uQ,M,F,D,Au,V⟩;refine ns (st _ (gy (a:=i) (b:=n) q q) (nt (aP ?_)));refine cu q (fun j=>?_) (fun j=>?_)
 ·(have z:=dT j);refine bh (au (aP (bG (nm q (an q (ns (m2 q q (st _ (nK (a:=8) (b:=i) 9223372036854775808 q q q Oh) (ax yw q (pJ uQ D (((8*i:Nat):Int)) Oh (8) Oh) ?_)))))))));rintro en A5 ⟨J,Aq,rfl,E,Am,Aa⟩;refine rv ?_;obtain⟨F,D,uQ,M⟩:=k4 E F D uQ M;refine mv q (se q q (se q q (dP q (an q (aQ ?_)))));have ll:l.length=i:=(by rw[V,lR]);refine m2 q q (bO [[(.int .u64 J)]] jr iR Om Om q q ⟨q,tV⟩ ⟨q,tV⟩ q Om ?_);intro As A9 y Av E U;have Ai:=uQ _ y;obtain⟨F,D,uQ,M⟩:=k4 E F D uQ M;replace U:=Ls.e5 (m:=1) (R:=Aj) (T:=ec) (xs:=[J]) U ⟨_,_,q,⟨q,Oh⟩,q⟩ q Om Ai;refine gu (sz:=1) (by rfl) jr iR q q F U (fun _ h _=>h) uQ (ck.new M) Wy Wy ?_;intro Ap Ba Ak o sT W Ac E hS _ Al;have x:=F;clear F;replace Y:=tT Y sT;replace H:=fun b I hl=>o b (H b I hl) (lj hl M.size);replace D:=(D.sub o).md E hS;replace uQ:=uQ.md E;replace M:=M.ez E (fun b I=>(x.2 b I).1);replace uQ:=W;clear W o sT hS Al;refine dP q (aI (bX (au (aQ (st _ (rA (a:=i) (b:=1) q q Oh) (mv q (nt ?_)))))))
  refine kF (x0:=Ap) (x1:=(l ++ ([J]))) (x2:=(i+1)) Oh ⟨q,(fu q Oh),q,q,q,q,q,q,tV⟩ ⟨Ak,Y,H,uQ,M,Ac,D,Oh,(LJ V (by rw[bl];omega) Aa)⟩
 (have z:=dF j);refine dY (bU (bU (eT (au (ns (m2 q q (mv q (st _ (nK (a:=8) (b:=n) 9223372036854775808 q q q Oh) (st _ (jy 1 (8*n) (((b.take (p+A.size)).drop (p+16)).length) gX nS q D.eJ Oh Oh ⟨_,q⟩ q) ?_)))))))));have Af:=D.tail (lo:=8*n) Oh;refine ax ajE q (vO uQ Af Wy) ?_;rintro en Bb ⟨r,t,rfl,E,d,Ab⟩;refine rv ?_;obtain⟨F,M⟩:=k2 E F M;refine dP q (dP q (ar q ?_));exact eB (vs:=[v,r,(.int .i64 ((0:Nat):Int))]) trivial q ⟨q,q,q,tV⟩ q ⟨_,l,_,t,0,q,M,(F.ls (fun b I=>Y b I) (ck.up Ao)),(d.sub (fun b I _=>Y b I)),Oh,((zI (l:=l) S G L P (by rw[V,show i=n by omega])).trans (by rw[Ab]))⟩
theorem nv:gZ Zp 117 4=true:=Ym
theorem ahd:ea Zp 126=true:=Ym
theorem ahp:gY Zp 117=some [(0,1),(1,1),(2,1),(3,1)]:=Ym
theorem z117:fP Zp 117=some [.int .u64 0,.int .u64 0,.int .u64 0,.slice none 0 0]:=Ym
abbrev Zb:js:={cQ:=0,bT:=0,dat:=0,ak:=[]}
theorem uI (uQ:Up w Q) {v0:Value} {b:Ly} (h0:Ls fF w Q v0 b) (p:Nat) (a1:p<18446744073709551616) (p0:b.length≤140737488355328) :
  Calls Zp 92 #[v0,(.int .u64 p)] w fun en w'=>∃u0_0:Value,∃r0:js,∃r1:Nat,en = .returned (.tuple #[.agg (js.cells r0 u0_0).toArray,(.int .i64 r1)])∧Md [] w w'∧js.ok r0∧Ls fF w' Q u0_0 r0.ak∧r1<9223372036854775808∧lu b p=(r0,r1):=by
 have L0:=h0.gd;have M:=Md.refl [] w;have Ap:=uQ;have tQ:∀b,Q b→Q b:=fun _ h=>h;refine enter (n:=31) Tryz.func92 q q q fun B=>ns (cw z117 ?_);intro g w1 U Aa J A;obtain⟨Q2,sQ,sT,e,t⟩:=kR uQ U Aa J;replace tQ:=tT tQ sT;replace U:=ly M.size U;replace h0:=(h0.sub sQ).o J;replace M:=M.k J;replace uQ:=t;clear t sQ sT;have O:ck [] w g:=.inr U;replace A:cg _ _ (js.cells (Zb) SN) _:=A;have Af:js.ok (Zb):=(by exact⟨Om,Om,Om⟩);refine an q (ns (m2 q q (ax ahd q (EL uQ h0 p Oh 2 Oh 3 Oh Oh Oh) ?_)));rintro en w4 ⟨P,R,E,F,S,rfl,J,H,D,Ag,j⟩;refine rv ?_;obtain⟨A,M⟩:=k2 J A M;refine mv q (se q q (se q q (se q q (dP q (dP q (an q (aP (nm q (st _ (fw (a:=S) (b:=0) q q) (nt ?_))))))))));refine cu q (fun d=>?_) (fun d=>?_)
 ·(have K:=dT d);refine ns (st _ (dw (us:=[]) (cs:=(js.cells (Zb) SN)) [] z117 ahp q q trivial trivial q q) (mv q (aT (us:=(js.cells (Zb) SN)) q q (by exact nv) (by exact fun u z=>bI (js.one q) u z) A (lB q) ?_)));have L:=A;clear A;intro w5 J A;replace M:=M.step J (hI O);clear L;replace A:cg _ _ (js.cells (Zb) SN) _:=A;refine ar q (aS ?_);exact eB (vs:=[(.agg (js.cells (Zb) SN).toArray),(.int .i64 S)]) trivial q ⟨⟨_,q,ey (cs:=(js.cells (Zb) SN)) (by exact nv) A⟩,q,tV⟩ q ⟨_,(Zb),S,q,M,Vx,(Ls.nil _ _ _),Vx,((FU j).1 K)⟩
 (have K:=dF d);refine bh (au (aP ?_));have rd:=(FU j).2 K;have C:=H;refine dZ (ml 10) [10,11,12] (fun w'=>Md [] w4 w') eD Ym ?_;intro w6 N;refine⟨N.mono Oq,?_⟩;have MC:=N.mono (T:=[]) Oq;refine mo q (mz (fun w' Z=>bQ (i:=0) 1 q q jr fG H.eJ Oh) ?_);obtain⟨X,o⟩:=fK (l:=R) (i:=0) Oh;obtain⟨c8,x,V⟩:=C.get o;obtain⟨rfl,Ad⟩:=x;replace V:At _ P (0*1) [(.int .u64 X)]:=V;refine mz (fun w' Z=>(dR (kk:=0*1) 0 q q bA (V.o Z) q).to (b:=(.int .u64 X)) q) (mo q (mz (fun w' Z=>bQ (i:=1) 1 q q jr fG H.eJ Oh) ?_));obtain⟨Y,r⟩:=fK (l:=R) (i:=1) Oh;obtain⟨Al,y,W⟩:=C.get r;obtain⟨rfl,Ae⟩:=y;replace W:At _ P (1*1) [(.int .u64 Y)]:=W;refine mz (fun w' Z=>(dR (kk:=1*1) 0 q q bA (W.o Z) q).to (b:=(.int .u64 Y)) q) (mo q (mz (fun w' Z=>bQ (i:=2) 1 q q jr fG H.eJ Oh) ?_));obtain⟨G,c⟩:=fK (l:=R) (i:=2) Oh;obtain⟨Am,k,I⟩:=C.get c;obtain⟨rfl,v⟩:=k;replace I:At _ P (2*1) [(.int .u64 G)]:=I;refine mz (fun w' Z=>(dR (kk:=2*1) 0 q q bA (I.o Z) q).to (b:=(.int .u64 G)) q) (mo q (ej ?_));obtain⟨A,D,M⟩:=k3 N A D M;clear C;clear MC;refine st _ (dw (us:=[[(.int .u64 X)],[(.int .u64 Y)],[(.int .u64 G)],[E]]) (cs:=(js.cells (({cQ:=X,bT:=Y,dat:=G,ak:=F}:js)) E)) [(0,0,1),(1,1,1),(2,2,1),(3,3,1)] z117 ahp q q ⟨q,q,q,(fU D.bZ),tV⟩ ⟨q,q,q,q,tV⟩ q q) ?_
 refine aT (us:=(js.cells (({cQ:=X,bT:=Y,dat:=G,ak:=F}:js)) E)) q q (by exact nv) (by exact fun u z=>bI (js.one D.bZ) u z) A (lB q) ?_;have L:=A;clear A;intro Aq J A;have hS:∀b∈[g],¬Q2 b:=(hI e);replace D:=D.md J hS;replace M:=M.step J (hI O);clear L hS;replace A:cg _ _ (js.cells (({cQ:=X,bT:=Y,dat:=G,ak:=F}:js)) E) _:=A;refine dP q (aI ?_);clear V;clear W;clear I;refine au (iP ?_);exact eB (vs:=[(.agg (js.cells (({cQ:=X,bT:=Y,dat:=G,ak:=F}:js)) E).toArray),(.int .i64 ((0:Nat):Int))]) trivial q ⟨⟨_,q,ey (cs:=(js.cells (({cQ:=X,bT:=Y,dat:=G,ak:=F}:js)) E)) (by exact nv) A⟩,q,tV⟩ q ⟨_,(({cQ:=X,bT:=Y,dat:=G,ak:=F}:js)),0,q,M,(by exact⟨Oh,Oh,Oh⟩),(D.sub (fun b f _=>tQ b f)),Oh,(by rw[rd.2];simp only[List.getD_eq_getElem?_getD,o,r,c];rfl)⟩
theorem afi:ea Zp 80=true:=Ym
theorem abP:ea Zp 82=true:=Ym
theorem ajW:ea Zp 92=true:=Ym
theorem mG:jF Zp 46=true:=Ym
theorem aaA (uQ:Up w Q) {v0:Value} {v:eR} (h0:Pt (tPt fA 73) 46 w Q v0 v) {v1:Value} {p:Nat} (h1:Pt ec 26 w Q v1 p) {b2:Nat} {v2_0:Value} (m:js) (h2:cg w b2 (js.cells m v2_0) 117) (n2:¬Q b2) (a2_0:js.ok m) (a2_1:Ls fF w Q v2_0 m.ak) (p0:v.b.length≤140737488355328) :
  Calls Zp 91 #[v0,v1,.pointer (some ⟨b2,0,none⟩)] w fun en w'=>(∃m29:js,∃u52_0:Value,en = .returned (.tuple #[])∧Md [b2] w w'∧cg w' b2 (js.cells m29 u52_0) 117∧¬Q b2∧js.ok m29∧Ls fF w' Q u52_0 m29.ak∧ji (v.h.n.getD 0 0) v.b p=(m29,0))∨∃cp:Nat,en = .panicked (FI (.iface 203 (.agg #[.int .i64 cp])))∧(cp≠0∧cp<9223372036854775808)∧Md [b2] w w'∧cg w' b2 (js.cells m v2_0) 117∧(ji (v.h.n.getD 0 0) v.b p).2=cp:=by
 obtain⟨c,Be,rfl,t,h0,qn⟩:=h0;obtain⟨v1,rfl,Al⟩:=qn;obtain⟨d,Bf,rfl,y,h1,Aq⟩:=h1;obtain⟨rfl,Ba⟩:=Aq;have F:=n2;have Aa:ck [b2] w b2:=.inl Oq;have Ae:c≠b2:=fun h=>F (h ▸ t);have Af:d≠b2:=fun h=>F (h ▸ y);have M:=Md.refl [b2] w;have Bu:=uQ;have tQ:∀b,Q b→Q b:=fun _ h=>h;refine enter (n:=20) Tryz.func91 q q q fun B=>ns (sl (u:=v1) q mG h0 q ?_);have I:=Al;obtain⟨e,Ax,rfl,N,I,Ab⟩:=I;obtain⟨v4,rfl,q5,K⟩:=eL Ab;have z:e≠b2:=fun h=>F (h ▸ N);refine sl (u:=(.int .u64 p)) q bA h1 q (j4 afi q (qT uQ ⟨_,_,q,N,I,dV q5 K⟩ p Oh) ?_);rintro en w7 (⟨rfl,C,P⟩|⟨cp,rfl,S,C,P⟩)
 rotate_left
 ·exact .inr ⟨_,q,gV (Or.inr ⟨cp,q,S,M.k C,h2.o C,(ahQ P S.1)⟩)⟩
 refine .inl ⟨_,q,?_⟩;obtain⟨h2,h0,h1,I,K,uQ,M⟩:=k7 C h2 h0 h1 I K uQ M;refine nt (aP ?_);have o:=h2.lt;refine BU (fun w'=>Md [] w7 w') (R:=fun a' w'=>∃(A':Fr 20) (Z:Nat) (a:Value) (V:js) (f:Nat),a'=b9 A' [] [(3,.pointer (some ⟨Z,0,none⟩)),(4,.int .i64 f),(0,(.pointer (some ⟨c,0,none⟩))),(1,(.pointer (some ⟨d,0,none⟩))),(2,(.pointer (some ⟨b2,0,none⟩)))]∧Md [] w7 w'∧w7.heap.size≤Z∧Z<w'.heap.size∧cg w' Z (js.cells V a) 117∧js.ok V∧f<9223372036854775808∧Ls fF w' Q a V.ak∧lu v.b p=(V,f)) eD ?_ ?_
 ·rintro _ w8 ⟨A',Z,a,V,f,rfl,C,gA,lA,hA,Am,qA,G,k⟩
  have A9:=uQ _ gA;obtain⟨h2,uQ,M⟩:=k3 C h2 uQ M;have Ai:b2≠Z:=(by have:=o;omega);refine au (nm q (j4 abP q (sA uQ f Oh) ?_));rintro en w9 (⟨rfl,C,Y⟩|⟨cp,rfl,S,C,Y⟩)
  rotate_left
  ·exact .inr ⟨_,q,gV (Or.inr ⟨cp,q,S,M.k C,h2.o C,(by rw[abL P k];exact Y)⟩)⟩
  refine .inl ⟨_,q,?_⟩;obtain⟨h2,G,hA,M⟩:=k4 C h2 G hA M;refine nt (aQ (st _ (dh (js.cells V a) q (by exact nv) hA q) (aT (us:=(js.cells V a)) q q (by exact nv) (by exact fun u l=>bI (js.one G.bZ) u l) h2 (lB q) ?_)));have Aj:=h2;clear h2;intro Bv C h2;have hS:∀b∈[b2],¬Q b:=(hI F);replace G:=G.md C hS;replace M:=M.step C (hI Aa);clear Aj hS;replace h2:cg _ _ (js.cells V a) _:=h2;refine aI ?_;exact eB (vs:=[]) trivial q trivial q (Or.inl ⟨V,_,q,M,h2,n2,Am,(G.sub (fun b hb _=>tQ b hb)),(by rw[abL P k,Y])⟩)
 intro w1 A
 refine iw (i:=0) _ q Ym Ym (A) (fun w' H=>aC q mG (h0.o H) q) (iw (i:=1) _ q Ym Ym (A) (fun w' H=>dr q) (iw (i:=2) _ q Ym Ym (A) (fun w' H=>aM q sK) (iw (i:=3) _ q Ym Ym (A) (fun w' H=>aC q gD (I.o H) q) (iw (i:=4) _ q Ym Ym (A) (fun w' H=>aC q bA (h1.o H) q) ?_))));refine HE (i:=5) (j:=9) Ym q q q q ?_ ?_
 ·refine ax ajW q (uI (uQ.md A) (K.o A) p Oh Oh) ?_;rintro en xa ⟨ua,ra,ca,rfl,J,ka,la,qa,fa⟩;refine rv ?_;refine aI ⟨q,A.k J,?_⟩;refine iw (i:=6) _ q Ym Ym (A.k J) (fun w' H=>bf q) (iw (i:=7) _ q Ym Ym (A.k J) (fun w' H=>jC q q) (iw (i:=8) _ q Ym Ym (A.k J) (fun w' H=>jC q q) (ic (i:=9) Ym q q (cw z117 ?_))));intro b5 x5 g5 l5 r Ag;refine aI ⟨q,(A.k J).k r,?_⟩;refine ic (i:=10) Ym q q (aT (us:=(js.cells ra ua)) q q (by exact nv) (by exact fun u l=>bI (js.one la.bZ) u l) Ag (lB q) ?_);intro ya T D;refine aI ⟨q,((A.k J).k r).fW T (ly (A.k J).size g5),?_⟩;replace D:cg ya b5 (js.cells ra ua) 117:=D;refine ic (i:=11) Ym q q (dP q ?_);refine aI ⟨q,((A.k J).k r).fW T (ly (A.k J).size g5),?_⟩;refine tX Ym ?_;exact⟨_,b5,ua,ra,ca,(ga (by exact⟨q,q,q,q,q,tV⟩)).symm,((A.k J).k r).fW T (ly (A.k J).size g5),(ly (A.k J).size g5),D.lt,D,ka,qa,(((la.sub (Q':=fun x=>Q x∧x≠b5) (fun x L hl=>⟨L,by omega⟩)).o r).md T (by intro x L;simp at L;subst L;exact fun h=>h.2 q)).sub (fun x L _=>L.1),fa⟩
 refine cw z117 ?_;intro b6 x6 g l6 O X;refine aI ⟨q,A.k O,?_⟩;obtain⟨Q6,s6,t6,n6,u6⟩:=kR (uQ.md A) g l6 O;refine ic (i:=5) Ym q q (ax ajW q (uI u6 (((K.o A).sub s6).o O) p Oh Oh) ?_);rintro en xb ⟨ub,rb,cb,rfl,W,kb,lb,qb,fb⟩;refine rv ?_;replace X:=X.o W;refine aI ⟨q,(A.k O).k W,?_⟩;refine iw (i:=6) _ q Ym Ym ((A.k O).k W) (fun w' H=>bf q) (iw (i:=7) _ q Ym Ym ((A.k O).k W) (fun w' H=>jC q q) (iw (i:=8) _ q Ym Ym ((A.k O).k W) (fun w' H=>jC q q) (ic (i:=10) Ym q q (aT (us:=(js.cells rb ub)) q q (by exact nv) (by exact fun u l=>bI (js.one lb.bZ) u l) X (lB q) ?_))));intro yb U E;refine aI ⟨q,((A.k O).k W).fW U (ly A.size g),?_⟩;replace E:cg yb b6 (js.cells rb ub) 117:=E;refine ic (i:=11) Ym q q (dP q ?_);refine aI ⟨q,((A.k O).k W).fW U (ly A.size g),?_⟩;refine tX Ym ?_;exact⟨_,b6,ub,rb,cb,(ga (by exact⟨q,q,q,q,q,tV⟩)).symm,((A.k O).k W).fW U (ly A.size g),(ly A.size g),E.lt,E,kb,qb,((lb).md U (hI n6)).sub (fun x L _=>t6 x L),fb⟩
theorem ahz:gZ Zp 203 1=true:=Ym
theorem ahc:ea Zp 120=true:=Ym
theorem ahg:OM Zp 20=true:=Ym
theorem adj:bg Zp 203 0=some 0:=Ym
theorem z3:fP Zp 3=some [.int .i64 0]:=Ym
theorem QY {w:World} {b:Nat} {v:Value} {u:FrameMode} (hB:cg w b [v] 3) (hu:u = .returning∨∃c:Nat,u = .panicking (FI (.iface 203 (.agg #[.int .i64 c])))) :
  CallsD Zp 120 #[.pointer (some ⟨b,0,none⟩)] u w fun e u' w'=>e = .returned (.tuple #[])∧settle u' = .returning∧Md [b] w w'∧((u = .returning∧cg w' b [v] 3)∨(∃c:Nat,u = .panicking (FI (.iface 203 (.agg #[.int .i64 c])))∧cg w' b [.int .i64 c] 3)):=by
 refine ahP (n:=17) (vs:=[.pointer (some ⟨b,0,none⟩)]) Tryz.func120 q q q ?_;intro B L K E;refine wpS_seq (wpS_region ?_);show wpOpsS _ _ _ [0,1] _ _ _;rcases hu with rfl|⟨c,rfl⟩
 ·refine agz q q q q q E ?_
  refine aeb _ q q q (eI q) (aea ?_);refine wpS_of_wp (aP (aQ ?_));refine mv q (st (.bool false) (agi q ahg) (nt ?_));refine kC q q (bh ?_);exact ak3 E trivial q ⟨q,q,Md.refl _ w,.inl ⟨q,hB⟩⟩
 refine aiI q q q q q E ?_
 refine aeb _ q q q (eI q) (aea ?_);refine wpS_of_wp (aP (aQ ?_));refine mv q (st (.bool true) (agh q ahg) (nt (iF q q (nm q (st _ (aac uH q) (mv q (se q q (se q q (cw z203 ?_)))))))));intro F I G N D C;have H:b≠F:=(by have:=hB.lt;omega);replace hB:=hB.o D;have M:Md [b] w I:=D.mono Oq;refine aT (us:=[.int .i64 c]) q q (by exact ahz) (fun u hu=>by simp at hu;subst hu;rfl) C (lB q) ?_;intro J D C;replace C:cg J F [.int .i64 c] 203:=C;replace hB:=hB.tC D H;replace M:=M.fW D G;refine an q (aP (nm q (st (.bool false) (jw (b:=true) q) (nt ?_))));refine kC q q (bh ?_);refine au (aQ (sf q adj (st _ (aC q jl C q) (bK q q jl q hB (Nat.zero_lt_one) ?_))));intro O D hB;refine aI ?_;exact ak2 trivial q ⟨q,q,M.jd D Oq,.inr ⟨c,q,hB⟩⟩
theorem sw {w:World} {f:FuncId} {cs:List Value} {S:List Nat} {X:World→Prop} {Y:Nat→World→Prop} {R:World→Ending→World→Prop} (hf:ea Zp f=true) (hS:∀s∈S,s<w.heap.size)
  (hC:∀w0,Md [] w w0→Calls Zp f cs.toArray w0 (R w0))
  (hR:∀w0 e w1,Md [] w w0→R w0 e w1→Md S w0 w1∧((e = .returned (.tuple #[])∧∀b w2,w.heap.size≤b→b<w0.heap.size→Md [b] w1 w2→X w2)∨(∃c:Nat,e = .panicked (FI (.iface 203 (.agg #[.int .i64 c])))∧∀b w2,w.heap.size≤b→b<w0.heap.size→Md [b] w1 w2→Y c w2))) :
  Calls Zp 76 #[.func (.func f) #[] cs.toArray] w fun e w'=>∃c:Nat,e = .returned (.int .i64 c)∧Md S w w'∧((c=0∧X w')∨Y c w'):=by
 refine ahO (n:=6) (vs:=[.func (.func f) #[] cs.toArray]) Tryz.func76 q q q fun B=>ns (cw z3 ?_);intro b w0 G P I O;refine nt (ns (st _ (lU (vs:=[.pointer (some ⟨b,0,none⟩)]) q) (aec (cs:=[.pointer (some ⟨b,0,none⟩)]) q (nt (nm q (aaz (xs:=[]) (vs:=[]) (cs:=cs) q hf q (hC w0 I) ?_))))));intro e w1 d;obtain⟨C,h|⟨c,Z,V⟩⟩:=hR w0 e w1 I d
 ·obtain⟨rfl,U⟩:=h
  refine .inl ⟨_,q,?_⟩;have D:=O.md C (fun h=>by have:=hS b h;omega);refine aI (a:=b9 B _ ((5,.tuple #[]) :: _)) (au (ns (bK q q jl q D Om ?_)));intro w2 H E;replace E:cg w2 b [.int .i64 ((0:Nat):Int)] 3:=E;refine nt (iP ?_);show Leaves _ _ _ _ (b9 B _ _).defers _ _;rw[gU];refine leave1 Oq q ahc q q ((QY E (.inl q)).mono ?_);rintro e g M ⟨rfl,L,A,J⟩;obtain⟨_,F⟩|⟨c,h,_⟩:=J
  ·exact⟨q,L,_,EA jl F q,0,q,(((I.mono (T:=S) Oq).step C (fun i K=>.inl K)).fW H G).fW A G,.inl ⟨q,U b M G P (H.trans A)⟩⟩
  cases h
 subst Z
 refine .inr ⟨_,q,?_⟩;have D:=O.md C (fun h=>by have:=hS b h;omega);show Leaves _ _ _ _ (b9 B _ _).defers _ _;rw[gU];refine leave1 Oq q ahc q q ((QY D (.inr ⟨c,q⟩)).mono ?_);rintro e g M ⟨rfl,L,A,J⟩;obtain⟨h,_⟩|⟨N,h,F⟩:=J
 ·cases h
 have W:N=c:=by have Q:=h.symm;simp[FI]at Q;omega
 subst W;exact⟨q,L,_,EA jl F q,N,q,((I.mono (T:=S) Oq).step C (fun i K=>.inl K)).fW A G,.inr (V b M G P A)⟩
theorem YL:ea Zp 76=true:=Ym
theorem alz:ea Zp 91=true:=Ym
theorem wP (uQ:Up w Q) {v0:Value} {v:eR} (h0:Pt fA 73 w Q v0 v) (p:Nat) (a1:p<18446744073709551616) (p0:v.b.length≤140737488355328) :
  Calls Zp 48 #[v0,(.int .u64 p)] w fun en w'=>∃u0_0:Value,∃r0:js,∃r1:Nat,en = .returned (.tuple #[.agg (js.cells r0 u0_0).toArray,(.int .i64 r1)])∧Md [] w w'∧js.ok r0∧Ls fF w' Q u0_0 r0.ak∧r1<9223372036854775808∧ji (v.h.n.getD 0 0) v.b p=(r0,r1):=by
 refine enter (n:=10) (vs:=[v0,.int .u64 p]) Tryz.func48 q q q ?_;intro B;have t:v0.oneCell'=true:=(by obtain⟨b,c,rfl,_⟩:=h0;rfl);refine ns (gO (cs:=[v0]) q (fU t) ?_);intro i w2 g2 l2 A F;have q2:=uQ _ g2;obtain⟨h0,uQ⟩:=k2 A h0 uQ;have M:=A;refine gO (cs:=[.int .u64 p]) q q ?_;intro j w3 g3 l3 A I;have q3:=uQ _ g3;obtain⟨h0,F,uQ,M⟩:=k4 A h0 F uQ M;refine cw z117 ?_;intro E g g4 l4 A d;obtain⟨V,s4,t4,n4,u4⟩:=kR uQ g4 l4 A;have a:=ly M.size g4;have y:=s4 _ q2 F.lt;have z:=s4 _ q3 I.lt;replace h0:=(h0.sub s4).o A;obtain⟨F,I,M⟩:=k3 A F I M;replace d:cg g E (js.cells vK SN) 117:=d;refine an q (ns (st _ (lU (vs:=[.pointer (some ⟨i,0,none⟩),.pointer (some ⟨j,0,none⟩),.pointer (some ⟨E,0,none⟩)]) q) ?_));have hk:js.ok vK:=(by simp[js.ok,vK])
 refine ax YL q (sw (f:=91) (cs:=[.pointer (some ⟨i,0,none⟩),.pointer (some ⟨j,0,none⟩),.pointer (some ⟨E,0,none⟩)]) (S:=[E])
  (X:=fun w'=>∃r u,cg w' E (js.cells r u) 117∧js.ok r∧Ls fF w' V u r.ak∧ji (v.h.n.getD 0 0) v.b p=(r,0))
  (Y:=fun c w'=>cg w' E (js.cells vK SN) 117∧c<9223372036854775808∧ji (v.h.n.getD 0 0) v.b p=(vK,c))
  (R:=fun O e w'=>(∃N Z,e = .returned (.tuple #[])∧Md [E] O w'∧cg w' E (js.cells N Z) 117∧js.ok N∧Ls fF w' (fun x=>V x∧(x<g.heap.size∨O.heap.size≤x)) Z N.ak∧ji (v.h.n.getD 0 0) v.b p=(N,0))∨∃L:Nat,e = .panicked (FI (.iface 203 (.agg #[.int .i64 L])))∧(L≠0∧L<9223372036854775808)∧Md [E] O w'∧cg w' E (js.cells vK SN) 117∧(ji (v.h.n.getD 0 0) v.b p).2=L)
  alz (hI l4) ?_ ?_) ?_
 ·intro O A
  have uX:Up O (fun x=>V x∧(x<g.heap.size∨O.heap.size≤x)):=fun x C=>⟨u4 x (ly A.size C),.inr C⟩;have sX:∀x,V x→x<g.heap.size→(V x∧(x<g.heap.size∨O.heap.size≤x)):=fun x C H=>⟨C,.inl H⟩;refine(aaA uX (v0:=.pointer (some ⟨i,0,none⟩)) (v1:=.pointer (some ⟨j,0,none⟩)) (v:=v) (p:=p) ⟨i,[v0],q,⟨y,.inl F.lt⟩,F.o A,v0,q,(h0.sub sX).o A⟩ ⟨j,_,q,⟨z,.inl I.lt⟩,I.o A,q,a1⟩ vK (d.o A) (fun h=>n4 h.1) hk (Ls.nil _ _ _) p0).mono ?_;rintro e w' (⟨N,Z,l,D,G,_,U,H,J⟩|⟨L,l,W,D,G,J⟩)
  ·exact .inl ⟨N,Z,l,D,G,U,H,J⟩
  exact .inr ⟨L,l,W,D,G,J⟩
 ·rintro O e w1 A (⟨N,Z,rfl,D,G,U,H,J⟩|⟨L,rfl,W,D,G,J⟩)
  ·refine⟨D,.inl ⟨q,fun b Ab gb lb K=>⟨N,Z,G.tC K Oh,U,(H.md K (by intro x C h;simp at C;subst C;omega)).sub (fun x C _=>C.1),J⟩⟩⟩
  exact⟨D,.inr ⟨L,q,fun b Ab gb lb K=>⟨G.tC K Oh,W.2,ahR J W.1⟩⟩⟩
 rintro en w5 ⟨c,rfl,A,T⟩;refine rv ?_;replace M:=M.step A (by intro x C;simp at C;subst C;exact .inr a)
 obtain⟨r,u,G,o,H,W,J⟩:∃r u,cg w5 E (js.cells r u) 117∧js.ok r∧Ls fF w5 V u r.ak∧c<9223372036854775808∧ji (v.h.n.getD 0 0) v.b p=(r,c):=by
  rcases T with⟨rfl,r,u,k,F,I,d⟩|⟨k,F,I⟩
  ·exact⟨r,u,k,F,I,by decide,d⟩
  ·exact⟨_,_,k,hk,Ls.nil _ _ _,F,I⟩
 refine an q (ns (st _ (dh (js.cells r u) q (by exact nv) G q) (mv q (aT (us:=(js.cells r u)) q q (by exact nv) (fun x C=>bI (js.one H.bZ) x C) G (lB q) ?_))));intro w6 A P;replace P:cg w6 E (js.cells r u) 117:=P;replace H:=H.md A (hI n4);replace M:=M.fW A a;refine ar q ?_;exact eB (vs:=[.agg (js.cells r u).toArray,.int .i64 c]) trivial q ⟨⟨_,q,ey (cs:=js.cells r u) (by exact nv) P⟩,q,tV⟩ q ⟨u,r,c,q,M,o,H.sub (fun x C _=>t4 x C),W,J⟩
end Go.Proofs.YtmobbnpkkmeoiaaGreat
