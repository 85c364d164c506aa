/- Part 3 of what the walk of a law stands on: GuardR, VLe, VGet, VHead, VHead2, VHead3, VHead4, VView, VView2, VData, VFo, VFo1, VTold, VFo2. No statement is proved here. -/
import Derived.Test.YtmobbnpkkmeoiaaGreatSRI2
import Derived.Test.YtmobbnpkkmeoiaaGreatRows
set_option linter.unusedVariables false
set_option linter.unusedSimpArgs false
namespace Go.Wk
open Go Go.RowKit
def FK (v:Value):List PanicEntry:=[{v,recovered:=false}]
def PD (P:Program) (t:TypeId):Bool:=match P.underlying t with|some (.interface _)=>true|_=>false
def EK (P:Program) (t:TypeId):Bool:=match P.underlying t with|some (.interface _)=>false|some _=>true|none=>false
theorem zD {P:Program} {t:TypeId} (h:EK P t=true):∃X,P.underlying t=some X∧∀Y,X≠.interface Y:=by
  unfold EK at h
  split at h
  · cases h
  · rename_i X h1 h2;exact⟨X,h2,fun Y e=>h1 Y e⟩
  cases h
theorem DL {P:Program} {t:TypeId} (h:PD P t=true):∃X,P.underlying t=some (.interface X):=by
  unfold PD at h
  split at h
  · exact⟨_,by assumption⟩
  cases h
section
variable {P:Program} {ops:Array Oper} {Q:Exit→Act→World→Prop} {rest:List Oper}
variable {n:Nat} {A:Fr n} {D:List Deferred} {l:List (Nat × Value)} {w:World}
variable {d:Tmp} {op:Op} {ty:TypeId} {ps:String} {af:Array Edge} {g:Option (Nat × Bool)}
theorem door {vs:List Value} {m:Nat} (hn:m=n) (hle:Nat.ble vs.length n=true) :
    ∃B:Fr n,bw B [] (tF 0 vs)={tmps:=vs.toArray ++ Array.replicate (m-vs.toArray.size) undef,defers:=[]}:=by
  have hle':vs.length≤n:=lB hle
  have D:(vs.toArray ++ Array.replicate (m-vs.toArray.size) undef).size=n:=by simp[hn];omega
  refine⟨⟨_,D⟩,JJ ?_⟩
  intro p G
  obtain⟨j,E,F⟩:=EI G
  obtain⟨A,C⟩:=List.getElem?_eq_some_iff.1 F
  simp only[E,Nat.zero_add,Array.getD]
  rw[dif_pos Vw]
  show(vs.toArray ++ _)[j]'_=_
  rw[Array.getElem_append_left (by simpa using A)]
  simpa using C
theorem ahN {f:FuncId} {fn:Func} {c:Code} {vs:List Value} {R:Ending→World→Prop} (hf:P.funcs[f]? = some fn) (hb:fn.body=some c) (hn:fn.ntmps=n) (hle:Nat.ble vs.length n=true)
    (h:∀B:Fr n,c.wp P (bodyPostD P fn R) (bw B [] (tF 0 vs)) w):Calls P f vs.toArray w R:=by
  refine calls_of_wp_defers hf hb ?_
  obtain⟨B,A⟩:=door hn hle
  rw[← A];exact h B
theorem ahO {f:FuncId} {fn:Func} {c:Code} {vs:List Value} {u:FrameMode} {R:Ending→FrameMode→World→Prop} (hf:P.funcs[f]? = some fn) (hb:fn.body=some c) (hn:fn.ntmps=n) (hle:Nat.ble vs.length n=true)
    (h:∀(B:Fr n) (c₀:Go.Frame) (cs:List Go.Frame),c₀.mode=u→c.wpS P (bodyPostS P fn c₀ cs R) (bw B [] (tF 0 vs)) (c₀ :: cs) w):CallsD P f vs.toArray u w R:=by
  refine callsD_of_wpS hf hb fun c₀ cs C=>?_
  obtain⟨B,A⟩:=door hn hle
  rw[← A];exact h B c₀ cs C
theorem lU {f:FuncId} {xs:List Operand} {vs:List Value} {d':Option Tmp} (hx:evs n l xs=some vs) :
    dQ P ⟨d',.makeFunc (.func f) #[] xs.toArray,ty,ps,af,g⟩ (bw A D l).eval w (.func (.func f) #[] vs.toArray):=by
  have B:=nG (A:=A) (D:=D) hx
  simp[dQ,execOp,Instr.makeFunc,B]
theorem ZR (dd:Deferred) (v:Option Tmp) (x:Value):({bw A D l with defers:=dd :: (bw A D l).defers}.put v x)=match v with|some t=>bw A (dd :: D) ((t,x) :: l)|none=>bw A (dd :: D) l:=by
  have B:∀l:List (Nat × Value),({bw A D l with defers:=dd :: (bw A D l).defers}:Act)=bw A (dd :: D) l:=by
    intro l
    rw[gR]
    induction l with
    | nil=>rfl
    | cons p r ih=>simp only[bw,Act.put]at ih ⊢;simp only[← ih]
  rw[B]
  cases v <;> rfl
theorem aef {f:FuncId} {c:Operand} {ts:Array TypeId} {cs:List Value} {d':Option Tmp} (hc:ev n l c=some (.func (.func f) #[] cs.toArray))
    (k:wpList P ops Q rest (match d' with|some t=>bw A (⟨.fn (.func f) cs.toArray,#[]⟩ :: D) ((t,undef) :: l)|none=>bw A (⟨.fn (.func f) cs.toArray,#[]⟩ :: D) l) w) :
    wpList P ops Q (⟨d',.defer {callee:=.value c,args:=#[],argTypes:=ts},ty,ps,af,none⟩ :: rest) (bw A D l) w:=by
  refine iB q ?_
  unfold Oper.wp
  have B:(execOp (bw A D l).eval ⟨d',.defer {callee:=.value c,args:=#[],argTypes:=ts},ty,ps,af,none⟩).run P w = .ok (.defer ⟨.fn (.func f) cs.toArray,#[]⟩) w:=by
    simp[execOp,resolve,cE hc,Deferred.ofValue]
  rw[B]
  show wpList P ops Q rest ({bw A D l with defers:=_ :: (bw A D l).defers}.put d' undef) w
  rw[ZR]
  cases d' <;> exact k
theorem aa1 {f:FuncId} {c:Operand} {xs:List Operand} {ts:Array TypeId} {vs cs:List Value} {R:Ending→World→Prop} {d':Option Tmp} (hc:ev n l c=some (.func (.func f) #[] cs.toArray)) (hf:dZ P f=true) (ha:evs n l xs=some vs) (hr:Calls P f (vs ++ cs).toArray w R)
    (k:∀e w',R e w'→(∃v,e = .returned v∧wpList P ops Q rest ((bw A D l).put d' v) w')∨∃ch,e = .panicked ch∧Q (.panic ch) (bw A D l) w') :
    wpList P ops Q (⟨d',.call {callee:=.value c,args:=xs.toArray,argTypes:=ts},ty,ps,af,none⟩ :: rest) (bw A D l) w:=by
  refine iB q ?_
  unfold Oper.wp
  have E:=nG (A:=A) (D:=D) ha
  have B:(execOp (bw A D l).eval ⟨d',.call {callee:=.value c,args:=xs.toArray,argTypes:=ts},ty,ps,af,none⟩).run P w = .ok (.enter f (vs ++ cs).toArray) w:=by
    simp only[execOp,resolve,cE hc,Deferred.ofValue,List.map_toArray,E]
    simp[invoke,pI hf]
  rw[B]
  refine hr.mono fun e w' C=>?_
  rcases k e w' C with⟨v,rfl,hk⟩|⟨ch,rfl,hk⟩
  · exact hk
  exact hk
theorem j8 {f:FuncId} {xs:List Operand} {ts:Array TypeId} {vs:List Value} {R:Ending→World→Prop} (hf:dZ P f=true) (ha:evs n l xs=some vs) (hr:Calls P f vs.toArray w R)
    (k:∀e w',R e w'→(∃v,e = .returned v∧wpList P ops Q rest (bw A D ((d,v) :: l)) w')∨∃ch,e = .panicked ch∧Q (.panic ch) (bw A D l) w') :
    wpList P ops Q (⟨some d,.call {callee:=.value (.func f),args:=xs.toArray,argTypes:=ts},ty,ps,af,none⟩ :: rest) (bw A D l) w:=by
  refine iB q ?_
  unfold Oper.wp
  rw[yc hf ha]
  refine hr.mono fun e w' B=>?_
  rcases k e w' B with⟨v,rfl,hk⟩|⟨ch,rfl,hk⟩
  · exact hk
  exact hk
theorem oz {x:Operand} {t:TypeId} {v:Value} {d':Option Tmp} (hT:EK P t=true) (hx:ev n l x=some v) :
    dQ P ⟨d',.makeInterface t x,ty,ps,af,g⟩ (bw A D l).eval w (.iface t v):=by
  obtain⟨X,hT,B⟩:=zD hT
  cases X <;> simp_all [dQ,execOp,cE hx,Instr.makeInterface,run_underlying hT]
theorem qj {x:Operand} {t:TypeId} {v:Value} {d':Option Tmp} (hx:ev n l x=some (.iface t v)) (k:Q (.panic (FK (.iface t v))) (bw A D l) w) :
    wpList P ops Q (⟨d',.panic x,ty,ps,af,none⟩ :: rest) (bw A D l) w:=by
  refine iB q ?_
  unfold Oper.wp
  have B:(execOp (bw A D l).eval ⟨d',.panic x,ty,ps,af,none⟩).run P w = .halt (.panic (.iface t v)) w:=by
    simp[execOp,cE hx,Instr.panic,goPanic]
  rw[B];exact k
theorem gT {fn:Func} {R:Ending→World→Prop} {ch:List PanicEntry} (h:R (.panicked ch) w):bodyPost P fn R (.panic ch) (bw A [] l) w:=⟨gR,h⟩
theorem afd {t s:TypeId} {v:Value} {X} (w:World) (dd:Nat) (hT:P.underlying t=some (.interface X)):(Op.equalIn (dd+1) t (.iface s v) .nilIface).run P w = .ok false w:=by
  simp only[Op.equalIn,Sem.run_bind,run_underlying hT,Result.andThen_ok,Sem.run_pure]
theorem afc {t:TypeId} {X} (w:World) (dd:Nat) (hT:P.underlying t=some (.interface X)):(Op.equalIn (dd+1) t .nilIface .nilIface).run P w = .ok true w:=by
  simp only[Op.equalIn,Sem.run_bind,run_underlying hT,Result.andThen_ok,Sem.run_pure]
theorem agh {x:Operand} {t u s:TypeId} {v:Value} (hx:ev n l x=some (.iface s v)) (hT:PD P t=true) :
    dQ P ⟨some d,.binOp .neq t x (.const .nilIface) u,ty,ps,af,g⟩ (bw A D l).eval w (.bool true):=by
  obtain⟨X,hT⟩:=DL hT
  have C:(bw A D l).eval (.const .nilIface) = .nilIface:=rfl
  have E:(eqGuard .neq t x (.const .nilIface) (.iface s v) .nilIface).run P w = .ok () w:=by unfold eqGuard;simp
  have B:(binOp .neq t (.iface s v) .nilIface).run P w = .ok (.bool true) w:=by
    simp only[binOp,Op.equal,Op.maxDepth,Sem.run_bind,afd w 9999 hT,Result.andThen_ok,Sem.run_pure,Bool.not_false]
  simp[dQ,execOp,cE hx,C,E,B]
theorem agi {x:Operand} {t u:TypeId} (hx:ev n l x=some .nilIface) (hT:PD P t=true) :
    dQ P ⟨some d,.binOp .neq t x (.const .nilIface) u,ty,ps,af,g⟩ (bw A D l).eval w (.bool false):=by
  obtain⟨X,hT⟩:=DL hT
  have C:(bw A D l).eval (.const .nilIface) = .nilIface:=rfl
  have E:(eqGuard .neq t x (.const .nilIface) .nilIface .nilIface).run P w = .ok () w:=by unfold eqGuard;simp
  have B:(binOp .neq t .nilIface .nilIface).run P w = .ok (.bool false) w:=by
    simp only[binOp,Op.equal,Op.maxDepth,Sem.run_bind,afc w 9999 hT,Result.andThen_ok,Sem.run_pure,Bool.not_true]
  simp[dQ,execOp,cE hx,C,E,B]
end
section
variable {P:Program} {ops:Array Oper} {QS:Exit→Act→List Go.Frame→World→Prop} {cs:List Go.Frame} {rest:List Nat}
variable {n:Nat} {A:Fr n} {D:List Deferred} {l:List (Nat × Value)} {w:World}
theorem aee {i d:Nat} {o:Oper} (v:Value) (ho:ops[i]? = some o) (hg:o.guard=none) (hd:o.dst=some d) (hr:dQ P o (bw A D l).eval w v) (k:wpOpsS P ops QS rest (bw A D ((d,v) :: l)) cs w) :
    wpOpsS P ops QS (i :: rest) (bw A D l) cs w:=by
  have B:Region.wanted o (yielded ops (bw A D l).tmps)=true:=by simp[Region.wanted,hg]
  unfold dQ at hr
  simp only[wpOpsS,ho,B,if_true,hr,Oper.upon,hd]
  exact k
theorem aiL {i d:Nat} {o:Oper} {ts:Array TypeId} (ho:ops[i]? = some o) (hg:o.guard=none) (hd:o.dst=some d) (hop:o.op = .call {callee:=.builtin .recover,args:=#[],argTypes:=ts}) {v:Value} {older:List PanicEntry} {c:Go.Frame} {cs':List Go.Frame} (hcs:cs=c :: cs')
    (hm:c.mode = .panicking ({v,recovered:=false} :: older)) (k:wpOpsS P ops QS rest (bw A D ((d,v) :: l)) ({c with mode:=.panicking ({v,recovered:=true} :: older)} :: cs') w) :
    wpOpsS P ops QS (i :: rest) (bw A D l) cs w:=by
  have E:Region.wanted o (yielded ops (bw A D l).tmps)=true:=by simp[Region.wanted,hg]
  have C:(execOp (bw A D l).eval o).run P w = .ok .recover w:=by
    simp[execOp,hop,resolve,invoke,builtin]
  subst hcs
  have B:recoverD (c :: cs')=some (v,{c with mode:=.panicking ({v,recovered:=true} :: older)} :: cs'):=by simp[recoverD,hm]
  simp only[wpOpsS,ho,E,if_true,C,B,hd]
  exact k
theorem agw {i d:Nat} {o:Oper} {ts:Array TypeId} (ho:ops[i]? = some o) (hg:o.guard=none) (hd:o.dst=some d) (hop:o.op = .call {callee:=.builtin .recover,args:=#[],argTypes:=ts}) {c:Go.Frame} {cs':List Go.Frame} (hcs:cs=c :: cs')
    (hm:c.mode = .returning) (k:wpOpsS P ops QS rest (bw A D ((d,.nilIface) :: l)) cs w) :
    wpOpsS P ops QS (i :: rest) (bw A D l) cs w:=by
  have E:Region.wanted o (yielded ops (bw A D l).tmps)=true:=by simp[Region.wanted,hg]
  have C:(execOp (bw A D l).eval o).run P w = .ok .recover w:=by
    simp[execOp,hop,resolve,invoke,builtin]
  subst hcs
  have B:recoverD (c :: cs')=none:=by simp[recoverD,hm]
  simp only[wpOpsS,ho,E,if_true,C,B,hd]
  exact k
theorem aed (k:QS .normal (bw A D l) cs w):wpOpsS P ops QS [] (bw A D l) cs w:=k
end
section
variable {P:Program} {n:Nat} {A:Fr n} {l:List (Nat × Value)} {w:World}
theorem akA {fn:Func} {c₀:Go.Frame} {cs:List Go.Frame} {R:Ending→FrameMode→World→Prop} {u':FrameMode} {e:Exit} (he:sW e) (hr:fn.results = #[]) (hR:R (.returned (.tuple #[])) u' w) :
    bodyPostS P fn c₀ cs R e (bw A [] l) ({c₀ with mode:=u'} :: cs) w:=by
  have h:=qO (P:=P) (w:=w) (A:=A) (D:=[]) (l:=l) (fn:=fn) (rs:=[]) (vs:=[]) hr trivial
  cases e with
  | normal=>exact⟨gR,u',q,_,h,hR⟩
  | ret=>exact⟨gR,u',q,_,h,hR⟩
  | _=>exact he.elim
theorem akB {fn:Func} {c₀:Go.Frame} {cs:List Go.Frame} {R:Ending→FrameMode→World→Prop} {u:FrameMode} {e:Exit} (hc:c₀.mode=u) (he:sW e) (hr:fn.results = #[]) (hR:R (.returned (.tuple #[])) u w) :
    bodyPostS P fn c₀ cs R e (bw A [] l) (c₀ :: cs) w:=by
  have h:({c₀ with mode:=u}:Go.Frame)=c₀:=by subst hc;rfl
  have:=akA (P:=P) (A:=A) (l:=l) (c₀:=c₀) (cs:=cs) (u':=u) he hr hR
  rwa [h]at this
theorem leave1 {fn:Func} {R:Ending→World→Prop} {t ty:Nat} {d:Deferred} {u:FrameMode} {f:FuncId} {cs:List Value} (hu:u≠.run) (hd:d=⟨.fn (.func f) cs.toArray,#[]⟩) (hf:dZ P f=true) (hr:fn.results = #[.cell t ty]) {p:Addr} (ht:ev n l (.tmp t)=some (.pointer (some p)))
    (h:CallsD P f cs.toArray u w fun e u' w'=>e = .returned (.tuple #[])∧settle u' = .returning∧∃v,(loadVar ty p).run P w' = .ok v w'∧R (.returned v) w') :
    Leaves P fn (bw A [d] l).tmps R [d] u w:=by
  subst hd
  refine leaves_cons hu (f:=f) (args:=cs.toArray) (by simp[invoke,pI hf]) (h.mono ?_)
  rintro e u' w' ⟨rfl,C,v,D,B⟩
  show Leaves P fn _ R [] (settle u') w'
  rw[C]
  exact⟨v,qO (A:=A) (rs:=[.cell t ty]) (vs:=[v]) hr ⟨⟨p,ht,D⟩,tV⟩,B⟩
end
section
variable {P:Program} {n:Nat} {A:Fr n} {D:List Deferred} {l:List (Nat × Value)} {w:World} {d:Option Tmp} {ty:TypeId} {ps:String} {af:Array Edge} {g:Option (Nat × Bool)}
theorem aaf {x:Operand} {t a:TypeId} {v:Value} (hT:EK P a=true) (hx:ev n l x=some (.iface a v)) :
    dQ P ⟨d,.typeAssert x t a true,ty,ps,af,g⟩ (bw A D l).eval w (.tuple #[v,.bool true]):=by
  obtain⟨X,hT,B⟩:=zD hT
  cases X <;> simp_all [dQ,execOp,cE hx,Instr.typeAssert,run_underlying hT]
end
end Go.Wk
namespace Go.Proofs.YtmobbnpkkmeoiaaGreat
open Go Go.Wk Go.RowKit
set_option linter.unusedVariables false
set_option linter.unusedSimpArgs false
attribute [local irreducible] wpList wpQuiet wpStill ic Code.wp Calls bodyPost
variable {w:World} {Q:Nat→Prop}
noncomputable abbrev Zp:=Tryz.prog
theorem pS:iM Zp 5 1=true:=Ym
theorem zQ:jJ Zp 5=true:=Ym
theorem iC:Zp.underlying 24=some (.slice 5):=Ym
theorem mE:Zp.underlying 26=some (.int .u64):=Ym
theorem u5:Zp.underlying 5=some (.int .u8):=Ym
theorem SV (uQ:Up w Q) (n:Int) (a0:(-9223372036854775808≤n∧n<9223372036854775808)) :
  Calls Zp 56 #[(.int .i64 (n:Int))] w fun en w'=>∃r0:Bool,en = .returned (.bool r0)∧Md [] w w'∧p6 n=r0:=by
 have M:=Md.refl [] w;have H:=uQ;refine enter (n:=17) Tryz.func56 q q q fun B=>ns (an q (nm q (st _ (ny (a:=n) (b:=1) q q) (mv q ?_))));refine dR (t:=5) q (fun C=>?_) (fun C=>?_)
 ·(have F:=dT C);refine sk C (sk C (st _ (bK q C q) (mv q (sk q (sk q (st _ (bK q q q) (mv q (sk q (sk q (st _ (bK q q q) (ar q ?_)))))))))));exact dP (v:=(.bool true)) trivial q ⟨q,tV⟩ ⟨true,q,M,(by simp only[p6];exact decide_eq_true Oh)⟩
 (have F:=dF C);refine sg C (bf q) (sg C (ny (a:=n) (b:=2) q q) (st _ (aS q C q) (mv q ?_)));refine dR (t:=9) q (fun D=>?_) (fun D=>?_)
 ·(have G:=dT D);refine sk D (sk D (st _ (bK q D q) (mv q (sk q (sk q (st _ (bK q q q) (ar q ?_)))))));exact dP (v:=(.bool true)) trivial q ⟨q,tV⟩ ⟨true,q,M,(by simp only[p6];exact decide_eq_true Oh)⟩
 (have G:=dF D);refine sg D (bf q) (sg D (ny (a:=n) (b:=4) q q) (st _ (aS q D q) (mv q ?_)));refine dR (t:=13) q (fun A=>?_) (fun A=>?_)
 ·(have E:=dT A);refine sk A (sk A (st _ (bK q A q) (ar q ?_)));exact dP (v:=(.bool true)) trivial q ⟨q,tV⟩ ⟨true,q,M,(by simp only[p6];exact decide_eq_true Oh)⟩
 (have E:=dF A);refine sg A (bf q) (sg A (ny (a:=n) (b:=8) q q) (st _ (aS q A q) (ar q ?_)));exact dP (v:=(.bool ((decide (n=8))))) trivial q ⟨q,tV⟩ ⟨(decide (n=8)),q,M,(by simp only[p6];exact(decide_eq_decide.2 Oh))⟩
theorem TU (uQ:Up w Q) {v0:Value} {l:Ly} (h0:Ls fI w Q v0 l) (a:Int) (a1:(-9223372036854775808≤a∧a<9223372036854775808)) (n:Int) (a2:(-9223372036854775808≤n∧n<9223372036854775808)) :
  Calls Zp 112 #[v0,(.int .i64 (a:Int)),(.int .i64 (n:Int))] w fun en w'=>∃r0:Nat,∃r1:Bool,en = .returned (.tuple #[(.int .u64 r0),(.bool r1)])∧Md [] w w'∧r0<18446744073709551616∧mM l a n=(r0,r1):=by
 have u:=h0.gm;have M:=Md.refl [] w;have p:=uQ;have Z:∀b,Q b→Q b:=fun _ h=>h;have P:∀b,Q b→b<w.heap.size→Q b:=fun _ h _=>h;refine enter (n:=59) Tryz.func112 q q q fun B=>ns (d9 q (an q (aP (aP ?_))));refine Se (fun b=>[(41,.bool b),(0,v0),(1,(.int .i64 (a:Int))),(2,(.int .i64 (n:Int))),(6,(.int .u64 ((0:Nat):Int))),(7,(.bool false))]) (fun b w'=>w=w'∧(b=true↔¬(p6 n=true∧0≤a∧a+n≤l.length))) ?_ ?_
 ·refine mv q (st _ (aag (a:=n) (b:=1) q q) (mv q ?_));refine dR (t:=12) q (fun H=>?_) (fun H=>?_)
  ·(have T:=dT H);refine sg H (bf q) (sg H (aag (a:=n) (b:=2) q q) (st _ (bK q H q) (mv q ?_)));refine dR (t:=16) q (fun I=>?_) (fun I=>?_)
   ·(have U:=dT I);refine sg I (bf q) (sg I (aag (a:=n) (b:=4) q q) (st _ (bK q I q) (mv q ?_)));refine dR (t:=20) q (fun J=>?_) (fun J=>?_)
    ·(have V:=dT J);refine sg J (bf q) (sg J (aag (a:=n) (b:=8) q q) (st _ (bK q J q) (mv q ?_)));refine dR (t:=24) q (fun K=>?_) (fun K=>?_)
     ·(have W:=dT K);refine sk K (sk K (st _ (bK q K q) (mv q (sk q (sk q (sk q (sk q (st _ (bK q q q) (mv q (sk q (sk q (sk q (sk q ?_)))))))))))));refine sk q (sk q (st _ (bK q q q) (aH ?_)));refine⟨q,jn true ?_ ?_⟩
      ·exact⟨q,q,q,q,q,q,tV⟩
      ·exact⟨q,by rw[gF];simp;omega⟩
     ·(have W:=dF K);refine sg K (bf q) (sg K (rT (a:=a) (b:=0) q q) (st _ (aS q K q) (mv q ?_)));refine dR (t:=28) q (fun C=>?_) (fun C=>?_)
      ·(have E:=dT C);refine sk C (sk C (sk C (sk C (st _ (bK q C q) (mv q (sk q (sk q (sk q (sk q (sk q (sk q (st _ (bK q q q) (aH ?_)))))))))))));refine⟨q,jn true ?_ ?_⟩
       ·exact⟨q,q,q,q,q,q,tV⟩
       ·exact⟨q,by rw[gF];simp;omega⟩
      ·(have E:=dF C);refine sg C (bf q) (sg C (bf q) (sg C (jq q iC h0.eJ) (sg C (wE (a:=a) (b:=((l.length:Nat):Int)) q q) (st _ (aS q C q) (mv q ?_)))));refine dR (t:=34) q (fun A=>?_) (fun A=>?_)
       ·(have F:=dT A);refine sk A (sk A (sk A (sk A (sk A (sk A (st _ (bK q A q) (aH ?_)))))));refine⟨q,jn true ?_ ?_⟩
        ·exact⟨q,q,q,q,q,q,tV⟩
        ·exact⟨q,by rw[gF];simp;omega⟩
       ·(have F:=dF A);refine sg A (bf q) (sg A (jq q iC h0.eJ) (sg A (bf q) (sg A (lC (a:=((l.length:Nat):Int)) (b:=a) q q Oh) (sg A (bf q) (sg A (rT (a:=((l.length:Nat):Int)-a) (b:=n) q q) (st _ (aS q A q) ?_))))));refine dR (t:=41) q (fun D=>?_) (fun D=>?_)
        ·(have G:=dT D);refine aH ?_;refine⟨q,jn true ?_ ?_⟩
         ·exact⟨zN q D,q,q,q,q,q,tV⟩
         ·exact⟨q,by rw[gF];simp;omega⟩
        ·(have G:=dF D);refine aH ?_;refine⟨q,jn false ?_ ?_⟩
         ·exact⟨zN q D,q,q,q,q,q,tV⟩
         ·exact⟨q,by rw[gF];simp;omega⟩
    ·(have V:=dF J);refine sk J (sk J (st _ (aS q J q) (mv q (sg q (bf q) (sg q (rT (a:=a) (b:=0) q q) (st _ (aS q q q) (mv q ?_)))))));refine dR (t:=28) q (fun C=>?_) (fun C=>?_)
     ·(have E:=dT C);refine sk C (sk C (sk C (sk C (st _ (bK q C q) (mv q (sk q (sk q (sk q (sk q (sk q (sk q (st _ (bK q q q) (aH ?_)))))))))))));refine⟨q,jn true ?_ ?_⟩
      ·exact⟨q,q,q,q,q,q,tV⟩
      ·exact⟨q,by rw[gF];simp;omega⟩
     ·(have E:=dF C);refine sg C (bf q) (sg C (bf q) (sg C (jq q iC h0.eJ) (sg C (wE (a:=a) (b:=((l.length:Nat):Int)) q q) (st _ (aS q C q) (mv q ?_)))));refine dR (t:=34) q (fun A=>?_) (fun A=>?_)
      ·(have F:=dT A);refine sk A (sk A (sk A (sk A (sk A (sk A (st _ (bK q A q) (aH ?_)))))));refine⟨q,jn true ?_ ?_⟩
       ·exact⟨q,q,q,q,q,q,tV⟩
       ·exact⟨q,by rw[gF];simp;omega⟩
      ·(have F:=dF A);refine sg A (bf q) (sg A (jq q iC h0.eJ) (sg A (bf q) (sg A (lC (a:=((l.length:Nat):Int)) (b:=a) q q Oh) (sg A (bf q) (sg A (rT (a:=((l.length:Nat):Int)-a) (b:=n) q q) (st _ (aS q A q) ?_))))));refine dR (t:=41) q (fun D=>?_) (fun D=>?_)
       ·(have G:=dT D);refine aH ?_;refine⟨q,jn true ?_ ?_⟩
        ·exact⟨zN q D,q,q,q,q,q,tV⟩
        ·exact⟨q,by rw[gF];simp;omega⟩
       ·(have G:=dF D);refine aH ?_;refine⟨q,jn false ?_ ?_⟩
        ·exact⟨zN q D,q,q,q,q,q,tV⟩
        ·exact⟨q,by rw[gF];simp;omega⟩
   ·(have U:=dF I);refine sk I (sk I (st _ (aS q I q) (mv q (sk q (sk q (st _ (aS q q q) (mv q (sg q (bf q) (sg q (rT (a:=a) (b:=0) q q) (st _ (aS q q q) (mv q ?_)))))))))));refine dR (t:=28) q (fun C=>?_) (fun C=>?_)
    ·(have E:=dT C);refine sk C (sk C (sk C (sk C (st _ (bK q C q) (mv q (sk q (sk q (sk q (sk q (sk q (sk q (st _ (bK q q q) (aH ?_)))))))))))));refine⟨q,jn true ?_ ?_⟩
     ·exact⟨q,q,q,q,q,q,tV⟩
     ·exact⟨q,by rw[gF];simp;omega⟩
    ·(have E:=dF C);refine sg C (bf q) (sg C (bf q) (sg C (jq q iC h0.eJ) (sg C (wE (a:=a) (b:=((l.length:Nat):Int)) q q) (st _ (aS q C q) (mv q ?_)))));refine dR (t:=34) q (fun A=>?_) (fun A=>?_)
     ·(have F:=dT A);refine sk A (sk A (sk A (sk A (sk A (sk A (st _ (bK q A q) (aH ?_)))))));refine⟨q,jn true ?_ ?_⟩
      ·exact⟨q,q,q,q,q,q,tV⟩
      ·exact⟨q,by rw[gF];simp;omega⟩
     ·(have F:=dF A);refine sg A (bf q) (sg A (jq q iC h0.eJ) (sg A (bf q) (sg A (lC (a:=((l.length:Nat):Int)) (b:=a) q q Oh) (sg A (bf q) (sg A (rT (a:=((l.length:Nat):Int)-a) (b:=n) q q) (st _ (aS q A q) ?_))))));refine dR (t:=41) q (fun D=>?_) (fun D=>?_)
      ·(have G:=dT D);refine aH ?_;refine⟨q,jn true ?_ ?_⟩
       ·exact⟨zN q D,q,q,q,q,q,tV⟩
       ·exact⟨q,by rw[gF];simp;omega⟩
      ·(have G:=dF D);refine aH ?_;refine⟨q,jn false ?_ ?_⟩
       ·exact⟨zN q D,q,q,q,q,q,tV⟩
       ·exact⟨q,by rw[gF];simp;omega⟩
  ·(have T:=dF H);refine sk H (sk H (st _ (aS q H q) (mv q (sk q (sk q (st _ (aS q q q) (mv q (sk q (sk q (st _ (aS q q q) (mv q (sg q (bf q) (sg q (rT (a:=a) (b:=0) q q) ?_)))))))))))));refine st _ (aS q q q) (mv q ?_);refine dR (t:=28) q (fun C=>?_) (fun C=>?_)
   ·(have E:=dT C);refine sk C (sk C (sk C (sk C (st _ (bK q C q) (mv q (sk q (sk q (sk q (sk q (sk q (sk q (st _ (bK q q q) (aH ?_)))))))))))));refine⟨q,jn true ?_ ?_⟩
    ·exact⟨q,q,q,q,q,q,tV⟩
    ·exact⟨q,by rw[gF];simp;omega⟩
   ·(have E:=dF C);refine sg C (bf q) (sg C (bf q) (sg C (jq q iC h0.eJ) (sg C (wE (a:=a) (b:=((l.length:Nat):Int)) q q) (st _ (aS q C q) (mv q ?_)))));refine dR (t:=34) q (fun A=>?_) (fun A=>?_)
    ·(have F:=dT A);refine sk A (sk A (sk A (sk A (sk A (sk A (st _ (bK q A q) (aH ?_)))))));refine⟨q,jn true ?_ ?_⟩
     ·exact⟨q,q,q,q,q,q,tV⟩
     ·exact⟨q,by rw[gF];simp;omega⟩
    ·(have F:=dF A);refine sg A (bf q) (sg A (jq q iC h0.eJ) (sg A (bf q) (sg A (lC (a:=((l.length:Nat):Int)) (b:=a) q q Oh) (sg A (bf q) (sg A (rT (a:=((l.length:Nat):Int)-a) (b:=n) q q) (st _ (aS q A q) ?_))))));refine dR (t:=41) q (fun D=>?_) (fun D=>?_)
     ·(have G:=dT D);refine aH ?_;refine⟨q,jn true ?_ ?_⟩
      ·exact⟨zN q D,q,q,q,q,q,tV⟩
      ·exact⟨q,by rw[gF];simp;omega⟩
     ·(have G:=dF D);refine aH ?_;refine⟨q,jn false ?_ ?_⟩
      ·exact⟨zN q D,q,q,q,q,q,tV⟩
      ·exact⟨q,by rw[gF];simp;omega⟩
 ·rintro c B _ ⟨rfl,L⟩
  refine vY c (fun D=>?_) (fun D=>?_)
  ·replace L:=L.1 D;refine au (iT q D (ns (d9 q (ar q (aX ?_)))));exact eA (vs:=[(.int .u64 ((0:Nat):Int)),(.bool false)]) trivial q ⟨q,q,tV⟩ q ⟨0,false,q,M,Oh,(AJ Oh)⟩
  ·replace L:=mt L.2 (by rw[D];simp);refine au (jR q D (bh (au (aP ?_))));replace L:=Classical.not_not.1 L;have y:=yU L.1;refine aQ (an q (aP (nm q (st _ (lC (a:=n) (b:=1) q q Oh) (d9 q (nt (bF ?_)))))))
   refine uh (fun(v:Nat) (i:Int)=>[(8,(.int .u64 v)),(9,(.int .i64 (i:Int))),(0,v0),(1,(.int .i64 (a:Int))),(6,(.int .u64 ((0:Nat):Int))),(7,(.bool false))]) (fun(v:Nat) (i:Int) w'=>∃Q':Nat→Prop,(∀b,Q' b→Q b)∧(∀b,Q b→b<w.heap.size→Q' b)∧Up w' Q'∧Md [] w w'∧Ls fI w' Q' v0 l∧(-1≤i∧i<n)∧v=DW ((l.drop (a+(i+1)).toNat).take (n-1-i).toNat)∧v<18446744073709551616) (fun(v:Nat) (i:Int)=>(i+1).toNat) (x0:=0) (x1:=(n-1)) ?_ ?_ ?_
   ·exact⟨q,q,q,q,q,q,tV⟩
   ·exact⟨Q,Z,P,uQ,M,h0,Oh,(by simp[show n-1-(n-1)=0 by omega,DW]),Oh⟩
   ·clear M uQ Z P h0
    rintro v i B z ⟨g,Z,P,uQ,M,h0,e,N,f⟩;refine aP (nm q (st _ (rR (a:=i) (b:=0) q q) (nt ?_)));refine cA q (fun R=>?_) (fun R=>?_)
    ·(have X:=dT R);have j:=vg (l:=(l.drop (a+(i+1)).toNat).take (n-1-i).toNat) (k:=7) Vw;rw[← N]at j;refine bh (au (aP (bF (aQ (mv q (st _ (nM (a:=v) (b:=256) 18446744073709551616 q q q Oh) (m2 q q (mv q (st _ (gh (a:=a) (b:=i) q q Oh) (st _ (qd (i:=a+i) 1 q q iC pS h0.eJ Oh) ?_))))))))));obtain⟨S,Y⟩:=fM (l:=l) (i:=(a+i).toNat) Oh;obtain⟨x,d,O⟩:=h0.get Y;obtain⟨rfl,_⟩:=d;have r:=UInt8.toNat_lt S;replace O:At _ v0 (((a+i).toNat)*1) [(b8 S)]:=O;refine st _ ((dx (kk:=((a+i).toNat)*1) 0 q q zQ O q).to (b:=(b8 S)) q) (st _ (eF (a:=S.toNat) 18446744073709551616 q (by rw[u5];rfl) mE q (lj (UInt8.toNat_lt _) Om)) (st _ (gU (a:=(v*256)) (b:=S.toNat) 18446744073709551616 q q q Oh) (d9 q (aH ?_))));clear O;refine bW (au (aQ (mv q (st _ (lC (a:=i) (b:=1) q q Oh) (an q ?_)))));refine rD (x0:=((v*256)+S.toNat)) (x1:=(i-1)) Oh ⟨(fq q (by rfl)),(fq q Oh),q,q,q,q,tV⟩ ⟨g,Z,P,uQ,M,h0,Oh,(by rw[N];have o:=PV (k:=(n-1-i).toNat) Y;rw[show(n-1-(i-1)).toNat=(n-1-i).toNat+1 by omega,show(a+(i-1+1)).toNat=(a+i).toNat by omega,o,show(a+i).toNat+1=(a+(i+1)).toNat by omega];omega),Oh⟩
    ·(have X:=dF R);refine dW (bU (bU (eS (au (nm q (d9 q (ar q ?_)))))));exact eA (vs:=[(.int .u64 v),(.bool true)]) trivial q ⟨q,q,tV⟩ q ⟨v,true,q,M,Vv,(by rw[mM,if_pos Oh,N,show i = -1 by omega];simp)⟩
theorem ajP:dZ Zp 56=true:=Ym
theorem pK (uQ:Up w Q) {v0:Value} {l:Ly} (h0:Ls fI w Q v0 l) (a:Int) (a1:(-9223372036854775808≤a∧a<9223372036854775808)) (n:Int) (a2:(-9223372036854775808≤n∧n<9223372036854775808)) :
  Calls Zp 26 #[v0,(.int .i64 (a:Int)),(.int .i64 (n:Int))] w fun en w'=>∃r0:Nat,∃r1:Bool,en = .returned (.tuple #[(.int .u64 r0),(.bool r1)])∧Md [] w w'∧r0<18446744073709551616∧mM l a n=(r0,r1):=by
 have p:=h0.gm;have M:=Md.refl [] w;have j:=uQ;have P:∀b,Q b→Q b:=fun _ h=>h;have F:∀b,Q b→b<w.heap.size→Q b:=fun _ h _=>h;refine enter (n:=42) Tryz.func26 q q q fun B=>ns (d9 q (an q (aP (nm q (ax ajP q (SV uQ (n) Oh) ?_)))));rintro en u ⟨Z,rfl,R,d⟩;refine rv ?_;obtain⟨h0,uQ,M⟩:=k3 R h0 uQ M;refine st _ (j7 q) (mv q ?_);refine dR (t:=13) q (fun C=>?_) (fun C=>?_)
 ·(have J:=AA C);refine sk C (sk C (st _ (bK q C q) (mv q (sk q (sk q (sk q (sk q (sk q (sk q (st _ (bK q q q) (nt (iT q q (ns ?_)))))))))))));refine d9 q (ar q (aX ?_));exact eA (vs:=[(.int .u64 ((0:Nat):Int)),(.bool false)]) trivial q ⟨q,q,tV⟩ q ⟨0,false,q,M,Oh,(AJ (by rintro⟨U,V,W⟩;simp_all))⟩
 ·(have J:=zZ C);refine sg C (bf q) (sg C (rT (a:=a) (b:=0) q q) (st _ (aS q C q) (mv q ?_)));refine dR (t:=17) q (fun A=>?_) (fun A=>?_)
  ·(have K:=dT A);refine sk A (sk A (sk A (sk A (sk A (sk A (st _ (bK q A q) (nt (iT q q (ns (d9 q (ar q ?_)))))))))));refine aX ?_;exact eA (vs:=[(.int .u64 ((0:Nat):Int)),(.bool false)]) trivial q ⟨q,q,tV⟩ q ⟨0,false,q,M,Oh,(AJ (by rintro⟨U,V,W⟩;omega))⟩
  ·(have K:=dF A);have e:=yU (n:=n) (by simp_all);refine sg A (bf q) (sg A (bf q) (sg A (jq q iC h0.eJ) (sg A (bf q) (sg A (lC (a:=((l.length:Nat):Int)) (b:=n) q q Oh) (sg A (wE (a:=a) (b:=((l.length:Nat):Int)-n) q q) (st _ (aS q A q) (nt ?_)))))));refine cA q (fun G=>?_) (fun G=>?_)
   ·(have L:=dT G);refine ns (d9 q (ar q (aX ?_)));exact eA (vs:=[(.int .u64 ((0:Nat):Int)),(.bool false)]) trivial q ⟨q,q,tV⟩ q ⟨0,false,q,M,Oh,(AJ (by rintro⟨U,V,W⟩;omega))⟩
   ·(have L:=dF G);refine bh (au (aP ?_));have T:p6 n=true∧0≤a∧a+n≤l.length:=⟨by simp_all,by omega,by omega⟩;have e:=yU T.1;refine aQ (an q (aP (nm q (st _ (lC (a:=n) (b:=1) q q Oh) (d9 q (nt (bF ?_)))))))
    refine uh (fun(v:Nat) (i:Int)=>[(8,(.int .u64 v)),(9,(.int .i64 (i:Int))),(0,v0),(1,(.int .i64 (a:Int))),(6,(.int .u64 ((0:Nat):Int))),(7,(.bool false))]) (fun(v:Nat) (i:Int) w'=>∃Q':Nat→Prop,(∀b,Q' b→Q b)∧(∀b,Q b→b<w.heap.size→Q' b)∧Up w' Q'∧Md [] w w'∧Ls fI w' Q' v0 l∧(-1≤i∧i<n)∧v=DW ((l.drop (a+(i+1)).toNat).take (n-1-i).toNat)∧v<18446744073709551616) (fun(v:Nat) (i:Int)=>(i+1).toNat) (x0:=0) (x1:=(n-1)) ?_ ?_ ?_
    ·exact⟨q,q,q,q,q,q,tV⟩
    ·exact⟨Q,P,F,uQ,M,h0,Oh,(by simp[show n-1-(n-1)=0 by omega,DW]),Oh⟩
    ·clear M uQ P F h0
     rintro v i B x ⟨c,P,F,uQ,M,h0,X,D,Y⟩;refine aP (nm q (st _ (rR (a:=i) (b:=0) q q) (nt ?_)));refine cA q (fun H=>?_) (fun H=>?_)
     ·(have N:=dT H);have f:=vg (l:=(l.drop (a+(i+1)).toNat).take (n-1-i).toNat) (k:=7) Vw;rw[← D]at f;refine bh (au (aP (bF (aQ (mv q (st _ (aiC (a:=v) (b:=8) 18446744073709551616 q q 64 q q q Oh) (m2 q q (mv q (st _ (gh (a:=a) (b:=i) q q Oh) (st _ (qd (i:=a+i) 1 q q iC pS h0.eJ Oh) ?_))))))))));obtain⟨I,O⟩:=fM (l:=l) (i:=(a+i).toNat) Oh;obtain⟨r,S,E⟩:=h0.get O;obtain⟨rfl,_⟩:=S;have o:=UInt8.toNat_lt I;replace E:At _ v0 (((a+i).toNat)*1) [(b8 I)]:=E;refine st _ ((dx (kk:=((a+i).toNat)*1) 0 q q zQ E q).to (b:=(b8 I)) q) (st _ (eF (a:=I.toNat) 18446744073709551616 q (by rw[u5];rfl) mE q (lj (UInt8.toNat_lt _) Om)) (st _ (ak5 (a:=(v*2 ^ 8%18446744073709551616)) (b:=I.toNat) 18446744073709551616 q q q q Oh) (d9 q (aH ?_))));clear E;refine bW (au (aQ (mv q (st _ (lC (a:=i) (b:=1) q q Oh) (an q ?_)))));refine rD (x0:=((v*2 ^ 8%18446744073709551616) ||| I.toNat)) (x1:=(i-1)) Oh ⟨(fq q (by rfl)),(fq q Oh),q,q,q,q,tV⟩ ⟨c,P,F,uQ,M,h0,Oh,(by rw[adY Oh,D];have g:=PV (k:=(n-1-i).toNat) O;rw[show(n-1-(i-1)).toNat=(n-1-i).toNat+1 by omega,show(a+(i-1+1)).toNat=(a+i).toNat by omega,g,show(a+i).toNat+1=(a+(i+1)).toNat by omega]),(by rw[adY Oh];have:=UInt8.toNat_lt I;omega)⟩
     ·(have N:=dF H);refine dW (bU (bU (eS (au (nm q (d9 q (ar q ?_)))))));exact eA (vs:=[(.int .u64 v),(.bool true)]) trivial q ⟨q,q,tV⟩ q ⟨v,true,q,M,Vv,(by rw[mM,if_pos Oh,D,show i = -1 by omega];simp)⟩
theorem iD:gW Zp 36 91=true:=Ym
theorem aji:iM Zp 126 1=true:=Ym
theorem ajj:iM Zp 129 1=true:=Ym
theorem ahG:xQ Zp 126 1 8=true:=Ym
theorem ahH:xQ Zp 129 1 8=true:=Ym
theorem yo:dZ Zp 26=true:=Ym
theorem afg:dZ Zp 53=true:=Ym
theorem alm:dZ Zp 54=true:=Ym
theorem aln:dZ Zp 55=true:=Ym
theorem eC:Zp.follows .mixedOrders=true:=Ym
theorem afD:bg Zp 36 0=some 0:=Ym
theorem MB:bg Zp 36 1=some 1:=Ym
theorem EW:bg Zp 36 10=some 70:=Ym
theorem EX:bg Zp 36 11=some 71:=Ym
theorem EY:bg Zp 36 12=some 72:=Ym
theorem xC:bg Zp 36 13=some 73:=Ym
theorem xD:bg Zp 36 14=some 74:=Ym
theorem EZ:bg Zp 36 15=some 75:=Ym
theorem QI:bg Zp 36 16=some 76:=Ym
theorem QJ:bg Zp 36 17=some 77:=Ym
theorem adv:bg Zp 36 18=some 78:=Ym
theorem adw:bg Zp 36 19=some 79:=Ym
theorem afE:bg Zp 36 2=some 2:=Ym
theorem adx:bg Zp 36 20=some 80:=Ym
theorem ady:bg Zp 36 21=some 81:=Ym
theorem FA:bg Zp 36 22=some 82:=Ym
theorem FB:bg Zp 36 23=some 83:=Ym
theorem FC:bg Zp 36 24=some 84:=Ym
theorem FD:bg Zp 36 25=some 85:=Ym
theorem adz:bg Zp 36 26=some 86:=Ym
theorem ad1:bg Zp 36 27=some 87:=Ym
theorem ad2:bg Zp 36 28=some 88:=Ym
theorem ad3:bg Zp 36 29=some 89:=Ym
theorem WT:bg Zp 36 3=some 3:=Ym
theorem ad4:bg Zp 36 30=some 90:=Ym
theorem afF:bg Zp 36 4=some 19:=Ym
theorem afG:bg Zp 36 5=some 35:=Ym
theorem afH:bg Zp 36 6=some 51:=Ym
theorem pF:bg Zp 36 7=some 67:=Ym
theorem MD:bg Zp 36 8=some 68:=Ym
theorem ME:bg Zp 36 9=some 69:=Ym
theorem ai1:jJ Zp 126=true:=Ym
theorem ai2:jJ Zp 129=true:=Ym
theorem gC:jJ Zp 24=true:=Ym
theorem bA:jJ Zp 26=true:=Ym
theorem jo:jJ Zp 32=true:=Ym
theorem zR:gV Zp 36=some [(0,1),(1,1),(2,1),(3,16),(19,16),(35,16),(51,16),(67,1),(68,1),(69,1),(70,1),(71,1),(72,1),(73,1),(74,1),(75,1),(76,1),(77,1),(78,1),(79,1),(80,1),(81,1),(82,1),(83,1),(84,1),(85,1),(86,1),(87,1),(88,1),(89,1),(90,1)]:=Ym
theorem aiV:Zp.underlying 124=some (.slice 126):=Ym
theorem aiW:Zp.underlying 127=some (.slice 129):=Ym
theorem u3:Zp.underlying 3=some (.int .i64):=Ym
theorem iH:Zp.underlying 32=some (.int .u32):=Ym
theorem u34:Zp.underlying 34=some (.array 16 5):=Ym
theorem z36:fR Zp 36=some ([.int .u32 0,.int .u32 0,.int .i64 0] ++ (List.replicate 64 (.int .u8 0) ++ (List.replicate 21 (.int .u64 0) ++ ([.int .u32 0,.int .u32 0,.int .u64 0])))):=Ym
theorem abZ {w:World} {b:Nat}:Calls Zp 54 #[.pointer (some ⟨b,0,none⟩)] w fun en w'=>∃x,en = .returned (.slice (some ⟨x,0,none⟩) 4 4)∧w.heap.size≤x∧Md [] w w'∧ck w' x (ptrs b 3 16 4) 126:=by
 refine enter (n:=16) Tryz.func54 q q q fun B=>ns (an q (aP (dX (ml 12) [12,13] (fun w'=>Md [] w w') eC Ym ?_)));intro I C;refine⟨C,?_⟩;refine mo q (mz (fun w' A=>dr q) (mz (fun w' A=>aL q WT) (mo q (mz (fun w' A=>dr q) (mz (fun w' A=>aL q afF) (mo q (mz (fun w' A=>dr q) (mz (fun w' A=>aL q afG) (mo q (mz (fun w' A=>dr q) (mz (fun w' A=>aL q afH) (ec (qZ aiV ahG Om q q q (by simp[qV,Value.oneCell']) Om ?_)))))))))))));intro x G E H D F;refine ar q ?_;exact j4 trivial q q ⟨x,q,ly C.size E,C.k D,(show ck G x (ptrs b 3 16 4) 126 from F)⟩
theorem YX {w:World} {b:Nat}:Calls Zp 55 #[.pointer (some ⟨b,0,none⟩)] w fun en w'=>∃x,en = .returned (.slice (some ⟨x,0,none⟩) 21 21)∧w.heap.size≤x∧Md [] w w'∧ck w' x (ptrs b 67 1 21) 129:=by
 refine enter (n:=67) Tryz.func55 q q q fun B=>ns (an q (aP (dX (ml 63) [63,64] (fun w'=>Md [] w w') eC Ym ?_)));intro I C;refine⟨C,?_⟩;refine mo q (mz (fun w' A=>dr q) (mz (fun w' A=>aL q pF) (mo q (mz (fun w' A=>dr q) (mz (fun w' A=>aL q MD) (mo q (mz (fun w' A=>dr q) (mz (fun w' A=>aL q ME) (mo q (mz (fun w' A=>dr q) (mz (fun w' A=>aL q EW) (mo q (mz (fun w' A=>dr q) ?_)))))))))))));refine mz (fun w' A=>aL q EX) (mo q (mz (fun w' A=>dr q) (mz (fun w' A=>aL q EY) (mo q (mz (fun w' A=>dr q) (mz (fun w' A=>aL q xC) (mo q (mz (fun w' A=>dr q) (mz (fun w' A=>aL q xD) (mo q (mz (fun w' A=>dr q) (mz (fun w' A=>aL q EZ) (mo q ?_)))))))))))));refine mz (fun w' A=>dr q) (mz (fun w' A=>aL q QI) ?_)
 refine mo q (mz (fun w' A=>dr q) (mz (fun w' A=>aL q QJ) (mo q (mz (fun w' A=>dr q) (mz (fun w' A=>aL q adv) (mo q (mz (fun w' A=>dr q) (mz (fun w' A=>aL q adw) (mo q (mz (fun w' A=>dr q) (mz (fun w' A=>aL q adx) (mo q (mz (fun w' A=>dr q) ?_)))))))))))));refine mz (fun w' A=>aL q ady) (mo q (mz (fun w' A=>dr q) (mz (fun w' A=>aL q FA) (mo q (mz (fun w' A=>dr q) (mz (fun w' A=>aL q FB) (mo q (mz (fun w' A=>dr q) (mz (fun w' A=>aL q FC) (mo q (mz (fun w' A=>dr q) (mz (fun w' A=>aL q FD) (mo q ?_)))))))))))));refine mz (fun w' A=>dr q) (mz (fun w' A=>aL q adz) (mo q (mz (fun w' A=>dr q) (mz (fun w' A=>aL q ad1) (ec (qZ aiW ahH Om q q q (by simp[qV,Value.oneCell']) Om ?_))))));intro x G E H D F;refine ar q ?_;exact j4 trivial q q ⟨x,q,ly C.size E,C.k D,(show ck G x (ptrs b 67 1 21) 129 from F)⟩
theorem uZ {w:World} {Q:Nat→Prop} {b1:Nat} {v0:Value} {l:Ly} (hB:ck w b1 [v0] 24) (h0:Ls fI w Q v0 l) (a:Nat) (ha:a+4≤l.length) :
  Calls Zp 53 #[.int .i64 (a:Int),.pointer (some ⟨b1,0,none⟩)] w fun en w'=>en = .returned (.int .u32 ((at4 l a:Nat):Int))∧Md [] w w':=by
 have L:=h0.gm;refine enter (n:=14) Tryz.func53 q q q fun B=>ns (an q (ns (st _ (aC q gC hB q) (mv q (ax yo q (pK (Q:=fun _=>True) (fun _ _=>trivial) (h0.sub fun _ _ _=>trivial) (a:Int) Oh 4 Oh) ?_)))));rintro en H ⟨F,G,rfl,D,E,A⟩;refine rv ?_;have C:mM l a 4=(at4 l a,true):=AI (k:=4) (.inl q) ha;rw[C]at A;obtain⟨rfl,rfl⟩:=Prod.mk.inj A;refine mv q (se q q (se q q (d9 q (an q (nm q (st _ (eF (a:=at4 l a) 4294967296 q (by rw[mE];rfl) iH q (BR _ _)) (ar q ?_)))))));exact j4 trivial q q ⟨q,D⟩
set_option maxRecDepth 100000 in
theorem SF (uQ:Up w Q) {v0:Value} {b:Ly} (h00:Ls fI w Q v0 b) (p0:272≤b.length) :
  Calls Zp 23 #[v0] w fun en w'=>∃r0:bS,en = .returned (.agg (bS.cells r0).toArray)∧Md [] w w'∧bS.ok r0∧iN b=r0:=by
 have L:=h00.gm;obtain⟨U,f,F⟩:∃U:Nat→Prop,(∀x,w.heap.size≤x→¬U x)∧Ls fI w U v0 b:=⟨fun x=>x<w.heap.size,fun x h k=>by omega,h00.sub fun x _ h=>h⟩;clear h00;have M:=Md.refl [] w;refine enter (n:=73) Tryz.func23 q q q fun B=>ns (gN q (fU F.cg) ?_);intro O w1 g1 l1 C A;obtain⟨F,M⟩:=k2 C F M;refine cw z36 ?_;intro S w2 t l2 C E;replace F:=F.o C;obtain⟨Z,hZ,E⟩:∃Z,(bS.cells (kP b 0 0 0 0)).length=Z.length∧ck w2 S Z 36:=⟨_,q,E⟩;have Am:O≠S:=(by have:=A.lt;omega);replace A:=A.o C;replace t:=ly M.size t;replace M:=M.k C;refine nt (ns (st _ (aC q gC A q) (st _ (bR (i:=16) 1 q q iC pS F.eJ Oh) ?_)));obtain⟨x,hx⟩:=fM (l:=b) (i:=16) Oh;obtain⟨cx,Aa,R⟩:=F.get hx;obtain⟨rfl,_⟩:=Aa;have ex:b.getD 16 0=x:=(by simp[List.getD,hx]);have lx:=UInt8.toNat_lt x;replace R:At _ v0 (16*1) [(b8 x)]:=R;refine st _ ((dx (kk:=16*1) 0 q q zQ R q).to (b:=(b8 x)) q) ?_;clear R;refine st _ (eF (a:=x.toNat) 9223372036854775808 q (by rw[u5];rfl) u3 q Oh) (st (.agg (bS.cells (kP b 0 0 0 0)).toArray) (by rw[show bS.cells (kP b 0 0 0 0)=bS.cells {kP b 0 0 0 0 with state:=x.toNat} by rw[← ex];rfl];exact nL (cs:=bS.cells {kP b 0 0 0 0 with state:=x.toNat}) (ps:=[(2,2)]) z36 zR q q (by simp[qV,Value.oneCell']) q q q) (cw z36 ?_));intro I w3 P l3 C D;replace F:=F.o C;have K:O≠I:=(by have:=A.lt;omega);have J:S≠I:=(by have:=E.lt;omega);obtain⟨A,E⟩:=k2 C A E;replace P:=ly M.size P;replace M:=M.k C;refine iL q q (by exact iD) (fun u hu=>bH bS.one u hu) D q ?_;intro w4 C D;have N:∀x∈[I],¬U x:=(by intro y r;simp at r;subst r;exact f _ P);have Ao:∀x∈[S],¬U x:=(by intro y r;simp at r;subst r;exact f _ t);replace F:=F.md C N;replace A:=A.sZ C K;replace E:=E.sZ C J;replace M:=M.fW C P;refine nt (aP ?_)
 refine aQ (st _ (FQ q) (an q (nm q (uI (cs:=[.pointer (some ⟨O,0,none⟩)]) q afg q (uZ A F 8 Oh) ?_))));rintro en w5 ⟨rfl,C⟩;refine rv ?_;obtain⟨F,A,E,D,M⟩:=k5 C F A E D M;refine mv q (uI (cs:=[.pointer (some ⟨O,0,none⟩)]) q afg q (uZ A F 12 Oh) ?_);rintro en w6 ⟨rfl,C⟩;refine rv ?_;obtain⟨F,A,E,D,M⟩:=k5 C F A E D M;refine sf q afD (bN q q jo q D (by(show _<91;decide)) ?_);intro w7 C D;replace F:=F.md C N;replace A:=A.sZ C K;replace E:=E.sZ C J;replace M:=M.fW C P;refine sf q MB (bN q q jo q D (by(show _<91;decide)) ?_);intro w8 C D;replace F:=F.md C N;replace A:=A.sZ C K;replace E:=E.sZ C J;replace M:=M.fW C P;replace D:ck w8 I (bS.cells (kP b (at4 b 8) (at4 b 12) 0 0)) 36:=D;refine nt (ns (an q (aP (ns (ax alm q (abZ (b:=I)) ?_)))));rintro en w9 ⟨Y,rfl,gi,C,G⟩;refine rv ?_;have Ac:Y≠I:=(by have:=D.lt;omega);obtain⟨F,A,E,D⟩:=k4 C F A E D;replace gi:=ly M.size gi;replace M:=M.k C;have g:Yb (.slice (some ⟨Y,0,none⟩) 4 4) 4:=⟨_,_,q,Nat.le_refl _,by simp[maxLen],by simp⟩;refine sL q aiV g (mv q (nt (bF ?_)))
 refine uh (fun(k:Nat) (a:Nat)=>[(24,(.int .i64 k)),(5,(.int .i64 a)),(1,.pointer (some ⟨O,0,none⟩)),(2,.pointer (some ⟨S,0,none⟩)),(3,.pointer (some ⟨I,0,none⟩)),(4,.func (.func 53) #[] #[.pointer (some ⟨O,0,none⟩)]),(22,.slice (some ⟨Y,0,none⟩) 4 4),(23,.int .i64 ((4:Nat):Int))])
  (fun(k:Nat) (a:Nat) w'=>Md [] w w'∧Ls fI w' U v0 b∧ck w' O [v0] 24∧ck w' S Z 36∧ck w' I (bS.cells (kP b (at4 b 8) (at4 b 12) k 0)) 36∧ck w' Y (ptrs I 3 16 4) 126∧k≤4∧a=24+16*k) (fun(k:Nat) (a:Nat)=>4-k) (x0:=0) (x1:=24) ?_ ?_ ?_
 ·exact⟨q,q,q,q,q,q,q,q,tV⟩
 ·exact⟨M,F,A,E,D,G,by omega,q⟩
 clear M F A E D G
 rintro k a B Aq ⟨M,F,A,E,D,G,hk,p⟩;refine ns (st _ (gq (a:=k) (b:=4) q q) (nt (aP ?_)));refine cA q (fun V=>?_) (fun V=>?_)
 ·have d:=dT V
  refine bh (au (aP (bF (ns (st _ ((bR (i:=k) 1 q q aiV aji g Oh).to (b:=.pointer (some ⟨Y,k,none⟩)) (by simp[oH,Addr.oc])) (st _ (aC (b:=Y) (j:=k) (u:=.pointer (some ⟨I,3+k*16,none⟩)) q ai1 G (QM Oh)) (an q ?_)))))));have v:=F.eJ;refine HO [(0,true),(1,true),(2,true),(3,true),(4,true),(5,true),(6,true),(7,false),(8,true),(9,true)] (fun w'=>ck w' O [v0] 24) eC Ym ?_;intro Ar C;obtain⟨F,A,E,D,G,M⟩:=k6 C F A E D G M;refine⟨A,?_⟩;refine mo q (mo q (mz (fun w' X=>dr q) (mz (fun w' X=>ig u34 pS q Om) (mz (fun w' X=>aC q gC X q) (mo q (Go.Wk.m (p7 v0 a b.length) (fun w' X=>by exact pH a b.length iC pS q v Oh Oh ⟨_,q⟩ q) ?_))))));refine mV ?_ rfl;have hT:=F.by.tail a Oh;refine BA iC pS q q D hT (yN _) (by have:(bS.cells (kP b (at4 b 8) (at4 b 12) k 0)).length=91:=rfl;simp;omega) ?_;intro As C D;clear hT;rw[← List.map_take,p,ack Oh p0]at D;replace F:=F.md C N;replace A:=A.sZ C K;replace E:=E.sZ C J;replace G:=G.sZ C Ac;replace M:=M.fW C P;refine aH ⟨q,A,?_⟩;have Ai:min ((b.drop a).map b8).length 16=16:=Vw;refine mz (fun w' X=>gU (a:=a) (b:=min ((b.drop a).map b8).length 16) 9223372036854775808 q q q Oh) (mz (fun w' X=>eK q) (ec (bW (au (aQ (st _ (rA (a:=k) (b:=1) q q Oh) (mv q (nt ?_))))))));exact rD (x0:=k+1) (x1:=a+min ((b.drop a).map b8).length 16) Oh ⟨q,q,q,q,q,q,q,q,tV⟩ ⟨M,F,A,E,D,G,by omega,by omega⟩
 have d:=dF V
 obtain rfl:k=4:=by omega
 subst p;clear G;refine dW (bU (bU (eS (au (aP (ns (ax aln q (YX (b:=I)) ?_)))))));rintro en Au ⟨c,rfl,gj,C,H⟩;refine rv ?_;have Ad:c≠I:=(by have:=D.lt;omega);obtain⟨F,A,E,D,M⟩:=k5 C F A E D M;have o:Yb (.slice (some ⟨c,0,none⟩) 21 21) 21:=⟨_,_,q,Nat.le_refl _,by simp[maxLen],by simp⟩;refine sL q aiW o (mv q (nt (bF ?_)))
 refine uh (fun(j:Nat) (a:Nat)=>[(40,(.int .i64 j)),(5,(.int .i64 a)),(1,.pointer (some ⟨O,0,none⟩)),(2,.pointer (some ⟨S,0,none⟩)),(3,.pointer (some ⟨I,0,none⟩)),(4,.func (.func 53) #[] #[.pointer (some ⟨O,0,none⟩)]),(38,.slice (some ⟨c,0,none⟩) 21 21),(39,.int .i64 ((21:Nat):Int))])
  (fun(j:Nat) (a:Nat) w'=>Md [] w w'∧Ls fI w' U v0 b∧ck w' O [v0] 24∧ck w' S Z 36∧ck w' I (bS.cells (kP b (at4 b 8) (at4 b 12) 4 j)) 36∧ck w' c (ptrs I 67 1 21) 129∧j≤21∧a=88+8*j) (fun(j:Nat) (a:Nat)=>21-j) (x0:=0) (x1:=24+16*4) ?_ ?_ ?_
 ·exact⟨q,q,q,q,q,q,q,q,tV⟩
 ·exact⟨M,F,A,E,D,H,by omega,q⟩
 clear M F A E D H
 rintro j a B Aw ⟨M,F,A,E,D,H,hj,p⟩;refine ns (st _ (gq (a:=j) (b:=21) q q) (nt (aP ?_)));refine cA q (fun W=>?_) (fun W=>?_)
 ·have T:=dT W
  refine bh (au (aP (bF (ns (st _ ((bR (i:=j) 1 q q aiW ajj o Oh).to (b:=.pointer (some ⟨c,j,none⟩)) (by simp[oH,Addr.oc])) (st _ (aC (b:=c) (j:=j) (u:=.pointer (some ⟨I,67+j*1,none⟩)) q ai2 H (QM Oh)) (an q (nm q (st _ (aC q gC A q) (mv q (ax yo q (pK (Q:=fun _=>True) (fun _ _=>trivial) (F.sub fun _ _ _=>trivial) (a:Int) Oh 8 Oh) ?_)))))))))));rintro en Ax ⟨r0,r1,rfl,C,hr,e⟩;refine rv ?_;have z:mM b a 8=(fA b a,true):=AI (k:=8) (.inr q) Oh;rw[z]at e;obtain⟨rfl,rfl⟩:=Prod.mk.inj e;obtain⟨F,A,E,D,H,M⟩:=k6 C F A E D H M;refine mv q (st (.int .u64 ((fA b a:Nat):Int)) (jG q q) (se q q (sn q (bN (b:=I) (j:=67+j*1) q q bA q D (by have:(bS.cells (kP b (at4 b 8) (at4 b 12) 4 j)).length=91:=rfl;omega) ?_))));intro Ay C D;rw[Nat.mul_one,p,ZF T]at D;replace F:=F.md C N;replace A:=A.sZ C K;replace E:=E.sZ C J;replace H:=H.sZ C Ad;replace M:=M.fW C P;refine nt (aQ (mv q (st _ (rA (a:=a) (b:=8) q q Oh) (d9 q (aH (bW (au (aQ (st _ (rA (a:=j) (b:=1) q q Oh) (mv q (nt ?_)))))))))));exact rD (x0:=j+1) (x1:=a+8) Oh ⟨q,q,q,q,q,q,q,q,tV⟩ ⟨M,F,A,E,D,H,by omega,by omega⟩
 have T:=dF W
 obtain rfl:j=21:=by omega
 subst p;clear H;refine dW (bU (bU (eS (au (ns (m2 q q (uI (cs:=[.pointer (some ⟨O,0,none⟩)]) q afg q (uZ A F 256 Oh) ?_)))))));rintro en A0 ⟨rfl,C⟩;refine rv ?_;obtain⟨F,A,E,D,M⟩:=k5 C F A E D M;refine m2 q q (st _ (rA (a:=256) (b:=4) q q Oh) (uI (cs:=[.pointer (some ⟨O,0,none⟩)]) q afg q (uZ A F 260 Oh) ?_));rintro en A5 ⟨rfl,C⟩;refine rv ?_;obtain⟨F,A,E,D,M⟩:=k5 C F A E D M;refine sf q ad2 (bN q q jo q D (by(show _<91;decide)) ?_);intro A9 C D;replace F:=F.md C N;replace A:=A.sZ C K;replace E:=E.sZ C J;replace M:=M.fW C P;refine sf q ad3 (bN q q jo q D (by(show _<91;decide)) ?_);intro Ba C D;replace F:=F.md C N;replace A:=A.sZ C K;replace E:=E.sZ C J;replace M:=M.fW C P;refine nt (ns (st _ (aC q gC A q) (mv q (st _ (rA (a:=256) (b:=8) q q Oh) (ax yo q (pK (Q:=fun _=>True) (fun _ _=>trivial) (F.sub fun _ _ _=>trivial) ((264:Nat):Int) Oh 8 Oh) ?_)))));rintro en Bb ⟨r0,r1,rfl,C,hr,e⟩;refine rv ?_;have z:mM b ((264:Nat):Int) 8=(fA b 264,true):=AI (k:=8) (.inr q) Oh;rw[z]at e;obtain⟨rfl,rfl⟩:=Prod.mk.inj e;obtain⟨E,D,M⟩:=k3 C E D M;refine mv q (st (.int .u64 ((fA b 264:Nat):Int)) (jG q q) (se q q (sf q ad4 (bN q q bA q D (by(show _<91;decide)) ?_))));intro Ae C D;replace E:=E.sZ C J;replace M:=M.fW C P
 replace D:ck Ae I (bS.cells (iN b)) 36:=D;refine nt (ns (st _ (ou q (by exact iD) D) (iL q q (by exact iD) (fun u hu=>bH bS.one u hu) E hZ ?_)));intro Bc C E;replace M:=M.fW C t;refine nt (iO ?_);exact akC trivial q q (by exact iD) E ⟨_,q,M,QK p0,q⟩
theorem alk:dZ Zp 52=true:=Ym
theorem u9:Zp.underlying 9=some (.string):=Ym
theorem SE (uQ:Up w Q) {v0:Value} {a:Ly} (h0:Ls fI w Q v0 a) {v1:Value} {b:Ly} (h1:Ls fI w Q v1 b) :
  Calls Zp 52 #[v0,v1] w fun en w'=>∃r0:Bool,en = .returned (.bool r0)∧Md [] w w'∧decide (a=b)=r0:=by
 have C:=h0.gm;have D:=h1.gm;have M:=Md.refl [] w;have A:=uQ;refine enter (n:=10) Tryz.func52 q q q fun B=>ns (an q (nm q (st _ (rQ (s:=a) iC u5 u9 q h0.by) (mv q (st _ (rQ (s:=b) iC u5 u9 q h1.by) (st _ (TK (a:=a) (b:=b) q q) (ar q ?_)))))));exact dP (v:=(.bool ((decide (a=b))))) trivial q ⟨q,tV⟩ ⟨(decide (a=b)),q,M,(by simp(disch:=first|omega|assumption|simp) only [SS,reduceIte])⟩
theorem Z7 (uQ:Up w Q) {v0:Value} {b:Ly} (h0:Ls fI w Q v0 b) {v1:Value} {p:Ly} (h1:Ls fI w Q v1 p) :
  Calls Zp 22 #[v0,v1] w fun en w'=>∃r0:Bool,en = .returned (.bool r0)∧Md [] w w'∧vK b p=r0:=by
 have I:=h0.gm;have J:=h1.gm;have M:=Md.refl [] w;have H:=uQ;refine enter (n:=18) Tryz.func22 q q q fun B=>ns (an q (nm q (sL q iC h0.eJ (mv q (sL q iC h1.eJ (st _ (QW (a:=b.length) (b:=p.length) q q) (mv q ?_)))))));refine dR (t:=10) q (fun A=>?_) (fun A=>?_)
 ·(have C:=dT A);refine sg A (bf q) (sg A (bf q) (sg A (jq q iC h1.eJ) (sg A (kZ 1 0 p.length iC pS q h0.eJ Oh Oh q ⟨_,q⟩) ?_)));have F:=h0.head (hi:=p.length) Oh;refine sg A (bf q) (gL q q q A alk q (SE uQ F h1) ?_);rintro en K ⟨D,rfl,G,E⟩;refine rv ?_;replace M:=M.k G;refine st _ (bK q A q) (ar q ?_);exact dP (v:=(.bool D)) trivial q ⟨q,tV⟩ ⟨D,q,M,(by rw[vK]<;>simp(disch:=first|omega|assumption|simp) only [SS,reduceIte,C,E])⟩
 (have C:=dF A);refine sk A (sk A (sk A (sk A (sk A (sk A (st _ (aS q A q) (ar q ?_)))))));exact dP (v:=(.bool false)) trivial q ⟨q,tV⟩ ⟨false,q,M,(by rw[vK]<;>simp(disch:=first|omega|assumption|simp) only [SS,reduceIte,C])⟩
theorem OX (uQ:Up w Q) (h:bS) (a0_0:bS.ok h) :
  Calls Zp 24 #[.agg (bS.cells h).toArray] w fun en w'=>∃r0:Nat,∃r1:Bool,en = .returned (.tuple #[(.int .u64 r0),(.bool r1)])∧Md [] w w'∧r0<18446744073709551616∧xZ h=(r0,r1):=by
 have M:=Md.refl [] w;have J:=uQ;refine enter (n:=15) Tryz.func24 q q q fun B=>ns (gN (cs:=(bS.cells h)) q q ?_);intro G N C I H E;have F:=uQ _ C;replace C:=ly M.size C;replace M:=M.k H;refine d9 q (an q (ns (sf q pF (sl (u:=(.int .u64 ((h.n.getD 0 0:Nat):Int))) q bA E q ?_))));have K:h.n.getD 0 0<18446744073709551616:=(eT a0_0.2.2.2.2.2.2.2.1 0);refine sf q MD (sl (u:=(.int .u64 ((h.n.getD 1 0:Nat):Int))) q bA E q ?_);have L:h.n.getD 1 0<18446744073709551616:=(eT a0_0.2.2.2.2.2.2.2.1 1);refine st _ (sH (a:=(h.n.getD 0 0)) (b:=(h.n.getD 1 0)) 18446744073709551616 q q q q) (an q (aP (nm q (sf q pF (sl (u:=(.int .u64 ((h.n.getD 0 0:Nat):Int))) q bA E q (st _ (gq (a:=(((h.n.getD 0 0)+(h.n.getD 1 0))%18446744073709551616)) (b:=(h.n.getD 0 0)) q q) (nt ?_)))))));refine cA q (fun D=>?_) (fun D=>?_)
 ·(have A:=dT D);refine ns (d9 q (ar q (aX ?_)));exact eA (vs:=[(.int .u64 ((0:Nat):Int)),(.bool false)]) trivial q ⟨q,q,tV⟩ q ⟨0,false,q,M,Oh,(by rw[xZ]<;>simp(disch:=first|omega|assumption|simp) only [SS,reduceIte,A])⟩
 (have A:=dF D);refine bh (au (nm q (d9 q (ar q ?_))));exact eA (vs:=[(.int .u64 ((((h.n.getD 0 0)+(h.n.getD 1 0))%18446744073709551616:Nat):Int)),(.bool true)]) trivial q ⟨q,q,tV⟩ q ⟨((h.n.getD 0 0)+(h.n.getD 1 0))%18446744073709551616,true,q,M,Oh,(by rw[xZ]<;>simp(disch:=first|omega|assumption|simp) only [SS,reduceIte,A])⟩
theorem CX (uQ:Up w Q) (h:bS) (a0_0:bS.ok h) (p:Nat) (a1:p<18446744073709551616) (size:Nat) (a2:size<18446744073709551616) (e:Nat) (a3:e<18446744073709551616) :
  Calls Zp 25 #[.agg (bS.cells h).toArray,(.int .u64 p),(.int .u64 size),(.int .u64 e)] w fun en w'=>∃r0:Nat,en = .returned (.int .i64 r0)∧Md [] w w'∧r0<9223372036854775808∧mg h p size e=r0:=by
 have M:=Md.refl [] w;have X:=uQ;refine enter (n:=45) Tryz.func25 q q q fun B=>ns (gN (cs:=(bS.cells h)) q q ?_);intro U Z N W V R;have T:=uQ _ N;replace N:=ly M.size N;replace M:=M.k V;refine an q (aP (bF (nm q (st _ (qf (a:=p) (b:=8) q q Oh) (st _ (eX (a:=(p%8)) (b:=0) q q) (d9 q (nt ?_)))))));refine cA q (fun S=>?_) (fun S=>?_)
 ·(have I:=dT S);refine ns (ar q (bE (aX ?_)));exact dP (v:=(.int .i64 ((3:Nat):Int))) trivial q ⟨q,tV⟩ ⟨3,q,M,Oh,(by rw[mg]<;>simp(disch:=first|omega|assumption|simp) only [SS,reduceIte,I])⟩
 (have I:=dF S);refine nm q (st _ (gO (a:=size) (b:=0) q q) (mv q ?_));refine dR (t:=16) q (fun F=>?_) (fun F=>?_)
 ·(have D:=dT F);refine sk F (sk F (sk F (st _ (bK q F q) (an q (iT q q (ns (ar q (bE (aX ?_)))))))));exact dP (v:=(.int .i64 ((5:Nat):Int))) trivial q ⟨q,tV⟩ ⟨5,q,M,Oh,(by rw[mg]<;>simp(disch:=first|omega|assumption|simp) only [SS,reduceIte,I,D])⟩
 (have D:=dF F);refine sg F (bf q) (sg F (qf (a:=size) (b:=16) q q Oh) (sg F (eX (a:=(size%16)) (b:=0) q q) (st _ (aS q F q) (an q ?_))));refine cA q (fun O=>?_) (fun O=>?_)
 ·(have E:=dT O);refine ns (ar q (bE (aX ?_)));exact dP (v:=(.int .i64 ((5:Nat):Int))) trivial q ⟨q,tV⟩ ⟨5,q,M,Oh,(by rw[mg]<;>simp(disch:=first|omega|assumption|simp) only [SS,reduceIte,I,D,E])⟩
 (have E:=dF O);refine nm q (sf q pF (sl (u:=(.int .u64 ((h.n.getD 0 0:Nat):Int))) q bA R q ?_));have Y:h.n.getD 0 0<18446744073709551616:=(eT a0_0.2.2.2.2.2.2.2.1 0);refine st _ (gq (a:=p) (b:=(h.n.getD 0 0)) q q) (mv q ?_);refine dR (t:=26) q (fun A=>?_) (fun A=>?_)
 ·(have H:=dT A);refine sk A (sk A (sk A (sk A (sk A (st _ (bK q A q) (mv q (sk q (sk q (sk q (st _ (bK q q q) (mv q (sk q (sk q ?_)))))))))))));refine sk q (sk q (sk q (st _ (bK q q q) (an q (iT q q (ns (ar q (bE (aX ?_)))))))));exact dP (v:=(.int .i64 ((2:Nat):Int))) trivial q ⟨q,tV⟩ ⟨2,q,M,Oh,(by rw[mg]<;>simp(disch:=first|omega|assumption|simp) only [SS,reduceIte,I,D,E,H])⟩
 (have H:=dF A);refine sg A (bf q) (sg A (aL q pF) (sg A ((aC q bA R q).to (b:=(.int .u64 ((h.n.getD 0 0:Nat):Int))) q) (sg A (nN (a:=p) (b:=(h.n.getD 0 0)) 18446744073709551616 q q q Oh) (sg A (gq (a:=(p-(h.n.getD 0 0))) (b:=16) q q) (st _ (aS q A q) (mv q ?_))))));refine dR (t:=33) q (fun G=>?_) (fun G=>?_)
 ·(have J:=dT G);refine sk G (sk G (sk G (st _ (bK q G q) (mv q (sk q (sk q (sk q (sk q (sk q (st _ (bK q q q) (an q (iT q q ?_))))))))))));refine ns (ar q (bE (aX ?_)));exact dP (v:=(.int .i64 ((2:Nat):Int))) trivial q ⟨q,tV⟩ ⟨2,q,M,Oh,(by rw[mg]<;>simp(disch:=first|omega|assumption|simp) only [SS,reduceIte,I,D,E,H,J])⟩
 (have J:=dF G);refine sg G (bf q) (sg G (bf q) (sg G (mC (a:=p) (b:=e) q q) (st _ (aS q G q) (mv q ?_))));refine dR (t:=38) q (fun C=>?_) (fun C=>?_)
 ·(have K:=dT C);refine sk C (sk C (sk C (sk C (sk C (st _ (bK q C q) (an q (iT q q (ns (ar q (bE ?_))))))))));refine aX ?_;exact dP (v:=(.int .i64 ((2:Nat):Int))) trivial q ⟨q,tV⟩ ⟨2,q,M,Oh,(by rw[mg]<;>simp(disch:=first|omega|assumption|simp) only [SS,reduceIte,I,D,E,H,J,K])⟩
 (have K:=dF C);refine sg C (bf q) (sg C (bf q) (sg C (bf q) (sg C (nN (a:=e) (b:=p) 18446744073709551616 q q q Oh) (sg C (mC (a:=size) (b:=(e-p)) q q) (st _ (aS q C q) (an q ?_))))));refine cA q (fun P=>?_) (fun P=>?_)
 ·(have L:=dT P);refine ns (ar q (bE (aX ?_)));exact dP (v:=(.int .i64 ((2:Nat):Int))) trivial q ⟨q,tV⟩ ⟨2,q,M,Oh,(by rw[mg]<;>simp(disch:=first|omega|assumption|simp) only [SS,reduceIte,I,D,E,H,J,K,L])⟩
 (have L:=dF P);refine bh (bW (au (ns (ar q ?_))));exact dP (v:=(.int .i64 ((0:Nat):Int))) trivial q ⟨q,tV⟩ ⟨0,q,M,Oh,(by rw[mg]<;>simp(disch:=first|omega|assumption|simp) only [SS,reduceIte,I,D,E,H,J,K,L])⟩
theorem kC:xQ Zp 5 1 1=true:=Ym
theorem akX:dZ Zp 22=true:=Ym
theorem akY:dZ Zp 23=true:=Ym
theorem ajH:dZ Zp 24=true:=Ym
theorem ajI:dZ Zp 25=true:=Ym
theorem jA:jJ Zp 3=true:=Ym
theorem RY (uQ:Up w Q) {v0:Value} {l:Ly} (h0:Ls fI w Q v0 l) (p0:l.length≤140737488355328) :
  Calls Zp 27 #[v0] w fun en w'=>∃u0:Value,∃r0:List UInt8,∃Q':Nat→Prop,en = .returned (u0)∧Md [] w w'∧rZ w w' Q Q'∧Ow fI 5 (cr [] w) w' Q' u0 r0∧l=r0:=by
 obtain⟨a,A,T,R,V⟩:∃a A,v0 = .slice a l.length A∧l.length≤A∧(a=none→l=[]):=by
  obtain⟨a,A,j,e,M,k,N,_⟩:=h0;exact⟨a,A,e,M,fun h=>List.eq_nil_of_length_eq_zero (by have:=N h;omega)⟩
 refine enter (n:=8) Tryz.func27 q q q fun B=>ns (an q (aP (nm q (st (.bool a.isNone) (by exact agf (a:=a) (m:=l.length) (c:=A) (by rw[← T];rfl) iC) (nt ?_)))));refine cA q (fun H=>?_) (fun H=>?_)
 ·have S:l=[]:=V (Option.isNone_iff_eq_none.1 H)
  refine ns (ar q (aX ?_));exact j4 trivial q q ⟨_,[],Q,q,Md.refl [] w,⟨fun x h _=>h,fun x h=>h,uQ⟩,Ow.nil _ _ _ _ _,S⟩
 refine bh ?_
 refine au (ns (l9 iC kC ?_));intro b i D W C O;obtain⟨K,J,Z,X,f⟩:=kM uQ D W C;have P:Ow fI 5 (cr [] w) i K (.slice (some ⟨b,0,none⟩) 0 0) []:=Ow.e5 (m:=0) O q q (by simp[maxLen]) (.inr D) X;replace h0:=(h0.sub J).o C;refine mv q (qi (sz:=1) q iC kC q q P h0.lz f (cr.new C) Vw Vw ?_);intro p r L Y d g E F o _ U;refine ar q ?_;exact j4 trivial q q ⟨_,_,L,q,C.fW F D,⟨fun x G I=>Y x (J x G I) (lj I C.size),fun x G=>Z x (d x G),g⟩,E,by simp⟩
theorem vC (uQ:Up w Q) {v0:Value} {l:Ly} (h0:Ls fI w Q v0 l) (p0:l.length≤140737488355328) :
  Calls Zp 27 #[v0] w fun en w'=>∃u0:Value,∃r0:List UInt8,en = .returned (u0)∧Md [] w w'∧Ls fI w' Q u0 r0∧l=r0 :=
 (RY uQ h0 p0).mono fun en w' ⟨u0,r0,Q2,he,hm,kq,k0,hF⟩=>⟨u0,r0,he,hm,k0.ls kq.2.1 (cr.up uQ),hF⟩
set_option maxRecDepth 100000 in
abbrev kU:bS:={iF:=0,bX:=0,state:=0,dh:=pV,eR:=pV,bV:=pV,seq:=pV,n:=(List.replicate 21 0),er:=0,eB:=0,eN:=0}
set_option maxHeartbeats 4000000 in
theorem IL (uQ:Up w Q) {v0:Value} {b:Ly} (h0:Ls fI w Q v0 b) :
  Calls Zp 9 #[v0] w fun en w'=>∃r0:bS,∃r1:Nat,en = .returned (.tuple #[.agg (bS.cells r0).toArray,(.int .i64 r1)])∧Md [] w w'∧bS.ok r0∧r1<9223372036854775808∧mD b=(r0,r1):=by
 have L0:=h0.gm;have M:=Md.refl [] w;have Bt:=uQ;refine enter (n:=90) Tryz.func9 q q q fun B=>ns (cw z36 ?_);intro v w1 i A0 E A;obtain⟨Q2,r,sT,A9,V⟩:=kM uQ i A0 E;replace i:=ly M.size i;replace h0:=(h0.sub r).o E;replace M:=M.k E;replace uQ:=V;clear V r sT;have H:cr [] w v:=.inr i;replace A:ck _ _ (bS.cells (kU)) _:=A;have Bh:bS.ok (kU):=(by exact⟨Om,Om,Om,q,q,q,q,(lu _),Om,Om,Om⟩);refine an q (aP (bF (nm q (sL q iC h0.eJ (st _ (gq (a:=b.length) (b:=272) q q) (d9 q (nt ?_)))))));refine cA q (fun h9=>?_) (fun h9=>?_)
 ·(have R:=dT h9);refine ns (st _ (dw (us:=[]) (cs:=(bS.cells (kU))) [] z36 zR q q trivial trivial q q) (aZ (us:=(bS.cells (kU))) q q (by exact iD) (by exact fun u S=>bH (bS.one) u S) A (lB q) ?_));have F:=A;clear A;intro w4 E A;replace M:=M.step E (hI H);clear F;replace A:ck _ _ (bS.cells (kU)) _:=A;refine ar q (bE (aX ?_));exact eA (vs:=[(.agg (bS.cells (kU)).toArray),(.int .i64 ((22:Nat):Int))]) trivial q ⟨⟨_,q,ew (cs:=(bS.cells (kU))) (by exact iD) A⟩,q,tV⟩ q ⟨(kU),22,q,M,Vv,Oh,(QY R)⟩
 (have R:=dF h9);refine nm q (bP [[(b8 76)],[(b8 80)],[(b8 75)],[(b8 83)],[(b8 72)],[(b8 72)],[(b8 82)],[(b8 72)]] iC kC Om Om q q ⟨q,q,q,q,q,q,q,q,tV⟩ ⟨q,q,q,q,q,q,q,q,tV⟩ q Om ?_);intro e w5 l As E Z;have Aj:v≠e:=(by have:=A.lt;omega);have k:cr [] w e:=cr.new M _ l;obtain⟨Q6,r,sT,c,V⟩:=kM uQ l As E;replace h0:=(h0.sub r).o E;obtain⟨A,M⟩:=k2 E A M;replace uQ:=V;clear V r sT;refine XU iC u5 q (show ck _ _ (([76,80,75,83,72,72,82,72]:Ly).map b8) _ from Z) (By.e5 (show ck _ _ (([76,80,75,83,72,72,82,72]:Ly).map b8) _ from Z) q Om) ?_;intro w7 E hY;have Af:=Z;clear Z;have hS:∀b∈[e],¬Q6 b:=(hI c);replace h0:=h0.md E hS;replace A:=A.md E Nv;replace uQ:=uQ.md E;replace M:=M.step E (hI k);obtain⟨Q8,fQ,fT,Ag⟩:=EB (Q:=Q6) hY;replace h0:=h0.sub (fun b d _=>fQ b d);replace uQ:Up w7 Q8:=fun b d=>fQ b (uQ b d);clear Af hS fQ fT hY c;refine ax akX q (Z7 uQ h0 Ag) ?_;rintro en w9 ⟨Bi,rfl,E,T⟩;refine rv ?_;obtain⟨h0,A,uQ,M⟩:=k4 E h0 A uQ M;refine st _ (j7 q) (an q ?_);refine cA q (fun y=>?_) (fun y=>?_)
 ·(have o:=AA y);refine ns (st _ (dw (us:=[]) (cs:=(bS.cells (kU))) [] z36 zR q q trivial trivial q q) (aZ (us:=(bS.cells (kU))) q q (by exact iD) (by exact fun u S=>bH (bS.one) u S) A (lB q) ?_));have F:=A;clear A;intro Bu E A;replace M:=M.step E (hI H);clear F;replace A:ck _ _ (bS.cells (kU)) _:=A;refine ar q (bE (aX ?_));exact eA (vs:=[(.agg (bS.cells (kU)).toArray),(.int .i64 ((6:Nat):Int))]) trivial q ⟨⟨_,q,ew (cs:=(bS.cells (kU))) (by exact iD) A⟩,q,tV⟩ q ⟨(kU),6,q,M,Vv,Oh,(TP R (by rw[T];exact o))⟩
 (have o:=zZ y);refine bh (bW (au (nm q (ax akY q (SF uQ h0 Oh) ?_))));rintro en Bv ⟨C,rfl,E,D,K⟩;refine rv ?_;obtain⟨h0,A,uQ,M⟩:=k4 E h0 A uQ M;refine cw z36 ?_;intro x Bw j A5 E G;have Av:v≠x:=(by have:=A.lt;omega);obtain⟨Aw,r,sT,Ah,V⟩:=kM uQ j A5 E;replace j:=ly M.size j;replace h0:=(h0.sub r).o E;obtain⟨A,M⟩:=k2 E A M;replace uQ:=V;clear V r sT;have Ai:cr [] w x:=.inr j;replace G:ck _ _ (bS.cells (kU)) _:=G;have Ba:bS.ok (kU):=(by exact⟨Om,Om,Om,q,q,q,q,(lu _),Om,Om,Om⟩);refine aZ (us:=(bS.cells C)) q q (by exact iD) (by exact fun u S=>bH (bS.one) u S) G (lB q) ?_
 have Ar:=G;clear G;intro Bx E G;have hS:∀b∈[x],¬Aw b:=(hI Ah);replace h0:=h0.md E hS;replace A:=A.md E Nv;replace uQ:=uQ.md E;replace M:=M.step E (hI Ai);clear Ar hS;replace G:ck _ _ (bS.cells C) _:=G;refine nt (ns (st _ (dc (bS.cells C) q (by exact iD) G q) (ax ajH q (OX uQ C D) ?_)));rintro en Bz ⟨W,Be,rfl,E,Bb,L⟩;refine rv ?_;obtain⟨h0,A,G,uQ,M⟩:=k5 E h0 A G uQ M;refine mv q (se q q (se q q (d9 q (an q (aP (bF (ns (sf q MB (sl (u:=(.int .u32 C.bX)) q jo G q ?_)))))))));have Bl:C.bX<4294967296:=D.2.1;refine st _ (aae (a:=C.bX) (b:=4) 4294967296 q q q q Oh) (st _ (eX (a:=(andNot C.bX 4)) (b:=0) q q) (an q ?_));refine cA q (fun z=>?_) (fun z=>?_)
 ·(have I:=dT z);refine ns (st _ (dw (us:=[]) (cs:=(bS.cells (kU))) [] z36 zR q q trivial trivial q q) (aZ (us:=(bS.cells (kU))) q q (by exact iD) (by exact fun u S=>bH (bS.one) u S) A (lB q) ?_));have F:=A;clear A;intro B0 E A;replace M:=M.step E (hI H);clear F;replace A:ck _ _ (bS.cells (kU)) _:=A;refine ar q (bE (aX ?_));exact eA (vs:=[(.agg (bS.cells (kU)).toArray),(.int .i64 ((7:Nat):Int))]) trivial q ⟨⟨_,q,ew (cs:=(bS.cells (kU))) (by exact iD) A⟩,q,tV⟩ q ⟨(kU),7,q,M,Vv,Oh,(nO R T (by simp_all) K (by rw[lK L];rw[if_pos I]) Om)⟩
 (have I:=dF z);refine ns (sf q afE (sl (u:=(.int .i64 C.state)) q jA G q ?_));have Bm:C.state<9223372036854775808:=D.2.2.1;refine st _ (mC (a:=C.state) (b:=2) q q) (an q ?_);refine cA q (fun Aa=>?_) (fun Aa=>?_)
 ·(have J:=dT Aa);refine ns (st _ (dw (us:=[]) (cs:=(bS.cells (kU))) [] z36 zR q q trivial trivial q q) (aZ (us:=(bS.cells (kU))) q q (by exact iD) (by exact fun u S=>bH (bS.one) u S) A (lB q) ?_));have F:=A;clear A;intro B3 E A;replace M:=M.step E (hI H);clear F;replace A:ck _ _ (bS.cells (kU)) _:=A;refine ar q (bE (aX ?_));exact eA (vs:=[(.agg (bS.cells (kU)).toArray),(.int .i64 ((8:Nat):Int))]) trivial q ⟨⟨_,q,ew (cs:=(bS.cells (kU))) (by exact iD) A⟩,q,tV⟩ q ⟨(kU),8,q,M,Vv,Oh,(nO R T (by simp_all) K (by rw[lK L];rw[if_neg I,if_pos J]) Om)⟩
 (have J:=dF Aa);refine ns (sf q pF (sl (u:=(.int .u64 ((C.n.getD 0 0:Nat):Int))) q bA G q ?_));have Bn:C.n.getD 0 0<18446744073709551616:=(eT D.2.2.2.2.2.2.2.1 0);refine st _ (gq (a:=(C.n.getD 0 0)) (b:=272) q q) (mv q ?_);refine dR (t:=43) q (fun O=>?_) (fun O=>?_)
 ·(have Al:=dT O);refine sk O (sk O (sk O (sk O (st _ (bK q O q) (mv q (sk q (sk q (sk q (sk q (st _ (bK q q q) (an q (iT q q ?_))))))))))));refine ns (st _ (dw (us:=[]) (cs:=(bS.cells (kU))) [] z36 zR q q trivial trivial q q) (aZ (us:=(bS.cells (kU))) q q (by exact iD) (by exact fun u S=>bH (bS.one) u S) A (lB q) ?_));have F:=A;clear A;intro B4 E A;replace M:=M.step E (hI H);clear F;replace A:ck _ _ (bS.cells (kU)) _:=A;refine ar q (bE (aX ?_));exact eA (vs:=[(.agg (bS.cells (kU)).toArray),(.int .i64 ((5:Nat):Int))]) trivial q ⟨⟨_,q,ew (cs:=(bS.cells (kU))) (by exact iD) A⟩,q,tV⟩ q ⟨(kU),5,q,M,Vv,Oh,(nO R T (by simp_all) K (by rw[lK L];rw[if_neg I,if_neg J,if_pos Oh]) Om)⟩
 (have Al:=dF O);refine sg O (aL q pF) (sg O ((aC q bA G q).to (b:=(.int .u64 ((C.n.getD 0 0:Nat):Int))) q) (sg O (qf (a:=(C.n.getD 0 0)) (b:=8) q q Oh) (sg O (eX (a:=((C.n.getD 0 0)%8)) (b:=0) q q) (st _ (aS q O q) (mv q ?_)))));refine dR (t:=49) q (fun P=>?_) (fun P=>?_)
 ·(have Am:=dT P);refine sk P (sk P (sk P (sk P (st _ (bK q P q) (an q (iT q q (ns (st _ (dw (us:=[]) (cs:=(bS.cells (kU))) [] z36 zR q q trivial trivial q q) (aZ (us:=(bS.cells (kU))) q q (by exact iD) (by exact fun u S=>bH (bS.one) u S) A (lB q) ?_)))))))));have F:=A;clear A;intro B5 E A;replace M:=M.step E (hI H);clear F;replace A:ck _ _ (bS.cells (kU)) _:=A;refine ar q (bE (aX ?_));exact eA (vs:=[(.agg (bS.cells (kU)).toArray),(.int .i64 ((5:Nat):Int))]) trivial q ⟨⟨_,q,ew (cs:=(bS.cells (kU))) (by exact iD) A⟩,q,tV⟩ q ⟨(kU),5,q,M,Vv,Oh,(nO R T (by simp_all) K (by rw[lK L];rw[if_neg I,if_neg J,if_pos Oh]) Om)⟩
 (have Am:=dF P);refine sg P (aL q MD) (sg P ((aC q bA G q).to (b:=(.int .u64 ((C.n.getD 1 0:Nat):Int))) q) ?_);have Bo:C.n.getD 1 0<18446744073709551616:=(eT D.2.2.2.2.2.2.2.1 1);refine sg P (qf (a:=(C.n.getD 1 0)) (b:=8) q q Oh) (sg P (eX (a:=((C.n.getD 1 0)%8)) (b:=0) q q) (st _ (aS q P q) (an q ?_)));refine cA q (fun Ab=>?_) (fun Ab=>?_)
 ·(have Ak:=dT Ab);refine ns (st _ (dw (us:=[]) (cs:=(bS.cells (kU))) [] z36 zR q q trivial trivial q q) (aZ (us:=(bS.cells (kU))) q q (by exact iD) (by exact fun u S=>bH (bS.one) u S) A (lB q) ?_));have F:=A;clear A;intro B6 E A;replace M:=M.step E (hI H);clear F;replace A:ck _ _ (bS.cells (kU)) _:=A;refine ar q (bE (aX ?_));exact eA (vs:=[(.agg (bS.cells (kU)).toArray),(.int .i64 ((5:Nat):Int))]) trivial q ⟨⟨_,q,ew (cs:=(bS.cells (kU))) (by exact iD) A⟩,q,tV⟩ q ⟨(kU),5,q,M,Vv,Oh,(nO R T (by simp_all) K (by rw[lK L];rw[if_neg I,if_neg J,if_pos Oh]) Om)⟩
 (have Ak:=dF Ab);refine nm q (st _ (j7 q) (mv q ?_));refine dR (t:=59) q (fun N=>?_) (fun N=>?_)
 ·(have Ap:=AA N);refine sk N (sk N (sk N (sk N (sk N (st _ (bK q N q) (an q (iT q q (ns (st _ (dw (us:=[]) (cs:=(bS.cells (kU))) [] z36 zR q q trivial trivial q q) (aZ (us:=(bS.cells (kU))) q q (by exact iD) (by exact fun u S=>bH (bS.one) u S) A (lB q) ?_))))))))));have F:=A;clear A;intro B7 E A;replace M:=M.step E (hI H);clear F;replace A:ck _ _ (bS.cells (kU)) _:=A;refine ar q (bE (aX ?_));exact eA (vs:=[(.agg (bS.cells (kU)).toArray),(.int .i64 ((2:Nat):Int))]) trivial q ⟨⟨_,q,ew (cs:=(bS.cells (kU))) (by exact iD) A⟩,q,tV⟩ q ⟨(kU),2,q,M,Vv,Oh,(nO R T (by simp_all) K (by rw[lK L];rw[if_neg I,if_neg J,if_neg Oh,if_pos (by(left;simp_all))]) Om)⟩
 (have Ap:=zZ N);refine sg N (bf q) (sg N (bf q) (sg N (jq q iC h0.eJ) (sg N (eF (a:=b.length) 18446744073709551616 q (by rw[u3];rfl) mE q Oh) (sg N (mC (a:=W) (b:=b.length) q q) (st _ (aS q N q) (an q ?_))))));refine cA q (fun Ac=>?_) (fun Ac=>?_)
 ·(have Ao:=dT Ac);refine ns (st _ (dw (us:=[]) (cs:=(bS.cells (kU))) [] z36 zR q q trivial trivial q q) (aZ (us:=(bS.cells (kU))) q q (by exact iD) (by exact fun u S=>bH (bS.one) u S) A (lB q) ?_));have F:=A;clear A;intro B8 E A;replace M:=M.step E (hI H);clear F;replace A:ck _ _ (bS.cells (kU)) _:=A;refine ar q (bE (aX ?_));exact eA (vs:=[(.agg (bS.cells (kU)).toArray),(.int .i64 ((2:Nat):Int))]) trivial q ⟨⟨_,q,ew (cs:=(bS.cells (kU))) (by exact iD) A⟩,q,tV⟩ q ⟨(kU),2,q,M,Vv,Oh,(nO R T (by simp_all) K (by rw[lK L];rw[if_neg I,if_neg J,if_neg Oh,if_pos (by(right;omega))]) Om)⟩
 (have Ao:=dF Ac);refine bh (bW (au (aP (ns (st _ (dc (bS.cells C) q (by exact iD) G q) (sf q ME (sl (u:=(.int .u64 ((C.n.getD 2 0:Nat):Int))) q bA G q ?_)))))));have Bp:C.n.getD 2 0<18446744073709551616:=(eT D.2.2.2.2.2.2.2.1 2);refine sf q EW (sl (u:=(.int .u64 ((C.n.getD 3 0:Nat):Int))) q bA G q ?_);have Bq:C.n.getD 3 0<18446744073709551616:=(eT D.2.2.2.2.2.2.2.1 3);refine mv q (ax ajI q (CX uQ C D (C.n.getD 2 0) Oh (C.n.getD 3 0) Oh W Oh) ?_);rintro en B9 ⟨X,rfl,E,Bc,g⟩;refine rv ?_;obtain⟨A,G,uQ,M⟩:=k4 E A G uQ M;refine an q (nm q (st _ (eX (a:=X) (b:=0) q q) (nt ?_)));refine cA q (fun Ad=>?_) (fun Ad=>?_)
 ·(have U:=dT Ad);refine ns (st _ (dw (us:=[]) (cs:=(bS.cells (kU))) [] z36 zR q q trivial trivial q q) (mv q (aZ (us:=(bS.cells (kU))) q q (by exact iD) (by exact fun u S=>bH (bS.one) u S) A (lB q) ?_)));have F:=A;clear A;intro Ca E A;replace M:=M.step E (hI H);clear F;replace A:ck _ _ (bS.cells (kU)) _:=A;refine ar q (aX ?_);exact eA (vs:=[(.agg (bS.cells (kU)).toArray),(.int .i64 X)]) trivial q ⟨⟨_,q,ew (cs:=(bS.cells (kU))) (by exact iD) A⟩,q,tV⟩ q ⟨(kU),X,q,M,Vv,Vv,(nO R T (by simp_all) K (by rw[lK L];rw[if_neg I,if_neg J,if_neg Oh,if_neg (by rintro(h|h)<;>first|omega|simp_all),g,if_pos U]) U)⟩
 (have U:=dF Ad);refine bh (au (aP (ns (st _ (dc (bS.cells C) q (by exact iD) G q) (sf q EX (sl (u:=(.int .u64 ((C.n.getD 4 0:Nat):Int))) q bA G q ?_))))));have Br:C.n.getD 4 0<18446744073709551616:=(eT D.2.2.2.2.2.2.2.1 4);refine sf q EY (sl (u:=(.int .u64 ((C.n.getD 5 0:Nat):Int))) q bA G q ?_);have Bs:C.n.getD 5 0<18446744073709551616:=(eT D.2.2.2.2.2.2.2.1 5);refine mv q (ax ajI q (CX uQ C D (C.n.getD 4 0) Oh (C.n.getD 5 0) Oh W Oh) ?_);rintro en Cb ⟨Y,rfl,E,Bd,p⟩;refine rv ?_;obtain⟨A,G,M⟩:=k3 E A G M;refine an q (nm q (st _ (eX (a:=Y) (b:=0) q q) (nt ?_)));refine cA q (fun Ae=>?_) (fun Ae=>?_)
 ·(have f:=dT Ae);refine ns (st _ (dw (us:=[]) (cs:=(bS.cells (kU))) [] z36 zR q q trivial trivial q q) (mv q (aZ (us:=(bS.cells (kU))) q q (by exact iD) (by exact fun u S=>bH (bS.one) u S) A (lB q) ?_)));have F:=A;clear A;intro Cc E A;replace M:=M.step E (hI H);clear F;replace A:ck _ _ (bS.cells (kU)) _:=A;refine ar q (aX ?_);exact eA (vs:=[(.agg (bS.cells (kU)).toArray),(.int .i64 Y)]) trivial q ⟨⟨_,q,ew (cs:=(bS.cells (kU))) (by exact iD) A⟩,q,tV⟩ q ⟨(kU),Y,q,M,Vv,Vv,(nO R T (by simp_all) K (by rw[lK L];rw[if_neg I,if_neg J,if_neg Oh,if_neg (by rintro(h|h)<;>first|omega|simp_all),g,if_neg U,p]) f)⟩
 (have f:=dF Ae);refine bh (au (ns (st _ (dc (bS.cells C) q (by exact iD) G q) (aZ (us:=(bS.cells C)) q q (by exact iD) (by exact fun u S=>bH (bS.one) u S) A (lB q) ?_))));have F:=A;clear A;intro Cd E A;replace M:=M.step E (hI H);clear F;replace A:ck _ _ (bS.cells C) _:=A;refine ar q ?_;exact eA (vs:=[(.agg (bS.cells C).toArray),(.int .i64 ((0:Nat):Int))]) trivial q ⟨⟨_,q,ew (cs:=(bS.cells C)) (by exact iD) A⟩,q,tV⟩ q ⟨C,0,q,M,D,Oh,(adP R T (by simp_all) K (by rw[lK L];rw[if_neg I,if_neg J,if_neg Oh,if_neg (by rintro(h|h)<;>first|omega|simp_all),g,if_neg U,p];simpa using f))⟩
theorem ajJ:dZ Zp 27=true:=Ym
theorem fn9:dZ Zp 9=true:=Ym
theorem alB:gV Zp 73=some [(0,1),(1,91)]:=Ym
theorem z73:fR Zp 73=some ([.slice none 0 0,.int .u32 0,.int .u32 0,.int .i64 0] ++ (List.replicate 64 (.int .u8 0) ++ (List.replicate 21 (.int .u64 0) ++ ([.int .u32 0,.int .u32 0,.int .u64 0])))):=Ym
set_option maxRecDepth 100000 in
theorem HF (uQ:Up w Q) {v0:Value} {b:Ly} (h0:Ls fI w Q v0 b) (p0:b.length≤140737488355328) :
  Calls Zp 13 #[v0] w fun en w'=>∃u0:Value,∃r0:Option (eW),∃r1:Nat,en = .returned (.tuple #[u0,(.int .i64 r1)])∧Md [] w w'∧Po fE 73 w' Q u0 r0∧r1<9223372036854775808∧lS b=(r0,r1):=by
 have L0:=h0.gm;have M:=Md.refl [] w;have t:=uQ;have l:∀b,Q b→Q b:=fun _ h=>h;refine enter (n:=28) Tryz.func13 q q q fun B=>ns (d9 q (an q (nm q (ax fn9 q (IL uQ h0) ?_))));rintro en w1 ⟨C,L,rfl,D,P,z,X⟩;refine rv ?_;obtain⟨h0,uQ,M⟩:=k3 D h0 uQ M;refine mv q (se q q (se q q (cw z36 ?_)));intro V w2 O r D A;obtain⟨Q3,j,k,Z,J⟩:=kM uQ O r D;replace l:=tT l k;replace O:=ly M.size O;replace h0:=(h0.sub j).o D;replace M:=M.k D;replace uQ:=J;clear J j k;have c:cr [] w V:=.inr O;replace A:ck _ _ (bS.cells (kU)) _:=A;have y:bS.ok (kU):=(by exact⟨Om,Om,Om,q,q,q,q,(lu _),Om,Om,Om⟩);refine aZ (us:=(bS.cells C)) q q (by exact iD) (by exact fun u hu=>bH (bS.one) u hu) A (lB q) ?_
 have g:=A;clear A;intro w5 D A;have v:∀b∈[V],¬Q3 b:=(hI Z);replace h0:=h0.md D v;replace uQ:=uQ.md D;replace M:=M.step D (hI c);clear g v;replace A:ck _ _ (bS.cells C) _:=A;refine an q (aP (nm q (st _ (eX (a:=L) (b:=0) q q) (nt ?_))));refine cA q (fun W=>?_) (fun W=>?_)
 ·(have H:=dT W);refine nm q (d9 q (ar q (aX ?_)));exact eA (vs:=[(.pointer none),(.int .i64 L)]) trivial q ⟨q,q,tV⟩ q ⟨_,none,L,q,M,q,Vv,(by rw[lS,X,if_pos H])⟩
 (have H:=dF W);refine bh (au (ns (st _ (dc (bS.cells C) q (by exact iD) A q) (ax ajH q (OX uQ C P) ?_))));rintro en w6 ⟨U,Ab,rfl,D,Aa,e⟩;refine rv ?_;obtain⟨h0,A,uQ,M⟩:=k4 D h0 A uQ M;refine mv q (se q q (se q q (d9 q (an q (aP ?_)))));have I:=A;refine dX [(0,true),(1,true),(2,true),(4,true),(3,false)] [5,6,7,8] (fun w'=>Md [] w6 w') eC Ym ?_;intro w7 G;refine⟨G.mono Oq,?_⟩;have o:=G.mono (T:=[]) Oq;have rf:mD b=(C,0):=(by rw[X];simp only[Prod.mk.injEq,true_and];omega);have en:=adQ rf e;refine mo q (mo q (mz (fun w' x=>kZ 1 0 U iC pS q h0.eJ Oh Oh q ⟨_,q⟩) ?_));have Y:=h0.head (hi:=U) Oh;refine mz (fun w' x=>dc (bS.cells C) q (by exact iD) (I.o x) q) ?_;obtain⟨A,Y,uQ,M⟩:=k4 G A Y uQ M;refine mV ?_ rfl;refine ax ajJ q (vC uQ Y Wx) ?_;rintro en w9 ⟨K,N,rfl,D,E,Ae⟩;refine rv ?_;obtain⟨A,uQ,M,o⟩:=k4 D A uQ M o;refine aH ⟨q,o,?_⟩;refine ec ?_;clear I;clear o;refine st _ (dw (us:=[[K],(bS.cells C)]) (cs:=(eW.cells (({b:=N,h:=C}:eW)) K)) [(0,0,1),(1,1,91)] z73 alB q q ⟨(fU E.cg),q,tV⟩ ⟨q,q,tV⟩ q q) (gN (cs:=(eW.cells (({b:=N,h:=C}:eW)) K)) q q ?_);intro R Ah F i D f;have d:V≠R:=(by have:=A.lt;omega);obtain⟨Ac,j,k,p,J⟩:=kM uQ F i D
 replace l:=tT l k;replace F:=ly M.size F;replace E:=(E.sub j).o D;replace M:=M.k D;replace uQ:=J;clear J j k;refine d9 q (ar q ?_);exact eA (vs:=[(.pointer (some ⟨R,0,none⟩)),(.int .i64 ((0:Nat):Int))]) trivial q ⟨q,q,tV⟩ q ⟨_,(some (({b:=N,h:=C}:eW))),0,q,M,⟨_,_,q,t _ F,f,dU Vv (E.sub (fun b S _=>l b S))⟩,Oh,(by rw[lS,X,if_neg H,e];simp_all)⟩
theorem oU:gW Zp 101 2=true:=Ym
theorem lF:gW Zp 40 3=true:=Ym
theorem fB:iM Zp 26 1=true:=Ym
theorem iU:xQ Zp 26 1 8=true:=Ym
theorem afe:dZ Zp 10=true:=Ym
theorem ahY:dZ Zp 84=true:=Ym
theorem ahZ:dZ Zp 85=true:=Ym
theorem xE:bg Zp 40 0=some 0:=Ym
theorem afI:bg Zp 40 1=some 1:=Ym
theorem oA:bg Zp 40 2=some 2:=Ym
theorem ahl:gV Zp 101=some [(0,1),(1,1)]:=Ym
theorem MN:gV Zp 40=some [(0,1),(1,1),(2,1)]:=Ym
theorem jh:Zp.underlying 29=some (.slice 26):=Ym
theorem UW:fR Zp 101=some [.int .u64 0,.slice none 0 0]:=Ym
theorem z40:fR Zp 40=some [.int .i64 0,.int .i64 0,.int .u64 0]:=Ym
abbrev nB:jm:={kind:=0,flags:=0,size:=0}
theorem vl (uQ:Up w Q) {v0:Value} {b:Ly} (h0:Ls fI w Q v0 b) (p:Nat) (a1:p<18446744073709551616) :
  Calls Zp 10 #[v0,(.int .u64 p)] w fun en w'=>∃r0:jm,∃r1:Nat,en = .returned (.tuple #[.agg (jm.cells r0).toArray,(.int .i64 r1)])∧Md [] w w'∧jm.ok r0∧r1<9223372036854775808∧ey b p=(r0,r1):=by
 have L0:=h0.gm;have M:=Md.refl [] w;have Bb:=uQ;refine enter (n:=78) Tryz.func10 q q q fun B=>ns (cw z40 ?_);intro Ac w1 e Ar E A;obtain⟨Q2,sQ,sT,Au,Z⟩:=kM uQ e Ar E;replace e:=ly M.size e;replace h0:=(h0.sub sQ).o E;replace M:=M.k E;replace uQ:=Z;clear Z sQ sT;have F:cr [] w Ac:=.inr e;replace A:ck _ _ (jm.cells (nB)) _:=A;have A5:jm.ok (nB):=(by exact⟨Om,Om,Om⟩);refine an q (nm q (sL q iC h0.eJ (st _ (eF (a:=b.length) 18446744073709551616 q (by rw[u3];rfl) mE q Oh) (d9 q (nt (aP (bF (ns (mv q (st _ (qf (a:=p) (b:=8) q q Oh) (st _ (eX (a:=(p%8)) (b:=0) q q) ?_)))))))))));refine an q ?_;refine cA q (fun j=>?_) (fun j=>?_)
 ·(have H:=dT j);refine ns (st _ (dw (us:=[]) (cs:=(jm.cells (nB))) [] z40 MN q q trivial trivial q q) (aZ (us:=(jm.cells (nB))) q q (by exact lF) (by exact fun u P=>bH (jm.one) u P) A (lB q) ?_));have C:=A;clear A;intro w4 E A;replace M:=M.step E (hI F);clear C;replace A:ck _ _ (jm.cells (nB)) _:=A;refine ar q (bE (aX ?_));exact eA (vs:=[(.agg (jm.cells (nB)).toArray),(.int .i64 ((3:Nat):Int))]) trivial q ⟨⟨_,q,ew (cs:=(jm.cells (nB))) (by exact lF) A⟩,q,tV⟩ q ⟨(nB),3,q,M,Vv,Oh,(abW H)⟩
 (have H:=dF j);refine ns (m2 q q (st _ (mC (a:=p) (b:=b.length) q q) (mv q ?_)));refine dR (t:=20) q (fun I=>?_) (fun I=>?_)
 ·(have Ae:=dT I);refine sk I (sk I (sk I (sk I (st _ (bK q I q) (an q (iT q q (ns (st _ (dw (us:=[]) (cs:=(jm.cells (nB))) [] z40 MN q q trivial trivial q q) (aZ (us:=(jm.cells (nB))) q q (by exact lF) (by exact fun u P=>bH (jm.one) u P) A (lB q) ?_)))))))));have C:=A;clear A;intro w5 E A;replace M:=M.step E (hI F);clear C;replace A:ck _ _ (jm.cells (nB)) _:=A;refine ar q (bE (aX ?_));exact eA (vs:=[(.agg (jm.cells (nB)).toArray),(.int .i64 ((2:Nat):Int))]) trivial q ⟨⟨_,q,ew (cs:=(jm.cells (nB))) (by exact lF) A⟩,q,tV⟩ q ⟨(nB),2,q,M,Vv,Oh,(OT H Oh)⟩
 (have Ae:=dF I);refine sg I (bf q) (sg I (bf q) (sg I (nN (a:=b.length) (b:=p) 18446744073709551616 q q q Oh) (sg I (gq (a:=(b.length-p)) (b:=16) q q) (st _ (aS q I q) (an q ?_)))));refine cA q (fun k=>?_) (fun k=>?_)
 ·(have Ad:=dT k);refine ns (st _ (dw (us:=[]) (cs:=(jm.cells (nB))) [] z40 MN q q trivial trivial q q) (aZ (us:=(jm.cells (nB))) q q (by exact lF) (by exact fun u P=>bH (jm.one) u P) A (lB q) ?_));have C:=A;clear A;intro w6 E A;replace M:=M.step E (hI F);clear C;replace A:ck _ _ (jm.cells (nB)) _:=A;refine ar q (bE (aX ?_));exact eA (vs:=[(.agg (jm.cells (nB)).toArray),(.int .i64 ((2:Nat):Int))]) trivial q ⟨⟨_,q,ew (cs:=(jm.cells (nB))) (by exact lF) A⟩,q,tV⟩ q ⟨(nB),2,q,M,Vv,Oh,(OT H Oh)⟩
 (have Ad:=dF k);refine bh (bW (au (ns (m2 q q (st _ (nN (a:=b.length) (b:=p) 18446744073709551616 q q q Oh) (an q (aP ?_)))))));have W:=h0;refine dX [(0,true),(1,true),(2,true),(3,true),(4,true),(5,true),(6,true),(7,true),(8,true),(9,true),(10,true),(11,true),(12,false)] [13] (fun w'=>Md [] w1 w') eC Ym ?_;intro w7 U;refine⟨U.mono Oq,?_⟩;have MC:=U.mono (T:=[]) Oq;refine mo q (mo q (mz (fun w' g=>bR (i:=p) 1 q q iC pS h0.eJ Oh) ?_));obtain⟨d,R⟩:=fM (l:=b) (i:=p) Oh;obtain⟨c9,Aq,f⟩:=W.get R;obtain⟨rfl,_⟩:=Aq;have Bn:=UInt8.toNat_lt d;replace f:At _ v0 (p*1) [(b8 d)]:=f;refine mz (fun w' g=>(dx (kk:=p*1) 0 q q zQ (f.o g) q).to (b:=(b8 d)) q) (mz (fun w' g=>eF (a:=d.toNat) 9223372036854775808 q (by rw[u5];rfl) u3 q (lj (UInt8.toNat_lt _) Om)) (mo q (mo q (mz (fun w' g=>gU (a:=p) (b:=1) 18446744073709551616 q q q Oh) (mz (fun w' g=>bR (i:=p+1) 1 q q iC pS h0.eJ Oh) ?_)))));obtain⟨N,L⟩:=fM (l:=b) (i:=p+1) Oh;obtain⟨Ba,Ak,S⟩:=W.get L;obtain⟨rfl,_⟩:=Ak;have A9:=UInt8.toNat_lt N;replace S:At _ v0 ((p+1)*1) [(b8 N)]:=S;refine mz (fun w' g=>(dx (kk:=(p+1)*1) 0 q q zQ (S.o g) q).to (b:=(b8 N)) q) (mz (fun w' g=>eF (a:=N.toNat) 9223372036854775808 q (by rw[u5];rfl) u3 q (lj (UInt8.toNat_lt _) Om)) (mz (fun w' g=>dw (us:=[[(.int .i64 d.toNat)],[(.int .i64 N.toNat)]]) (cs:=(jm.cells (({kind:=d.toNat,flags:=N.toNat,size:=0}:jm)))) [(0,0,1),(1,1,1)] z40 MN q q ⟨q,q,tV⟩ ⟨q,q,tV⟩ q q) ?_))
 obtain⟨h0,A,uQ,M⟩:=k4 U h0 A uQ M;refine mV ?_ rfl;refine cw z40 ?_;intro h Bd V As E D;have Ap:=ly MC.size V;have Am:Ac≠h:=(by have:=A.lt;omega);obtain⟨Ao,sQ,sT,z,Z⟩:=kM uQ V As E;replace V:=ly M.size V;replace h0:=(h0.sub sQ).o E;obtain⟨A,M,MC⟩:=k3 E A M MC;replace uQ:=Z;clear Z sQ sT;have Y:cr [] w h:=.inr V;replace D:ck _ _ (jm.cells (nB)) _:=D;have Av:jm.ok (nB):=(by exact⟨Om,Om,Om⟩);refine aH ⟨q,MC,?_⟩;refine ec ?_;clear W;clear MC;refine aZ (us:=(jm.cells (({kind:=d.toNat,flags:=N.toNat,size:=0}:jm)))) q q (by exact lF) (by exact fun u P=>bH (jm.one) u P) D (lB q) ?_;have X:=D;clear D;intro Be E D;have hS:∀b∈[h],¬Ao b:=(hI z);replace h0:=h0.md E hS;replace A:=A.md E Nv;replace uQ:=uQ.md E;replace M:=M.step E (hI Y);clear X hS;replace D:ck _ _ (jm.cells (({kind:=d.toNat,flags:=N.toNat,size:=0}:jm))) _:=D;refine aH ?_;clear f;clear S;refine au (ns (m2 q q (st _ (eF (a:=p) 9223372036854775808 q (by rw[mE];rfl) u3 q Oh) (st _ (rA (a:=p) (b:=8) q q Oh) (ax yo q (pK uQ h0 (((p+8:Nat):Int)) Oh (8) Oh) ?_)))));rintro en Bf ⟨c,Ay,rfl,E,Aw,O⟩;refine rv ?_;replace A:=A.o E
 obtain⟨D,M⟩:=k2 E D M;refine mv q (se q q (se q q (sf q oA (bN q q bA q D (lB q) ?_))));have X:=D;clear D;intro Bg E D;replace A:=A.md E Nv;replace M:=M.step E (hI Y);clear X;obtain⟨G,J⟩:∃y,y=({({kind:=d.toNat,flags:=N.toNat,size:=0}:jm)with size:=c}:jm):=⟨_,q⟩;replace D:ck _ _ (jm.cells ({({kind:=d.toNat,flags:=N.toNat,size:=0}:jm)with size:=c})) _:=D;rw[← J]at D;refine nt (aP (bF (ns (sf q xE (sl (u:=(.int .i64 G.kind)) q jA D q (st _ (gq (a:=G.kind) (b:=1) q q) (mv q ?_)))))));refine dR (t:=55) q (fun K=>?_) (fun K=>?_)
 ·(have Ag:=dT K);refine sk K (sk K (sk K (st _ (bK q K q) (an q (iT q q (ns (st _ (dw (us:=[]) (cs:=(jm.cells (nB))) [] z40 MN q q trivial trivial q q) (aZ (us:=(jm.cells (nB))) q q (by exact lF) (by exact fun u P=>bH (jm.one) u P) A (lB q) ?_))))))));have C:=A;clear A;intro Bh E A;replace M:=M.step E (hI F);clear C;replace A:ck _ _ (jm.cells (nB)) _:=A;refine ar q (bE (aX ?_));exact eA (vs:=[(.agg (jm.cells (nB)).toArray),(.int .i64 ((4:Nat):Int))]) trivial q ⟨⟨_,q,ew (cs:=(jm.cells (nB))) (by exact lF) A⟩,q,tV⟩ q ⟨(nB),4,q,M,Vv,Oh,(by rw[r7 J H Oh (jW R) (jW L) (tG O q Oh),if_pos Oh];rfl)⟩
 (have Ag:=dF K);refine sg K (aL q xE) (sg K ((aC q jA D q).to (b:=(.int .i64 G.kind)) q) (sg K (mC (a:=G.kind) (b:=7) q q) (st _ (aS q K q) (an q ?_))));refine cA q (fun o=>?_) (fun o=>?_)
 ·(have Af:=dT o);refine ns (st _ (dw (us:=[]) (cs:=(jm.cells (nB))) [] z40 MN q q trivial trivial q q) (aZ (us:=(jm.cells (nB))) q q (by exact lF) (by exact fun u P=>bH (jm.one) u P) A (lB q) ?_));have C:=A;clear A;intro Bi E A;replace M:=M.step E (hI F);clear C;replace A:ck _ _ (jm.cells (nB)) _:=A;refine ar q (bE (aX ?_));exact eA (vs:=[(.agg (jm.cells (nB)).toArray),(.int .i64 ((4:Nat):Int))]) trivial q ⟨⟨_,q,ew (cs:=(jm.cells (nB))) (by exact lF) A⟩,q,tV⟩ q ⟨(nB),4,q,M,Vv,Oh,(by rw[r7 J H Oh (jW R) (jW L) (tG O q Oh),if_pos Oh];rfl)⟩
 (have Af:=dF o);refine ns (sf q afI (sl (u:=(.int .i64 G.flags)) q jA D q (st _ (eX (a:=G.flags) (b:=0) q q) (an q ?_))));refine cA q (fun r=>?_) (fun r=>?_)
 ·(have Ah:=dT r);refine ns (st _ (dw (us:=[]) (cs:=(jm.cells (nB))) [] z40 MN q q trivial trivial q q) (aZ (us:=(jm.cells (nB))) q q (by exact lF) (by exact fun u P=>bH (jm.one) u P) A (lB q) ?_));have C:=A;clear A;intro Bj E A;replace M:=M.step E (hI F);clear C;replace A:ck _ _ (jm.cells (nB)) _:=A;refine ar q (bE (aX ?_));exact eA (vs:=[(.agg (jm.cells (nB)).toArray),(.int .i64 ((7:Nat):Int))]) trivial q ⟨⟨_,q,ew (cs:=(jm.cells (nB))) (by exact lF) A⟩,q,tV⟩ q ⟨(nB),7,q,M,Vv,Oh,(by rw[r7 J H Oh (jW R) (jW L) (tG O q Oh),if_neg Oh,if_pos Oh];rfl)⟩
 (have Ah:=dF r);refine ns (sf q oA (sl (u:=(.int .u64 G.size)) q bA D q (st _ (gq (a:=G.size) (b:=16) q q) (an q ?_))));refine cA q (fun v=>?_) (fun v=>?_)
 ·(have Ai:=dT v);refine ns (st _ (dw (us:=[]) (cs:=(jm.cells (nB))) [] z40 MN q q trivial trivial q q) (aZ (us:=(jm.cells (nB))) q q (by exact lF) (by exact fun u P=>bH (jm.one) u P) A (lB q) ?_));have C:=A;clear A;intro Bk E A;replace M:=M.step E (hI F);clear C;replace A:ck _ _ (jm.cells (nB)) _:=A;refine ar q (bE (aX ?_));exact eA (vs:=[(.agg (jm.cells (nB)).toArray),(.int .i64 ((5:Nat):Int))]) trivial q ⟨⟨_,q,ew (cs:=(jm.cells (nB))) (by exact lF) A⟩,q,tV⟩ q ⟨(nB),5,q,M,Vv,Oh,(by rw[r7 J H Oh (jW R) (jW L) (tG O q Oh),if_neg Oh,if_neg Oh,if_pos Oh];rfl)⟩
 (have Ai:=dF v);refine ns (sf q oA (sl (u:=(.int .u64 G.size)) q bA D q (mv q (st _ (mC (a:=G.size) (b:=(b.length-p)) q q) (an q ?_)))));refine cA q (fun x=>?_) (fun x=>?_)
 ·(have Aj:=dT x);refine ns (st _ (dw (us:=[]) (cs:=(jm.cells (nB))) [] z40 MN q q trivial trivial q q) (aZ (us:=(jm.cells (nB))) q q (by exact lF) (by exact fun u P=>bH (jm.one) u P) A (lB q) ?_));have C:=A;clear A;intro Bl E A;replace M:=M.step E (hI F);clear C;replace A:ck _ _ (jm.cells (nB)) _:=A;refine ar q (bE (aX ?_));exact eA (vs:=[(.agg (jm.cells (nB)).toArray),(.int .i64 ((2:Nat):Int))]) trivial q ⟨⟨_,q,ew (cs:=(jm.cells (nB))) (by exact lF) A⟩,q,tV⟩ q ⟨(nB),2,q,M,Vv,Oh,(by rw[r7 J H Oh (jW R) (jW L) (tG O q Oh),if_neg Oh,if_neg Oh,if_neg Oh,if_pos Oh];rfl)⟩
 (have Aj:=dF x);refine bh (bW (au (ns (st _ (dc (jm.cells G) q (by exact lF) D q) (aZ (us:=(jm.cells G)) q q (by exact lF) (by exact fun u P=>bH (jm.one) u P) A (lB q) ?_)))));have C:=A;clear A;intro Bm E A;replace M:=M.step E (hI F);clear C;replace A:ck _ _ (jm.cells G) _:=A;refine ar q ?_;exact eA (vs:=[(.agg (jm.cells G).toArray),(.int .i64 ((0:Nat):Int))]) trivial q ⟨⟨_,q,ew (cs:=(jm.cells G)) (by exact lF) A⟩,q,tV⟩ q ⟨G,0,q,M,(by exact⟨Oh,Oh,Oh⟩),Oh,(by rw[r7 J H Oh (jW R) (jW L) (tG O q Oh),if_neg Oh,if_neg Oh,if_neg Oh,if_neg Oh])⟩
theorem xY (uQ:Up w Q) {v0:Value} {b:Ly} (h0:Ls fI w Q v0 b) (p:Nat) (a1:p<18446744073709551616) (kind:Nat) (a2:kind<9223372036854775808) (ahead:Nat) (a3:ahead<9223372036854775808) (iJ:Nat) (a4:iJ<9223372036854775808) (p0:ahead≤1000) (p1:iJ≠0∧iJ≤1000) :
  Calls Zp 84 #[v0,(.int .u64 p),(.int .i64 kind),(.int .i64 ahead),(.int .i64 iJ)] w fun en w'=>∃u0:Value,∃r0:List UInt8,∃r1:Nat,en = .returned (.tuple #[u0,(.int .i64 r1)])∧Md [] w w'∧Ls fI w' Q u0 r0∧r1<9223372036854775808∧kz b p kind ahead iJ=(r0,r1):=by
 have o:=h0.gm;have M:=Md.refl [] w;have l:=uQ;have c:∀b,Q b→Q b:=fun _ h=>h;refine enter (n:=56) Tryz.func84 q q q fun B=>ns (d9 q (an q (ns (m2 q q (ax afe q (vl uQ h0 p Oh) ?_)))));rintro en z ⟨A,N,rfl,L,I,f,J⟩;refine rv ?_;obtain⟨h0,uQ,M⟩:=k3 L h0 uQ M;refine mv q (se q q (se q q (cw z40 ?_)));intro R w2 G X L D;obtain⟨j,g,i,O,Y⟩:=kM uQ G X L;replace c:=tT c i;replace G:=ly M.size G;replace h0:=(h0.sub g).o L;replace M:=M.k L;replace uQ:=Y;clear Y g i;have P:cr [] w R:=.inr G;replace D:ck _ _ (jm.cells (nB)) _:=D;have e:jm.ok (nB):=(by exact⟨Om,Om,Om⟩);refine aZ (us:=(jm.cells A)) q q (by exact lF) (by exact fun u k=>bH (jm.one) u k) D (lB q) ?_;have V:=D;clear D;intro w5 L D;have d:∀b∈[R],¬j b:=(hI O);replace h0:=h0.md L d;replace M:=M.step L (hI P);clear V d;replace D:ck _ _ (jm.cells A) _:=D;refine an q (nm q (st _ (rA (a:=16) (b:=ahead) q q Oh) (st _ (eF (a:=16+ahead) 18446744073709551616 q (by rw[u3];rfl) mE q Oh) ?_)))
 refine an q (aP (bF (nm q (st _ (eX (a:=N) (b:=0) q q) (d9 q (nt ?_))))));refine cA q (fun S=>?_) (fun S=>?_)
 ·(have E:=dT S);refine nm q (d9 q (ar q (bE (aX ?_))));exact eA (vs:=[SN,(.int .i64 N)]) trivial q ⟨q,q,tV⟩ q ⟨_,[],N,q,M,(Ls.nil _ _ _),Vv,(by rw[kz]<;>simp(disch:=first|omega|assumption|simp) only [SS,reduceIte,J,E])⟩
 (have E:=dF S);refine ns (sf q xE (sl (u:=(.int .i64 A.kind)) q jA D q ?_));have v:A.kind<9223372036854775808:=I.1;refine mv q (st _ (eX (a:=A.kind) (b:=kind) q q) (an q ?_));refine cA q (fun T=>?_) (fun T=>?_)
 ·(have F:=dT T);refine ns (d9 q (ar q (bE (aX ?_))));exact eA (vs:=[SN,(.int .i64 ((4:Nat):Int))]) trivial q ⟨q,q,tV⟩ q ⟨_,[],4,q,M,(Ls.nil _ _ _),Oh,(by rw[kz]<;>simp(disch:=first|omega|assumption|simp) only [SS,reduceIte,J,E,F])⟩
 (have F:=dF T);refine ns (sf q oA (sl (u:=(.int .u64 A.size)) q bA D q ?_));have x:A.size<18446744073709551616:=I.2.2;refine mv q (st _ (FP (a:=A.size) (b:=(16+ahead)) q q) (mv q ?_));refine dR (t:=38) q (fun C=>?_) (fun C=>?_)
 ·(have H:=dT C);refine sk C (sk C (sk C (sk C (sk C (sk C (sk C (sk C (st _ (bK q C q) (an q (iT q q (ns (d9 q ?_))))))))))));refine ar q (bE (aX ?_));exact eA (vs:=[SN,(.int .i64 ((5:Nat):Int))]) trivial q ⟨q,q,tV⟩ q ⟨_,[],5,q,M,(Ls.nil _ _ _),Oh,(by rw[kz]<;>simp(disch:=first|omega|assumption|simp) only [SS,reduceIte,J,E,F,H])⟩
 (have H:=dF C);refine sg C (aL q oA) (sg C ((aC q bA D q).to (b:=(.int .u64 A.size)) q) (sg C (bf q) (sg C (nN (a:=A.size) (b:=(16+ahead)) 18446744073709551616 q q q Oh) (sg C (bf q) (sg C (eF (a:=iJ) 18446744073709551616 q (by rw[u3];rfl) mE q Oh) (sg C (qf (a:=(A.size-(16+ahead))) (b:=iJ) q q Oh) ?_))))));have y:(A.size-(16+ahead))%iJ<iJ:=Nat.mod_lt _ Oh;refine sg C (eX (a:=((A.size-(16+ahead))%iJ)) (b:=0) q q) (st _ (aS q C q) (an q ?_));refine cA q (fun U=>?_) (fun U=>?_)
 ·(have K:=dT U);refine ns (d9 q (ar q (bE (aX ?_))));exact eA (vs:=[SN,(.int .i64 ((5:Nat):Int))]) trivial q ⟨q,q,tV⟩ q ⟨_,[],5,q,M,(Ls.nil _ _ _),Oh,(by rw[kz]<;>simp(disch:=first|omega|assumption|simp) only [SS,reduceIte,J,E,F,H,K])⟩
 (have K:=dF U);refine bh (bW (au (ns ?_)));have r:=lN J E;refine m2 q q (st _ (gU (a:=p) (b:=16) 18446744073709551616 q q q Oh) (mv q (sf q oA (sl (u:=(.int .u64 A.size)) q bA D q (st _ (gU (a:=p) (b:=A.size) 18446744073709551616 q q q Oh) (st _ (kZ 1 (p+16) (p+A.size) iC pS q h0.eJ Oh Oh ⟨_,q⟩ ⟨_,q⟩) ?_))))));have Z:=h0.part (p+16) (p+A.size) Oh Oh;refine d9 q (ar q ?_);exact eA (vs:=[(nS 1 v0 (p+16) (p+A.size)),(.int .i64 ((0:Nat):Int))]) trivial q ⟨q,q,tV⟩ q ⟨_,((b.take (p+A.size)).drop (p+16)),0,q,M,(Z.sub (fun b W _=>c b W)),Oh,(by rw[kz]<;>simp(disch:=first|omega|assumption|simp) only [SS,reduceIte,J,E,F,H,K])⟩
theorem CN (uQ:Up w Q) {v0:Value} {b:Ly} (h0:Ls fI w Q v0 b) (p0:b.length%8=0) (p1:b.length≤140737488355328) :
  Calls Zp 85 #[v0] w fun en w'=>∃u0:Value,∃r0:List Nat,en = .returned (u0)∧Md [] w w'∧Ls dY w' Q u0 r0∧gX b 0 (b.length/8)=r0:=by
 have u:=h0.gm;have M:=Md.refl [] w;have Z:=uQ;have J:∀b,Q b→Q b:=fun _ h=>h;have D:∀b,Q b→b<w.heap.size→Q b:=fun _ h _=>h;refine enter (n:=24) Tryz.func85 q q q fun B=>ns (an q (ns (d9 q (nt (aP (ns (d9 q (nt (bF ?_)))))))));refine nv (fun(K:Value) (l:List Nat) (i:Nat)=>[(3,K),(4,(.int .i64 i)),(0,v0),(2,SN)]) (fun(K:Value) (l:List Nat) (i:Nat) w'=>∃Q':Nat→Prop,(∀b,Q' b→Q b)∧(∀b,Q b→b<w.heap.size→Q' b)∧Up w' Q'∧Md [] w w'∧Ow dY 26 (cr [] w) w' Q' K l∧Ls fI w' Q' v0 b∧i%8=0∧i≤b.length∧l=gX b 0 (i/8)) (fun(K:Value) (l:List Nat) (i:Nat)=>b.length-i) (x0:=SN) (x1:=([]:List Nat)) (x2:=0) ?_ ?_ ?_
 ·exact⟨q,q,q,q,tV⟩
 ·exact⟨Q,J,D,uQ,M,(Ow.nil _ _ _ _ _),h0,Oh,Oh,q⟩
 clear M uQ J D h0
 rintro K l i B y ⟨p,J,D,uQ,M,A,h0,P,f,F⟩;refine aP (ns (m2 q q (sL q iC h0.eJ (st _ (gq (a:=i) (b:=b.length) q q) (nt ?_)))));refine cA q (fun H=>?_) (fun H=>?_)
 ·(have O:=dT H);refine bh (au (aP (bF (ns (m2 q q (ax yo q (pK uQ h0 (((i:Nat):Int)) Oh (8) Oh) ?_))))));rintro en z ⟨G,o,rfl,C,j,V⟩;refine rv ?_;obtain⟨A,h0,uQ,M⟩:=k4 C A h0 uQ M;refine mv q (se q q (se q q (d9 q (an q (aQ ?_)))));have x:l.length=i/8:=(by rw[F,lQ]);refine m2 q q (bP [[(.int .u64 G)]] jh iU Om Om q q ⟨q,tV⟩ ⟨q,tV⟩ q Om ?_);intro c w4 N g C E;have U:=uQ _ N;obtain⟨A,h0,uQ,M⟩:=k4 C A h0 uQ M;replace E:=Ls.e5 (m:=1) (R:=p) (T:=dY) (xs:=[G]) E ⟨_,_,q,⟨q,Oh⟩,q⟩ q Om U;refine gw (sz:=1) (by rfl) jh iU q q A E (fun _ h _=>h) uQ (cr.new M) Wx Wx ?_;intro t w7 r Y k S W C d _ X;have L:=A;clear A;replace J:=tT J k;replace D:=fun b I e=>Y b (D b I e) (lj e M.size);replace h0:=(h0.sub Y).md C d;replace uQ:=uQ.md C;replace M:=M.eD C (fun b I=>(L.2 b I).1);replace uQ:=S;clear S Y k d X;refine d9 q (aH (bW (au (aQ (mv q (st _ (rA (a:=i) (b:=8) q q Oh) (an q ?_)))))));refine kD (x0:=t) (x1:=(l ++ ([G]))) (x2:=(i+8)) Oh ⟨q,(fq q Oh),q,q,tV⟩ ⟨r,J,D,uQ,M,W,h0,Oh,Oh,(Qz F P Oh V)⟩
 (have O:=dF H);refine dW (bU (bU (eS (au (nm q (ar q ?_))))));exact dP (v:=K) trivial q ⟨q,tV⟩ ⟨_,l,q,M,(A.ls (fun b I=>J b I) (cr.up Z)),(by rw[F,show i=b.length by omega])⟩
theorem wO (uQ:Up w Q) {v0:Value} {b:Ly} (h0:Ls fI w Q v0 b) (p:Nat) (a1:p<18446744073709551616) (p0:b.length≤140737488355328) :
  Calls Zp 81 #[v0,(.int .u64 p)] w fun en w'=>∃u0_0:Value,∃r0:j5,∃r1:Nat,en = .returned (.tuple #[.agg (j5.cells r0 u0_0).toArray,(.int .i64 r1)])∧Md [] w w'∧j5.ok r0∧Ls dY w' Q u0_0 r0.aD∧r1<9223372036854775808∧kG b p=(r0,r1):=by
 have L0:=h0.gm;have M:=Md.refl [] w;have Ae:=uQ;have k:∀b,Q b→Q b:=fun _ h=>h;refine enter (n:=27) Tryz.func81 q q q fun B=>ns (cw UW ?_);intro X w1 O j F A;obtain⟨Q2,x,y,V,c⟩:=kM uQ O j F;replace k:=tT k y;replace O:=ly M.size O;replace h0:=(h0.sub x).o F;replace M:=M.k F;replace uQ:=c;clear c x y;have L:cr [] w X:=.inr O;replace A:ck _ _ (j5.cells (({next:=0,aD:=[]}:j5)) SN) _:=A;have t:j5.ok (({next:=0,aD:=[]}:j5)):=(by exact(by exact(show(({next:=0,aD:=[]}:j5)).next<18446744073709551616 from Wx)));refine an q (ns (m2 q q (ax ahY q (xY uQ h0 p Oh 6 Oh 8 Oh 8 Oh Oh Oh) ?_)));rintro en w4 ⟨z,Aa,N,rfl,F,Y,v,U⟩;refine rv ?_;obtain⟨A,uQ,M⟩:=k3 F A uQ M;refine mv q (se q q (se q q (d9 q (an q (aP (nm q (st _ (eX (a:=N) (b:=0) q q) (nt ?_))))))));refine cA q (fun S=>?_) (fun S=>?_)
 ·(have G:=dT S);refine ns (st _ (dw (us:=[]) (cs:=(j5.cells (({next:=0,aD:=[]}:j5)) SN)) [] UW ahl q q trivial trivial q q) (mv q (aZ (us:=(j5.cells (({next:=0,aD:=[]}:j5)) SN)) q q (by exact oU) (by exact fun u g=>bH (j5.one q) u g) A (lB q) ?_)));have J:=A;clear A;intro w5 F A;replace M:=M.step F (hI L);clear J;replace A:ck _ _ (j5.cells (({next:=0,aD:=[]}:j5)) SN) _:=A;refine ar q (aX ?_);exact eA (vs:=[(.agg (j5.cells (({next:=0,aD:=[]}:j5)) SN).toArray),(.int .i64 N)]) trivial q ⟨⟨_,q,ew (cs:=(j5.cells (({next:=0,aD:=[]}:j5)) SN)) (by exact oU) A⟩,q,tV⟩ q ⟨_,(({next:=0,aD:=[]}:j5)),N,q,M,Vv,(Ls.nil _ _ _),Vv,(TM U G)⟩
 (have G:=dF S);refine bh (au (ns ?_));have bo:=tJ U (Classical.not_not.1 G);refine mv q (ax ahZ q (CN uQ Y Oh Oh) ?_);rintro en w6 ⟨E,C,rfl,F,H,d⟩;refine rv ?_;obtain⟨A,M⟩:=k2 F A M;refine an q (aP ?_);have ra:=TN U G d;have I:=H;refine dX (ml 5) [5,6,7] (fun w'=>Md [] w6 w') eC Ym ?_;intro w7 K;refine⟨K.mono Oq,?_⟩;have MC:=K.mono (T:=[]) Oq;refine mo q (mz (fun w' e=>bR (i:=0) 1 q q jh fB H.eJ Oh) ?_);obtain⟨R,Z⟩:=fM (l:=C) (i:=0) Oh;obtain⟨c9,f,P⟩:=I.get Z;obtain⟨rfl,r⟩:=f;replace P:At _ E (0*1) [(.int .u64 R)]:=P;refine mz (fun w' e=>(dx (kk:=0*1) 0 q q bA (P.o e) q).to (b:=(.int .u64 R)) q) (mo q (mz (fun w' e=>kZ 1 1 C.length jh fB q H.eJ Oh Oh ⟨_,q⟩ q) ?_));have D:=H.tail (lo:=1) Oh;refine ec ?_;obtain⟨A,D,M⟩:=k3 K A D M;clear I;clear MC;refine st _ (dw (us:=[[(.int .u64 R)],[(nS 1 E 1 C.length)]]) (cs:=(j5.cells (({next:=R,aD:=C.drop 1}:j5)) (nS 1 E 1 C.length))) [(0,0,1),(1,1,1)] UW ahl q q ⟨q,(fU D.cg),tV⟩ ⟨q,q,tV⟩ q q) (aZ (us:=(j5.cells (({next:=R,aD:=C.drop 1}:j5)) (nS 1 E 1 C.length))) q q (by exact oU) (by exact fun u g=>bH (j5.one D.cg) u g) A (lB q) ?_)
 have J:=A;clear A;intro Af F A;have o:∀b∈[X],¬Q2 b:=(hI V);replace D:=D.md F o;replace M:=M.step F (hI L);clear J o;replace A:ck _ _ (j5.cells (({next:=R,aD:=C.drop 1}:j5)) (nS 1 E 1 C.length)) _:=A;refine d9 q (aH ?_);clear P;refine au (iO ?_);exact eA (vs:=[(.agg (j5.cells (({next:=R,aD:=C.drop 1}:j5)) (nS 1 E 1 C.length)).toArray),(.int .i64 ((0:Nat):Int))]) trivial q ⟨⟨_,q,ew (cs:=(j5.cells (({next:=R,aD:=C.drop 1}:j5)) (nS 1 E 1 C.length))) (by exact oU) A⟩,q,tV⟩ q ⟨_,(({next:=R,aD:=C.drop 1}:j5)),0,q,M,Vv,(D.sub (fun b W _=>k b W)),Oh,(by rw[ra.2.2,List.getD_eq_getElem?_getD,Z];rfl)⟩
theorem abS:dZ Zp 37=true:=Ym
theorem uw:EK Zp 203=true:=Ym
theorem sF:bg Zp 73 0=some 0:=Ym
theorem qI:bg Zp 73 1=some 1:=Ym
theorem FL:gV Zp 203=some [(0,1)]:=Ym
theorem z203:fR Zp 203=some [.int .i64 0]:=Ym
theorem uL (uQ:Up w Q) {v0:Value} {v:eW} (h0:Pt fE 73 w Q v0 v) :
  Calls Zp 37 #[v0] w fun en w'=>∃r0:Nat,en = .returned (.int .u64 r0)∧Md [] w w'∧r0<18446744073709551616∧v.b.length=r0:=by
 obtain⟨D,E,rfl,C,h0,qo⟩:=h0;obtain⟨G,rfl,I,A⟩:=eM qo;have M:=Md.refl [] w;have F:=uQ;refine enter (n:=9) Tryz.func37 q q q fun B=>ns (an q (nm q (sn q (sf q sF (sl (u:=G) q gC h0 q ?_)))));have H:=A.gm;refine sL q iC A.eJ (st _ (eF (a:=v.b.length) 18446744073709551616 q (by rw[u3];rfl) mE q Oh) (ar q ?_));exact dP (v:=(.int .u64 v.b.length)) trivial q ⟨q,tV⟩ ⟨v.b.length,q,M,Oh,q⟩
theorem qS (uQ:Up w Q) {v0:Value} {v:eW} (h0:Pt fE 73 w Q v0 v) (p:Nat) (a1:p<18446744073709551616) :
  Calls Zp 80 #[v0,(.int .u64 p)] w fun en w'=>(en = .returned (.tuple #[])∧Md [] w w'∧qX (v.h.n.getD 0 0) v.b p=0)∨∃cp:Nat,en = .panicked (FK (.iface 203 (.agg #[.int .i64 cp])))∧(cp≠0∧cp<9223372036854775808)∧Md [] w w'∧qX (v.h.n.getD 0 0) v.b p=cp:=by
 obtain⟨K,L,rfl,F,h0,qo⟩:=h0;obtain⟨S,rfl,I,H⟩:=eM qo;have M:=Md.refl [] w;have P:=uQ;refine enter (n:=19) Tryz.func80 q q q fun B=>ns (m2 q q (sn q (sf q qI (sf q pF (sl (u:=(.int .u64 ((v.h.n.getD 0 0:Nat):Int))) q bA h0 q ?_)))));have R:v.h.n.getD 0 0<18446744073709551616:=(eT I.2.2.2.2.2.2.2.1 0);refine st _ (gq (a:=p) (b:=(v.h.n.getD 0 0)) q q) (mv q ?_);refine dR (t:=11) q (fun A=>?_) (fun A=>?_)
 ·(have D:=dT A);refine sk A (sk A (sk A (sk A (st _ (bK q A q) (nt (iT q q (aQ (st _ (dw (us:=[[(.int .i64 ((2:Nat):Int))]]) (cs:=(Stop.cells (({code:=2}:Stop)))) [(0,0,1)] z203 FL q q ⟨q,tV⟩ ⟨q,tV⟩ q q) (st _ (oz uw q) (qj q ?_))))))))));exact gT (Or.inr ⟨2,q,⟨by omega,by omega⟩,M,(by unfold qX;rw[if_pos Oh])⟩)
 (have D:=dF A);refine sg A (bf q) (sg A (bf q) (gL q q q A abS q (uL uQ ⟨_,_,q,F,h0,dU I H⟩) ?_));rintro en T ⟨G,rfl,O,J,N⟩;refine rv ?_;replace M:=M.k O;refine sg A (QW (a:=p) (b:=G) q q) (st _ (aS q A q) (nt ?_));refine cA q (fun C=>?_) (fun C=>?_)
 ·(have E:=dT C);refine aQ (st _ (dw (us:=[[(.int .i64 ((2:Nat):Int))]]) (cs:=(Stop.cells (({code:=2}:Stop)))) [(0,0,1)] z203 FL q q ⟨q,tV⟩ ⟨q,tV⟩ q q) (st _ (oz uw q) (qj q ?_)));exact gT (Or.inr ⟨2,q,⟨by omega,by omega⟩,M,(by unfold qX;rw[if_pos Oh])⟩)
 (have E:=dF C);refine bh ?_;exact eA (vs:=[]) trivial q trivial q (Or.inl ⟨q,M,(by unfold qX;rw[if_neg Oh])⟩)
theorem rY (uQ:Up w Q) (c:Nat) (a0:c<9223372036854775808) :
  Calls Zp 82 #[(.int .i64 c)] w fun en w'=>(en = .returned (.tuple #[])∧Md [] w w'∧c=0)∨∃cp:Nat,en = .panicked (FK (.iface 203 (.agg #[.int .i64 cp])))∧(cp≠0∧cp<9223372036854775808)∧Md [] w w'∧c=cp:=by
 have M:=Md.refl [] w;have D:=uQ;refine enter (n:=7) Tryz.func82 q q q fun B=>nm q (st _ (eX (a:=c) (b:=0) q q) (nt ?_));refine cA q (fun A=>?_) (fun A=>?_)
 ·(have C:=dT A);refine aQ (mv q (st _ (dw (us:=[[(.int .i64 c)]]) (cs:=(Stop.cells (({code:=c}:Stop)))) [(0,0,1)] z203 FL q q ⟨q,tV⟩ ⟨q,tV⟩ q q) (st _ (oz uw q) (qj q ?_))));exact gT (Or.inr ⟨c,q,⟨by omega,by omega⟩,M,q⟩)
 (have C:=dF A);refine bh ?_;exact eA (vs:=[]) trivial q trivial q (Or.inl ⟨q,M,Oh⟩)
theorem EN (uQ:Up w Q) {v0:Value} {b:Ly} (h0:Ls fI w Q v0 b) (p:Nat) (a1:p<18446744073709551616) (kind:Nat) (a2:kind<9223372036854775808) (n:Nat) (a3:n<9223372036854775808) (p0:n≤1000) (p1:b.length≤140737488355328) :
  Calls Zp 126 #[v0,(.int .u64 p),(.int .i64 kind),(.int .i64 n)] w fun en w'=>∃u0:Value,∃r0:List Nat,∃u1:Value,∃r1:List UInt8,∃r2:Nat,en = .returned (.tuple #[u0,u1,(.int .i64 r2)])∧Md [] w w'∧Ls dY w' Q u0 r0∧Ls fI w' Q u1 r1∧r2<9223372036854775808∧lY b p kind n=(r0,r1,r2):=by
 have L0:=h0.gm;have M:=Md.refl [] w;have Ao:=uQ;have Y:∀b,Q b→Q b:=fun _ h=>h;have H:∀b,Q b→b<w.heap.size→Q b:=fun _ h _=>h;refine enter (n:=71) Tryz.func126 q q q fun B=>ns (d9 q (d9 q (an q (ns (m2 q q (ax afe q (vl uQ h0 p Oh) ?_))))));rintro en w1 ⟨A,X,rfl,E,O,Ax,S⟩;refine rv ?_;obtain⟨h0,uQ,M⟩:=k3 E h0 uQ M;refine mv q (se q q (se q q (cw z40 ?_)));intro c w2 K Ag E C;obtain⟨Q3,o,sT,N,W⟩:=kM uQ K Ag E;replace Y:=tT Y sT;replace H:=fun b I hl=>o b (H b I hl) (lj hl M.size);replace K:=ly M.size K;replace h0:=(h0.sub o).o E;replace M:=M.k E;replace uQ:=W;clear W o sT;have Z:cr [] w c:=.inr K;replace C:ck _ _ (jm.cells (nB)) _:=C;have Aw:jm.ok (nB):=(by exact⟨Om,Om,Om⟩);refine aZ (us:=(jm.cells A)) q q (by exact lF) (by exact fun u hu=>bH (jm.one) u hu) C (lB q) ?_;have k:=C;clear C;intro w5 E C;have hS:∀b∈[c],¬Q3 b:=(hI N);replace h0:=h0.md E hS;replace uQ:=uQ.md E;replace M:=M.step E (hI Z);clear k hS;replace C:ck _ _ (jm.cells A) _:=C;refine an q (aP (bF (nm q (st _ (eX (a:=X) (b:=0) q q) (d9 q (nt ?_))))));refine cA q (fun e=>?_) (fun e=>?_)
 ·(have G:=dT e);refine nm q (d9 q (d9 q (ar q (bE (aX ?_)))));exact eA (vs:=[SN,SN,(.int .i64 X)]) trivial q ⟨q,q,q,tV⟩ q ⟨_,[],_,[],X,q,M,(Ls.nil _ _ _),(Ls.nil _ _ _),Vv,(by rw[lY]<;>simp(disch:=first|omega|assumption|simp) only [SS,reduceIte,S,G])⟩
 (have G:=dF e);refine ns (sf q xE (sl (u:=(.int .i64 A.kind)) q jA C q ?_));have q6:A.kind<9223372036854775808:=O.1;refine mv q (st _ (eX (a:=A.kind) (b:=kind) q q) (an q ?_));refine cA q (fun f=>?_) (fun f=>?_)
 ·(have L:=dT f);refine ns (d9 q (d9 q (ar q (bE (aX ?_)))));exact eA (vs:=[SN,SN,(.int .i64 ((4:Nat):Int))]) trivial q ⟨q,q,q,tV⟩ q ⟨_,[],_,[],4,q,M,(Ls.nil _ _ _),(Ls.nil _ _ _),Oh,(by rw[lY]<;>simp(disch:=first|omega|assumption|simp) only [SS,reduceIte,S,G,L])⟩
 (have L:=dF f);refine ns (sf q oA (sl (u:=(.int .u64 A.size)) q bA C q ?_));have q7:A.size<18446744073709551616:=O.2.2;refine mv q (st _ (nM (a:=8) (b:=n) 9223372036854775808 q q q Oh) (st _ (rA (a:=16) (b:=(8*n)) q q Oh) (st _ (eF (a:=16+(8*n)) 18446744073709551616 q (by rw[u3];rfl) mE q Oh) (st _ (FP (a:=A.size) (b:=(16+(8*n))) q q) (an q ?_)))));refine cA q (fun g=>?_) (fun g=>?_)
 ·(have P:=dT g);refine ns (d9 q (d9 q (ar q (bE (aX ?_)))));exact eA (vs:=[SN,SN,(.int .i64 ((5:Nat):Int))]) trivial q ⟨q,q,q,tV⟩ q ⟨_,[],_,[],5,q,M,(Ls.nil _ _ _),(Ls.nil _ _ _),Oh,(by rw[lY]<;>simp(disch:=first|omega|assumption|simp) only [SS,reduceIte,S,G,L,P])⟩
 (have P:=dF g);refine bh (bW (au (ns ?_)));have ff:=lN S G;refine m2 q q (st _ (gU (a:=p) (b:=16) 18446744073709551616 q q q Oh) (mv q (sf q oA (sl (u:=(.int .u64 A.size)) q bA C q (st _ (gU (a:=p) (b:=A.size) 18446744073709551616 q q q Oh) (st _ (kZ 1 (p+16) (p+A.size) iC pS q h0.eJ Oh Oh ⟨_,q⟩ ⟨_,q⟩) ?_))))));have D:=h0.part (p+16) (p+A.size) Oh Oh;refine an q (ns ?_);have bl:((b.take (p+A.size)).drop (p+16)).length=A.size-16:=(by simp only[List.length_drop,List.length_take];omega);refine an q (aP (ns (m2 q q (nt (bF ?_)))));refine nv (fun(v:Value) (l:List Nat) (i:Nat)=>[(14,v),(50,(.int .i64 i)),(3,(.int .i64 n)),(8,SN),(9,SN),(10,(.int .i64 ((0:Nat):Int))),(13,(nS 1 v0 (p+16) (p+A.size))),(49,(.int .i64 n))]) (fun(v:Value) (l:List Nat) (i:Nat) w'=>∃Q':Nat→Prop,(∀b,Q' b→Q b)∧(∀b,Q b→b<w.heap.size→Q' b)∧Up w' Q'∧Md [] w w'∧Ow dY 26 (cr [] w) w' Q' v l∧Ls fI w' Q' (nS 1 v0 (p+16) (p+A.size)) ((b.take (p+A.size)).drop (p+16))∧i≤n∧l=gX ((b.take (p+A.size)).drop (p+16)) 0 i) (fun(v:Value) (l:List Nat) (i:Nat)=>n-i) (x0:=SN) (x1:=([]:List Nat)) (x2:=0) ?_ ?_ ?_
 ·exact⟨q,q,q,q,q,q,q,q,tV⟩
 ·exact⟨Q3,Y,H,uQ,M,(Ow.nil _ _ _ _ _),D,Oh,q⟩
 clear M uQ Y H N h0 C D
 rintro v l i B w9 ⟨Aj,Y,H,uQ,M,F,D,Au,V⟩;refine ns (st _ (gq (a:=i) (b:=n) q q) (nt (aP ?_)));refine cA q (fun j=>?_) (fun j=>?_)
 ·(have z:=dT j);refine bh (au (aP (bF (nm q (an q (ns (m2 q q (st _ (nM (a:=8) (b:=i) 9223372036854775808 q q q Oh) (ax yo q (pK uQ D (((8*i:Nat):Int)) Oh (8) Oh) ?_)))))))));rintro en A5 ⟨J,Aq,rfl,E,Am,Aa⟩;refine rv ?_;obtain⟨F,D,uQ,M⟩:=k4 E F D uQ M;refine mv q (se q q (se q q (d9 q (an q (aQ ?_)))));have ll:l.length=i:=(by rw[V,lQ]);refine m2 q q (bP [[(.int .u64 J)]] jh iU Om Om q q ⟨q,tV⟩ ⟨q,tV⟩ q Om ?_);intro As A9 y Av E U;have Ai:=uQ _ y;obtain⟨F,D,uQ,M⟩:=k4 E F D uQ M;replace U:=Ls.e5 (m:=1) (R:=Aj) (T:=dY) (xs:=[J]) U ⟨_,_,q,⟨q,Oh⟩,q⟩ q Om Ai;refine gw (sz:=1) (by rfl) jh iU q q F U (fun _ h _=>h) uQ (cr.new M) Wx Wx ?_;intro Ap Ba Ak o sT W Ac E hS _ Al;have x:=F;clear F;replace Y:=tT Y sT;replace H:=fun b I hl=>o b (H b I hl) (lj hl M.size);replace D:=(D.sub o).md E hS;replace uQ:=uQ.md E;replace M:=M.eD E (fun b I=>(x.2 b I).1);replace uQ:=W;clear W o sT hS Al;refine d9 q (aH (bW (au (aQ (st _ (rA (a:=i) (b:=1) q q Oh) (mv q (nt ?_)))))))
  refine kD (x0:=Ap) (x1:=(l ++ ([J]))) (x2:=(i+1)) Oh ⟨q,(fq q Oh),q,q,q,q,q,q,tV⟩ ⟨Ak,Y,H,uQ,M,Ac,D,Oh,(LY V (by rw[bl];omega) Aa)⟩
 (have z:=dF j);refine dW (bU (bU (eS (au (ns (m2 q q (mv q (st _ (nM (a:=8) (b:=n) 9223372036854775808 q q q Oh) (st _ (kZ 1 (8*n) (((b.take (p+A.size)).drop (p+16)).length) iC pS q D.eJ Oh Oh ⟨_,q⟩ q) ?_)))))))));have Af:=D.tail (lo:=8*n) Oh;refine ax ajJ q (vC uQ Af Wx) ?_;rintro en Bb ⟨r,t,rfl,E,d,Ab⟩;refine rv ?_;obtain⟨F,M⟩:=k2 E F M;refine d9 q (d9 q (ar q ?_));exact eA (vs:=[v,r,(.int .i64 ((0:Nat):Int))]) trivial q ⟨q,q,q,tV⟩ q ⟨_,l,_,t,0,q,M,(F.ls (fun b I=>Y b I) (cr.up Ao)),(d.sub (fun b I _=>Y b I)),Oh,((zG (l:=l) S G L P (by rw[V,show i=n by omega])).trans (by rw[Ab]))⟩
theorem nC:gW Zp 117 4=true:=Ym
theorem ahb:dZ Zp 126=true:=Ym
theorem ahn:gV Zp 117=some [(0,1),(1,1),(2,1),(3,1)]:=Ym
theorem z117:fR Zp 117=some [.int .u64 0,.int .u64 0,.int .u64 0,.slice none 0 0]:=Ym
abbrev Zb:jw:={cQ:=0,bT:=0,dat:=0,ak:=[]}
theorem uz (uQ:Up w Q) {v0:Value} {b:Ly} (h0:Ls fI w Q v0 b) (p:Nat) (a1:p<18446744073709551616) (p0:b.length≤140737488355328) :
  Calls Zp 92 #[v0,(.int .u64 p)] w fun en w'=>∃u0_0:Value,∃r0:jw,∃r1:Nat,en = .returned (.tuple #[.agg (jw.cells r0 u0_0).toArray,(.int .i64 r1)])∧Md [] w w'∧jw.ok r0∧Ls fI w' Q u0_0 r0.ak∧r1<9223372036854775808∧lX b p=(r0,r1):=by
 have L0:=h0.gm;have M:=Md.refl [] w;have Ap:=uQ;have tQ:∀b,Q b→Q b:=fun _ h=>h;refine enter (n:=31) Tryz.func92 q q q fun B=>ns (cw z117 ?_);intro g w1 U Aa J A;obtain⟨Q2,sQ,sT,e,t⟩:=kM uQ U Aa J;replace tQ:=tT tQ sT;replace U:=ly M.size U;replace h0:=(h0.sub sQ).o J;replace M:=M.k J;replace uQ:=t;clear t sQ sT;have O:cr [] w g:=.inr U;replace A:ck _ _ (jw.cells (Zb) SN) _:=A;have Af:jw.ok (Zb):=(by exact⟨Om,Om,Om⟩);refine an q (ns (m2 q q (ax ahb q (EN uQ h0 p Oh 2 Oh 3 Oh Oh Oh) ?_)));rintro en w4 ⟨P,R,E,F,S,rfl,J,H,D,Ag,j⟩;refine rv ?_;obtain⟨A,M⟩:=k2 J A M;refine mv q (se q q (se q q (se q q (d9 q (d9 q (an q (aP (nm q (st _ (eX (a:=S) (b:=0) q q) (nt ?_))))))))));refine cA q (fun d=>?_) (fun d=>?_)
 ·(have K:=dT d);refine ns (st _ (dw (us:=[]) (cs:=(jw.cells (Zb) SN)) [] z117 ahn q q trivial trivial q q) (mv q (aZ (us:=(jw.cells (Zb) SN)) q q (by exact nC) (by exact fun u z=>bH (jw.one q) u z) A (lB q) ?_)));have L:=A;clear A;intro w5 J A;replace M:=M.step J (hI O);clear L;replace A:ck _ _ (jw.cells (Zb) SN) _:=A;refine ar q (aX ?_);exact eA (vs:=[(.agg (jw.cells (Zb) SN).toArray),(.int .i64 S)]) trivial q ⟨⟨_,q,ew (cs:=(jw.cells (Zb) SN)) (by exact nC) A⟩,q,tV⟩ q ⟨_,(Zb),S,q,M,Vv,(Ls.nil _ _ _),Vv,((wH j).1 K)⟩
 (have K:=dF d);refine bh (au (aP ?_));have rd:=(wH j).2 K;have C:=H;refine dX (ml 10) [10,11,12] (fun w'=>Md [] w4 w') eC Ym ?_;intro w6 N;refine⟨N.mono Oq,?_⟩;have MC:=N.mono (T:=[]) Oq;refine mo q (mz (fun w' Z=>bR (i:=0) 1 q q jh fB H.eJ Oh) ?_);obtain⟨X,o⟩:=fM (l:=R) (i:=0) Oh;obtain⟨c8,x,V⟩:=C.get o;obtain⟨rfl,Ad⟩:=x;replace V:At _ P (0*1) [(.int .u64 X)]:=V;refine mz (fun w' Z=>(dx (kk:=0*1) 0 q q bA (V.o Z) q).to (b:=(.int .u64 X)) q) (mo q (mz (fun w' Z=>bR (i:=1) 1 q q jh fB H.eJ Oh) ?_));obtain⟨Y,r⟩:=fM (l:=R) (i:=1) Oh;obtain⟨Al,y,W⟩:=C.get r;obtain⟨rfl,Ae⟩:=y;replace W:At _ P (1*1) [(.int .u64 Y)]:=W;refine mz (fun w' Z=>(dx (kk:=1*1) 0 q q bA (W.o Z) q).to (b:=(.int .u64 Y)) q) (mo q (mz (fun w' Z=>bR (i:=2) 1 q q jh fB H.eJ Oh) ?_));obtain⟨G,c⟩:=fM (l:=R) (i:=2) Oh;obtain⟨Am,k,I⟩:=C.get c;obtain⟨rfl,v⟩:=k;replace I:At _ P (2*1) [(.int .u64 G)]:=I;refine mz (fun w' Z=>(dx (kk:=2*1) 0 q q bA (I.o Z) q).to (b:=(.int .u64 G)) q) (mo q (ec ?_));obtain⟨A,D,M⟩:=k3 N A D M;clear C;clear MC;refine st _ (dw (us:=[[(.int .u64 X)],[(.int .u64 Y)],[(.int .u64 G)],[E]]) (cs:=(jw.cells (({cQ:=X,bT:=Y,dat:=G,ak:=F}:jw)) E)) [(0,0,1),(1,1,1),(2,2,1),(3,3,1)] z117 ahn q q ⟨q,q,q,(fU D.cg),tV⟩ ⟨q,q,q,q,tV⟩ q q) ?_
 refine aZ (us:=(jw.cells (({cQ:=X,bT:=Y,dat:=G,ak:=F}:jw)) E)) q q (by exact nC) (by exact fun u z=>bH (jw.one D.cg) u z) A (lB q) ?_;have L:=A;clear A;intro Aq J A;have hS:∀b∈[g],¬Q2 b:=(hI e);replace D:=D.md J hS;replace M:=M.step J (hI O);clear L hS;replace A:ck _ _ (jw.cells (({cQ:=X,bT:=Y,dat:=G,ak:=F}:jw)) E) _:=A;refine d9 q (aH ?_);clear V;clear W;clear I;refine au (iO ?_);exact eA (vs:=[(.agg (jw.cells (({cQ:=X,bT:=Y,dat:=G,ak:=F}:jw)) E).toArray),(.int .i64 ((0:Nat):Int))]) trivial q ⟨⟨_,q,ew (cs:=(jw.cells (({cQ:=X,bT:=Y,dat:=G,ak:=F}:jw)) E)) (by exact nC) A⟩,q,tV⟩ q ⟨_,(({cQ:=X,bT:=Y,dat:=G,ak:=F}:jw)),0,q,M,(by exact⟨Oh,Oh,Oh⟩),(D.sub (fun b f _=>tQ b f)),Oh,(by rw[rd.2];simp only[List.getD_eq_getElem?_getD,o,r,c];rfl)⟩
theorem afj:dZ Zp 80=true:=Ym
theorem abU:dZ Zp 82=true:=Ym
theorem akc:dZ Zp 92=true:=Ym
theorem mN:jJ Zp 46=true:=Ym
theorem aaC (uQ:Up w Q) {v0:Value} {v:eW} (h0:Pt (tPt fE 73) 46 w Q v0 v) {v1:Value} {p:Nat} (h1:Pt dY 26 w Q v1 p) {b2:Nat} {v2_0:Value} (m:jw) (h2:ck w b2 (jw.cells m v2_0) 117) (n2:¬Q b2) (a2_0:jw.ok m) (a2_1:Ls fI w Q v2_0 m.ak) (p0:v.b.length≤140737488355328) :
  Calls Zp 91 #[v0,v1,.pointer (some ⟨b2,0,none⟩)] w fun en w'=>(∃m29:jw,∃u52_0:Value,en = .returned (.tuple #[])∧Md [b2] w w'∧ck w' b2 (jw.cells m29 u52_0) 117∧¬Q b2∧jw.ok m29∧Ls fI w' Q u52_0 m29.ak∧iV (v.h.n.getD 0 0) v.b p=(m29,0))∨∃cp:Nat,en = .panicked (FK (.iface 203 (.agg #[.int .i64 cp])))∧(cp≠0∧cp<9223372036854775808)∧Md [b2] w w'∧ck w' b2 (jw.cells m v2_0) 117∧(iV (v.h.n.getD 0 0) v.b p).2=cp:=by
 obtain⟨c,Be,rfl,t,h0,qo⟩:=h0;obtain⟨v1,rfl,Al⟩:=qo;obtain⟨d,Bf,rfl,y,h1,Aq⟩:=h1;obtain⟨rfl,Ba⟩:=Aq;have F:=n2;have Aa:cr [b2] w b2:=.inl Oq;have Ae:c≠b2:=fun h=>F (h ▸ t);have Af:d≠b2:=fun h=>F (h ▸ y);have M:=Md.refl [b2] w;have Bu:=uQ;have tQ:∀b,Q b→Q b:=fun _ h=>h;refine enter (n:=20) Tryz.func91 q q q fun B=>ns (sl (u:=v1) q mN h0 q ?_);have I:=Al;obtain⟨e,Ax,rfl,N,I,Ab⟩:=I;obtain⟨v4,rfl,q5,K⟩:=eM Ab;have z:e≠b2:=fun h=>F (h ▸ N);refine sl (u:=(.int .u64 p)) q bA h1 q (j8 afj q (qS uQ ⟨_,_,q,N,I,dU q5 K⟩ p Oh) ?_);rintro en w7 (⟨rfl,C,P⟩|⟨cp,rfl,S,C,P⟩)
 rotate_left
 ·exact .inr ⟨_,q,gT (Or.inr ⟨cp,q,S,M.k C,h2.o C,(ahP P S.1)⟩)⟩
 refine .inl ⟨_,q,?_⟩;obtain⟨h2,h0,h1,I,K,uQ,M⟩:=k7 C h2 h0 h1 I K uQ M;refine nt (aP ?_);have o:=h2.lt;refine BW (fun w'=>Md [] w7 w') (R:=fun a' w'=>∃(A':Fr 20) (Z:Nat) (a:Value) (V:jw) (f:Nat),a'=bw A' [] [(3,.pointer (some ⟨Z,0,none⟩)),(4,.int .i64 f),(0,(.pointer (some ⟨c,0,none⟩))),(1,(.pointer (some ⟨d,0,none⟩))),(2,(.pointer (some ⟨b2,0,none⟩)))]∧Md [] w7 w'∧w7.heap.size≤Z∧Z<w'.heap.size∧ck w' Z (jw.cells V a) 117∧jw.ok V∧f<9223372036854775808∧Ls fI w' Q a V.ak∧lX v.b p=(V,f)) eC ?_ ?_
 ·rintro _ w8 ⟨A',Z,a,V,f,rfl,C,gA,lA,hA,Am,qA,G,k⟩
  have A9:=uQ _ gA;obtain⟨h2,uQ,M⟩:=k3 C h2 uQ M;have Ai:b2≠Z:=(by have:=o;omega);refine au (nm q (j8 abU q (rY uQ f Oh) ?_));rintro en w9 (⟨rfl,C,Y⟩|⟨cp,rfl,S,C,Y⟩)
  rotate_left
  ·exact .inr ⟨_,q,gT (Or.inr ⟨cp,q,S,M.k C,h2.o C,(by rw[abQ P k];exact Y)⟩)⟩
  refine .inl ⟨_,q,?_⟩;obtain⟨h2,G,hA,M⟩:=k4 C h2 G hA M;refine nt (aQ (st _ (dc (jw.cells V a) q (by exact nC) hA q) (aZ (us:=(jw.cells V a)) q q (by exact nC) (by exact fun u l=>bH (jw.one G.cg) u l) h2 (lB q) ?_)));have Aj:=h2;clear h2;intro Bv C h2;have hS:∀b∈[b2],¬Q b:=(hI F);replace G:=G.md C hS;replace M:=M.step C (hI Aa);clear Aj hS;replace h2:ck _ _ (jw.cells V a) _:=h2;refine aH ?_;exact eA (vs:=[]) trivial q trivial q (Or.inl ⟨V,_,q,M,h2,n2,Am,(G.sub (fun b hb _=>tQ b hb)),(by rw[abQ P k,Y])⟩)
 intro w1 A
 refine iu (i:=0) _ q Ym Ym (A) (fun w' H=>aC q mN (h0.o H) q) (iu (i:=1) _ q Ym Ym (A) (fun w' H=>dr q) (iu (i:=2) _ q Ym Ym (A) (fun w' H=>aL q sF) (iu (i:=3) _ q Ym Ym (A) (fun w' H=>aC q gC (I.o H) q) (iu (i:=4) _ q Ym Ym (A) (fun w' H=>aC q bA (h1.o H) q) ?_))));refine HG (i:=5) (j:=9) Ym q q q q ?_ ?_
 ·refine ax akc q (uz (uQ.md A) (K.o A) p Oh Oh) ?_;rintro en xa ⟨ua,ra,ca,rfl,J,ka,la,qa,fa⟩;refine rv ?_;refine aH ⟨q,A.k J,?_⟩;refine iu (i:=6) _ q Ym Ym (A.k J) (fun w' H=>bf q) (iu (i:=7) _ q Ym Ym (A.k J) (fun w' H=>jG q q) (iu (i:=8) _ q Ym Ym (A.k J) (fun w' H=>jG q q) (gY (i:=9) Ym q q (cw z117 ?_))));intro b5 x5 g5 l5 r Ag;refine aH ⟨q,(A.k J).k r,?_⟩;refine gY (i:=10) Ym q q (aZ (us:=(jw.cells ra ua)) q q (by exact nC) (by exact fun u l=>bH (jw.one la.cg) u l) Ag (lB q) ?_);intro ya T D;refine aH ⟨q,((A.k J).k r).fW T (ly (A.k J).size g5),?_⟩;replace D:ck ya b5 (jw.cells ra ua) 117:=D;refine gY (i:=11) Ym q q (d9 q ?_);refine aH ⟨q,((A.k J).k r).fW T (ly (A.k J).size g5),?_⟩;refine tE Ym ?_;exact⟨_,b5,ua,ra,ca,(ga (by exact⟨q,q,q,q,q,tV⟩)).symm,((A.k J).k r).fW T (ly (A.k J).size g5),(ly (A.k J).size g5),D.lt,D,ka,qa,(((la.sub (Q':=fun x=>Q x∧x≠b5) (fun x L hl=>⟨L,by omega⟩)).o r).md T (by intro x L;simp at L;subst L;exact fun h=>h.2 q)).sub (fun x L _=>L.1),fa⟩
 refine cw z117 ?_;intro b6 x6 g l6 O X;refine aH ⟨q,A.k O,?_⟩;obtain⟨Q6,s6,t6,n6,u6⟩:=kM (uQ.md A) g l6 O;refine gY (i:=5) Ym q q (ax akc q (uz u6 (((K.o A).sub s6).o O) p Oh Oh) ?_);rintro en xb ⟨ub,rb,cb,rfl,W,kb,lb,qb,fb⟩;refine rv ?_;replace X:=X.o W;refine aH ⟨q,(A.k O).k W,?_⟩;refine iu (i:=6) _ q Ym Ym ((A.k O).k W) (fun w' H=>bf q) (iu (i:=7) _ q Ym Ym ((A.k O).k W) (fun w' H=>jG q q) (iu (i:=8) _ q Ym Ym ((A.k O).k W) (fun w' H=>jG q q) (gY (i:=10) Ym q q (aZ (us:=(jw.cells rb ub)) q q (by exact nC) (by exact fun u l=>bH (jw.one lb.cg) u l) X (lB q) ?_))));intro yb U E;refine aH ⟨q,((A.k O).k W).fW U (ly A.size g),?_⟩;replace E:ck yb b6 (jw.cells rb ub) 117:=E;refine gY (i:=11) Ym q q (d9 q ?_);refine aH ⟨q,((A.k O).k W).fW U (ly A.size g),?_⟩;refine tE Ym ?_;exact⟨_,b6,ub,rb,cb,(ga (by exact⟨q,q,q,q,q,tV⟩)).symm,((A.k O).k W).fW U (ly A.size g),(ly A.size g),E.lt,E,kb,qb,((lb).md U (hI n6)).sub (fun x L _=>t6 x L),fb⟩
theorem ahz:gW Zp 203 1=true:=Ym
theorem aha:dZ Zp 120=true:=Ym
theorem ahe:PD Zp 20=true:=Ym
theorem adp:bg Zp 203 0=some 0:=Ym
theorem z3:fR Zp 3=some [.int .i64 0]:=Ym
theorem RB {w:World} {b:Nat} {v:Value} {u:FrameMode} (hB:ck w b [v] 3) (hu:u = .returning∨∃c:Nat,u = .panicking (FK (.iface 203 (.agg #[.int .i64 c])))) :
  CallsD Zp 120 #[.pointer (some ⟨b,0,none⟩)] u w fun e u' w'=>e = .returned (.tuple #[])∧settle u' = .returning∧Md [b] w w'∧((u = .returning∧ck w' b [v] 3)∨(∃c:Nat,u = .panicking (FK (.iface 203 (.agg #[.int .i64 c])))∧ck w' b [.int .i64 c] 3)):=by
 refine ahO (n:=17) (vs:=[.pointer (some ⟨b,0,none⟩)]) Tryz.func120 q q q ?_;intro B L K E;refine wpS_seq (wpS_region ?_);show wpOpsS _ _ _ [0,1] _ _ _;rcases hu with rfl|⟨c,rfl⟩
 ·refine agw q q q q q E ?_
  refine aee _ q q q (eK q) (aed ?_);refine wpS_of_wp (aP (aQ ?_));refine mv q (st (.bool false) (agi q ahe) (nt ?_));refine jR q q (bh ?_);exact akB E trivial q ⟨q,q,Md.refl _ w,.inl ⟨q,hB⟩⟩
 refine aiL q q q q q E ?_
 refine aee _ q q q (eK q) (aed ?_);refine wpS_of_wp (aP (aQ ?_));refine mv q (st (.bool true) (agh q ahe) (nt (iT q q (nm q (st _ (aaf uw q) (mv q (se q q (se q q (cw z203 ?_)))))))));intro F I G N D C;have H:b≠F:=(by have:=hB.lt;omega);replace hB:=hB.o D;have M:Md [b] w I:=D.mono Oq;refine aZ (us:=[.int .i64 c]) q q (by exact ahz) (fun u hu=>by simp at hu;subst hu;rfl) C (lB q) ?_;intro J D C;replace C:ck J F [.int .i64 c] 203:=C;replace hB:=hB.sZ D H;replace M:=M.fW D G;refine an q (aP (nm q (st (.bool false) (j7 (b:=true) q) (nt ?_))));refine jR q q (bh ?_);refine au (aQ (sf q adp (st _ (aC q jA C q) (bN q q jA q hB (Nat.zero_lt_one) ?_))));intro O D hB;refine aH ?_;exact akA trivial q ⟨q,q,M.jj D Oq,.inr ⟨c,q,hB⟩⟩
theorem rX {w:World} {f:FuncId} {cs:List Value} {S:List Nat} {X:World→Prop} {Y:Nat→World→Prop} {R:World→Ending→World→Prop} (hf:dZ Zp f=true) (hS:∀s∈S,s<w.heap.size)
  (hC:∀w0,Md [] w w0→Calls Zp f cs.toArray w0 (R w0))
  (hR:∀w0 e w1,Md [] w w0→R w0 e w1→Md S w0 w1∧((e = .returned (.tuple #[])∧∀b w2,w.heap.size≤b→b<w0.heap.size→Md [b] w1 w2→X w2)∨(∃c:Nat,e = .panicked (FK (.iface 203 (.agg #[.int .i64 c])))∧∀b w2,w.heap.size≤b→b<w0.heap.size→Md [b] w1 w2→Y c w2))) :
  Calls Zp 76 #[.func (.func f) #[] cs.toArray] w fun e w'=>∃c:Nat,e = .returned (.int .i64 c)∧Md S w w'∧((c=0∧X w')∨Y c w'):=by
 refine ahN (n:=6) (vs:=[.func (.func f) #[] cs.toArray]) Tryz.func76 q q q fun B=>ns (cw z3 ?_);intro b w0 G P I O;refine nt (ns (st _ (lU (vs:=[.pointer (some ⟨b,0,none⟩)]) q) (aef (cs:=[.pointer (some ⟨b,0,none⟩)]) q (nt (nm q (aa1 (xs:=[]) (vs:=[]) (cs:=cs) q hf q (hC w0 I) ?_))))));intro e w1 d;obtain⟨C,h|⟨c,Z,V⟩⟩:=hR w0 e w1 I d
 ·obtain⟨rfl,U⟩:=h
  refine .inl ⟨_,q,?_⟩;have D:=O.md C (fun h=>by have:=hS b h;omega);refine aH (a:=bw B _ ((5,.tuple #[]) :: _)) (au (ns (bN q q jA q D Om ?_)));intro w2 H E;replace E:ck w2 b [.int .i64 ((0:Nat):Int)] 3:=E;refine nt (iO ?_);show Leaves _ _ _ _ (bw B _ _).defers _ _;rw[gR];refine leave1 Oq q aha q q ((RB E (.inl q)).mono ?_);rintro e g M ⟨rfl,L,A,J⟩;obtain⟨_,F⟩|⟨c,h,_⟩:=J
  ·exact⟨q,L,_,EC jA F q,0,q,(((I.mono (T:=S) Oq).step C (fun i K=>.inl K)).fW H G).fW A G,.inl ⟨q,U b M G P (H.trans A)⟩⟩
  cases h
 subst Z
 refine .inr ⟨_,q,?_⟩;have D:=O.md C (fun h=>by have:=hS b h;omega);show Leaves _ _ _ _ (bw B _ _).defers _ _;rw[gR];refine leave1 Oq q aha q q ((RB D (.inr ⟨c,q⟩)).mono ?_);rintro e g M ⟨rfl,L,A,J⟩;obtain⟨h,_⟩|⟨N,h,F⟩:=J
 ·cases h
 have W:N=c:=by have Q:=h.symm;simp[FK]at Q;omega
 subst W;exact⟨q,L,_,EC jA F q,N,q,((I.mono (T:=S) Oq).step C (fun i K=>.inl K)).fW A G,.inr (V b M G P A)⟩
theorem YU:dZ Zp 76=true:=Ym
theorem al2:dZ Zp 91=true:=Ym
theorem wI (uQ:Up w Q) {v0:Value} {v:eW} (h0:Pt fE 73 w Q v0 v) (p:Nat) (a1:p<18446744073709551616) (p0:v.b.length≤140737488355328) :
  Calls Zp 48 #[v0,(.int .u64 p)] w fun en w'=>∃u0_0:Value,∃r0:jw,∃r1:Nat,en = .returned (.tuple #[.agg (jw.cells r0 u0_0).toArray,(.int .i64 r1)])∧Md [] w w'∧jw.ok r0∧Ls fI w' Q u0_0 r0.ak∧r1<9223372036854775808∧iV (v.h.n.getD 0 0) v.b p=(r0,r1):=by
 refine enter (n:=10) (vs:=[v0,.int .u64 p]) Tryz.func48 q q q ?_;intro B;have t:v0.oneCell'=true:=(by obtain⟨b,c,rfl,_⟩:=h0;rfl);refine ns (gN (cs:=[v0]) q (fU t) ?_);intro i w2 g2 l2 A F;have q2:=uQ _ g2;obtain⟨h0,uQ⟩:=k2 A h0 uQ;have M:=A;refine gN (cs:=[.int .u64 p]) q q ?_;intro j w3 g3 l3 A I;have q3:=uQ _ g3;obtain⟨h0,F,uQ,M⟩:=k4 A h0 F uQ M;refine cw z117 ?_;intro E g g4 l4 A d;obtain⟨V,s4,t4,n4,u4⟩:=kM uQ g4 l4 A;have a:=ly M.size g4;have y:=s4 _ q2 F.lt;have z:=s4 _ q3 I.lt;replace h0:=(h0.sub s4).o A;obtain⟨F,I,M⟩:=k3 A F I M;replace d:ck g E (jw.cells vw SN) 117:=d;refine an q (ns (st _ (lU (vs:=[.pointer (some ⟨i,0,none⟩),.pointer (some ⟨j,0,none⟩),.pointer (some ⟨E,0,none⟩)]) q) ?_));have hk:jw.ok vw:=(by simp[jw.ok,vw])
 refine ax YU q (rX (f:=91) (cs:=[.pointer (some ⟨i,0,none⟩),.pointer (some ⟨j,0,none⟩),.pointer (some ⟨E,0,none⟩)]) (S:=[E])
  (X:=fun w'=>∃r u,ck w' E (jw.cells r u) 117∧jw.ok r∧Ls fI w' V u r.ak∧iV (v.h.n.getD 0 0) v.b p=(r,0))
  (Y:=fun c w'=>ck w' E (jw.cells vw SN) 117∧c<9223372036854775808∧iV (v.h.n.getD 0 0) v.b p=(vw,c))
  (R:=fun O e w'=>(∃N Z,e = .returned (.tuple #[])∧Md [E] O w'∧ck w' E (jw.cells N Z) 117∧jw.ok N∧Ls fI w' (fun x=>V x∧(x<g.heap.size∨O.heap.size≤x)) Z N.ak∧iV (v.h.n.getD 0 0) v.b p=(N,0))∨∃L:Nat,e = .panicked (FK (.iface 203 (.agg #[.int .i64 L])))∧(L≠0∧L<9223372036854775808)∧Md [E] O w'∧ck w' E (jw.cells vw SN) 117∧(iV (v.h.n.getD 0 0) v.b p).2=L)
  al2 (hI l4) ?_ ?_) ?_
 ·intro O A
  have uX:Up O (fun x=>V x∧(x<g.heap.size∨O.heap.size≤x)):=fun x C=>⟨u4 x (ly A.size C),.inr C⟩;have sX:∀x,V x→x<g.heap.size→(V x∧(x<g.heap.size∨O.heap.size≤x)):=fun x C H=>⟨C,.inl H⟩;refine(aaC uX (v0:=.pointer (some ⟨i,0,none⟩)) (v1:=.pointer (some ⟨j,0,none⟩)) (v:=v) (p:=p) ⟨i,[v0],q,⟨y,.inl F.lt⟩,F.o A,v0,q,(h0.sub sX).o A⟩ ⟨j,_,q,⟨z,.inl I.lt⟩,I.o A,q,a1⟩ vw (d.o A) (fun h=>n4 h.1) hk (Ls.nil _ _ _) p0).mono ?_;rintro e w' (⟨N,Z,l,D,G,_,U,H,J⟩|⟨L,l,W,D,G,J⟩)
  ·exact .inl ⟨N,Z,l,D,G,U,H,J⟩
  exact .inr ⟨L,l,W,D,G,J⟩
 ·rintro O e w1 A (⟨N,Z,rfl,D,G,U,H,J⟩|⟨L,rfl,W,D,G,J⟩)
  ·refine⟨D,.inl ⟨q,fun b Ab gb lb K=>⟨N,Z,G.sZ K Oh,U,(H.md K (by intro x C h;simp at C;subst C;omega)).sub (fun x C _=>C.1),J⟩⟩⟩
  exact⟨D,.inr ⟨L,q,fun b Ab gb lb K=>⟨G.sZ K Oh,W.2,ahQ J W.1⟩⟩⟩
 rintro en w5 ⟨c,rfl,A,T⟩;refine rv ?_;replace M:=M.step A (by intro x C;simp at C;subst C;exact .inr a)
 obtain⟨r,u,G,o,H,W,J⟩:∃r u,ck w5 E (jw.cells r u) 117∧jw.ok r∧Ls fI w5 V u r.ak∧c<9223372036854775808∧iV (v.h.n.getD 0 0) v.b p=(r,c):=by
  rcases T with⟨rfl,r,u,k,F,I,d⟩|⟨k,F,I⟩
  ·exact⟨r,u,k,F,I,by decide,d⟩
  ·exact⟨_,_,k,hk,Ls.nil _ _ _,F,I⟩
 refine an q (ns (st _ (dc (jw.cells r u) q (by exact nC) G q) (mv q (aZ (us:=(jw.cells r u)) q q (by exact nC) (fun x C=>bH (jw.one H.cg) x C) G (lB q) ?_))));intro w6 A P;replace P:ck w6 E (jw.cells r u) 117:=P;replace H:=H.md A (hI n4);replace M:=M.fW A a;refine ar q ?_;exact eA (vs:=[.agg (jw.cells r u).toArray,.int .i64 c]) trivial q ⟨⟨_,q,ew (cs:=jw.cells r u) (by exact nC) P⟩,q,tV⟩ q ⟨u,r,c,q,M,o,H.sub (fun x C _=>t4 x C),W,J⟩
end Go.Proofs.YtmobbnpkkmeoiaaGreat
