/- A walk over states that are said by lists: what lies in the slots ('Env'), what lies in memory ('Mem'). The rules for code. Of whatever program. -/
import Derived.Test.YtofckcabpchcmaaGreatDoorM01
import Derived.Deep.MidRow
import Derived.IntWalk
set_option linter.unusedVariables false
set_option linter.unusedSimpArgs false
set_option linter.unusedSectionVars false
set_option maxRecDepth 100000
namespace Go.Proofs.YtofckcabpchcmaaGreatDoor
section
open Go
abbrev Env:=List (Nat×Value)
def look{α:Type}:List (Nat×α)→Nat→Option α
 |[],_=>none
 |(k,v)::r,d=>bif Nat.beq k d then some v else look r d
theorem AD{α:Type}(k d:Nat)(v:α)(r:List (Nat×α)):look ((k,v)::r) d=if k=d then some v else look r d:=by
 have e:look ((k,v)::r) d=bif Nat.beq k d then some v else look r d:=rfl;rw[e]
 by_cases h:k=d
 ·subst h;simp
 ·rw[if_neg h];have:Nat.beq k d=false:=by
   cases hb:Nat.beq k d with
   |false=>rfl
   |true=>exact absurd (Nat.eq_of_beq_eq_true hb) h
  rw[this];rfl
structure Nd where
 n:Nat
 ds:List Deferred
structure Sat(N:Nd)(a:Act)(E:Env):Prop where
 size:a.tmps.size=N.n
 defs:a.defers=N.ds
 slot:∀d v,look E d=some v→a.tmps[d]?=some v
def ev(E:Env):Operand→Option Value
 | .tmp t=>look E t
 | .const v=>some v
 | .global g=>some (.pointer (some ⟨g,0,none⟩))
 | .func f=>some (.func (.func f) #[] #[])
theorem Sat.ev{N:Nd}{a:Act}{E:Env}(h:Sat N a E){x:Operand}{v:Value}(he:ev E x=some v):a.eval x=v:=by
 cases x with
 |tmp t=>simp only[Proofs.YtofckcabpchcmaaGreatDoor.ev]at he;simp[Act.eval,h.slot t v he]
 |const v'=>simpa[Proofs.YtofckcabpchcmaaGreatDoor.ev,Act.eval]using he
 |global g=>simpa[Proofs.YtofckcabpchcmaaGreatDoor.ev,Act.eval]using he
 |func f=>simpa[Proofs.YtofckcabpchcmaaGreatDoor.ev,Act.eval]using he
def cP:Option Tmp→Value→Env→Env
 |none,_,E=>E
 |some d,v,E=>(d,v)::E
def cR(N:Nd):Option Tmp→Bool
 |none=>true
 |some d=>Nat.blt d N.n
theorem Sat.put{N:Nd}{a:Act}{E:Env}(h:Sat N a E){dst:Option Tmp}(v:Value)(hd:cR N dst=true):Sat N (a.put dst v) (cP dst v E):=by
 cases dst with
 |none=>exact h
 |some d=>
  have hlt:d<N.n:=Nat.le_of_ble_eq_true hd;refine⟨by simp[Act.put,h.size],h.defs,fun k u hu=>?_⟩;simp only[cP,AD]at hu
  by_cases hk:d=k
  ·subst hk;rw[if_pos rfl]at hu
   cases hu
   simp[Act.put,h.size,hlt]
  ·rw[if_neg hk]at hu;simp[Act.put,hk,h.slot k u hu]
def Sub:Env→Env→Prop
 |[],_=>True
 |(k,v)::r,E=>look E k=some v∧Sub r E
theorem Sub.looks{E' E:Env}(h:Sub E' E):∀d v,look E' d=some v→look E d=some v:=by
 induction E' with
 |nil=>intro d v h;cases h
 |cons p r ih=>
  obtain⟨k,u⟩:=p;intro d v hd;rw[AD]at hd
  by_cases hk:k=d
  ·subst hk;rw[if_pos rfl]at hd;cases hd;exact h.1
  ·rw[if_neg hk]at hd;exact ih h.2 d v hd
theorem Sub.nil{E:Env}:Sub [] E:=trivial
theorem Sub.cons{E r:Env}{k:Nat}{v:Value}(h:look E k=some v)(t:Sub r E):Sub ((k,v)::r) E:=⟨h,t⟩
theorem Sat.sub{N:Nd}{a:Act}{E E':Env}(h:Sat N a E)(s:Sub E' E):Sat N a E':=⟨h.size,h.defs,fun d v hd=>h.slot d v (s.looks d v hd)⟩
theorem Sat.pZ{N:Nd}{a:Act}{E:Env}(h:Sat N a E){d:Nat}{v:Value}(hl:look E d=some v):Sat N a ((d,v)::E):=⟨h.size,h.defs,fun k u hu=>by
 rw[AD]at hu
 by_cases hk:d=k
 ·subst hk;rw[if_pos rfl]at hu;cases hu;exact h.slot d v hl
 ·rw[if_neg hk]at hu;exact h.slot k u hu⟩
inductive B7(T:Nat):Env→Env→Prop
 |nil:B7 T [] []
 |pN {k:Nat} {v:Value} {E E':Env}:Nat.blt k T=true→B7 T E E'→B7 T ((k,v)::E) ((k,v)::E')
 |drop {k:Nat} {v:Value} {E E':Env}:Nat.blt k T=false→B7 T E E'→B7 T ((k,v)::E) E'
section
variable(P:Program)(ops:Array Oper)(Q:Exit→Act→World→Prop)(N:Nd)
def aE(l:List Oper)(E:Env)(L:List Chunk):Prop:=∀a w,Sat N a E→Mem w L→wpList P ops Q l a w
def aG(c:Code)(E:Env)(L:List Chunk):Prop:=∀a w,Sat N a E→Mem w L→c.wp P Q a w
def End(e:Exit)(E:Env)(L:List Chunk):Prop:=∀a w,Sat N a E→Mem w L→Q e a w
def aB(o:Oper)(E:Env)(L:List Chunk)(C:Env→List Chunk→Prop):Prop:=
 ∀K:Act→World→Prop,(∀E' L',C E' L'→∀a w,Sat N a E'→Mem w L'→K a w)→∀a w,Sat N a E→Mem w L→o.wp P a w K Q
def Still(o:Oper)(E:Env)(L:List Chunk)(v:Value):Prop:=∀a w,Sat N a E→Mem w L→(execOp a.eval o).run P w= .ok (.value v) w
end
section
variable{P:Program}{ops:Array Oper}{Q:Exit→Act→World→Prop}{N:Nd}{E:Env}{L:List Chunk}
theorem aG.sub{c:Code}(E':Env)(s:Sub E' E)(h:aG P Q N c E' L):aG P Q N c E L:=fun a w hs hm=>h a w (hs.sub s) hm
theorem aG.imp{c:Code}{L':List Chunk}(t:∀w,Mem w L→Mem w L')(h:aG P Q N c E L'):aG P Q N c E L:=fun a w hs hm=>h a w hs (t w hm)
theorem aE.imp{l:List Oper}{L':List Chunk}(t:∀w,Mem w L→Mem w L')(h:aE P ops Q N l E L'):aE P ops Q N l E L:=fun a w hs hm=>h a w hs (t w hm)
theorem aG.fact{c:Code}(φ:Prop)(t:∀w,Mem w L→φ)(h:φ→aG P Q N c E L):aG P Q N c E L:=fun a w hs hm=>h (t w hm) a w hs hm
theorem End.NU{K:Act→World→Prop}{id:Nat}(h:End Q N (.exit id) E L):End (Exit.then K Q) N (.exit id) E L:=h
theorem End.NV{K:Act→World→Prop}(h:End Q N .ret E L):End (Exit.then K Q) N .ret E L:=h
theorem End.KY{id:Nat}(h:End Q N .normal E L):End (Exit.inBlock id Q) N .normal E L:=h
theorem End.K0{id:Nat}(h:End Q N .ret E L):End (Exit.inBlock id Q) N .ret E L:=h
theorem End.K5{id:Nat}(h:End Q N .normal E L):End (Exit.inBlock id Q) N (.exit id) E L:=fun a w hs hm=>by
 show(if id=id then Q .normal a w else Q (.exit id) a w);rw[if_pos rfl];exact h a w hs hm
theorem End.aCW{id id':Nat}(hn:Nat.beq id' id=false)(h:End Q N (.exit id') E L):End (Exit.inBlock id Q) N (.exit id') E L:=fun a w hs hm=>by
 show(if id'=id then Q .normal a w else Q (.exit id') a w);rw[if_neg (fun he=>by subst he;simp at hn)];exact h a w hs hm
theorem aG.skip(h:End Q N .normal E L):aG P Q N .skip E L:=fun a w hs hm=>wp_skip (h a w hs hm)
theorem aG.exit{id:Nat}(h:End Q N (.exit id) E L):aG P Q N (.exit id) E L:=fun a w hs hm=>wp_exit (h a w hs hm)
theorem aG.ret(h:End Q N .ret E L):aG P Q N .ret E L:=fun a w hs hm=>wp_ret (h a w hs hm)
theorem aG.block{id:Nat}{c:Code}(h:aG P (Exit.inBlock id Q) N c E L):aG P Q N (.block id c) E L:=fun a w hs hm=>wp_block (h a w hs hm)
theorem aG.cond{c:Operand}{x y:Code}(t:Bool)(hc:ev E c=some (.bool t))(h1:t=true→aG P Q N x E L)(h2:t=false→aG P Q N y E L):aG P Q N (.cond c x y) E L:=
 fun a w hs hm=>wp_cond_split (hs.ev hc) (fun h=>h1 h a w hs hm) (fun h=>h2 h a w hs hm)
theorem aG.cond_true{c:Operand}{x y:Code}{t:Bool}(hc:ev E c=some (.bool t))(ht:t=true)(h1:aG P Q N x E L):aG P Q N (.cond c x y) E L:=
 fun a w hs hm=>wp_cond (hs.ev hc) (by rw[ht];exact h1 a w hs hm)
theorem aG.cond_false{c:Operand}{x y:Code}{t:Bool}(hc:ev E c=some (.bool t))(ht:t=false)(h1:aG P Q N y E L):aG P Q N (.cond c x y) E L:=
 fun a w hs hm=>wp_cond (hs.ev hc) (by rw[ht];exact h1 a w hs hm)
theorem aG.region{id:Nat}{l:List Oper}(h:aE P l.toArray Q N l E L):aG P Q N (.region id l.toArray false) E L:=fun a w hs hm=>wp_region_lit (h a w hs hm)
theorem aE.nil(h:End Q N .normal E L):aE P ops Q N [] E L:=fun a w hs hm=>wpList_nil (h a w hs hm)
theorem aE.op{o:Oper}{l:List Oper}(hg:o.guard=none)(h:aB P Q N o E L (fun E' L'=>aE P ops Q N l E' L')):aE P ops Q N (o::l) E L:=
 fun a w hs hm=>wpList_plain hg fun K hK=>h K (fun E' L' hr a w hs hm=>hK a w (hr a w hs hm)) a w hs hm
def gd(ops:Array Oper)(E:Env)(j:Nat):Option Value:=match ops[j]? with
 |some o=>match o.dst with
  |some d=>look E d
  |none=>none
 |none=>none
theorem OQ{a:Act}{j:Nat}{v:Value}(hs:Sat N a E)(h:gd ops E j=some v):yielded ops a.tmps j=(match v with| .bool b=>some b|_=>none):=by
 unfold gd at h;unfold yielded
 cases ho:ops[j]? with
 |none=>rw[ho]at h;cases h
 |some o=>
  rw[ho]at h;simp only at h
  cases hd:o.dst with
  |none=>rw[hd]at h;cases h
  |some d=>
   rw[hd]at h;simp only at h;have:=hs.slot d v h;simp[hd,this]
   cases v<;>rfl
theorem uT{a:Act}{o:Oper}{j:Nat}{t want:Bool}(hs:Sat N a E)(hg:o.guard=some (j,want))(h:gd ops E j=some (.bool t)):Region.wanted o (yielded ops a.tmps)=(t==want):=by
 unfold Region.wanted;rw[hg];simp only[OQ hs h]
 cases t<;>cases want<;>rfl
theorem aE.aCK{o:Oper}{l:List Oper}{j:Nat}{want:Bool}(hg:o.guard=some (j,want))(h:gd ops E j=some undef)(hd:cR N o.dst=true)(h2:aE P ops Q N l (cP o.dst undef E) L):aE P ops Q N (o::l) E L:=by
 intro a w hs hm;refine wpList_step fun K hK=>?_
 have:Region.wanted o (yielded ops a.tmps)=false:=by
  unfold Region.wanted;rw[hg];simp only[OQ hs h,undef];rfl
 rw[this];simp only[Bool.false_eq_true,if_false];exact hK _ _ (h2 _ _ (hs.put undef hd) hm)
theorem aB.val{d:Tmp}{op:Op}{ty:TypeId}{pos:String}{aft:Array Edge}{g:Option (Nat×Bool)}{v:Value}{C:Env→List Chunk→Prop}(h:Still P N ⟨some d,op,ty,pos,aft,g⟩ E L v)(hd:Nat.blt d N.n=true)(k:C ((d,v)::E) L):aB P Q N ⟨some d,op,ty,pos,aft,g⟩ E L C:=by
 intro K hK a w hs hm;unfold Oper.wp;rw[h a w hs hm];exact hK _ _ k _ _ (hs.put (dst:=some d) v hd) hm
theorem aG.loop{σ:Type}{c:Code}{F:List Chunk}(ok:σ→Prop)(inv:σ→Env)(mem:σ→List Chunk)(μ:σ→Nat)(s0:σ)(h0:ok s0)(hE:Sub (inv s0) E)(hL:aR (mem s0) L F)
  (round:∀s,ok s→∀K:Act→World→Prop,(∀s',ok s'→μ s'<μ s→∀a w,Sat N a (inv s')→Mem w (mem s' ++F)→K a w)→aG P (Exit.then K Q) N c (inv s) (mem s ++F)):aG P Q N (.loop c) E L:=by
 intro a w hs hm;have hch:∀(a:Act) (w:World),(∃s,ok s∧Sat N a (inv s)∧Mem w (mem s ++F))→∃n,∃s,ok s∧Sat N a (inv s)∧Mem w (mem s ++F)∧μ s=n:=fun a w ⟨s,h1,h2,h3⟩=>⟨_,s,h1,h2,h3,rfl⟩
 classical
 let G:Act→World→Nat→Prop:=fun a w n=>∃s,ok s∧Sat N a (inv s)∧Mem w (mem s ++F)∧μ s≤n
 have hex:∀(a:Act) (w:World),(∃n,G a w n)→∃m,G a w m∧∀n,G a w n→m≤n:=by
  intro a w h;obtain⟨n,hn⟩:=h
  induction n using Nat.strongRecOn with
  |_ n ih=>
   by_cases hl:∃k,k<n∧G a w k
   ·obtain⟨k,hk,hg⟩:=hl;exact ih k hk hg
   ·exact⟨n,hn,fun k hk=>Nat.le_of_not_lt fun hlt=>hl ⟨k,hlt,hk⟩⟩
 let M:Act→World→Nat:=fun a w=>if h:∃n,G a w n then Classical.choose (hex a w h)else 0
 have hM:∀a w,(∃n,G a w n)→G a w (M a w)∧∀n,G a w n→M a w≤n:=by
  intro a w h;have:=Classical.choose_spec (hex a w h);simp only[M,dif_pos h];exact this
 refine wp_loop (fun a w=>∃n,G a w n) M ⟨μ s0,s0,h0,hs.sub hE,hm.aP hL,Nat.le_refl _⟩ (fun a w hI=>?_);obtain⟨⟨s,h1,h2,h3,h4⟩,hmin⟩:=hM a w hI;refine round s h1 _ (fun s' h1' hlt a' w' h2' h3'=>?_) a w h2 h3;refine⟨⟨μ s',s',h1',h2',h3',Nat.le_refl _⟩,?_⟩;have:=(hM a' w' ⟨μ s',s',h1',h2',h3',Nat.le_refl _⟩).2 (μ s') ⟨s',h1',h2',h3',Nat.le_refl _⟩;omega
theorem End.round{σ:Type}{K:Act→World→Prop}{F:List Chunk}{ok:σ→Prop}{inv:σ→Env}{mem:σ→List Chunk}{μ:σ→Nat}{m:Nat}
  (hK:∀s',ok s'→μ s'<m→∀a w,Sat N a (inv s')→Mem w (mem s' ++F)→K a w) (s:σ) (h1:ok s) (h2:μ s<m) (hE:Sub (inv s) E) (hL:aR (mem s) L F):End (Exit.then K Q) N .normal E L:=
 fun a w hs hm=>hK s h1 h2 a w (hs.sub hE) (hm.aP hL)
def Fn(P:Program)(f:FuncId){σ:Type}(args:Array Value)(R pre:List Chunk)(post:σ→Prop)(val:σ→Value)(mem:σ→List Chunk):Prop:=
 ∀w,Mem w (R ++pre)→Calls P f args w (fun e w'=>∃x,post x∧e= .returned (val x)∧(∀c∈mem x,c.bE=true)∧Mem w' (aO w (e7 pre)::mem x))
section
variable{α:Type} [Inhabited α]{w w0:World}{S:Nat→Prop}{ao:Option Addr}{n cap:Nat}{e:TypeId}{f:α→List Value} [bH f]{l:List α}{R F F':List Chunk}
theorem Reads.rd(t:Take (rd ao n cap f l) F F')(h:Reads w R F):Reads w (Proofs.YtofckcabpchcmaaGreatDoor.rd ao n cap f l::R) F:=
 .cons t eO (fun h=>⟨h,fun b hb=>hb⟩) h
theorem Reads.arr(t:Take (arr ao n cap e f l) F F')(h:Reads w R F):Reads w (Proofs.YtofckcabpchcmaaGreatDoor.rd ao n cap f l::R) F:=
 .cons t eO (fun h=>⟨jJ.2 ⟨(fV.1 h).1.row bH.pos,(fV.1 h).2⟩,fun b hb=>gG.2 ⟨(iZ.1 hb).1,Nat.lt_of_lt_of_le (iZ.1 hb).2 (fV.1 h).1.le⟩⟩) h
def At(w0:World)(S:Nat→Prop)(ao:Option Addr)(n cap:Nat)(f:α→List Value)(l:List α):Prop:=
 (Row w0 (.slice ao n cap) (sz f) n (l.flatMap f)∧l.length=n)∧∀b,(Value.slice ao n cap).ownBlock=some b→0<n→¬S b
end
def nZ(E:Env):List Operand→Option (List Value)
 |[]=>some []
 |x::r=>match ev E x,nZ E r with
  |some v,some vs=>some (v::vs)
  |_,_=>none
inductive gD(E:Env):List Operand→List Value→Prop
 |nil:gD E [] []
 |cons {x:Operand} {v:Value} {r:List Operand} {vs:List Value}:ev E x=some v→gD E r vs→gD E (x::r) (v::vs)
theorem Sat.nZ{a:Act}(h:Sat N a E){l:List Operand}{vs:List Value}(he:gD E l vs):l.map a.eval=vs:=by
 induction he with
 |nil=>rfl
 |cons h1 _ ih=>simp[h.ev h1,ih]
def fW(P:Program)(f:FuncId):Bool:=match P.funcs[f]? with
 |none=>false
 |some fn=>!(fn.name== "runtime.NumGoroutine")&&fn.body.isSome
theorem yD{w:World}{f:FuncId}(h:fW P f=true)(args:Array Value):(callFunc f args).run P w= .ok (.enter f args) w:=by
 unfold fW at h;unfold callFunc
 cases hf:P.funcs[f]? with
 |none=>rw[hf]at h;cases h
 |some fn=>
  rw[hf]at h;simp only[Bool.and_eq_true,Bool.not_eq_true']at h;have hb:fn.body.isNone=false:=by
   cases hb:fn.body with
   |none=>rw[hb]at h;simp at h
   |some _=>rfl
  simp only[program,Sem.run_bind];show(Sem.run P _ w)=_;simp only[hf,h.1,hb];rfl
theorem aB.call{σ:Type}{dst:Option Tmp}{x:Operand}{args:List Operand}{eI:Array TypeId}{ty:TypeId}{pos:String}{aft:Array Edge}{g:Option (Nat×Bool)}{f:FuncId}{vs:List Value}{cap:Array Value}
  {R pre F:List Chunk} {post:σ→Prop} {val:σ→Value} {mem:σ→List Chunk} {C:Env→List Chunk→Prop}
  (hx:ev E x=some (.func (.func f) #[] cap)) (hv:gD E args vs) (hc:fW P f=true) (hd:cR N dst=true)
  (spec:Fn P f (vs.toArray ++cap) R pre post val mem) (t:aR pre L F) (r:∀w,Reads w R F) (k:∀s,post s→C (cP dst (val s) E) (mem s ++F)):
  aB P Q N ⟨dst, .call ⟨.value x,args.toArray,eI⟩,ty,pos,aft,g⟩ E L C:=by
 intro K hK a w hs hm;have hr:(execOp a.eval ⟨dst, .call ⟨.value x,args.toArray,eI⟩,ty,pos,aft,g⟩).run P w= .ok (.enter f (vs.toArray ++cap)) w:=by
  have e:args.toArray.map a.eval=vs.toArray:=by rw[←hs.nZ hv];simp
  simp only[execOp,resolve,hs.ev hx,Deferred.ofValue,Sem.run_bind,Sem.run_pure,Result.andThen_ok,e,invoke];rw[yD hc];simp
 unfold Oper.wp;rw[hr,Oper.upon_enter];refine(spec w ((hm.aP t).reads (r w))).mono ?_;rintro e w' ⟨s,hp,rfl,hx,hm'⟩;exact hK _ _ (k s hp) _ _ (hs.put _ hd) ((hm.aP t).frame hm' hx)
theorem aB.IH{σ:Type}{dst:Option Tmp}{x:Operand}{args:List Operand}{eI:Array TypeId}{ty:TypeId}{pos:String}{aft:Array Edge}{g:Option (Nat×Bool)}{f:FuncId}{vs:List Value}
  {R pre F:List Chunk} {post:σ→Prop} {val:σ→Value} {mem:σ→List Chunk} {C:Env→List Chunk→Prop}
  (hx:ev E x=some (.func (.func f) #[] #[])) (hv:gD E args vs) (hc:fW P f=true) (hd:cR N dst=true)
  (spec:Fn P f vs.toArray R pre post val mem) (t:aR pre L F) (r:∀w,Reads w R F) (k:∀s,post s→C (cP dst (val s) E) (mem s ++F)):
  aB P Q N ⟨dst, .call ⟨.value x,args.toArray,eI⟩,ty,pos,aft,g⟩ E L C:=aB.call (cap:= #[]) hx hv hc hd (by simpa using spec) t r k
theorem End.aFP{fn:Func}{R:Ending→World→Prop}{t:Tmp}{v:Value}(hD:N.ds=[])(hr:fn.results= #[.tmp t])(hv:look E t=some v)(h:∀w,Mem w L→R (.returned v) w):End (bodyPost P fn R) N .ret E L:=
 fun a w hs hm=>bodyPost_ret (by rw[results_tmp hr];simp[hs.slot t v hv]) (hs.defs.trans hD) (h w hm)
theorem End.aFO{fn:Func}{R:Ending→World→Prop}(hD:N.ds=[])(hr:fn.results= #[])(h:∀w,Mem w L→R (.returned (.tuple #[])) w):End (bodyPost P fn R) N .ret E L:=
 fun a w hs hm=>bodyPost_ret (by rw[results_none hr]) (hs.defs.trans hD) (h w hm)
theorem End.aBW{fn:Func}{R:Ending→World→Prop}(hD:N.ds=[])(hr:fn.results= #[])(h:∀w,Mem w L→R (.returned (.tuple #[])) w):End (bodyPost P fn R) N .normal E L:=
 fun a w hs hm=>bodyPost_end (by rw[results_none hr]) (hs.defs.trans hD) (h w hm)
theorem End.aFQ{fn:Func}{R:Ending→World→Prop}{t u:Tmp}{v v':Value}(hD:N.ds=[])(hr:fn.results= #[.tmp t, .tmp u])(hv:look E t=some v)(hv':look E u=some v')(h:∀w,Mem w L→R (.returned (.tuple #[v,v'])) w):
  End (bodyPost P fn R) N .ret E L:=
 fun a w hs hm=>bodyPost_ret (by rw[results_tmp2 hr];simp[hs.slot t v hv,hs.slot u v' hv']) (hs.defs.trans hD) (h w hm)
section
variable{σ:Type}{fn:Func}{post:σ→Prop}{val:σ→Value}{mem:σ→List Chunk}{w0:World}{S:Nat→Prop}{F:List Chunk}
abbrev eJ(post:σ→Prop)(val:σ→Value)(mem:σ→List Chunk)(w0:World)(S:Nat→Prop):Ending→World→Prop:=fun e w'=>∃x,post x∧e= .returned (val x)∧(∀c∈mem x,c.bE=true)∧Mem w' (aO w0 S::mem x)
theorem End.xN{t:Tmp}{v:Value}(x:σ)(hr:fn.results= #[.tmp t])(hv:look E t=some v)(he:v=val x)(hp:post x)(hx:∀c∈mem x,c.bE=true)(ht:aR (aO w0 S::mem x) L F)(hD:N.ds=[]):End (bodyPost P fn (eJ post val mem w0 S)) N .ret E L:=
 End.aFP hD hr hv (fun w hm=>⟨x,hp,by rw[he],hx,(hm.aP ht).left⟩)
theorem End.aBJ(x:σ)(hr:fn.results= #[])(hv:val x= .tuple #[])(hp:post x)(hx:∀c∈mem x,c.bE=true)(ht:aR (aO w0 S::mem x) L F)(hD:N.ds=[]):End (bodyPost P fn (eJ post val mem w0 S)) N .ret E L:=
 End.aFO hD hr (fun w hm=>⟨x,hp,by rw[hv],hx,(hm.aP ht).left⟩)
theorem End.aBK(x:σ)(hr:fn.results= #[])(hv:val x= .tuple #[])(hp:post x)(hx:∀c∈mem x,c.bE=true)(ht:aR (aO w0 S::mem x) L F)(hD:N.ds=[]):End (bodyPost P fn (eJ post val mem w0 S)) N .normal E L:=
 End.aBW hD hr (fun w hm=>⟨x,hp,by rw[hv],hx,(hm.aP ht).left⟩)
theorem End.aBL{t u:Tmp}{v v':Value}(x:σ)(hr:fn.results= #[.tmp t, .tmp u])(hv:look E t=some v)(hv':look E u=some v')(he:val x= .tuple #[v,v'])(hp:post x)(hx:∀c∈mem x,c.bE=true)(ht:aR (aO w0 S::mem x) L F)(hD:N.ds=[]):End (bodyPost P fn (eJ post val mem w0 S)) N .ret E L:=
 End.aFQ hD hr hv hv' (fun w hm=>⟨x,hp,by rw[he],hx,(hm.aP ht).left⟩)
end
def first:Nat→List Value→Env
 |_,[]=>[]
 |k,v::r=>(k,v)::first (k+1) r
theorem aCu(l:List Value):∀(k d:Nat) (v:Value),look (first k l) d=some v→k≤d∧l[d-k]?=some v:=by
 induction l with
 |nil=>intro k d v h;cases h
 |cons u r ih=>
  intro k d v h;rw[first,AD]at h
  by_cases hk:k=d
  ·subst hk;rw[if_pos rfl]at h;exact⟨Nat.le_refl _,by simpa using h⟩
  ·rw[if_neg hk]at h;obtain⟨h1,h2⟩:=ih _ _ _ h;refine⟨by omega,?_⟩;rw[show d-k=(d-(k+1))+1 by omega,List.getElem?_cons_succ];exact h2
theorem CE{args:List Value}{n:Nat}(hA:args.length≤n):Sat ⟨n,[]⟩ {tmps:=args.toArray ++Array.replicate (n-args.toArray.size) undef,defers:=[]} (first 0 args):=by
 refine⟨by simp;omega,rfl,fun d v hd=>?_⟩;obtain⟨-,h2⟩:=aCu _ _ _ _ hd;simp only[Nat.sub_zero]at h2;have hlt:d<args.length:=(List.getElem?_eq_some_iff.1 h2).1;rw[Array.getElem?_append_left (by simpa using hlt)];simpa using h2
theorem A3{R pre:List Chunk}{w:World}(hR:∀c∈R,c.bE=false)(hm:Mem w (R ++pre)):Mem w (aO w (e7 pre)::(R ++pre)):=by
 have h1:=hm.since;have e:e7 (R ++pre)=e7 pre:=by
  funext b
  simp only[e7,eq_iff_iff];constructor
  ·rintro⟨c,hc,hx,hb⟩;rcases List.mem_append.1 hc with hc|hc
   ·rw[hR c hc]at hx;cases hx
   ·exact⟨c,hc,hx,hb⟩
  ·rintro⟨c,hc,hx,hb⟩;exact⟨c,List.mem_append_right _ hc,hx,hb⟩
 rwa [e]at h1
theorem Fn.enter{f:FuncId}{fn:Func}{c:Code}{σ:Type}{args:List Value}{R pre:List Chunk}{post:σ→Prop}{val:σ→Value}{mem:σ→List Chunk}(hf:P.funcs[f]?=some fn)(hb:fn.body=some c)(N:Nat)(hN:fn.ntmps=N)
  (hA:Nat.ble args.length N=true) (hR:∀c∈R,c.bE=false)
  (h:∀w S,aG P (bodyPost P fn (eJ post val mem w S)) ⟨N,[]⟩ c (first 0 args) (aO w S::(R ++pre))):Fn P f args.toArray R pre post val mem:=by
 intro w hm;have hA:=Nat.le_of_ble_eq_true hA;refine calls_of_wp hf hb ?_;subst hN;exact h w (e7 pre) _ w (CE hA) (A3 hR hm)
end
inductive dO where
 |bool|int (k:IntKind)|string|pointer (e:TypeId)|slice (e:TypeId)|struct (fs:List (Nat×TypeId))|map (k v:TypeId)|other
def uS:TypeDesc→dO
 | .bool=> .bool| .int k=> .int k| .string=> .string| .pointer e=> .pointer e| .slice e=> .slice e
 | .struct fs=> .struct (fs.toList.map fun f=>(f.offset,f.type))| .map k v=> .map k v|_=> .other
structure jX where
 d:dO
 size:Nat
 bytes:Nat
 zero:List Value
structure jC(P:Program)(t:TypeId)(i:jX):Prop where
 BC:(P.underlying t).map uS=some i.d
 inf:(P.info? t).map (fun x=>(x.size,x.bytes,x.zero.map (·.cells.toList)))=some (i.size,i.bytes,some i.zero)
class eT (P:Program) where
 A6:List (TypeId×jX)
 ok:∀p∈A6,jC P p.1 p.2
theorem CP{α:Type}:∀{l:List (Nat×α)} {d:Nat} {v:α},look l d=some v→(d,v)∈l
 |[],_,_,h=>by cases h
 |(k,u)::r,d,v,h=>by
  rw[AD]at h
  by_cases hk:k=d
  ·subst hk;rw[if_pos rfl]at h;cases h;exact List.mem_cons_self
  ·rw[if_neg hk]at h;exact List.mem_cons_of_mem _ (CP h)
section
variable{P:Program} [eT P]
abbrev bB(P:Program) [eT P](t:TypeId):Option jX:=look (eT.A6 P) t
theorem cI{t:TypeId}{i:jX}(h:bB P t=some i):jC P t i:=eT.ok (t,i) (CP h)
theorem jC.info{t:TypeId}{i:jX}(h:jC P t i):∃x z,P.info? t=some x∧x.size=i.size∧x.bytes=i.bytes∧x.zero=some z∧z.cells.toList=i.zero:=by
 have:=h.inf
 cases hx:P.info? t with
 |none=>rw[hx]at this;cases this
 |some x=>
  rw[hx]at this;simp only[Option.map_some,Option.some.injEq,Prod.mk.injEq]at this;obtain⟨h1,h2,h3⟩:=this
  cases hz:x.zero with
  |none=>rw[hz]at h3;cases h3
  |some z=>rw[hz]at h3;exact⟨x,z,rfl,h1,h2,hz,by simpa using h3⟩
theorem jC.wI{t:TypeId}{i:jX}(h:jC P t i):∃d,P.underlying t=some d∧uS d=i.d:=by
 have:=h.BC
 cases hx:P.underlying t with
 |none=>rw[hx]at this;cases this
 |some d=>rw[hx]at this;exact⟨d,rfl,by simpa using this⟩
theorem jC.slice{t e:TypeId}{s b:Nat}{z:List Value}(h:jC P t ⟨.slice e,s,b,z⟩):P.underlying t=some (.slice e):=by
 obtain⟨d,h1,h2⟩:=h.wI;rw[h1]
 cases d<;>simp[uS]at h2
 rw[h2]
theorem jC.int{t:TypeId}{k:IntKind}{s b:Nat}{z:List Value}(h:jC P t ⟨.int k,s,b,z⟩):P.underlying t=some (.int k):=by
 obtain⟨d,h1,h2⟩:=h.wI;rw[h1]
 cases d<;>simp[uS]at h2
 rw[h2]
theorem jC.string{t:TypeId}{s b:Nat}{z:List Value}(h:jC P t ⟨.string,s,b,z⟩):P.underlying t=some .string:=by
 obtain⟨d,h1,h2⟩:=h.wI;rw[h1]
 cases d<;>simp[uS]at h2
 rfl
theorem jC.map{t k v:TypeId}{s b:Nat}{z:List Value}(h:jC P t ⟨.map k v,s,b,z⟩):P.underlying t=some (.map k v):=by
 obtain⟨d,h1,h2⟩:=h.wI;rw[h1]
 cases d<;>simp[uS]at h2
 rw[h2.1,h2.2]
theorem jC.pointer{t e:TypeId}{s b:Nat}{z:List Value}(h:jC P t ⟨.pointer e,s,b,z⟩):P.underlying t=some (.pointer e):=by
 obtain⟨d,h1,h2⟩:=h.wI;rw[h1]
 cases d<;>simp[uS]at h2
 rw[h2]
theorem jC.struct{t:TypeId}{fs:List (Nat×TypeId)}{s b:Nat}{z:List Value}(h:jC P t ⟨.struct fs,s,b,z⟩):∃l,P.underlying t=some (.struct l)∧l.toList.map (fun f=>(f.offset,f.type))=fs:=by
 obtain⟨d,h1,h2⟩:=h.wI;rw[h1]
 cases d<;>simp[uS]at h2
 exact⟨_,rfl,by simpa using h2⟩
def dO.row:dO→Bool
 | .struct _=>true
 | .other=>true
 |_=>false
theorem jC.size{t:TypeId}{i:jX}(h:jC P t i)(w:World):(sizeOf t).run P w= .ok i.size w:=by
 obtain⟨x,z,h1,h2, -⟩:=h.info;simp[sizeOf,typeInfo,h1,h2]
theorem jC.isAgg{t:TypeId}{i:jX}(h:jC P t i)(hd:i.d.row=false)(w:World):(Go.isAgg t).run P w= .ok false w:=by
 obtain⟨d,h1,h2⟩:=h.wI;unfold Go.isAgg;rw[Sem.run_bind,run_underlying h1 w]
 cases d<;>simp_all[uS,dO.row]<;>(rw[←h2]at hd;simp at hd)
variable{Q:Exit→Act→World→Prop}{N:Nd}{E:Env}{L:List Chunk}
variable{dst:Option Tmp}{ty:TypeId}{pos:String}{aft:Array Edge}{g:Option (Nat×Bool)}
theorem Still.move{x:Operand}{v:Value}(hx:ev E x=some v):Still P N ⟨dst, .move x,ty,pos,aft,g⟩ E L v:=fun a w hs _=>by simp[execOp,hs.ev hx]
theorem Still.assign{x:Operand}{v:Value}(hx:ev E x=some v):Still P N ⟨dst, .assign x,ty,pos,aft,g⟩ E L v:=fun a w hs _=>by simp[execOp,hs.ev hx]
theorem Still.aE6{c x y:Operand}{v:Value}(hc:ev E c=some (.bool true))(hx:ev E x=some v):Still P N ⟨dst, .pick c x y,ty,pos,aft,g⟩ E L v:=fun a w hs _=>by simp[execOp,hs.ev hc,hs.ev hx,asBool]
theorem Still.aE4{c x y:Operand}{v:Value}(hc:ev E c=some (.bool false))(hy:ev E y=some v):Still P N ⟨dst, .pick c x y,ty,pos,aft,g⟩ E L v:=fun a w hs _=>by simp[execOp,hs.ev hc,hs.ev hy,asBool]
section
variable{xT yT:TypeId}{x y:Operand}{k:IntKind}{a b z:Int}
theorem Still.add(hx:ev E x=some (.int k a))(hy:ev E y=some (.int k b))(hz:k.wrap (a+b)=z):Still P N ⟨dst, .binOp .add xT x y yT,ty,pos,aft,g⟩ E L (.int k z):=fun A w hs _=>by
 subst hz;simp[execOp,hs.ev hx,hs.ev hy,eqGuard,binOp,Op.intArith]
theorem Still.sub(hx:ev E x=some (.int k a))(hy:ev E y=some (.int k b))(hz:k.wrap (a-b)=z):Still P N ⟨dst, .binOp .sub xT x y yT,ty,pos,aft,g⟩ E L (.int k z):=fun A w hs _=>by
 subst hz;simp[execOp,hs.ev hx,hs.ev hy,eqGuard,binOp,Op.intArith]
theorem Still.mul(hx:ev E x=some (.int k a))(hy:ev E y=some (.int k b))(hz:k.wrap (a*b)=z):Still P N ⟨dst, .binOp .mul xT x y yT,ty,pos,aft,g⟩ E L (.int k z):=fun A w hs _=>by
 subst hz;simp[execOp,hs.ev hx,hs.ev hy,eqGuard,binOp,Op.intArith]
theorem Still.P2(hx:ev E x=some (.int k a))(hy:ev E y=some (.int k b)):Still P N ⟨dst, .binOp .and xT x y yT,ty,pos,aft,g⟩ E L (.int k (bits .and k a b)):=fun A w hs _=>by
 simp[execOp,hs.ev hx,hs.ev hy,eqGuard,binOp_and,intBits_and]
theorem Still.H8(hx:ev E x=some (.int k a))(hy:ev E y=some (.int k b)):Still P N ⟨dst, .binOp .or xT x y yT,ty,pos,aft,g⟩ E L (.int k (bits .or k a b)):=fun A w hs _=>by
 simp[execOp,hs.ev hx,hs.ev hy,eqGuard,binOp_or,intBits_or]
theorem Still.quo(hx:ev E x=some (.int k a))(hy:ev E y=some (.int k b))(hb:b≠0)(hz:k.wrap (a.tdiv b)=z):Still P N ⟨dst, .binOp .quo xT x y yT,ty,pos,aft,g⟩ E L (.int k z):=fun A w hs _=>by
 subst hz;simp[execOp,hs.ev hx,hs.ev hy,eqGuard,binOp,Op.intDiv,hb]
theorem Still.rem(hx:ev E x=some (.int k a))(hy:ev E y=some (.int k b))(hb:b≠0)(hz:a.tmod b=z):Still P N ⟨dst, .binOp .rem xT x y yT,ty,pos,aft,g⟩ E L (.int k z):=fun A w hs _=>by
 subst hz;simp[execOp,hs.ev hx,hs.ev hy,eqGuard,binOp,Op.intDiv,hb]
theorem Still.lss(hx:ev E x=some (.int k a))(hy:ev E y=some (.int k b)):Still P N ⟨dst, .binOp .lss xT x y yT,ty,pos,aft,g⟩ E L (.bool (decide (a<b))):=fun A w hs _=>by
 simp[execOp,hs.ev hx,hs.ev hy,eqGuard,binOp,Op.intCmp]
theorem Still.leq(hx:ev E x=some (.int k a))(hy:ev E y=some (.int k b)):Still P N ⟨dst, .binOp .leq xT x y yT,ty,pos,aft,g⟩ E L (.bool (decide (a≤b))):=fun A w hs _=>by
 simp[execOp,hs.ev hx,hs.ev hy,eqGuard,binOp,Op.intCmp]
theorem Still.gtr(hx:ev E x=some (.int k a))(hy:ev E y=some (.int k b)):Still P N ⟨dst, .binOp .gtr xT x y yT,ty,pos,aft,g⟩ E L (.bool (decide (b<a))):=fun A w hs _=>by
 simp[execOp,hs.ev hx,hs.ev hy,eqGuard,binOp,Op.intCmp]
theorem Still.geq(hx:ev E x=some (.int k a))(hy:ev E y=some (.int k b)):Still P N ⟨dst, .binOp .geq xT x y yT,ty,pos,aft,g⟩ E L (.bool (decide (b≤a))):=fun A w hs _=>by
 simp[execOp,hs.ev hx,hs.ev hy,eqGuard,binOp,Op.intCmp]
theorem Still.eql(hx:ev E x=some (.int k a))(hy:ev E y=some (.int k b)):Still P N ⟨dst, .binOp .eql xT x y yT,ty,pos,aft,g⟩ E L (.bool (decide (a=b))):=fun A w hs _=>by
 have e:(a==b)=decide (a=b):=by rw[Bool.eq_iff_iff];simp
 simp[execOp,hs.ev hx,hs.ev hy,eqGuard,binOp,Op.intCmp,e]
theorem Still.neq(hx:ev E x=some (.int k a))(hy:ev E y=some (.int k b)):Still P N ⟨dst, .binOp .neq xT x y yT,ty,pos,aft,g⟩ E L (.bool (!decide (a=b))):=fun A w hs _=>by
 have e:(a !=b)= !decide (a=b):=by rw[bne];congr 1
 simp[execOp,hs.ev hx,hs.ev hy,eqGuard,binOp,Op.intCmp,e]
theorem Still.not{t:Bool}(hx:ev E x=some (.bool t)):Still P N ⟨dst, .unOp .not xT x,ty,pos,aft,g⟩ E L (.bool (!t)):=fun A w hs _=>by
 simp[execOp,hs.ev hx,Op.unary]
theorem Still.neg(hx:ev E x=some (.int k a))(hz:k.wrap (0-a)=z):Still P N ⟨dst, .unOp .neg xT x,ty,pos,aft,g⟩ E L (.int k z):=fun A w hs _=>by
 subst hz;simp[execOp,hs.ev hx,Op.unary,Op.intArith]
theorem Still.conv{src d:TypeId}{k':IntKind}{i:jX}{s' b':Nat}{z':List Value}(hx:ev E x=some (.int k a))(hs:bB P src=some i)(hd:bB P d=some ⟨.int k',s',b',z'⟩)(hz:k'.wrap a=z):
  Still P N ⟨dst, .convert src d x,ty,pos,aft,g⟩ E L (.int k' z):=fun A w hS _=>by
 subst hz;obtain⟨u,hu, -⟩:=(cI hs).wI;have h2:=(cI hd).int;simp[execOp,hS.ev hx,convert,run_underlying hu,run_underlying h2,Conv.intToInt]
end
theorem dX{a:Int}(h: -9223372036854775808≤a∧a≤9223372036854775807):IntKind.i64.wrap a=a:=by
 have e1:(2:Int)^64=18446744073709551616:=by decide
 have e2:(2:Int)^63=9223372036854775808:=by decide
 simp only[IntKind.wrap,IntKind.bits,IntKind.signed,e1,e2,Bool.true_and]
 by_cases hn:0≤a
 ·rw[Int.emod_eq_of_lt hn (by omega),if_neg (by simp;omega)]
 ·have:a % 18446744073709551616=a+18446744073709551616:=by omega
  rw[this,if_pos (by simp;omega)];omega
theorem BK{a:Int}(h:0≤a∧a≤18446744073709551615):IntKind.u64.wrap a=a:=by
 have e1:(2:Int)^64=18446744073709551616:=by decide
 simp only[IntKind.wrap,IntKind.bits,IntKind.signed,e1,Bool.false_and,Bool.false_eq_true,if_false];exact Int.emod_eq_of_lt h.1 (by omega)
theorem BL{a:Int}(h:0≤a∧a≤255):IntKind.u8.wrap a=a:=by
 have e1:(2:Int)^8=256:=by decide
 simp only[IntKind.wrap,IntKind.bits,IntKind.signed,e1,Bool.false_and,Bool.false_eq_true,if_false];exact Int.emod_eq_of_lt h.1 (by omega)
theorem BJ{a:Int}(h:0≤a∧a≤65535):IntKind.u16.wrap a=a:=by
 have e1:(2:Int)^16=65536:=by decide
 simp only[IntKind.wrap,IntKind.bits,IntKind.signed,e1,Bool.false_and,Bool.false_eq_true,if_false];exact Int.emod_eq_of_lt h.1 (by omega)
theorem Still.nilCheck{x:Operand}{ad:Addr}(hx:ev E x=some (.pointer (some ad))):Still P N ⟨dst, .nilCheck x,ty,pos,aft,g⟩ E L (.pointer (some ad)):=fun A w hs _=>by
 simp[execOp,hs.ev hx]
theorem Still.extract{x:Operand}{i:Nat}{vs:Array Value}{v:Value}(hx:ev E x=some (.tuple vs))(hv:vs[i]?=some v):Still P N ⟨dst, .extract x i,ty,pos,aft,g⟩ E L v:=fun A w hs _=>by
 simp[execOp,hs.ev hx,Instr.extract,hv]
theorem Still.aBi{x:Operand}{u v:Value}(hx:ev E x=some (.tuple #[u,v])):Still P N ⟨dst, .extract x 0,ty,pos,aft,g⟩ E L u:=Still.extract hx rfl
theorem Still.aBj{x:Operand}{u v:Value}(hx:ev E x=some (.tuple #[u,v])):Still P N ⟨dst, .extract x 1,ty,pos,aft,g⟩ E L v:=Still.extract hx rfl
theorem Addr.tJ(b i j:Nat):(⟨b,i,none⟩:Addr).add j=⟨b,i+j,none⟩:=by unfold Addr.add;split<;>simp_all
theorem WG{s ft:TypeId}{fs:List (Nat×TypeId)}{s' b' f off i:Nat}{z':List Value}{j:jX}{ad:Addr}(ht:bB P s=some ⟨.struct fs,s',b',z'⟩)(hf:fs[f]?=some (off,ft))(hj:bB P ft=some j)(hz:Nat.beq j.size 0=false)(w:World):
  (Instr.fieldAt s (.pointer (some ad)) f).run P w= .ok (.pointer (some (ad.add off))) w:=by
 obtain⟨l,h1,h2⟩:=(cI ht).struct;rw[←h2,List.getElem?_map]at hf;have hsz:=(cI hj).size;have hne:j.size≠0:=fun h=>by rw[h]at hz;simp at hz
 cases hlf:l[f]? with
 |none=>rw[Array.getElem?_toList,hlf]at hf;cases hf
 |some fl=>
  rw[Array.getElem?_toList,hlf]at hf;simp only[Option.map_some,Option.some.injEq,Prod.mk.injEq]at hf;obtain⟨rfl,rfl⟩:=hf;simp[Instr.fieldAt,run_underlying h1,hlf,Instr.sureAddr,fieldPlace,hsz,hne]
theorem Still.fieldAddr{x:Operand}{s ft:TypeId}{fs:List (Nat×TypeId)}{s' b' f off b i:Nat}{z':List Value}{j:jX}(hx:ev E x=some (.pointer (some ⟨b,i,none⟩)))(ht:bB P s=some ⟨.struct fs,s',b',z'⟩)
  (hf:fs[f]?=some (off,ft)) (hj:bB P ft=some j) (hz:Nat.beq j.size 0=false):Still P N ⟨dst, .fieldAddr s x f,ty,pos,aft,g⟩ E L (.pointer (some ⟨b,i+off,none⟩)):=fun A w hs _=>by
 simp[execOp,hs.ev hx,WG (i:=0) ht hf hj hz,Addr.tJ]
inductive Cut{α:Type}:List α→Nat→Nat→List α→Prop
 |done {cs:List α}:Cut cs 0 0 []
 |take {a:α} {r ds:List α} {n:Nat}:Cut r 0 n ds→Cut (a::r) 0 (n+1) (a::ds)
 |skip {a:α} {r ds:List α} {i n:Nat}:Cut r i n ds→Cut (a::r) (i+1) n ds
theorem Cut.get{α:Type}{cs ds:List α}{i n:Nat}(h:Cut cs i n ds):ds.length=n∧∀j v,ds[j]?=some v→cs[i+j]?=some v:=by
 induction h with
 |done=>simp
 |take _ ih=>
  refine⟨by simp[ih.1],fun j v hj=>?_⟩
  cases j with
  |zero=>simpa using hj
  |succ j=>have:=ih.2 j v (by simpa using hj);simpa[Nat.add_comm 0]using this
 | @skip a r ds i n _ ih=>exact⟨ih.1,fun j v hj=>by have:=ih.2 j v hj;rwa [show i+1+j=(i+j)+1 by omega,List.getElem?_cons_succ]⟩
theorem Still.load{x:Operand}{t bt:TypeId}{b i:Nat}{cs:List Value}{v:Value}{L':List Chunk}{ti:jX}(hx:ev E x=some (.pointer (some ⟨b,i,none⟩)))(ht:bB P t=some ti)(hd:ti.d.row=false)
  (hm:Take (aF b cs bt) L L') (hv:cs[i]?=some v):Still P N ⟨dst, .load t x,ty,pos,aft,g⟩ E L v:=fun A w hs hM=>by
 have hb:=jO.1 (hM.has hm);have hc:w.cell? ⟨b,i,none⟩=some v:=by rw[hb.cell];simpa using hv
 simp[execOp,hs.ev hx,Instr.loadAt,Instr.sureAddr,loadVar,(cI ht).isAgg hd,load,hc]
theorem Still.aCr{x:Operand}{t bt:TypeId}{b i s' b':Nat}{fs:List (Nat×TypeId)}{z' cs ds:List Value}{L':List Chunk}(hx:ev E x=some (.pointer (some ⟨b,i,none⟩)))(ht:bB P t=some ⟨.struct fs,s',b',z'⟩)
  (hm:Take (aF b cs bt) L L') (hv:Cut cs i s' ds):Still P N ⟨dst, .load t x,ty,pos,aft,g⟩ E L (.agg ds.toArray):=fun A w hs hM=>by
 have hb:=jO.1 (hM.has hm);obtain⟨hl,hg⟩:=hv.get;obtain⟨l,h1, -⟩:=(cI ht).struct;obtain⟨x',z,h3,h4, -⟩:=(cI ht).info;have:=run_loadAt_mid (P:=P) w b i t ds _ (fun j v hj=>by rw[hb.cell];simpa using hg j v hj) h1 rfl (by rw[h3];simp[h4,hl]);simp[execOp,hs.ev hx,this]
theorem Still.len{x:Operand}{t e:TypeId}{s' b' n c:Nat}{z':List Value}{ao:Option Addr}(hx:ev E x=some (.slice ao n c))(ht:bB P t=some ⟨.slice e,s',b',z'⟩):
  Still P N ⟨dst, .call ⟨.builtin .len, #[x], #[t]⟩,ty,pos,aft,g⟩ E L (.int .i64 (n:Int)):=fun A w hs _=>by
 simp[execOp,resolve,invoke,builtin,hs.ev hx,Builtin.len_,run_underlying (cI ht).slice,goInt]
end
end
end Go.Proofs.YtofckcabpchcmaaGreatDoor
