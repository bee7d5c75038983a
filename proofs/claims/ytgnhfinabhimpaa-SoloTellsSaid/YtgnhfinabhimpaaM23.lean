/- What a task speaks to, as it lies in memory; a task's cells, a thread's. -/
import Derived.Test.YtgnhfinabhimpaaM22
set_option linter.unusedVariables false
set_option linter.unusedSimpArgs false
set_option linter.unusedSectionVars false
set_option maxRecDepth 100000
namespace Go.Proofs.Ytgnhfinabhimpaa.Vw
open Go.RowKit Go.Proofs.Ytgnhfinabhimpaa.Img
structure EnvM where
 μ:Type
 ν:Type
 V:Vm.Env ν
 abs:μ→ν
 ok:μ→Prop
 mem:μ→Chunk
 size:ν→Nat
 sPut:∀v b x,size (V.put v b x)≤size v+1
 sTake:∀v b,size (V.take v b).2≤size v+1
 sTell:∀v x,size (V.tell v x)≤size v+1
 excl:∀e,(mem e).excl=true
 rc:Chunk
 rexcl:rc.excl=false
 T:TypeId
 rv:Value
 told:Option (FuncId×List Value)
 boxes:Nat
 fFull:FuncId
 fEmpty:FuncId
 fPut:FuncId
 fTake:FuncId
 mFull:Finds Try.prog T rv "Full" fFull
 mEmpty:Finds Try.prog T rv "Empty" fEmpty
 mPut:Finds Try.prog T rv "Put" fPut
 mTake:Finds Try.prog T rv "Take" fTake
 bFull:callB Try.prog fFull=true
 bEmpty:callB Try.prog fEmpty=true
 bPut:callB Try.prog fPut=true
 bTake:callB Try.prog fTake=true
 full:∀(e:μ) (b:Nat),ok e→b<boxes→Fn Try.prog fFull #[rv, .int .i64 (b:Int)] [rc] [mem e] (σ:=Unit) (fun _=>True) (fun _=> .bool (V.full (abs e) b)) (fun _=>[mem e])
 empty:∀(e:μ) (b:Nat),ok e→b<boxes→Fn Try.prog fEmpty #[rv, .int .i64 (b:Int)] [rc] [mem e] (σ:=Unit) (fun _=>True) (fun _=> .bool (V.empty (abs e) b)) (fun _=>[mem e])
 put:∀(e:μ) (b:Nat) (v:Int),ok e→b<boxes→V.full (abs e) b=false→size (abs e)≤2000000→Fn Try.prog fPut #[rv, .int .i64 (b:Int), .int .i64 v] [rc] [mem e] (σ:=μ) (fun e'=>ok e'∧abs e'=V.put (abs e) b v) (fun _=> .tuple #[]) (fun e'=>[mem e'])
 take:∀(e:μ) (b:Nat),ok e→b<boxes→V.empty (abs e) b=false→Fn Try.prog fTake #[rv, .int .i64 (b:Int)] [rc] [mem e] (σ:=μ) (fun e'=>ok e'∧abs e'=(V.take (abs e) b).2) (fun e'=> .int .i64 (V.take (abs e) b).1) (fun e'=>[mem e'])
 tell:match told with
  |none=>∀v x,V.tell v x=v
  |some (f,cap)=>callB Try.prog f=true∧∀(e:μ) (a b v:Int),ok e→size (abs e)≤2000000→Fn Try.prog f (#[.int .i64 a, .int .i64 b, .int .i64 v] ++cap.toArray) [rc] [mem e] (σ:=μ) (fun e'=>ok e'∧abs e'=V.tell (abs e) (a,b,v)) (fun _=> .tuple #[]) (fun e'=>[mem e'])
attribute [simp] EnvM.excl EnvM.rexcl
abbrev EnvM.okk(E:EnvM)(e:E.μ):Prop:=E.ok e∧E.size (E.abs e)≤2000000
theorem trap_size(E:EnvM)(n:Int)(s:Vm.Tk×E.ν):E.size (Vm.trap E.V n s).2≤E.size s.2+1:=by
 unfold Vm.trap
 split
 ·exact Nat.le_succ _
 ·exact E.sTell _ _
theorem push_size(E:EnvM)(v:Int)(s:Vm.Tk×E.ν):E.size (Vm.push E.V v s).2≤E.size s.2+1:=by
 unfold Vm.push
 split
 ·exact trap_size E _ _
 ·exact Nat.le_succ _
theorem pushN_size(E:EnvM):∀(n:Nat) (s:Vm.Tk×E.ν),E.size (Vm.pushN E.V n s).2≤E.size s.2+n
 |0,s=>Nat.le_refl _
 |n+1,s=>by
  unfold Vm.pushN;have h1:=pushN_size E n (Vm.push E.V 0 s);have h2:=push_size E 0 s;omega
def toldV:Option (FuncId×List Value)→Value
 |none=> .nilFunc
 |some (f,cap)=> .func (.func f) #[] cap.toArray
abbrev tcl(mb:Nat)(mail cos:Value)(cb:Nat)(st bx tr:Int)(out told:Value):List Value:=[ptr mb,mail,cos,ptr cb, .int .i64 st, .int .i64 bx, .int .i64 tr,out,told]
abbrev ccl(st:Int)(up fr:Value)(sb:Nat):List Value:=[.int .i64 st,up,fr,ptr sb]
structure TF where
 tb:Nat
 mb:Nat
 cos:Value
 cb:Nat
 bx:Int
 out:Value
abbrev EnvM.mailV(E:EnvM):Value:= .iface E.T E.rv
abbrev EnvM.tc(E:EnvM)(F:TF)(st tr:Int):Chunk:=blk F.tb (tcl F.mb E.mailV F.cos F.cb st F.bx tr F.out (toldV E.told)) 68
abbrev cc(cb:Nat)(st:Int)(up fr:Value)(sb:Nat):Chunk:=blk cb (ccl st up fr sb) 103
structure Trapped(E:EnvM)(n st tr:Int)(e:E.μ)(q:Int×Int×E.μ):Prop where
 old:st=5→q=(st,tr,e)
 new:st≠5→q.1=5∧q.2.1=n∧E.ok q.2.2∧E.abs q.2.2=E.V.tell (E.abs e) (5,0,n)
structure Pushed(E:EnvM)(v:Int)(k:Sk)(st tr:Int)(e:E.μ)(q:Sk×Int×Int×E.μ):Prop where
 full:k.live=400→q.1=k∧Trapped E 4 st tr e q.2
 room:k.live≠400→SkTo k q.1 (k.ws ++[v])∧q.2=(st,tr,e)
end Go.Proofs.Ytgnhfinabhimpaa.Vw


namespace Go.Proofs.Ytgnhfinabhimpaa.Vw
open Go.RowKit Go.Proofs.Ytgnhfinabhimpaa.Img
attribute [local irreducible] Run Cod End OpT Still RunQ RunS RunT Fn PutOk
variable(E:EnvM)
theorem tell_is(F:TF)(st tr:Int)(e:E.μ)(he:E.okk e)(a b v:Int):Fn Try.prog 45 #[ptr F.tb, .int .i64 a, .int .i64 b, .int .i64 v] [E.rc] [E.tc F st tr,E.mem e] (σ:=E.μ) (fun e'=>E.ok e'∧E.abs e'=E.V.tell (E.abs e) (a,b,v)) (fun _=> .tuple #[]) (fun e'=>[E.tc F st tr,E.mem e']):=by
 have hT:=E.tell;have key:Fn Try.prog 45 #[ptr F.tb, .int .i64 a, .int .i64 b, .int .i64 v] [E.rc] [blk F.tb (tcl F.mb E.mailV F.cos F.cb st F.bx tr F.out (toldV E.told)) 68,E.mem e] (σ:=E.μ) (fun e'=>E.ok e'∧E.abs e'=E.V.tell (E.abs e) (a,b,v)) (fun _=> .tuple #[]) (fun e'=>[blk F.tb (tcl F.mb E.mailV F.cos F.cb st F.bx tr F.out (toldV E.told)) 68,E.mem e']):=by
  cases ht:E.told with
  |none=>
   rw[ht]at hT;refine Fn.enter (args:=[ptr F.tb, .int .i64 a, .int .i64 b, .int .i64 v]) Try.func45 rfl _ Try.ntmps45 rfl (by simp[rd_excl,md_excl]) (fun w S=>?_);(refine Jn ?_)
   repeat(refine Jy ?_;try first|intro ao cap|intro b)
   (refine End.done0'_ (e) (hp:=?_));exact⟨he.1,(hT _ _).symm⟩
  |some fc=>
   obtain⟨f,cap⟩:=fc;rw[ht]at hT;obtain⟨hb,hT⟩:=hT;have hT:=hT e a b v he.1 he.2;refine Fn.enter (args:=[ptr F.tb, .int .i64 a, .int .i64 b, .int .i64 v]) Try.func45 rfl _ Try.ntmps45 rfl (by simp[rd_excl,md_excl]) (fun w S=>?_);(refine Jn ?_)
   repeat(refine Jy ?_;try first|intro ao cap|intro b)
   (apply Run.op;exact rfl;refine OpT.call_ (spec:=hT) (hc:=hb) (r:=fun w=>Reads.any (tk) E.rexcl .nil) (k:=?_));intro s hs;(refine Jn ?_)
   repeat(refine Jy ?_;try first|intro ao cap|intro b)
   (refine End.done0'_ (s) (hp:=?_));exact hs
 exact key
theorem trap_is(F:TF)(st tr:Int)(e:E.μ)(he:E.okk e)(n:Int):Fn Try.prog 43 #[ptr F.tb, .int .i64 n] [E.rc] [E.tc F st tr,E.mem e] (σ:=Int×Int×E.μ) (Trapped E n st tr e) (fun _=> .tuple #[]) (fun q=>[E.tc F q.1 q.2.1,E.mem q.2.2]):=by
 refine Fn.enter (args:=[ptr F.tb, .int .i64 n]) Try.func43 rfl _ Try.ntmps43 rfl (by simp[rd_excl,md_excl]) (fun w S=>?_);(refine Jn ?_)
 by_cases h5:st=5
 ·repeat(refine Jy ?_;try first|intro ao cap|intro b)
  (refine End.done0'_ ((st,tr,e)) (hp:=?_));exact⟨fun _=>rfl,fun h=>absurd h5 h⟩
 ·repeat(refine Jy ?_;try first|intro ao cap|intro b)
  (refine Jc ?_;refine OpT.call0_ (spec:=tell_is E F 5 n e he 5 0 n) (r:=fun w=>Reads.any (tk) E.rexcl .nil) (k:=?_);intro s hs;(refine Jn ?_))
  repeat(refine Jy ?_;try first|intro ao cap|intro b)
  (refine End.done0'_ ((5,n,s)) (hp:=?_));exact⟨fun h=>absurd h h5,fun _=>⟨rfl,rfl,hs⟩⟩
theorem push_is'(F:TF)(st tr:Int)(e:E.μ)(he:E.okk e)(cst:Int)(up fr:Value)(k:Sk)(hk:k.Ok)(v:Int):Fn Try.prog 40 #[ptr F.tb, .int .i64 v] [E.rc] (E.tc F st tr::cc F.cb cst up fr k.sb::E.mem e::skM k) (σ:=Sk×Int×Int×E.μ) (Pushed E v k st tr e) (fun _=> .tuple #[]) (fun q=>E.tc F q.2.1 q.2.2.1::cc F.cb cst up fr q.1.sb::E.mem q.2.2.2::skM q.1):=by
 refine Fn.enter (args:=[ptr F.tb, .int .i64 v]) Try.func40 rfl _ Try.ntmps40 rfl (by simp[rd_excl,md_excl]) (fun w S=>?_);(refine Jn ?_)
 repeat(refine Jy ?_;try first|intro ao cap|intro b)
 (apply Run.op;exact rfl;refine JK (push_stk k hk v) ?_;intro s hs;(refine Jn ?_))
 by_cases h4:k.live=400
 ·rw[if_pos h4]at hs;rw[hs,decide_eq_true h4]
  repeat(refine Jy ?_;try first|intro ao cap|intro b)
  (refine Jc ?_;refine OpT.call0_ (spec:=trap_is E F st tr e he 4) (r:=fun w=>Reads.any (tk) E.rexcl .nil) (k:=?_);intro s hs;(refine Jn ?_))
  repeat(refine Jy ?_;try first|intro ao cap|intro b)
  (refine End.done0'_ ((k,s)) (hp:=?_));exact⟨fun _=>⟨rfl,hs⟩,fun h=>absurd h4 h⟩
 ·rw[if_neg h4]at hs;rw[decide_eq_false h4];obtain⟨sb2,lb2,l2,live2⟩:=s;obtain rfl:sb2=k.sb:=hs.sb
  repeat(refine Jy ?_;try first|intro ao cap|intro b)
  (refine End.done0'_ ((⟨k.sb,lb2,l2,live2⟩,st,tr,e)) (hp:=?_));exact⟨fun h=>absurd h h4,fun _=>⟨hs,rfl⟩⟩
theorem pop_is'(F:TF)(st tr:Int)(cst:Int)(up fr:Value)(mail told:Value)(k:Sk)(hk:k.Ok)(h0:0<k.live):Fn Try.prog 42 #[ptr F.tb] [] (blk F.tb (tcl F.mb mail F.cos F.cb st F.bx tr F.out told) 68::cc F.cb cst up fr k.sb::skM k) (σ:=Sk) (fun k'=>SkTo k k' (k.ws.take (k.live-1))) (fun _=> .int .i64 (k.ws.getD (k.live-1) 0)) (fun k'=>blk F.tb (tcl F.mb mail F.cos F.cb st F.bx tr F.out told) 68::cc F.cb cst up fr k'.sb::skM k'):=by
 obtain⟨g1,g2,g3⟩:=id hk;refine Fn.enter (args:=[ptr F.tb]) Try.func42 rfl _ Try.ntmps42 rfl (by simp[rd_excl,md_excl]) (fun w S=>?_);(refine Jn ?_)
 repeat(refine Jy ?_;try first|intro ao cap|intro b)
 (apply Run.op;exact rfl;refine JK (live_is k) ?_;intro s hs;(refine Jn ?_));have s1:IntKind.i64.wrap ((k.live:Int)-1)=((k.live-1:Nat):Int):=by rw[wrap_i64_in (by omega)];omega
 repeat(refine Jy ?_;try first|intro ao cap|intro b)
 (apply Run.op;exact rfl;refine JK (at_is k (k.live-1) (by omega) g3) ?_;intro s hs;(refine Jn ?_))
 repeat(refine Jy ?_;try first|intro ao cap|intro b)
 (apply Run.op;exact rfl;refine JK (pop_stk k hk 1 h0) ?_;intro s hs;(refine Jn ?_));obtain⟨sb2,lb2,l2,live2⟩:=s;obtain rfl:sb2=k.sb:=hs.sb
 repeat(refine Jy ?_;try first|intro ao cap|intro b)
 refine End.done1_ (⟨k.sb,lb2,l2,live2⟩:Sk) (he:=?_) (hp:=hs);show _=Value.int IntKind.i64 ((k.l.take k.live).getD (k.live-1) 0);rw[List.getD_eq_getElem?_getD,List.getD_eq_getElem?_getD,List.getElem?_take,if_pos (by omega)];rfl
theorem args_is'(F:TF)(st tr:Int)(cst:Int)(up fr:Value)(mail told:Value)(k:Sk)(hk:k.Ok)(n:Nat)(h0:n≤k.live):Fn Try.prog 79 #[ptr F.tb, .int .i64 (n:Int)] [] (blk F.tb (tcl F.mb mail F.cos F.cb st F.bx tr F.out told) 68::cc F.cb cst up fr k.sb::skM k) (σ:=Sk×Option Addr×Nat) (fun s=>SkTo k s.1 (k.ws.take (k.live-n))) (fun s=> .slice s.2.1 n s.2.2) (fun s=>arr s.2.1 n s.2.2 2 i64c (k.ws.drop (k.live-n))::blk F.tb (tcl F.mb mail F.cos F.cb st F.bx tr F.out told) 68::cc F.cb cst up fr s.1.sb::skM s.1):=by
 obtain⟨g1,g2,g3⟩:=id hk;have hwl:=Sk.len hk;refine Fn.enter (args:=[ptr F.tb, .int .i64 (n:Int)]) Try.func79 rfl _ Try.ntmps79 rfl (by simp[rd_excl,md_excl]) (fun w S=>?_);(refine Jn ?_)
 repeat(refine Jy ?_;try first|intro ao cap|intro b)
 (apply Run.op;exact rfl;refine JK (words_stk k hk) ?_;intro s hs;(refine Jn ?_));obtain⟨ao,cap⟩:=s
 repeat(refine Jy ?_;try first|intro ao cap|intro b)
 (apply Run.op;exact rfl;refine JK (live_is k) ?_;intro s hs;(refine Jn ?_));have s1:IntKind.i64.wrap ((k.live:Int)-(n:Int))=((k.live-n:Nat):Int):=by rw[wrap_i64_in (by omega)];omega
 repeat(refine Jy ?_;try first|intro ao cap|intro b)
 rw[show k.live-(k.live-n)=n by omega];(apply Run.op;exact rfl;refine JK (pop_stk k hk n h0) ?_;intro s hs;(refine Jn ?_));obtain⟨sb2,lb2,l2,live2⟩:=s;obtain rfl:sb2=k.sb:=hs.sb
 repeat(refine Jy ?_;try first|intro ao cap|intro b)
 refine End.done1_ ((⟨k.sb,lb2,l2,live2⟩:Sk),ao,cap) (he:=by rfl) (hp:=hs)
end Go.Proofs.Ytgnhfinabhimpaa.Vw


namespace Go.Proofs.Ytgnhfinabhimpaa.Vw
open Go.RowKit Go.Proofs.Ytgnhfinabhimpaa.Img
def ptrC(b:Nat):List Value:=[ptr b]
instance:Enc ptrC:=⟨fun _=>rfl,by decide,fun a u hu=>by simp[ptrC]at hu;subst hu;rfl⟩
def frC(f:Vm.Fr):List Value:=[.int .i64 (f.unit:Int), .int .i64 (f.pc:Int), .int .i64 (f.base:Int)]
instance:Enc frC:=⟨fun _=>rfl,by decide,fun a u hu=>by simp[frC]at hu;rcases hu with rfl|rfl|rfl<;>rfl⟩
structure CoL where
 cb:Nat
 st:Nat
 up:Option Nat
 upb:Option Nat
 fo:Option Addr
 fc:Nat
 fr:List Vm.Fr
 sk:Sk
instance:Inhabited CoL:=⟨⟨0,0,none,none,none,0,[],default⟩⟩
def CoL.abs(c:CoL):Vm.Co:=⟨c.st,c.up,c.fr,c.sk.ws⟩
def ptrO:Option Nat→Value
 |none=> .pointer none
 |some b=>ptr b
abbrev frM(c:CoL):Chunk:=arr c.fo c.fr.length c.fc 106 frC c.fr
abbrev ccM(c:CoL):Chunk:=cc c.cb (c.st:Int) (ptrO c.upb) (.slice c.fo c.fr.length c.fc) c.sk.sb
abbrev coM(c:CoL):List Chunk:=[ccM c,frM c,blk c.sk.sb (skC c.sk) 145,arr (some ⟨c.sk.lb,0,none⟩) c.sk.l.length c.sk.l.length 2 i64c c.sk.l]
def bagM(l:List CoL):Chunk:=bag (l.flatMap coM)
@[simp] theorem bagM_excl (l : List CoL) : (bagM l).excl = true := bag_excl
structure Pl where
 tb:Nat
 mb:Nat
 m:ML
structure SL(E:EnvM) where
 co:Option Addr
 ccap:Nat
 bs:List Nat
 oth:List CoL
 now:Nat
 cur:CoL
 st:Int
 bx:Int
 tr:Int
 oo:Option Addr
 oc:Nat
 out:List Int
 e:E.μ
abbrev mdV(m:ML):List Value:=[.slice m.bo m.bx.length m.bc, .slice m.uo m.us.length m.uc]
abbrev tkM{E:EnvM}(p:Pl)(s:SL E):Chunk:=blk p.tb (tcl p.mb E.mailV (.slice s.co s.bs.length s.ccap) s.cur.cb s.st s.bx s.tr (.slice s.oo s.out.length s.oc) (toldV E.told)) 68
abbrev moM(p:Pl):Chunk:=blk p.mb (mdV p.m) 25
abbrev csM{E:EnvM}(s:SL E):Chunk:=arr s.co s.bs.length s.ccap 65 ptrC s.bs
abbrev ouM{E:EnvM}(s:SL E):Chunk:=arr s.oo s.out.length s.oc 2 i64c s.out
abbrev TM{E:EnvM}(p:Pl)(s:SL E):List Chunk:=[tkM p s,moM p,csM s,ouM s,bagM (s.oth.eraseIdx s.now),E.mem s.e,ccM s.cur,frM s.cur,blk s.cur.sk.sb (skC s.cur.sk) 145,arr (some ⟨s.cur.sk.lb,0,none⟩) s.cur.sk.l.length s.cur.sk.l.length 2 i64c s.cur.sk.l]
section
variable{E:EnvM}
def SL.all(s:SL E):List CoL:=s.oth.set s.now s.cur
def SL.tk(s:SL E):Vm.Tk:=⟨s.all.map CoL.abs,s.now,s.st,s.bx,s.tr,s.out⟩
def SL.two(s:SL E):Vm.Tk×E.ν:=(s.tk,E.abs s.e)
structure SL.Wf(s:SL E):Prop where
 now:s.now<s.oth.length
 len:s.bs.length=s.oth.length
 few:s.oth.length≤31
 at_:∀i,i<s.oth.length→(s.all.getD i default).cb=s.bs.getD i 0
 up:∀c∈s.all,c.upb=c.up.map fun j=>s.bs.getD j 0
 upl:∀c∈s.all,∀j,c.up=some j→j<s.oth.length
 sk:∀c∈s.all,c.sk.Ok
 env:E.ok s.e
variable{s:SL E}
theorem SL.Wf.curMem(h:s.Wf):s.cur∈s.all:=by
 unfold SL.all;exact List.mem_set h.now _
theorem SL.Wf.curOk(h:s.Wf):s.cur.sk.Ok:=h.sk _ h.curMem
theorem SL.allLen(s:SL E):s.all.length=s.oth.length:=List.length_set
theorem SL.Wf.curGet(h:s.Wf):s.all.getD s.now default=s.cur:=by
 unfold SL.all;rw[List.getD_eq_getElem?_getD,List.getElem?_set_self (by exact h.now)];rfl
theorem getD_map0{α β:Type} [Inhabited α] [Inhabited β](f:α→β)(l:List α){k:Nat}(hk:k<l.length):(l.map f).getD k default=f (l.getD k default):=by
 rw[List.getD_eq_getElem?_getD,List.getD_eq_getElem?_getD,List.getElem?_map,List.getElem?_eq_getElem hk];rfl
theorem SL.Wf.cur(h:s.Wf):Vm.cur s.tk=s.cur.abs:=by
 show(s.all.map CoL.abs).getD s.now default=_;rw[getD_map0 _ _ (by rw[s.allLen];exact h.now),h.curGet]
theorem SL.Wf.curCb(h:s.Wf):s.cur.cb=s.bs.getD s.now 0:=by
 rw[←h.at_ _ h.now,h.curGet]
theorem SL.tk_cur(s:SL E)(c:CoL):({s with cur:=c}:SL E).tk=Vm.setCur s.tk c.abs:=by
 unfold SL.tk Vm.setCur Vm.setC SL.all;simp only[List.map_set,List.set_set]
theorem SL.Wf.setCur(h:s.Wf){c:CoL}(hcb:c.cb=s.cur.cb)(hup:c.up=s.cur.up)(hupb:c.upb=s.cur.upb)(hk:c.sk.Ok):({s with cur:=c}:SL E).Wf:=by
 have hset:∀d∈({s with cur:=c}:SL E).all,d=c∨d∈s.all:=fun d hd=>by
  unfold SL.all at hd⊢;simp only at hd;obtain⟨i,hi,e⟩:=List.mem_iff_getElem.1 hd;rw[List.getElem_set]at e
  split at e
  ·exact .inl e.symm
  ·rename_i hne
   right
   rw[←e];refine List.mem_iff_getElem.2 ⟨i,by simpa using hi,?_⟩;rw[List.getElem_set_ne hne]
 have hall:∀i,i<s.oth.length→(({s with cur:=c}:SL E).all.getD i default).cb=(s.all.getD i default).cb:=fun i hi=>by
  unfold SL.all;simp only[List.getD_eq_getElem?_getD,List.getElem?_set]
  by_cases hn:s.now=i
  ·subst hn;simp[h.now,hcb]
  ·simp[hn]
 refine⟨h.now,h.len,h.few,fun i hi=>(hall i hi).trans (h.at_ i hi),fun d hd=>?_,fun d hd=>?_,fun d hd=>?_,h.env⟩
 ·rcases hset d hd with rfl|hd
  ·rw[hup,hupb];exact h.up _ h.curMem
  ·exact h.up _ hd
 ·rcases hset d hd with rfl|hd
  ·rw[hup];exact h.upl _ h.curMem
  ·exact h.upl _ hd
 ·rcases hset d hd with rfl|hd
  ·exact hk
  ·exact h.sk _ hd
end
end Go.Proofs.Ytgnhfinabhimpaa.Vw


namespace Go.Proofs.Ytgnhfinabhimpaa.Vw
open Go.RowKit Go.Proofs.Ytgnhfinabhimpaa.Img
attribute [local irreducible] Run Cod End OpT Still RunQ RunS RunT Fn PutOk
theorem certs_ml{m:ML}(hwf:m.Wf)(hV:Ver.verify m.mdl= .ok):∃T,Vm.Certs m.mdl T:=by
 have hF:=formed (Ver.verify_iff.1 hV).form;refine Vm.certs_ok hV (fun k hk=>?_) (fun k hk i hi=>?_)
 ·rw[ML.unit_at];exact hF.good hwf (by simpa using hk)
 ·unfold Vm.unt at hi;rw[ML.unit_at]at hi;have:=(hwf.us _ (ML.uat_mem (m:=m) (by simpa using hk))).code i hi;exact⟨this.2.2,this.2.1⟩
def isT(m:ML)(k:Nat):Bool:=decide ((m.mdl.units.getD k default).kind=4)
theorem tasks_eq(m:ML):Vm.tasks m.mdl=(List.range m.us.length).filter (isT m):=by
 unfold Vm.tasks;simp only[ML.mdl,List.length_map];rfl
theorem tasks_succ(m:ML)(k:Nat):(List.range (k+1)).filter (isT m)=(List.range k).filter (isT m) ++if(m.us.getD k default).u.kind=4 then [k]else []:=by
 rw[List.range_succ,List.filter_append];congr 1;have e:isT m k=decide ((m.us.getD k default).u.kind=4):=by unfold isT;rw[ML.unit_at]
 simp only[List.filter_cons,List.filter_nil,e]
 by_cases h:(m.us.getD k default).u.kind=4<;>simp only[h,decide_true,decide_false,if_true,if_false,Bool.false_eq_true]
theorem tasks_len(m:ML)(k:Nat):((List.range k).filter (isT m)).length≤k:=by
 have:=List.length_filter_le (isT m) (List.range k);simpa using this
theorem tasks_is(mb:Nat)(m:ML)(hu:m.us.length≤1000):Fn Try.prog 16 #[ptr mb] [md m] [blk mb (mdV m) 25] (σ:=Option Addr×Nat) (fun _=>True) (fun s=> .slice s.1 (Vm.tasks m.mdl).length s.2) (fun s=>[arr s.1 (Vm.tasks m.mdl).length s.2 3 natC (Vm.tasks m.mdl),blk mb (mdV m) 25]):=by
 rw[tasks_eq];refine Fn.enter (args:=[ptr mb]) Try.func16 rfl _ Try.ntmps16 rfl (by simp[rd_excl,md_excl]) (fun w S=>?_);(refine Jn ?_)
 repeat(refine Jy ?_;try first|intro ao cap|intro b)
 apply Cod.imp (fun w hm=>hm.nilArr 3 natC);refine Cod.only ((fun z=>[old w S,md m,blk mb (mdV m) 25,arr z.2.1 ((List.range z.1).filter (isT m)).length z.2.2 3 natC ((List.range z.1).filter (isT m))]) (0,none,0)) (tks) ?_;apply Cod.loop (σ:=Nat×Option Addr×Nat) (fun z=>z.1≤m.us.length) (fun z=>[(0,ptr mb),(3, .slice z.2.1 ((List.range z.1).filter (isT m)).length z.2.2),(9, .slice m.uo m.us.length m.uc),(10, .int .i64 (m.us.length:Int)),(11, .int .i64 (z.1:Int))]) (fun z=>[old w S,md m,blk mb (mdV m) 25,arr z.2.1 ((List.range z.1).filter (isT m)).length z.2.2 3 natC ((List.range z.1).filter (isT m))]) (fun z=>m.us.length-z.1) (0,none,0)
 rotate_left
 exact sb;exact tks;intro z hz K1 hK1;(refine Jn ?_)
 rotate_left
 ·exact Nat.zero_le _
 obtain⟨q,ao,ac⟩:=z;simp only at hz hK1⊢;have htl:=tasks_len m q
 by_cases hq:q<m.us.length
 ·have hsn:=tasks_succ m q
  by_cases h4:(m.us.getD q default).u.kind=4
  ·rw[if_pos h4]at hsn;have hsl:((List.range (q+1)).filter (isT m)).length=((List.range q).filter (isT m)).length+1:=by rw[hsn];simp
   repeat(refine Jy ?_;try first|intro ao cap|intro b)
   rw[←hsn,←hsl];refine End.round0_ hK1 (q+1,ao,cap) ?_ ?_
   ·simp only;omega
   ·simp only;omega
  ·rw[if_neg h4,List.append_nil]at hsn
   repeat(refine Jy ?_;try first|intro ao cap|intro b)
   rw[←hsn];refine End.round0_ hK1 (q+1,ao,ac) ?_ ?_
   ·simp only;omega
   ·simp only;omega
 ·obtain rfl:q=m.us.length:=by omega
  repeat(refine Jy ?_;try first|intro ao cap|intro b)
  (refine End.done1_ ((ao,ac)) (he:=Jv) (hp:=?_));trivial
theorem tasks9_is(m:ML)(hu:m.us.length≤1000):Fn Try.prog 23 #[m.val] [md m] [] (σ:=Option Addr×Nat) (fun _=>True) (fun s=> .slice s.1 (Vm.tasks m.mdl).length s.2) (fun s=>[arr s.1 (Vm.tasks m.mdl).length s.2 3 natC (Vm.tasks m.mdl)]):=by
 rw[tasks_eq];refine Fn.enter (args:=[m.val]) Try.func23 rfl _ Try.ntmps23 rfl (by simp[rd_excl,md_excl]) (fun w S=>?_);(refine Jn ?_)
 repeat(refine Jy ?_;try first|intro ao cap|intro b)
 obtain⟨mb,rfl⟩:∃x,x=b:=⟨_,rfl⟩;apply Cod.imp (fun w hm=>hm.nilArr 3 natC);refine Cod.only ((fun z=>[old w S,md m,blk mb (mdV m) 25,arr z.2.1 ((List.range z.1).filter (isT m)).length z.2.2 3 natC ((List.range z.1).filter (isT m))]) (0,none,0)) (tks) ?_;apply Cod.loop (σ:=Nat×Option Addr×Nat) (fun z=>z.1≤m.us.length) (fun z=>[(1,ptr mb),(3, .slice z.2.1 ((List.range z.1).filter (isT m)).length z.2.2),(7, .int .i64 (m.us.length:Int)),(8, .int .i64 (z.1:Int))]) (fun z=>[old w S,md m,blk mb (mdV m) 25,arr z.2.1 ((List.range z.1).filter (isT m)).length z.2.2 3 natC ((List.range z.1).filter (isT m))]) (fun z=>m.us.length-z.1) (0,none,0)
 rotate_left
 exact sb;exact tks;intro z hz K1 hK1;(refine Jn ?_)
 rotate_left
 ·exact Nat.zero_le _
 obtain⟨q,ao,ac⟩:=z;simp only at hz hK1⊢;have htl:=tasks_len m q
 by_cases hq:q<m.us.length
 ·have hsn:=tasks_succ m q
  by_cases h4:(m.us.getD q default).u.kind=4
  ·rw[if_pos h4]at hsn;have hsl:((List.range (q+1)).filter (isT m)).length=((List.range q).filter (isT m)).length+1:=by rw[hsn];simp
   repeat(refine Jy ?_;try first|intro ao cap|intro b)
   rw[←hsn,←hsl];refine End.round0_ hK1 (q+1,ao,cap) ?_ ?_
   ·simp only;omega
   ·simp only;omega
  ·rw[if_neg h4,List.append_nil]at hsn
   repeat(refine Jy ?_;try first|intro ao cap|intro b)
   rw[←hsn];refine End.round0_ hK1 (q+1,ao,ac) ?_ ?_
   ·simp only;omega
   ·simp only;omega
 ·obtain rfl:q=m.us.length:=by omega
  repeat(refine Jy ?_;try first|intro ao cap|intro b)
  (refine End.done1_ ((ao,ac)) (he:=Jv) (hp:=?_));trivial
structure LsP where
 lb:Nat
 tb:Nat
 sb:Nat
structure LsE where
 took:List Nat
 sent:List Rw
abbrev lsV(p:LsP)(f:FL):List Value:=[.slice f.o f.l.length f.c, .slice (some ⟨p.tb,0,none⟩) f.l.length f.l.length, .slice (some ⟨p.sb,0,none⟩) f.l.length f.l.length]
abbrev lsL(p:LsP)(f:FL)(e:LsE):List Chunk:=[blk p.lb (lsV p f) 59,arr (some ⟨p.tb,0,none⟩) f.l.length f.l.length 3 natC e.took,arr (some ⟨p.sb,0,none⟩) f.l.length f.l.length 38 rwC e.sent,bag (e.sent.map (rowM 2))]
def lsM(p:LsP)(f:FL)(e:LsE):Chunk:=bag (lsL p f e)
theorem lsM_excl(p:LsP)(f:FL)(e:LsE):(lsM p f e).excl=true:=bag_excl
theorem lsL_excl(p:LsP)(f:FL)(e:LsE):∀c∈lsL p f e,c.excl=true:=by simp[blk_excl,arr_excl,bag_excl]
theorem Mem.lsOut{w:World}{L L':List Chunk}{p:LsP}{f:FL}{e:LsE}(h:Mem w L)(t:Take (lsM p f e) L L'):Mem w (lsL p f e ++L'):=(h.take t).unpack
theorem Mem.lsIn{w:World}{L L':List Chunk}{p:LsP}{f:FL}{e:LsE}(h:Mem w L)(t:Takes (lsL p f e) L L'):Mem w (lsM p f e::L'):=(h.takes t).pack (lsL_excl p f e)
structure LsOk(f:FL)(e:LsE):Prop where
 took:e.took.length=f.l.length
 sent:e.sent.length=f.l.length
 le:∀b,b<f.l.length→e.took.getD b 0≤(f.l.getD b default).l.length
def LsE.abs(e:LsE):Vm.Ls:=⟨e.took,e.sent.map (·.l)⟩
theorem getD_nat(l:List Nat)(b:Nat):l.getD b default=l.getD b 0:=rfl
theorem lsFull_is(p:LsP)(f:FL)(e:LsE)(b:Nat):Fn Try.prog 112 #[ptr p.lb, .int .i64 (b:Int)] [fd f] [lsM p f e] (σ:=Unit) (fun _=>True) (fun _=> .bool false) (fun _=>[lsM p f e]):=by
 refine Fn.enter (args:=[ptr p.lb, .int .i64 (b:Int)]) Try.func112 rfl _ Try.ntmps112 rfl (by simp[fd_excl]) (fun w S=>?_);(refine Jn ?_)
 repeat(refine Jy ?_;try first|intro ao cap|intro b)
 refine End.done1_ () (he:=by rfl) (hp:=trivial) (hx:=by simp[lsM_excl])
theorem lsOkPut{f:FL}{took:List Nat}{s u:List Rw}{r r':Rw}{v:Int}(h:LsOk f ⟨took,s ++r::u⟩)(hr:r'.l=r.l ++[v]):LsOk f ⟨took,s ++r'::u⟩∧(LsE.abs ⟨took,s ++r'::u⟩)=(Vm.lists f.ws).put (LsE.abs ⟨took,s ++r::u⟩) s.length v:=by
 obtain⟨h1,h2,h3⟩:=h;refine⟨⟨h1,by simpa using h2,h3⟩,?_⟩;unfold LsE.abs Vm.lists;simp only[Vm.Ls.mk.injEq,true_and,getD_ws,getD_split];rw[←hr];have e:=set_split (s.map (·.l)) (u.map (·.l)) r.l r'.l;simp only[List.length_map]at e;simp only[List.map_append,List.map_cons];exact e.symm
theorem lsOkTake{f:FL}{took:List Nat}{sent:List Rw}{b:Nat}(h:LsOk f ⟨took,sent⟩)(hb:b<f.l.length)(hne:took.getD b 0≠(f.l.getD b default).l.length):LsOk f ⟨took.set b (took.getD b 0+1),sent⟩∧(LsE.abs ⟨took.set b (took.getD b 0+1),sent⟩)=((Vm.lists f.ws).take (LsE.abs ⟨took,sent⟩) b).2:=by
 obtain⟨h1,h2,h3⟩:=h;refine⟨⟨by simpa using h1,h2,fun j hj=>?_⟩,rfl⟩;simp only at h1 h3;have:=h3 j hj;simp only[List.getD_eq_getElem?_getD,List.getElem?_set]at this hne⊢
 by_cases hj':b=j
 ·subst hj';rw[if_pos rfl,if_pos (by omega)];simp only[Option.getD_some];omega
 ·rw[if_neg hj'];exact this
theorem lsEmpty_is(p:LsP)(f:FL)(e:LsE)(he:LsOk f e)(b:Nat)(hb:b<f.l.length):Fn Try.prog 111 #[ptr p.lb, .int .i64 (b:Int)] [fd f] [lsM p f e] (σ:=Unit) (fun _=>True) (fun _=> .bool ((Vm.lists f.ws).empty e.abs b)) (fun _=>[lsM p f e]):=by
 obtain⟨h1,h2,h3⟩:=he;refine Fn.enter (args:=[ptr p.lb, .int .i64 (b:Int)]) Try.func111 rfl _ Try.ntmps111 rfl (by simp[fd_excl]) (fun w S=>?_);(refine Jn ?_);apply Cod.imp (fun w hm=>Mem.lsOut hm (tk));apply Cod.imp (fun w hm=>Mem.fdOut (tk) hm)
 repeat(refine Jy ?_;try first|intro ao cap|intro b)
 apply End.imp (fun w hm=>Mem.lsIn (p:=p) (f:=f) (e:=e) hm (tks));refine End.done1_ () (he:=?_) (hp:=trivial) (hx:=by simp[lsM_excl]);refine bool_eq ?_;unfold Vm.lists LsE.abs;simp only[getD_ws,getD_nat];exact decide_eq_decide.2 (by omega)
theorem lsPut_is(p:LsP)(f:FL)(e:LsE)(he:LsOk f e)(b:Nat)(hb:b<f.l.length)(v:Int)(hs:Vm.total (e.sent.map (·.l))≤2000000):Fn Try.prog 113 #[ptr p.lb, .int .i64 (b:Int), .int .i64 v] [fd f] [lsM p f e] (σ:=LsE) (fun e'=>LsOk f e'∧e'.abs=(Vm.lists f.ws).put e.abs b v) (fun _=> .tuple #[]) (fun e'=>[lsM p f e']):=by
 have he':=he;obtain⟨h1,h2,h3⟩:=he;have htot:=Vm.total_le (e.sent.map (·.l)) b;rw[getD_ws]at htot;obtain⟨took,sent⟩:=e;simp only at h1 h2 h3 hs htot;obtain⟨s1,u1,hsp,hlen⟩:=split_at (l:=sent) (k:=b) (by omega);obtain⟨r,hr⟩:∃r,r=sent.getD b default:=⟨_,rfl⟩;rw[←hr]at hsp htot;subst hsp;subst hlen;refine Fn.enter (args:=[ptr p.lb, .int .i64 (s1.length:Int), .int .i64 v]) Try.func113 rfl _ Try.ntmps113 rfl (by simp[fd_excl]) (fun w S=>?_);(refine Jn ?_);apply Cod.imp (fun w hm=>Mem.lsOut hm (tk));apply Cod.imp (fun w hm=>Mem.rowOut hm (tk));have hgr:(s1 ++r::u1).getD s1.length default=r:=getD_split _ _ _;apply Cod.draw 16 ([blk p.lb (lsV p f) 59,arr (some ⟨p.sb,0,none⟩) f.l.length f.l.length 38 rwC (s1 ++r::u1)]) (by kernel_rfl) 17 rfl;refine JR 0 ?_;refine JR 1 ?_;refine JR 2 ?_;refine JR 3 ?_;refine JR 4 ?_;refine JR 5 ?_;refine JR 6 ?_;refine JR 7 ?_;refine JR 8 ?_;refine JR 9 ?_;refine JR 10 ?_;refine JR 11 ?_;refine JR 12 ?_;rw[hgr];(refine JT 13 ?_;(first|refine Jw ?_|(refine Jb ?_;intro b)|(refine Ja ?_;intro ao cap));refine And.intro gud ?_);(refine JT 14 ?_;refine OpT.append1_ (a:=v) (k:=?_);intro ao cap;refine And.intro gud ?_;(refine Jn ?_));refine JR 15 ?_;(refine JT 16 ?_;refine OpT.storeE_ (f:=rwC) (l:=s1 ++r::u1) (i:=s1.length) (off:=0) (vs:=[.slice ao (r.l.length+1) cap]) (a':=(⟨ao,cap,r.l ++[v]⟩:Rw)) (hp:=by rw[hgr,show rwC ⟨ao,cap,r.l ++[v]⟩=[.slice ao (r.l.length+1) cap] by simp[rwC]];exact Put.take .done) (k:=?_);refine And.intro gud ?_);rw[set_split];(apply RunT.done;kernel_rfl)
 repeat(refine Jy ?_;try first|intro ao cap|intro b)
 have hle:(r.l ++[v]).length=r.l.length+1:=by simp
 rw[←hle];apply End.imp (fun w hm=>Mem.rowIn (r:=⟨ao,cap,r.l ++[v]⟩) hm (tk) (tks));apply End.imp (fun w hm=>Mem.lsIn (p:=p) (f:=f) (e:=⟨took,s1 ++⟨ao,cap,r.l ++[v]⟩::u1⟩) hm (tks));refine End.done0'_ (⟨took,s1 ++⟨ao,cap,r.l ++[v]⟩::u1⟩:LsE) (hp:=lsOkPut he' rfl) (hx:=by simp[lsM_excl])
theorem lsTake_is(p:LsP)(f:FL)(e:LsE)(he:LsOk f e)(b:Nat)(hb:b<f.l.length)(hne:e.took.getD b 0≠(f.l.getD b default).l.length):Fn Try.prog 114 #[ptr p.lb, .int .i64 (b:Int)] [fd f] [lsM p f e] (σ:=LsE) (fun e'=>LsOk f e'∧e'.abs=((Vm.lists f.ws).take e.abs b).2) (fun _=> .int .i64 ((Vm.lists f.ws).take e.abs b).1) (fun e'=>[lsM p f e']):=by
 have he':=he;obtain⟨h1,h2,h3⟩:=he;have h3b:=h3 b hb;obtain⟨took,sent⟩:=e;simp only at h1 h2 h3b hne;refine Fn.enter (args:=[ptr p.lb, .int .i64 (b:Int)]) Try.func114 rfl _ Try.ntmps114 rfl (by simp[fd_excl]) (fun w S=>?_);(refine Jn ?_);apply Cod.fact ((f.l.getD b default).l.length≤9223372036854775807) (fun w hm=>(fd_holds.1 (hm.has (tk))).small.2 b hb);intro hsm;apply Cod.imp (fun w hm=>Mem.lsOut hm (tk));apply Cod.imp (fun w hm=>Mem.fdOut (tk) hm);apply Cod.imp (fun w hm=>Mem.fdRow hb (tk) hm);have w1:IntKind.i64.wrap (((took.getD b default:Nat):Int)+1)=((took.getD b 0+1:Nat):Int):=by rw[getD_nat,wrap_i64_in (by omega)];omega
 have w2:IntKind.i64.wrap (((took.getD b 0+1:Nat):Int)-1)=((took.getD b 0:Nat):Int):=by rw[wrap_i64_in (by omega)];omega
 have hg:(took.set b (took.getD b 0+1)).getD b default=took.getD b 0+1:=by
  simp only[List.getD_eq_getElem?_getD,List.getElem?_set];rw[if_pos trivial,if_pos (by omega)];rfl
 repeat(refine Jy ?_;try first|intro ao cap|intro b)
 (apply Run.op;exact rfl;refine OpT.storeE_ (f:=natC) (l:=took) (i:=b) (off:=0) (vs:=[.int .i64 ((took.getD b 0+1:Nat):Int)]) (a':=took.getD b 0+1) (k:=?_))
 repeat(refine Jy ?_;try first|intro ao cap|intro b)
 rw[hg];obtain⟨q1,q2⟩:=lsOkTake he' hb hne;apply End.imp (fun w hm=>Mem.lsIn (p:=p) (f:=f) (e:=⟨took.set b (took.getD b 0+1),sent⟩) hm (tks));refine End.done1_ (⟨took.set b (took.getD b 0+1),sent⟩:LsE) (he:=?_) (hp:=⟨q1,q2⟩) (hx:=by simp[lsM_excl]);unfold Vm.lists LsE.abs;simp only[getD_ws];rw[show(((took.getD b 0+1:Nat):Int)-1).toNat=took.getD b 0 by omega];rfl
@[reducible] def lsEnv (p : LsP) (f : FL) : EnvM where
 μ:=LsE
 ν:=Vm.Ls
 V:=Vm.lists f.ws
 abs:=LsE.abs
 ok:=LsOk f
 mem:=lsM p f
 size s:=Vm.total s.sent
 sPut s b v:=Vm.total_put s.sent b v
 sTake s b:=Nat.le_succ _
 sTell s e:=Nat.le_succ _
 excl:=lsM_excl p f
 rc:=fd f
 rexcl:=fd_excl
 T:=57
 rv:=ptr p.lb
 told:=none
 boxes:=f.l.length
 fFull:=112
 fEmpty:=111
 fPut:=113
 fTake:=114
 mFull:=finds (ptr:=true) (by kernel_rfl) (finds_ptr Try.underlying57)
 mEmpty:=finds (ptr:=true) (by kernel_rfl) (finds_ptr Try.underlying57)
 mPut:=finds (ptr:=true) (by kernel_rfl) (finds_ptr Try.underlying57)
 mTake:=finds (ptr:=true) (by kernel_rfl) (finds_ptr Try.underlying57)
 bFull:=by kernel_rfl
 bEmpty:=by kernel_rfl
 bPut:=by kernel_rfl
 bTake:=by kernel_rfl
 full e b he hb:=lsFull_is p f e b
 empty e b he hb:=lsEmpty_is p f e he b hb
 put e b v he hb _ hs:=lsPut_is p f e he b hb v hs
 take e b he hb hne:=lsTake_is p f e he b hb (fun h=>by
  have hne':decide (e.took.getD b 0=(f.ws.getD b []).length)=false:=hne;rw[getD_ws,decide_eq_false_iff_not]at hne';exact hne' h)
 tell v x:=rfl
structure LrP where
 lb:Nat
 fo:Option Addr
 fc:Nat
 so:Option Addr
 sc:Nat
 ko:Option Addr
 kc:Nat
abbrev lrV(p:LrP)(f:FL):List Value:=[.slice p.fo f.l.length p.fc, .slice p.so f.l.length p.sc, .slice p.ko f.l.length p.kc]
abbrev lrL(p:LrP)(f:FL)(e:LsE):List Chunk:=[blk p.lb (lrV p f) 73,arr p.fo f.l.length p.fc 38 rwC f.l,arr p.so f.l.length p.sc 38 rwC e.sent,arr p.ko f.l.length p.kc 3 natC e.took,bag (e.sent.map (rowM 2))]
def lrM(p:LrP)(f:FL)(e:LsE):Chunk:=bag (lrL p f e)
theorem lrM_excl(p:LrP)(f:FL)(e:LsE):(lrM p f e).excl=true:=bag_excl
theorem lrL_excl(p:LrP)(f:FL)(e:LsE):∀c∈lrL p f e,c.excl=true:=by simp[blk_excl,arr_excl,bag_excl]
theorem Mem.lrOut{w:World}{L L':List Chunk}{p:LrP}{f:FL}{e:LsE}(h:Mem w L)(t:Take (lrM p f e) L L'):Mem w (lrL p f e ++L'):=(h.take t).unpack
theorem Mem.lrIn{w:World}{L L':List Chunk}{p:LrP}{f:FL}{e:LsE}(h:Mem w L)(t:Takes (lrL p f e) L L'):Mem w (lrM p f e::L'):=(h.takes t).pack (lrL_excl p f e)
theorem lrRoom_is(p:LrP)(f:FL)(e:LsE)(b:Nat):Fn Try.prog 117 #[ptr p.lb, .int .i64 (b:Int)] [fd f] [lrM p f e] (σ:=Unit) (fun _=>True) (fun _=> .bool true) (fun _=>[lrM p f e]):=by
 refine Fn.enter (args:=[ptr p.lb, .int .i64 (b:Int)]) Try.func117 rfl _ Try.ntmps117 rfl (by simp[fd_excl]) (fun w S=>?_);(refine Jn ?_)
 repeat(refine Jy ?_;try first|intro ao cap|intro b)
 refine End.done1_ () (he:=by rfl) (hp:=trivial) (hx:=by simp[lrM_excl])
theorem lrSome_is(p:LrP)(f:FL)(e:LsE)(he:LsOk f e)(b:Nat)(hb:b<f.l.length):Fn Try.prog 118 #[ptr p.lb, .int .i64 (b:Int)] [fd f] [lrM p f e] (σ:=Unit) (fun _=>True) (fun _=> .bool (!(Vm.lists f.ws).empty e.abs b)) (fun _=>[lrM p f e]):=by
 obtain⟨h1,h2,h3⟩:=he;refine Fn.enter (args:=[ptr p.lb, .int .i64 (b:Int)]) Try.func118 rfl _ Try.ntmps118 rfl (by simp[fd_excl]) (fun w S=>?_);(refine Jn ?_);apply Cod.imp (fun w hm=>Mem.lrOut hm (tk))
 repeat(refine Jy ?_;try first|intro ao cap|intro b)
 apply End.imp (fun w hm=>Mem.lrIn (p:=p) (f:=f) (e:=e) hm (tks));refine End.done1_ () (he:=?_) (hp:=trivial) (hx:=by simp[lrM_excl]);have h3b:=h3 b hb;unfold Vm.lists LsE.abs;simp only[getD_ws,getD_nat];rw[←decide_not];refine bool_eq (decide_eq_decide.2 ?_);omega
theorem lrGive_is(p:LrP)(f:FL)(e:LsE)(he:LsOk f e)(b:Nat)(hb:b<f.l.length)(v:Int)(hs:Vm.total (e.sent.map (·.l))≤2000000):Fn Try.prog 116 #[ptr p.lb, .int .i64 (b:Int), .int .i64 v] [fd f] [lrM p f e] (σ:=LsE) (fun e'=>LsOk f e'∧e'.abs=(Vm.lists f.ws).put e.abs b v) (fun _=> .tuple #[]) (fun e'=>[lrM p f e']):=by
 have he':=he;obtain⟨h1,h2,h3⟩:=he;have htot:=Vm.total_le (e.sent.map (·.l)) b;rw[getD_ws]at htot;obtain⟨took,sent⟩:=e;simp only at h1 h2 h3 hs htot;obtain⟨s1,u1,hsp,hlen⟩:=split_at (l:=sent) (k:=b) (by omega);obtain⟨r,hr⟩:∃r,r=sent.getD b default:=⟨_,rfl⟩;rw[←hr]at hsp htot;subst hsp;subst hlen;refine Fn.enter (args:=[ptr p.lb, .int .i64 (s1.length:Int), .int .i64 v]) Try.func116 rfl _ Try.ntmps116 rfl (by simp[fd_excl]) (fun w S=>?_);(refine Jn ?_);apply Cod.imp (fun w hm=>Mem.lrOut hm (tk));apply Cod.imp (fun w hm=>Mem.rowOut hm (tk));have hgr:(s1 ++r::u1).getD s1.length default=r:=getD_split _ _ _;apply Cod.draw 16 ([blk p.lb (lrV p f) 73,arr p.so f.l.length p.sc 38 rwC (s1 ++r::u1)]) (by kernel_rfl) 17 rfl;refine JR 0 ?_;refine JR 1 ?_;refine JR 2 ?_;refine JR 3 ?_;refine JR 4 ?_;refine JR 5 ?_;refine JR 6 ?_;refine JR 7 ?_;refine JR 8 ?_;refine JR 9 ?_;refine JR 10 ?_;refine JR 11 ?_;refine JR 12 ?_;rw[hgr];(refine JT 13 ?_;(first|refine Jw ?_|(refine Jb ?_;intro b)|(refine Ja ?_;intro ao cap));refine And.intro gud ?_);(refine JT 14 ?_;refine OpT.append1_ (a:=v) (k:=?_);intro ao cap;refine And.intro gud ?_;(refine Jn ?_));refine JR 15 ?_;(refine JT 16 ?_;refine OpT.storeE_ (f:=rwC) (l:=s1 ++r::u1) (i:=s1.length) (off:=0) (vs:=[.slice ao (r.l.length+1) cap]) (a':=(⟨ao,cap,r.l ++[v]⟩:Rw)) (hp:=by rw[hgr,show rwC ⟨ao,cap,r.l ++[v]⟩=[.slice ao (r.l.length+1) cap] by simp[rwC]];exact Put.take .done) (k:=?_);refine And.intro gud ?_);rw[set_split];(apply RunT.done;kernel_rfl)
 repeat(refine Jy ?_;try first|intro ao cap|intro b)
 have hle:(r.l ++[v]).length=r.l.length+1:=by simp
 rw[←hle];apply End.imp (fun w hm=>Mem.rowIn (r:=⟨ao,cap,r.l ++[v]⟩) hm (tk) (tks));apply End.imp (fun w hm=>Mem.lrIn (p:=p) (f:=f) (e:=⟨took,s1 ++⟨ao,cap,r.l ++[v]⟩::u1⟩) hm (tks));refine End.done0'_ (⟨took,s1 ++⟨ao,cap,r.l ++[v]⟩::u1⟩:LsE) (hp:=lsOkPut he' rfl) (hx:=by simp[lrM_excl])
theorem lrGet_is(p:LrP)(f:FL)(e:LsE)(he:LsOk f e)(b:Nat)(hb:b<f.l.length)(hne:e.took.getD b 0≠(f.l.getD b default).l.length):Fn Try.prog 115 #[ptr p.lb, .int .i64 (b:Int)] [fd f] [lrM p f e] (σ:=LsE) (fun e'=>LsOk f e'∧e'.abs=((Vm.lists f.ws).take e.abs b).2) (fun _=> .int .i64 ((Vm.lists f.ws).take e.abs b).1) (fun e'=>[lrM p f e']):=by
 have he':=he;obtain⟨h1,h2,h3⟩:=he;have h3b:=h3 b hb;obtain⟨took,sent⟩:=e;simp only at h1 h2 h3b hne;refine Fn.enter (args:=[ptr p.lb, .int .i64 (b:Int)]) Try.func115 rfl _ Try.ntmps115 rfl (by simp[fd_excl]) (fun w S=>?_);(refine Jn ?_);apply Cod.fact ((f.l.getD b default).l.length≤9223372036854775807) (fun w hm=>(fd_holds.1 (hm.has (tk))).small.2 b hb);intro hsm;apply Cod.imp (fun w hm=>Mem.lrOut hm (tk));apply Cod.imp (fun w hm=>Mem.fdOut (tk) hm);apply Cod.imp (fun w hm=>Mem.fdRow hb (tk) hm);have w1:IntKind.i64.wrap (((took.getD b default:Nat):Int)+1)=((took.getD b 0+1:Nat):Int):=by rw[getD_nat,wrap_i64_in (by omega)];omega
 have hlt:took.getD b default<(f.l.getD b default).l.length:=by rw[getD_nat];omega
 repeat(refine Jy ?_;try first|intro ao cap|intro b)
 (apply Run.op;exact rfl;refine OpT.storeE_ (f:=natC) (l:=took) (i:=b) (off:=0) (vs:=[.int .i64 ((took.getD b 0+1:Nat):Int)]) (a':=took.getD b 0+1) (k:=?_))
 repeat(refine Jy ?_;try first|intro ao cap|intro b)
 obtain⟨q1,q2⟩:=lsOkTake he' hb hne;apply End.imp (fun w hm=>Mem.lrIn (p:=p) (f:=f) (e:=⟨took.set b (took.getD b 0+1),sent⟩) hm (tks));refine End.done1_ (⟨took.set b (took.getD b 0+1),sent⟩:LsE) (he:=?_) (hp:=⟨q1,q2⟩) (hx:=by simp[lrM_excl]);unfold Vm.lists LsE.abs;simp only[getD_ws];rfl
@[reducible] def lrEnv (p : LrP) (f : FL) : EnvR where
 μ:=LsE
 ν:=Vm.Ls
 V:=Vm.lists f.ws
 abs:=LsE.abs
 ok:=LsOk f
 mem:=lrM p f
 size s:=Vm.total s.sent
 sPut s b v:=Vm.total_put s.sent b v
 sTake s b:=Nat.le_succ _
 excl:=lrM_excl p f
 rc:=fd f
 rexcl:=fd_excl
 T:=71
 rv:=ptr p.lb
 boxes:=f.l.length
 fRoom:=117
 fSome:=118
 fGive:=116
 fGet:=115
 mRoom:=finds (ptr:=true) (by kernel_rfl) (finds_ptr Try.underlying71)
 mSome:=finds (ptr:=true) (by kernel_rfl) (finds_ptr Try.underlying71)
 mGive:=finds (ptr:=true) (by kernel_rfl) (finds_ptr Try.underlying71)
 mGet:=finds (ptr:=true) (by kernel_rfl) (finds_ptr Try.underlying71)
 bRoom:=by kernel_rfl
 bSome:=by kernel_rfl
 bGive:=by kernel_rfl
 bGet:=by kernel_rfl
 room e b he hb:=lrRoom_is p f e b
 some e b he hb:=lrSome_is p f e he b hb
 give e b v he hb _ hs:=lrGive_is p f e he b hb v hs
 get e b he hb hne:=lrGet_is p f e he b hb (fun h=>by
  have hne':decide (e.took.getD b 0=(f.ws.getD b []).length)=false:=hne;rw[getD_ws,decide_eq_false_iff_not]at hne';exact hne' h)
end Go.Proofs.Ytgnhfinabhimpaa.Vw


namespace Go.Proofs.Ytgnhfinabhimpaa.Vw
open Go.RowKit Go.Proofs.Ytgnhfinabhimpaa.Img
theorem two_dvd:∀(n:Nat) (a b:Int),b % 2=1→(2:Int)^n∣a*b→(2:Int)^n∣a
 |0,a,b,hb,h=>by simp
 |n+1,a,b,hb,h=>by
  have h2:(a*b) % 2=0:=by
   obtain⟨c,hc⟩:=h;rw[hc,Int.pow_succ,Int.mul_assoc,Int.mul_comm,Int.mul_assoc];exact Int.mul_emod_right 2 _
  have ha:a % 2=0:=by
   rw[Int.mul_emod,hb]at h2;omega
  obtain⟨c,rfl⟩:∃c,a=c*2:=⟨a/2,by omega⟩;have h3:(2:Int)^n∣c*b:=by
   rw[Int.pow_succ,Int.mul_right_comm]at h;exact Int.dvd_of_mul_dvd_mul_right (by decide) h
  rw[Int.pow_succ];exact Int.mul_dvd_mul_right _ (two_dvd n c b hb h3)
theorem square_is{v:Int}(h:ImgM.In64 v):IntKind.i64.wrap (v*v)=v↔v=0∨v=1:=by
 constructor
 ·intro e;have h1:(2:Int)^64∣v*(v-1):=by
   unfold IntKind.wrap at e;simp[IntKind.bits,IntKind.signed]at e;rw[Int.mul_sub,Int.mul_one];generalize v*v=x at *;simp
   split at e<;>omega
  obtain⟨g1,g2⟩:=h;rcases Int.emod_two_eq v with h2|h2
  ·obtain⟨c,hc⟩:=two_dvd 64 v (v-1) (by omega) h1;simp at hc;omega
  ·obtain⟨c,hc⟩:=two_dvd 64 (v-1) v h2 (by rw[Int.mul_comm];exact h1);simp at hc;omega
 ·rintro(rfl|rfl)<;>decide
end Go.Proofs.Ytgnhfinabhimpaa.Vw


namespace Go.Proofs.Ytgnhfinabhimpaa.Vw
open Go.RowKit Go.Proofs.Ytgnhfinabhimpaa.Img
attribute [local irreducible] Run Cod End OpT Still RunQ RunS RunT Fn PutOk
variable(E:EnvM)
def wst(i:ImgM.Ins)(v:E.ν):Int:=if i.op=26∧E.V.full v i.a.toNat=true then 2 else if i.op=27∧E.V.empty v i.a.toNat=true then 3 else 1
def wbx(i:ImgM.Ins)(v:E.ν):Int:=if i.op=26∧E.V.full v i.a.toNat=true then i.a else if i.op=27∧E.V.empty v i.a.toNat=true then i.a else 0
theorem waits_is(F:TF)(st tr:Int)(e:E.μ)(he:E.ok e)(i:ImgM.Ins)(hb:i.op=26∨i.op=27→0≤i.a∧i.a.toNat<E.boxes):Fn Try.prog 39 #[ptr F.tb,insV i] [E.rc] [E.tc F st tr,E.mem e] (σ:=Unit) (fun _=>True) (fun _=> .bool (!decide (wst E i (E.abs e)=1))) (fun _=>[E.tc ⟨F.tb,F.mb,F.cos,F.cb,wbx E i (E.abs e),F.out⟩ (wst E i (E.abs e)) tr,E.mem e]):=by
 refine Fn.enter (args:=[ptr F.tb,insV i]) Try.func39 rfl _ Try.ntmps39 rfl (by simp[rd_excl,md_excl]) (fun w S=>?_);(refine Jn ?_)
 by_cases h26:i.op=26
 ·obtain⟨ha,hlt⟩:=hb (.inl h26);have hf:=E.full e i.a.toNat he hlt;rw[Int.toNat_of_nonneg ha]at hf
  repeat(refine Jy ?_;try first|intro ao cap|intro b)
  (refine Jc ?_;refine OpT.callM_ (E.mFull) (E.bFull) (hf) (r:=fun w=>Reads.any (tk) E.rexcl .nil) (k:=?_);intro s hs;(refine Jn ?_))
  cases hv:E.V.full (E.abs e) i.a.toNat with
  |true=>
   have e1:wst E i (E.abs e)=2:=by unfold wst;rw[if_pos ⟨h26,hv⟩]
   have e2:wbx E i (E.abs e)=i.a:=by unfold wbx;rw[if_pos ⟨h26,hv⟩]
   rw[e1,e2]
   repeat(refine Jy ?_;try first|intro ao cap|intro b)
   apply Cod.draw 9 ([blk b (insC i) 49]) (by kernel_rfl) 10 rfl;refine JR 0 ?_;refine JR 1 ?_;refine JR 2 ?_;refine JR 3 ?_;refine JR 4 ?_;refine JR 5 ?_;(refine JT 6 ?_;(first|refine Jw ?_|(refine Jb ?_;intro b)|(refine Ja ?_;intro ao cap));refine And.intro gud ?_);refine JR 7 ?_;refine JR 8 ?_;(refine JT 9 ?_;(first|refine Jw ?_|(refine Jb ?_;intro b)|(refine Ja ?_;intro ao cap));refine And.intro gud ?_);(apply RunT.done;kernel_rfl)
   repeat(refine Jy ?_;try first|intro ao cap|intro b)
   (refine End.done1_ (()) (he:=Jv) (hp:=?_));trivial
  |false=>
   have e1:wst E i (E.abs e)=1:=by unfold wst;rw[if_neg (by rw[hv];simp),if_neg (by omega)]
   have e2:wbx E i (E.abs e)=0:=by unfold wbx;rw[if_neg (by rw[hv];simp),if_neg (by omega)]
   rw[e1,e2]
   repeat(refine Jy ?_;try first|intro ao cap|intro b)
   (refine End.done1_ (()) (he:=Jv) (hp:=?_));trivial
 ·by_cases h27:i.op=27
  ·obtain⟨ha,hlt⟩:=hb (.inr h27);have hf:=E.empty e i.a.toNat he hlt;rw[Int.toNat_of_nonneg ha]at hf
   repeat(refine Jy ?_;try first|intro ao cap|intro b)
   (refine Jc ?_;refine OpT.callM_ (E.mEmpty) (E.bEmpty) (hf) (r:=fun w=>Reads.any (tk) E.rexcl .nil) (k:=?_);intro s hs;(refine Jn ?_))
   cases hv:E.V.empty (E.abs e) i.a.toNat with
   |true=>
    have e1:wst E i (E.abs e)=3:=by unfold wst;rw[if_neg (by omega),if_pos ⟨h27,hv⟩]
    have e2:wbx E i (E.abs e)=i.a:=by unfold wbx;rw[if_neg (by omega),if_pos ⟨h27,hv⟩]
    rw[e1,e2]
    repeat(refine Jy ?_;try first|intro ao cap|intro b)
    apply Cod.draw 9 ([blk b (insC i) 49]) (by kernel_rfl) 10 rfl;refine JR 0 ?_;refine JR 1 ?_;refine JR 2 ?_;refine JR 3 ?_;refine JR 4 ?_;refine JR 5 ?_;(refine JT 6 ?_;(first|refine Jw ?_|(refine Jb ?_;intro b)|(refine Ja ?_;intro ao cap));refine And.intro gud ?_);refine JR 7 ?_;refine JR 8 ?_;(refine JT 9 ?_;(first|refine Jw ?_|(refine Jb ?_;intro b)|(refine Ja ?_;intro ao cap));refine And.intro gud ?_);(apply RunT.done;kernel_rfl)
    repeat(refine Jy ?_;try first|intro ao cap|intro b)
    (refine End.done1_ (()) (he:=Jv) (hp:=?_));trivial
   |false=>
    have e1:wst E i (E.abs e)=1:=by unfold wst;rw[if_neg (by omega),if_neg (by rw[hv];simp)]
    have e2:wbx E i (E.abs e)=0:=by unfold wbx;rw[if_neg (by omega),if_neg (by rw[hv];simp)]
    rw[e1,e2]
    repeat(refine Jy ?_;try first|intro ao cap|intro b)
    (refine End.done1_ (()) (he:=Jv) (hp:=?_));trivial
  ·have e1:wst E i (E.abs e)=1:=by unfold wst;rw[if_neg (by omega),if_neg (by omega)]
   have e2:wbx E i (E.abs e)=0:=by unfold wbx;rw[if_neg (by omega),if_neg (by omega)]
   rw[e1,e2]
   repeat(refine Jy ?_;try first|intro ao cap|intro b)
   (refine End.done1_ (()) (he:=Jv) (hp:=?_));trivial
end Go.Proofs.Ytgnhfinabhimpaa.Vw
