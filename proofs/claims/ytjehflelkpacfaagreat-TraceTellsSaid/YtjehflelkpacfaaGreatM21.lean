/- A task's small functions, walked. -/
import Derived.Test.YtjehflelkpacfaaGreatM20
set_option linter.unusedVariables false
set_option linter.unusedSimpArgs false
set_option linter.unusedSectionVars false
set_option maxRecDepth 100000
namespace Go.Proofs.YtjehflelkpacfaaGreat.Vw
open Go.RowKit Go.Proofs.YtjehflelkpacfaaGreat.Img
section
attribute [local irreducible] Run Cod End OpT Still RunQ RunS RunT Fn PutOk
variable(E:EnvM)
theorem tell_is(F:TF)(st tr:Int)(e:E.μ)(he:E.okk e)(a b v:Int):Fn Tryz.prog 49 #[ptr F.tb, .int .i64 a, .int .i64 b, .int .i64 v] [E.rc] [E.tc F st tr,E.mem e] (σ:=E.μ) (fun e'=>E.ok e'∧E.abs e'=E.V.tell (E.abs e) (a,b,v)) (fun _=> .tuple #[]) (fun e'=>[E.tc F st tr,E.mem e']):=by
 have hT:=E.tell;have key:Fn Tryz.prog 49 #[ptr F.tb, .int .i64 a, .int .i64 b, .int .i64 v] [E.rc] [blk F.tb (tcl F.mb E.mailV F.cos F.cb st F.bx tr F.out (toldV E.told)) 65,E.mem e] (σ:=E.μ) (fun e'=>E.ok e'∧E.abs e'=E.V.tell (E.abs e) (a,b,v)) (fun _=> .tuple #[]) (fun e'=>[blk F.tb (tcl F.mb E.mailV F.cos F.cb st F.bx tr F.out (toldV E.told)) 65,E.mem e']):=by
  cases ht:E.told with
  |none=>
   rw[ht]at hT;refine JE [ptr F.tb, .int .i64 a, .int .i64 b, .int .i64 v] Tryz.func49 Tryz.ntmps49 fun w S=>?_
   (refine Jn ?_)
   repeat(refine Jy ?_;try first|intro ao cap|intro b)
   (refine End.done0'_ (e) (hp:=?_));exact⟨he.1,(hT _ _).symm⟩
  |some fc=>
   obtain⟨f,cap⟩:=fc;rw[ht]at hT;obtain⟨hb,hT⟩:=hT;have hT:=hT e a b v he.1 he.2;refine JE [ptr F.tb, .int .i64 a, .int .i64 b, .int .i64 v] Tryz.func49 Tryz.ntmps49 fun w S=>?_
   (refine Jn ?_)
   repeat(refine Jy ?_;try first|intro ao cap|intro b)
   (apply Run.op;exact rfl;refine OpT.call_ (spec:=hT) (hc:=hb) (r:=fun w=>Reads.any (tk) E.rexcl .nil) (k:=?_));intro s hs;(refine Jn ?_)
   repeat(refine Jy ?_;try first|intro ao cap|intro b)
   (refine End.done0'_ (s) (hp:=?_));exact hs
 exact key
theorem trap_is(F:TF)(st tr:Int)(e:E.μ)(he:E.okk e)(n:Int):Fn Tryz.prog 47 #[ptr F.tb, .int .i64 n] [E.rc] [E.tc F st tr,E.mem e] (σ:=Int×Int×E.μ) (Trapped E n st tr e) (fun _=> .tuple #[]) (fun q=>[E.tc F q.1 q.2.1,E.mem q.2.2]):=by
 refine JE [ptr F.tb, .int .i64 n] Tryz.func47 Tryz.ntmps47 fun w S=>?_
 (refine Jn ?_)
 by_cases h5:st=5
 ·repeat(refine Jy ?_;try first|intro ao cap|intro b)
  (refine End.done0'_ ((st,tr,e)) (hp:=?_));exact⟨fun _=>rfl,fun h=>absurd h5 h⟩
 ·repeat(refine Jy ?_;try first|intro ao cap|intro b)
  (refine Jc ?_;refine OpT.call0_ (spec:=tell_is E F 5 n e he 5 0 n) (r:=fun w=>Reads.any (tk) E.rexcl .nil) (k:=?_);intro s hs;(refine Jn ?_))
  repeat(refine Jy ?_;try first|intro ao cap|intro b)
  (refine End.done0'_ ((5,n,s)) (hp:=?_));exact⟨fun h=>absurd h h5,fun _=>⟨rfl,rfl,hs⟩⟩
theorem push_is'(F:TF)(st tr:Int)(e:E.μ)(he:E.okk e)(cst:Int)(up fr:Value)(k:Sk)(hk:k.Ok)(v:Int):Fn Tryz.prog 44 #[ptr F.tb, .int .i64 v] [E.rc] (E.tc F st tr::cc F.cb cst up fr k.sb::E.mem e::skM k) (σ:=Sk×Int×Int×E.μ) (Pushed E v k st tr e) (fun _=> .tuple #[]) (fun q=>E.tc F q.2.1 q.2.2.1::cc F.cb cst up fr q.1.sb::E.mem q.2.2.2::skM q.1):=by
 refine JE [ptr F.tb, .int .i64 v] Tryz.func44 Tryz.ntmps44 fun w S=>?_
 (refine Jn ?_)
 repeat(refine Jy ?_;try first|intro ao cap|intro b)
 (refine JQ (push_stk k hk v) ?_;intro s hs;(refine Jn ?_))
 by_cases h4:k.live=400
 ·rw[if_pos h4]at hs;rw[hs,decide_eq_true h4]
  repeat(refine Jy ?_;try first|intro ao cap|intro b)
  (refine Jc ?_;refine OpT.call0_ (spec:=trap_is E F st tr e he 4) (r:=fun w=>Reads.any (tk) E.rexcl .nil) (k:=?_);intro s hs;(refine Jn ?_))
  repeat(refine Jy ?_;try first|intro ao cap|intro b)
  (refine End.done0'_ ((k,s)) (hp:=?_));exact⟨fun _=>⟨rfl,hs⟩,fun h=>absurd h4 h⟩
 ·rw[if_neg h4]at hs;rw[decide_eq_false h4];obtain⟨sb2,lb2,l2,live2⟩:=s;obtain rfl:sb2=k.sb:=hs.sb
  repeat(refine Jy ?_;try first|intro ao cap|intro b)
  (refine End.done0'_ ((⟨k.sb,lb2,l2,live2⟩,st,tr,e)) (hp:=?_));exact⟨fun h=>absurd h h4,fun _=>⟨hs,rfl⟩⟩
theorem pop_is'(F:TF)(st tr:Int)(cst:Int)(up fr:Value)(mail told:Value)(k:Sk)(hk:k.Ok)(h0:0<k.live):Fn Tryz.prog 46 #[ptr F.tb] [] (blk F.tb (tcl F.mb mail F.cos F.cb st F.bx tr F.out told) 65::cc F.cb cst up fr k.sb::skM k) (σ:=Sk) (fun k'=>SkTo k k' (k.ws.take (k.live-1))) (fun _=> .int .i64 (k.ws.getD (k.live-1) 0)) (fun k'=>blk F.tb (tcl F.mb mail F.cos F.cb st F.bx tr F.out told) 65::cc F.cb cst up fr k'.sb::skM k'):=by
 obtain⟨g1,g2,g3⟩:=id hk;refine JE [ptr F.tb] Tryz.func46 Tryz.ntmps46 fun w S=>?_
 (refine Jn ?_)
 repeat(refine Jy ?_;try first|intro ao cap|intro b)
 (refine JQ (live_is k) ?_;intro s hs;(refine Jn ?_));have s1:IntKind.i64.wrap ((k.live:Int)-1)=((k.live-1:Nat):Int):=by rw[wrap_i64_in (by omega)];omega
 repeat(refine Jy ?_;try first|intro ao cap|intro b)
 (refine JQ (at_is k (k.live-1) (by omega) g3) ?_;intro s hs;(refine Jn ?_))
 repeat(refine Jy ?_;try first|intro ao cap|intro b)
 (refine JQ (pop_stk k hk 1 h0) ?_;intro s hs;(refine Jn ?_));obtain⟨sb2,lb2,l2,live2⟩:=s;obtain rfl:sb2=k.sb:=hs.sb
 repeat(refine Jy ?_;try first|intro ao cap|intro b)
 refine End.done1_ (⟨k.sb,lb2,l2,live2⟩:Sk) (he:=?_) (hp:=hs);show _=Value.int IntKind.i64 ((k.l.take k.live).getD (k.live-1) 0);rw[Jd,Jd,List.getElem?_take,if_pos (by omega)];rfl
theorem args_is'(F:TF)(st tr:Int)(cst:Int)(up fr:Value)(mail told:Value)(k:Sk)(hk:k.Ok)(n:Nat)(h0:n≤k.live):Fn Tryz.prog 80 #[ptr F.tb, .int .i64 (n:Int)] [] (blk F.tb (tcl F.mb mail F.cos F.cb st F.bx tr F.out told) 65::cc F.cb cst up fr k.sb::skM k) (σ:=Sk×Option Addr×Nat) (fun s=>SkTo k s.1 (k.ws.take (k.live-n))) (fun s=> .slice s.2.1 n s.2.2) (fun s=>arr s.2.1 n s.2.2 2 i64c (k.ws.drop (k.live-n))::blk F.tb (tcl F.mb mail F.cos F.cb st F.bx tr F.out told) 65::cc F.cb cst up fr s.1.sb::skM s.1):=by
 obtain⟨g1,g2,g3⟩:=id hk;have hwl:=Sk.len hk;refine JE [ptr F.tb, .int .i64 (n:Int)] Tryz.func80 Tryz.ntmps80 fun w S=>?_
 (refine Jn ?_)
 repeat(refine Jy ?_;try first|intro ao cap|intro b)
 (refine JQ (words_stk k hk) ?_;intro s hs;(refine Jn ?_));obtain⟨ao,cap⟩:=s
 repeat(refine Jy ?_;try first|intro ao cap|intro b)
 (refine JQ (live_is k) ?_;intro s hs;(refine Jn ?_));have s1:IntKind.i64.wrap ((k.live:Int)-(n:Int))=((k.live-n:Nat):Int):=by rw[wrap_i64_in (by omega)];omega
 repeat(refine Jy ?_;try first|intro ao cap|intro b)
 rw[show k.live-(k.live-n)=n by omega];(refine JQ (pop_stk k hk n h0) ?_;intro s hs;(refine Jn ?_));obtain⟨sb2,lb2,l2,live2⟩:=s;obtain rfl:sb2=k.sb:=hs.sb
 repeat(refine Jy ?_;try first|intro ao cap|intro b)
 refine End.done1_ ((⟨k.sb,lb2,l2,live2⟩:Sk),ao,cap) (he:=by rfl) (hp:=hs)
end
def ptrC(b:Nat):List Value:=[ptr b]
instance:Enc ptrC:=⟨fun _=>rfl,by decide,fun a u hu=>by simp[ptrC]at hu;subst hu;rfl⟩
def frC(f:Vm.Fr):List Value:=[.int .i64 (f.unit:Int), .int .i64 (f.pc:Int), .int .i64 (f.base:Int)]
instance:Enc frC:=⟨fun _=>rfl,by decide,fun a u hu=>by simp[frC]at hu;rcases hu with rfl|rfl|rfl<;>rfl⟩
structure CoL where
 cb:Nat
 st:Nat
 up:Option Nat
 upb:Option Nat
 fo:Option Addr
 fc:Nat
 fr:List Vm.Fr
 sk:Sk
instance:Inhabited CoL:=⟨⟨0,0,none,none,none,0,[],default⟩⟩
def CoL.abs(c:CoL):Vm.Co:=⟨c.st,c.up,c.fr,c.sk.ws⟩
def ptrO:Option Nat→Value
 |none=> .pointer none
 |some b=>ptr b
abbrev frM(c:CoL):Chunk:=arr c.fo c.fr.length c.fc 123 frC c.fr
abbrev ccM(c:CoL):Chunk:=cc c.cb (c.st:Int) (ptrO c.upb) (.slice c.fo c.fr.length c.fc) c.sk.sb
abbrev coM(c:CoL):List Chunk:=[ccM c,frM c,blk c.sk.sb (skC c.sk) 169,arr (some ⟨c.sk.lb,0,none⟩) c.sk.l.length c.sk.l.length 2 i64c c.sk.l]
def bagM(l:List CoL):Chunk:=bag (l.flatMap coM)
@[simp] theorem bagM_excl (l : List CoL) : (bagM l).excl = true := bag_excl
structure Pl where
 tb:Nat
 mb:Nat
 m:ML
structure SL(E:EnvM) where
 co:Option Addr
 ccap:Nat
 bs:List Nat
 oth:List CoL
 now:Nat
 cur:CoL
 st:Int
 bx:Int
 tr:Int
 oo:Option Addr
 oc:Nat
 out:List Int
 e:E.μ
abbrev mdV(m:ML):List Value:=[.slice m.bo m.bx.length m.bc, .slice m.uo m.us.length m.uc]
abbrev tkM{E:EnvM}(p:Pl)(s:SL E):Chunk:=blk p.tb (tcl p.mb E.mailV (.slice s.co s.bs.length s.ccap) s.cur.cb s.st s.bx s.tr (.slice s.oo s.out.length s.oc) (toldV E.told)) 65
abbrev moM(p:Pl):Chunk:=blk p.mb (mdV p.m) 25
abbrev csM{E:EnvM}(s:SL E):Chunk:=arr s.co s.bs.length s.ccap 62 ptrC s.bs
abbrev ouM{E:EnvM}(s:SL E):Chunk:=arr s.oo s.out.length s.oc 2 i64c s.out
abbrev TM{E:EnvM}(p:Pl)(s:SL E):List Chunk:=[tkM p s,moM p,csM s,ouM s,bagM (s.oth.eraseIdx s.now),E.mem s.e,ccM s.cur,frM s.cur,blk s.cur.sk.sb (skC s.cur.sk) 169,arr (some ⟨s.cur.sk.lb,0,none⟩) s.cur.sk.l.length s.cur.sk.l.length 2 i64c s.cur.sk.l]
section
variable{E:EnvM}
def SL.all(s:SL E):List CoL:=s.oth.set s.now s.cur
def SL.tk(s:SL E):Vm.Tk:=⟨s.all.map CoL.abs,s.now,s.st,s.bx,s.tr,s.out⟩
def SL.two(s:SL E):Vm.Tk×E.ν:=(s.tk,E.abs s.e)
structure SL.Wf(s:SL E):Prop where
 now:s.now<s.oth.length
 len:s.bs.length=s.oth.length
 few:s.oth.length≤31
 at_:∀i,i<s.oth.length→(s.all.getD i default).cb=s.bs.getD i 0
 up:∀c∈s.all,c.upb=c.up.map fun j=>s.bs.getD j 0
 upl:∀c∈s.all,∀j,c.up=some j→j<s.oth.length
 sk:∀c∈s.all,c.sk.Ok
 env:E.ok s.e
variable{s:SL E}
theorem SL.Wf.curMem(h:s.Wf):s.cur∈s.all:=by
 unfold SL.all;exact List.mem_set h.now _
theorem SL.Wf.curOk(h:s.Wf):s.cur.sk.Ok:=h.sk _ h.curMem
theorem SL.allLen(s:SL E):s.all.length=s.oth.length:=Ji
theorem SL.Wf.curGet(h:s.Wf):s.all.getD s.now default=s.cur:=by
 unfold SL.all;rw[Jd,JS (by exact h.now)];rfl
theorem getD_map0{α β:Type} [Inhabited α] [Inhabited β](f:α→β)(l:List α){k:Nat}(hk:k<l.length):(l.map f).getD k default=f (l.getD k default):=by
 rw[Jd,Jd,JU,Je hk];rfl
theorem SL.Wf.cur(h:s.Wf):Vm.cur s.tk=s.cur.abs:=by
 show(s.all.map CoL.abs).getD s.now default=_;rw[getD_map0 _ _ (by rw[s.allLen];exact h.now),h.curGet]
theorem SL.Wf.curCb(h:s.Wf):s.cur.cb=s.bs.getD s.now 0:=by
 rw[←h.at_ _ h.now,h.curGet]
theorem SL.tk_cur(s:SL E)(c:CoL):({s with cur:=c}:SL E).tk=Vm.setCur s.tk c.abs:=by
 unfold SL.tk Vm.setCur Vm.setC SL.all;simp only[List.map_set,List.set_set]
theorem SL.Wf.setCur(h:s.Wf){c:CoL}(hcb:c.cb=s.cur.cb)(hup:c.up=s.cur.up)(hupb:c.upb=s.cur.upb)(hk:c.sk.Ok):({s with cur:=c}:SL E).Wf:=by
 have hset:∀d∈({s with cur:=c}:SL E).all,d=c∨d∈s.all:=fun d hd=>by
  unfold SL.all at hd⊢;simp only at hd;obtain⟨i,hi,e⟩:=List.mem_iff_getElem.1 hd;rw[List.getElem_set]at e
  split at e
  ·exact .inl e.symm
  ·rename_i hne
   right
   rw[←e];refine List.mem_iff_getElem.2 ⟨i,by simpa using hi,?_⟩;rw[List.getElem_set_ne hne]
 have hall:∀i,i<s.oth.length→(({s with cur:=c}:SL E).all.getD i default).cb=(s.all.getD i default).cb:=fun i hi=>by
  unfold SL.all;simp only[Jd,List.getElem?_set]
  by_cases hn:s.now=i
  ·subst hn;simp[h.now,hcb]
  ·simp[hn]
 refine⟨h.now,h.len,h.few,fun i hi=>(hall i hi).trans (h.at_ i hi),fun d hd=>?_,fun d hd=>?_,fun d hd=>?_,h.env⟩
 ·rcases hset d hd with rfl|hd
  ·rw[hup,hupb];exact h.up _ h.curMem
  ·exact h.up _ hd
 ·rcases hset d hd with rfl|hd
  ·rw[hup];exact h.upl _ h.curMem
  ·exact h.upl _ hd
 ·rcases hset d hd with rfl|hd
  ·exact hk
  ·exact h.sk _ hd
end
section
attribute [local irreducible] Run Cod End OpT Still RunQ RunS RunT Fn PutOk
theorem certs_ml{m:ML}(hwf:m.Wf)(hV:Ver.verify m.mdl= .ok):∃T,Vm.Certs m.mdl T:=by
 have hF:=formed (Ver.verify_iff.1 hV).form;refine Vm.certs_ok hV (fun k hk=>?_) (fun k hk i hi=>?_)
 ·rw[ML.unit_at];exact hF.good hwf (by simpa using hk)
 ·unfold Vm.unt at hi;rw[ML.unit_at]at hi;have:=(hwf.us _ (ML.uat_mem (m:=m) (by simpa using hk))).code i hi;exact⟨this.2.2,this.2.1⟩
def isT(m:ML)(k:Nat):Bool:=decide ((m.mdl.units.getD k default).kind=4)
theorem tasks_eq(m:ML):Vm.tasks m.mdl=(List.range m.us.length).filter (isT m):=by
 unfold Vm.tasks;simp only[ML.mdl,Jf];rfl
theorem tasks_succ(m:ML)(k:Nat):(List.range (k+1)).filter (isT m)=(List.range k).filter (isT m) ++if(m.us.getD k default).u.kind=4 then [k]else []:=by
 rw[List.range_succ,List.filter_append];congr 1;have e:isT m k=decide ((m.us.getD k default).u.kind=4):=by unfold isT;rw[ML.unit_at]
 simp only[List.filter_cons,List.filter_nil,e]
 by_cases h:(m.us.getD k default).u.kind=4<;>simp only[h,decide_true,decide_false,if_true,if_false,Bool.false_eq_true]
theorem tasks_len(m:ML)(k:Nat):((List.range k).filter (isT m)).length≤k:=by
 have:=List.length_filter_le (isT m) (List.range k);simpa using this
theorem tasks_is(mb:Nat)(m:ML)(hu:m.us.length≤1000):Fn Tryz.prog 28 #[ptr mb] [md m] [blk mb (mdV m) 25] (σ:=Option Addr×Nat) (fun _=>True) (fun s=> .slice s.1 (Vm.tasks m.mdl).length s.2) (fun s=>[arr s.1 (Vm.tasks m.mdl).length s.2 3 natC (Vm.tasks m.mdl),blk mb (mdV m) 25]):=by
 rw[tasks_eq];refine JE [ptr mb] Tryz.func28 Tryz.ntmps28 fun w S=>?_
 (refine Jn ?_)
 repeat(refine Jy ?_;try first|intro ao cap|intro b)
 apply Cod.imp (fun w hm=>hm.nilArr 3 natC);refine Cod.only ((fun z=>[old w S,md m,blk mb (mdV m) 25,arr z.2.1 ((List.range z.1).filter (isT m)).length z.2.2 3 natC ((List.range z.1).filter (isT m))]) (0,none,0)) (tks) ?_;apply Cod.loop (σ:=Nat×Option Addr×Nat) (fun z=>z.1≤m.us.length) (fun z=>[(0,ptr mb),(3, .slice z.2.1 ((List.range z.1).filter (isT m)).length z.2.2),(9, .slice m.uo m.us.length m.uc),(10, .int .i64 (m.us.length:Int)),(11, .int .i64 (z.1:Int))]) (fun z=>[old w S,md m,blk mb (mdV m) 25,arr z.2.1 ((List.range z.1).filter (isT m)).length z.2.2 3 natC ((List.range z.1).filter (isT m))]) (fun z=>m.us.length-z.1) (0,none,0)
 rotate_left
 exact sb;exact tks;intro z hz K1 hK1;(refine Jn ?_)
 rotate_left
 ·exact Nat.zero_le _
 obtain⟨q,ao,ac⟩:=z;simp only at hz hK1⊢;have htl:=tasks_len m q
 by_cases hq:q<m.us.length
 ·have hsn:=tasks_succ m q
  by_cases h4:(m.us.getD q default).u.kind=4
  ·rw[if_pos h4]at hsn;have hsl:((List.range (q+1)).filter (isT m)).length=((List.range q).filter (isT m)).length+1:=by rw[hsn];simp
   repeat(refine Jy ?_;try first|intro ao cap|intro b)
   rw[←hsn,←hsl];refine End.round0_ hK1 (q+1,ao,cap) ?_ ?_
   ·simp only;omega
   ·simp only;omega
  ·rw[if_neg h4,List.append_nil]at hsn
   repeat(refine Jy ?_;try first|intro ao cap|intro b)
   rw[←hsn];refine End.round0_ hK1 (q+1,ao,ac) ?_ ?_
   ·simp only;omega
   ·simp only;omega
 ·obtain rfl:q=m.us.length:=by omega
  repeat(refine Jy ?_;try first|intro ao cap|intro b)
  (refine End.done1_ ((ao,ac)) (he:=Jv) (hp:=?_));trivial
end
attribute [local irreducible] Run Cod End OpT Still RunQ RunS RunT Fn PutOk
theorem tasks9_is(m:ML)(hu:m.us.length≤1000):Fn Tryz.prog 33 #[m.val] [md m] [] (σ:=Option Addr×Nat) (fun _=>True) (fun s=> .slice s.1 (Vm.tasks m.mdl).length s.2) (fun s=>[arr s.1 (Vm.tasks m.mdl).length s.2 3 natC (Vm.tasks m.mdl)]):=by
 rw[tasks_eq];refine JE [m.val] Tryz.func33 Tryz.ntmps33 fun w S=>?_
 (refine Jn ?_)
 repeat(refine Jy ?_;try first|intro ao cap|intro b)
 obtain⟨mb,rfl⟩:∃x,x=b:=⟨_,rfl⟩;apply Cod.imp (fun w hm=>hm.nilArr 3 natC);refine Cod.only ((fun z=>[old w S,md m,blk mb (mdV m) 25,arr z.2.1 ((List.range z.1).filter (isT m)).length z.2.2 3 natC ((List.range z.1).filter (isT m))]) (0,none,0)) (tks) ?_;apply Cod.loop (σ:=Nat×Option Addr×Nat) (fun z=>z.1≤m.us.length) (fun z=>[(1,ptr mb),(3, .slice z.2.1 ((List.range z.1).filter (isT m)).length z.2.2),(7, .int .i64 (m.us.length:Int)),(8, .int .i64 (z.1:Int))]) (fun z=>[old w S,md m,blk mb (mdV m) 25,arr z.2.1 ((List.range z.1).filter (isT m)).length z.2.2 3 natC ((List.range z.1).filter (isT m))]) (fun z=>m.us.length-z.1) (0,none,0)
 rotate_left
 exact sb;exact tks;intro z hz K1 hK1;(refine Jn ?_)
 rotate_left
 ·exact Nat.zero_le _
 obtain⟨q,ao,ac⟩:=z;simp only at hz hK1⊢;have htl:=tasks_len m q
 by_cases hq:q<m.us.length
 ·have hsn:=tasks_succ m q
  by_cases h4:(m.us.getD q default).u.kind=4
  ·rw[if_pos h4]at hsn;have hsl:((List.range (q+1)).filter (isT m)).length=((List.range q).filter (isT m)).length+1:=by rw[hsn];simp
   repeat(refine Jy ?_;try first|intro ao cap|intro b)
   rw[←hsn,←hsl];refine End.round0_ hK1 (q+1,ao,cap) ?_ ?_
   ·simp only;omega
   ·simp only;omega
  ·rw[if_neg h4,List.append_nil]at hsn
   repeat(refine Jy ?_;try first|intro ao cap|intro b)
   rw[←hsn];refine End.round0_ hK1 (q+1,ao,ac) ?_ ?_
   ·simp only;omega
   ·simp only;omega
 ·obtain rfl:q=m.us.length:=by omega
  repeat(refine Jy ?_;try first|intro ao cap|intro b)
  (refine End.done1_ ((ao,ac)) (he:=Jv) (hp:=?_));trivial
end Go.Proofs.YtjehflelkpacfaaGreat.Vw
namespace Go.Proofs.YtjehflelkpacfaaGreat.Vm
open ImgM Ver Opt
structure Bs where
 ws:List (List Int)
 log:List (Nat×Ev)
def capN(M:Mdl)(b:Nat):Nat:=(M.boxes.getD b default).2.toNat
def bxs(M:Mdl)(told:Option Nat):Env Bs where
 full s b:=decide ((s.ws.getD b []).length=capN M b)
 empty s b:=decide ((s.ws.getD b []).length=0)
 put s b v:={s with ws:=s.ws.set b (s.ws.getD b [] ++[v])}
 take s b:=((s.ws.getD b []).headD 0,{s with ws:=s.ws.set b (s.ws.getD b []).tail})
 tell s e:=match told with
  |none=>s
  |some k=>{s with log:=s.log ++[(k,e)]}
structure Ma where
 ts:List Tk
 bs:Bs
 n:Nat
def Ma.init(M:Mdl):Ma:=⟨(tasks M).map (Vm.new M),⟨List.replicate M.boxes.length [],[]⟩,0⟩
def tOf(told:Bool)(k:Nat):Option Nat:=if told then some k else none
def Ma.at_(c:Ma)(k:Nat):Tk×Bs:=(c.ts.getD k default,c.bs)
def pick1{ν:Type}(V:Env ν)(M:Mdl)(n:Nat)(q:Int)(r:Tk×ν):(Int×Nat)×(Tk×ν):=
 if q<1∨10000<q then((5,0),r)
 else if(look V M r).1.st≠1 then((11,0),look V M r)
 else(if(goN V M (min q.toNat (20000-n)) (look V M r)).1=0 then(10,0)else(0,(goN V M (min q.toNat (20000-n)) (look V M r)).1),(goN V M (min q.toNat (20000-n)) (look V M r)).2)
def pick(M:Mdl)(told:Bool)(c:Ma)(p:Int×Int):(Int×Nat)×Ma:=
 if p.1<0∨(c.ts.length:Int)≤p.1 then((3,0),c)
 else
  let r:=pick1 (bxs M (tOf told p.1.toNat)) M c.n p.2 (c.at_ p.1.toNat)
  (r.1,⟨c.ts.set p.1.toNat r.2.1,r.2.2,c.n+r.1.2⟩)
def picks(M:Mdl)(told:Bool):List (Int×Int)→Ma→List (Int×Nat)×Ma
 |[],c=>([],c)
 |p::l,c=>((pick M told c p).1::(picks M told l (pick M told c p).2).1,(picks M told l (pick M told c p).2).2)
def Ma.looked(M:Mdl)(c:Ma):Ma:=⟨c.ts.map fun t=>(look (bxs M none) M (t,c.bs)).1,c.bs,c.n⟩
def Ma.ready(c:Ma):List Nat:=(List.range c.ts.length).filter fun k=>decide ((c.ts.getD k default).st=1)
def nextOf(l:List Nat)(last:Int):Nat:=(l.find? fun k:Nat=>decide (last<(k:Int))).getD (l.headD 0)
def settle(M:Mdl)(q:Int):Nat→Int→Ma→Option Ma
 |0,_,c=>none
 |n+1,last,c=>
  let c:=c.looked M
  if c.ready=[]then some c
  else
   let r:=pick M false c ((nextOf c.ready last:Int),q)
   if r.1.1≠0 then none else settle M q n (nextOf c.ready last) r.2
def lastOf(l:List (Int×Int))(d:List (Int×Nat)):Int:=((l.zip d).filter fun x=>decide (x.2.1=0)).foldl (fun _ x=>x.1.1) (-1)
def wrong(M:Mdl)(n:Nat):Int:=if(verify M).err≠0 then(verify M).err else if 400<n then 5 else 0
end Go.Proofs.YtjehflelkpacfaaGreat.Vm
namespace Go.Proofs.YtjehflelkpacfaaGreat.Vw
open Go.RowKit Go.Proofs.YtjehflelkpacfaaGreat.Img
attribute [local irreducible] Run Cod End OpT Still RunQ RunS RunT Fn PutOk
structure WxP where
 bb:Nat
 co:Option Addr
 cc:Nat
 caps:List Int
 wo:Option Addr
 wc:Nat
abbrev wxV(p:WxP):List Value:=[.slice p.co p.caps.length p.cc, .slice p.wo p.caps.length p.wc]
abbrev wxL(p:WxP)(e:List Rw):List Chunk:=[blk p.bb (wxV p) 97,arr p.wo p.caps.length p.wc 63 rwC e,bag (e.map (rowM 2))]
def wxM(p:WxP)(e:List Rw):Chunk:=bag (wxL p e)
@[simp] theorem wxM_excl (p : WxP) (e : List Rw) : (wxM p e).excl = true := bag_excl
theorem wxL_excl(p:WxP)(e:List Rw):∀c∈wxL p e,c.excl=true:=by simp[blk_excl,arr_excl,bag_excl]
abbrev wxR(p:WxP):Chunk:=rd p.co p.caps.length p.cc i64c p.caps
theorem wxR_excl(p:WxP):(wxR p).excl=false:=rd_excl
theorem Mem.wxOut{w:World}{L L':List Chunk}{p:WxP}{e:List Rw}(h:Mem w L)(t:Take (wxM p e) L L'):Mem w (wxL p e ++L'):=(h.take t).unpack
theorem Mem.wxIn{w:World}{L L':List Chunk}{p:WxP}{e:List Rw}(h:Mem w L)(t:Takes (wxL p e) L L'):Mem w (wxM p e::L'):=(h.takes t).pack (wxL_excl p e)
structure WxOk(M:ImgM.Mdl)(p:WxP)(e:List Rw):Prop where
 caps:p.caps=M.boxes.map (·.2)
 len:e.length=M.boxes.length
 pos:∀b,b<M.boxes.length→1≤(M.boxes.getD b default).2∧(M.boxes.getD b default).2≤20
 fit:∀b,b<M.boxes.length→(e.getD b default).l.length≤Vm.capN M b
def wxAbs(e:List Rw):Vm.Bs:=⟨e.map (·.l),[]⟩
section
variable{M:ImgM.Mdl}{p:WxP}{e:List Rw}
theorem WxOk.cap(h:WxOk M p e){b:Nat}(hb:b<M.boxes.length):p.caps.getD b default=((Vm.capN M b:Nat):Int):=by
 have:=h.pos b hb;rw[h.caps,Jd,JU,Je hb];unfold Vm.capN;rw[Jd,Je hb]at this⊢;show(M.boxes[b]).2=_;exact(Jo' (by simpa using Int.le_trans (by decide) this.1)).symm
theorem WxOk.capsLen(h:WxOk M p e):p.caps.length=M.boxes.length:=by rw[h.caps,Jf]
theorem WxOk.small(h:WxOk M p e){b:Nat}(hb:b<M.boxes.length):(e.getD b default).l.length≤20:=by
 have h1:=h.fit b hb;have h2:=(h.pos b hb).2;unfold Vm.capN at h1;omega
theorem WxOk.put(h:WxOk M p e){s u:List Rw}{r r':Rw}(he:e=s ++r::u)(hf:r'.l.length≤Vm.capN M s.length):WxOk M p (s ++r'::u):=by
 obtain⟨h1,h2,h3,h4⟩:=h;refine⟨h1,by rw[he]at h2;simpa using h2,h3,fun b hb=>?_⟩;have e1:(s ++r'::u)=e.set s.length r':=by rw[he];exact(set_split s u r r').symm
 rw[e1]
 by_cases hbs:s.length=b
 ·subst hbs;rw[Jd,JS (by rw[h2];exact hb)];exact hf
 ·have h4b:=h4 b hb;simp only[Jd]at h4b⊢;rw[List.getElem?_set_ne hbs];exact h4b
theorem wxAbs_put{s u:List Rw}{r r':Rw}(he:e=s ++r::u):wxAbs (s ++r'::u)=⟨(wxAbs e).ws.set s.length r'.l,[]⟩:=by
 unfold wxAbs;rw[he];have:=set_split (s.map (·.l)) (u.map (·.l)) r.l r'.l;rw[Jf]at this;simp only[Jq,List.map_cons];rw[this]
end
section
variable(M:ImgM.Mdl)(p:WxP)(e:List Rw)
theorem wxRoom_is(he:WxOk M p e)(b:Nat)(hb:b<M.boxes.length):Fn Tryz.prog 136 #[ptr p.bb, .int .i64 (b:Int)] [wxR p] [wxM p e] (σ:=Unit) (fun _=>True) (fun _=> .bool (!(Vm.bxs M none).full (wxAbs e) b)) (fun _=>[wxM p e]):=by
 have hcl:=he.capsLen;have hcb:=he.cap hb;have hfit:=he.fit b hb;refine Fn.enter (args:=[ptr p.bb, .int .i64 (b:Int)]) Tryz.func136 rfl _ Tryz.ntmps136 rfl (by simp[rd_excl]) (fun w S=>?_);(refine Jn ?_);apply Cod.imp (fun w hm=>Mem.wxOut hm (tk));(refine Jn ?_)
 repeat(refine Jy ?_;try first|intro ao cap|intro b)
 apply End.imp (fun w hm=>Mem.wxIn (p:=p) (e:=e) hm (tks));refine End.done1_ () (he:=?_) (hp:=trivial) (hx:=by simp[wxM_excl]);rw[hcb];refine bool_eq ?_;show _= !decide (((e.map (·.l)).getD b []).length=Vm.capN M b);rw[getD_ws,←decide_not];refine decide_eq_decide.2 ?_;omega
theorem wxSome_is(he:WxOk M p e)(b:Nat)(hb:b<M.boxes.length):Fn Tryz.prog 137 #[ptr p.bb, .int .i64 (b:Int)] [wxR p] [wxM p e] (σ:=Unit) (fun _=>True) (fun _=> .bool (!(Vm.bxs M none).empty (wxAbs e) b)) (fun _=>[wxM p e]):=by
 have hcl:=he.capsLen;refine Fn.enter (args:=[ptr p.bb, .int .i64 (b:Int)]) Tryz.func137 rfl _ Tryz.ntmps137 rfl (by simp[rd_excl]) (fun w S=>?_);(refine Jn ?_);apply Cod.imp (fun w hm=>Mem.wxOut hm (tk));(refine Jn ?_)
 repeat(refine Jy ?_;try first|intro ao cap|intro b)
 apply End.imp (fun w hm=>Mem.wxIn (p:=p) (e:=e) hm (tks));refine End.done1_ () (he:=?_) (hp:=trivial) (hx:=by simp[wxM_excl]);refine bool_eq ?_;show _= !decide (((e.map (·.l)).getD b []).length=0);rw[getD_ws,←decide_not];refine decide_eq_decide.2 ?_;omega
theorem wxGet_is(he:WxOk M p e)(b:Nat)(hb:b<M.boxes.length)(hf:(Vm.bxs M none).empty (wxAbs e) b=false):Fn Tryz.prog 134 #[ptr p.bb, .int .i64 (b:Int)] [wxR p] [wxM p e] (σ:=List Rw) (fun e'=>WxOk M p e'∧wxAbs e'=((Vm.bxs M none).take (wxAbs e) b).2) (fun _=> .int .i64 ((Vm.bxs M none).take (wxAbs e) b).1) (fun e'=>[wxM p e']):=by
 have hcl:=he.capsLen;have hfit:=he.fit b hb;obtain⟨s1,u1,hsp,hlen⟩:=split_at (l:=e) (k:=b) (by rw[he.len];exact hb);obtain⟨r,hr⟩:∃r,r=e.getD b default:=⟨_,rfl⟩;have hws:(wxAbs e).ws.getD b []=r.l:=by rw[hr];exact getD_ws e b
 have hne:r.l.length≠0:=by
  have h:decide (((wxAbs e).ws.getD b []).length=0)=false:=hf;rw[hws]at h;simpa using h
 have hv:((Vm.bxs M none).take (wxAbs e) b).1=r.l.getD 0 default:=by
  show((wxAbs e).ws.getD b []).headD 0=_;rw[hws]
  cases r.l<;>rfl
 have hq:((Vm.bxs M none).take (wxAbs e) b).2=⟨(wxAbs e).ws.set b r.l.tail,[]⟩:=by
  show(⟨(wxAbs e).ws.set b ((wxAbs e).ws.getD b []).tail,[]⟩:Vm.Bs)=_;rw[hws]
 rw[hv,hq];rw[←hr]at hsp hfit;clear hr hv hq hws hf;subst hsp;subst hlen;have hgr:(s1 ++r::u1).getD s1.length default=r:=getD_split _ _ _;have hput:=fun(X:Rw) (h:X.l.length≤Vm.capN M s1.length)=>he.put (r':=X) rfl h
 refine Fn.enter (args:=[ptr p.bb, .int .i64 (s1.length:Int)]) Tryz.func134 rfl _ Tryz.ntmps134 rfl (by simp[rd_excl]) (fun w S=>?_);(refine Jn ?_);apply Cod.imp (fun w hm=>Mem.wxOut hm (tk));apply Cod.imp (fun w hm=>Mem.rowOut hm (tk));(refine Jn ?_);have hlt:s1.length<p.caps.length:=by omega
 repeat(refine Jy ?_;try first|intro ao cap|intro b)
 rw[hgr]
 repeat(refine Jy ?_;try first|intro ao cap|intro b)
 (apply Run.op;exact rfl;refine OpT.val_ (h:=by(apply Still.at_;exact rfl;exact rfl;exact Jr;exact rfl;exact rfl;exact rfl;exact ix_zero;omega)) (k:=?_))
 repeat(refine Jy ?_;try first|intro ao cap|intro b)
 apply Cod.draw 14 ([blk p.bb (wxV p) 97,arr p.wo p.caps.length p.wc 63 rwC (s1 ++r::u1)]) (by kernel_rfl) 15 rfl;refine JR 0 ?_;refine JR 1 ?_;refine JR 2 ?_;refine JR 3 ?_;refine JR 4 ?_;refine JR 5 ?_;refine JR 6 ?_;refine JR 7 ?_;refine JR 8 ?_;refine JR 9 ?_;refine JR 10 ?_;refine JR 11 ?_;rw[hgr];(refine JT 12 ?_;refine OpT.cutA1_ (lo:=1) (k:=?_);intro ao cap;refine JG ?_);refine JR 13 ?_;(refine JT 14 ?_;refine OpT.storeE_ (f:=rwC) (l:=s1 ++r::u1) (i:=s1.length) (off:=0) (vs:=[.slice ao (r.l.length-1) cap]) (a':=(⟨ao,cap,r.l.drop 1⟩:Rw)) (hp:=by rw[hgr,show rwC ⟨ao,cap,r.l.drop 1⟩=[.slice ao (r.l.length-1) cap] by simp[rwC]];exact Put.take .done) (k:=?_);refine JG ?_);rw[set_split];(apply RunT.done;kernel_rfl)
 repeat(refine Jy ?_;try first|intro ao cap|intro b)
 have hle:(r.l.drop 1).length=r.l.length-1:=by simp
 rw[←hle];obtain⟨X,hX⟩:∃X:Rw,X=⟨ao,cap,r.l.drop 1⟩:=⟨_,rfl⟩;have hXl:X.l=r.l.drop 1:=by rw[hX]
 have hao:ao=X.o:=by rw[hX]
 have hac:cap=X.c:=by rw[hX]
 rw[←hX,hao,hac,←hXl];apply End.imp (fun w hm=>Mem.rowIn (r:=X) hm (tk) (tks));apply End.imp (fun w hm=>Mem.wxIn (p:=p) (e:=s1 ++X::u1) hm (tks));refine End.done1_ (s1 ++X::u1:List Rw) (he:=by rfl) (hp:=⟨hput X (by rw[hXl,hle];omega),?_⟩) (hx:=by simp[wxM_excl]);rw[wxAbs_put (r':=X) rfl,hXl,List.drop_one]
theorem wxGive_is(he:WxOk M p e)(b:Nat)(hb:b<M.boxes.length)(v:Int)(hf:(Vm.bxs M none).full (wxAbs e) b=false):Fn Tryz.prog 135 #[ptr p.bb, .int .i64 (b:Int), .int .i64 v] [wxR p] [wxM p e] (σ:=List Rw) (fun e'=>WxOk M p e'∧wxAbs e'=(Vm.bxs M none).put (wxAbs e) b v) (fun _=> .tuple #[]) (fun e'=>[wxM p e']):=by
 have hcl:=he.capsLen;have hfit:=he.fit b hb;have hsm:=he.small hb;obtain⟨s1,u1,hsp,hlen⟩:=split_at (l:=e) (k:=b) (by rw[he.len];exact hb);obtain⟨r,hr⟩:∃r,r=e.getD b default:=⟨_,rfl⟩;have hws:(wxAbs e).ws.getD b []=r.l:=by rw[hr];exact getD_ws e b
 rw[←hr]at hsp hfit hsm;have hne:r.l.length≠Vm.capN M b:=by
  have h:decide (((wxAbs e).ws.getD b []).length=Vm.capN M b)=false:=hf;rw[hws]at h;simpa using h
 have hq:(Vm.bxs M none).put (wxAbs e) b v=⟨(wxAbs e).ws.set b (r.l ++[v]),[]⟩:=by
  show(⟨(wxAbs e).ws.set b ((wxAbs e).ws.getD b [] ++[v]),[]⟩:Vm.Bs)=_;rw[hws]
 rw[hq];clear hr hq hws hf;subst hsp;subst hlen;have hgr:(s1 ++r::u1).getD s1.length default=r:=getD_split _ _ _;have hput:=fun(X:Rw) (h:X.l.length≤Vm.capN M s1.length)=>he.put (r':=X) rfl h
 refine Fn.enter (args:=[ptr p.bb, .int .i64 (s1.length:Int), .int .i64 v]) Tryz.func135 rfl _ Tryz.ntmps135 rfl (by simp[rd_excl]) (fun w S=>?_);(refine Jn ?_);apply Cod.imp (fun w hm=>Mem.wxOut hm (tk));apply Cod.imp (fun w hm=>Mem.rowOut hm (tk));(refine Jn ?_);have hlt:s1.length<p.caps.length:=by omega
 repeat(refine Jy ?_;try first|intro ao cap|intro b)
 apply Cod.draw 18 ([blk p.bb (wxV p) 97,arr p.wo p.caps.length p.wc 63 rwC (s1 ++r::u1)]) (by kernel_rfl) 19 rfl;refine JR 0 ?_;refine JR 1 ?_;refine JR 2 ?_;refine JR 3 ?_;refine JR 4 ?_;refine JR 6 ?_;refine JR 7 ?_;refine JR 8 ?_;refine JR 9 ?_;refine JR 10 ?_;refine JR 11 ?_;refine JR 12 ?_;rw[hgr];refine JR 14 ?_;refine RunT.meet (σ:=Option Addr×Nat×Nat) (fun s=>[(9, .slice p.wo p.caps.length p.wc),(10, .int .i64 (s1.length:Int)),(19, .slice s.1 r.l.length s.2.1),(21, .slice (some ⟨s.2.2,0,none⟩) 1 1)]) (fun s=>[arr s.1 r.l.length s.2.1 2 i64c r.l,arr (some ⟨s.2.2,0,none⟩) 1 1 2 i64c [v],blk p.bb (wxV p) 97,arr p.wo p.caps.length p.wc 63 rwC (s1 ++r::u1),bag ((s1 ++u1).map (rowM 2)),old w S,wxR p]) 3 #[true,true,true,true,true,true,true,true,true,true,true,true,true,true,true,true,false,false,false] ?_ ?_
 ·rintro⟨ao,cap,pb⟩;dsimp only;refine RunT.one 16 (by kernel_rfl) (by exact rfl) (by exact rfl) ?_;refine OpT.appendS_ (l2:=[v]) (k:=?_);intro a2 c2;refine JG ?_;refine JR 17 ?_;(refine JT 18 ?_;refine OpT.storeE_ (f:=rwC) (l:=s1 ++r::u1) (i:=s1.length) (off:=0) (vs:=[.slice a2 (r.l.length+1) c2]) (a':=(⟨a2,c2,r.l ++[v]⟩:Rw)) (hp:=by rw[hgr,show rwC ⟨a2,c2,r.l ++[v]⟩=[.slice a2 (r.l.length+1) c2] by simp[rwC]];exact Put.take .done) (k:=?_);refine JG ?_);rw[set_split];(apply RunT.done;kernel_rfl)
  repeat(refine Jy ?_;try first|intro ao cap|intro b)
  have hle:(r.l ++[v]).length=r.l.length+1:=by simp
  rw[←hle];obtain⟨X,hX⟩:∃X:Rw,X=⟨a2,c2,r.l ++[v]⟩:=⟨_,rfl⟩;have hXl:X.l=r.l ++[v]:=by rw[hX]
  have hao:a2=X.o:=by rw[hX]
  have hac:c2=X.c:=by rw[hX]
  rw[←hX,hao,hac,←hXl];apply End.imp (fun w hm=>Mem.rowIn (r:=X) hm (tk) (tks));apply End.imp (fun w hm=>Mem.wxIn (p:=p) (e:=s1 ++X::u1) hm (tks));refine End.done0'_ (s1 ++X::u1:List Rw) (hp:=⟨hput X (by rw[hXl,hle];omega),?_⟩) (hx:=by simp[wxM_excl]);rw[wxAbs_put (r':=X) rfl,hXl]
 intro J0;refine RunT.two 5 15 (by kernel_rfl) (by exact rfl) (by exact rfl) (by exact rfl) (by exact rfl) ?_ ?_
 ·refine OpT.buildSlice0_ (k:=?_);intro zb;refine JG ?_;refine RunT.imp (fun w hm=>hm.toArr (iα:=inferInstance) (ef:=inferInstance) (b:=zb) (e:=2) (f:=i64c) (n:=0) (tk) ([]:List Int) rfl rfl (by unfold maxLen;simp)) ?_;refine RunT.two 13 15 (by kernel_rfl) (by exact rfl) (by exact rfl) (by exact rfl) (by exact rfl) ?_ ?_
  ·refine OpT.appendS_ (l2:=r.l) (k:=?_);intro ao cap;refine JG ?_;simp only[Nat.zero_add,Jk];refine RunT.one 15 (by kernel_rfl) (by exact rfl) (by exact rfl) ?_;refine OpT.buildSlice_ (k:=?_);intro pb;refine JG ?_;refine RunT.imp (fun w hm=>hm.toArr (iα:=inferInstance) (ef:=inferInstance) (b:=pb) (e:=2) (f:=i64c) (n:=1) (tk) ([v]:List Int) rfl rfl (by unfold maxLen;simp)) ?_;exact J0 (ao,cap,pb) (by kernel_rfl) (Ju) (tks)
  ·refine OpT.buildSlice_ (k:=?_);intro pb;refine JG ?_;refine RunT.imp (fun w hm=>hm.toArr (iα:=inferInstance) (ef:=inferInstance) (b:=pb) (e:=2) (f:=i64c) (n:=1) (tk) ([v]:List Int) rfl rfl (by unfold maxLen;simp)) ?_;refine RunT.one 13 (by kernel_rfl) (by exact rfl) (by exact rfl) ?_;refine OpT.appendS_ (l2:=r.l) (k:=?_);intro ao cap;refine JG ?_;simp only[Nat.zero_add,Jk];exact J0 (ao,cap,pb) (by kernel_rfl) (Ju) (tks)
 ·refine OpT.buildSlice_ (k:=?_);intro pb;refine JG ?_;refine RunT.imp (fun w hm=>hm.toArr (iα:=inferInstance) (ef:=inferInstance) (b:=pb) (e:=2) (f:=i64c) (n:=1) (tk) ([v]:List Int) rfl rfl (by unfold maxLen;simp)) ?_;refine RunT.one 5 (by kernel_rfl) (by exact rfl) (by exact rfl) ?_;refine OpT.buildSlice0_ (k:=?_);intro zb;refine JG ?_;refine RunT.imp (fun w hm=>hm.toArr (iα:=inferInstance) (ef:=inferInstance) (b:=zb) (e:=2) (f:=i64c) (n:=0) (tk) ([]:List Int) rfl rfl (by unfold maxLen;simp)) ?_;refine RunT.one 13 (by kernel_rfl) (by exact rfl) (by exact rfl) ?_;refine OpT.appendS_ (l2:=r.l) (k:=?_);intro ao cap;refine JG ?_;simp only[Nat.zero_add,Jk];exact J0 (ao,cap,pb) (by kernel_rfl) (Ju) (tks)
end
end Go.Proofs.YtjehflelkpacfaaGreat.Vw
namespace Go.Proofs.YtjehflelkpacfaaGreat.Vm
open ImgM Ver Opt Vw
section
variable{E:EnvR}(hT:∀s e,E.V.tell s e=s){M:Mdl}
theorem lookW(t:Tk)(s:E.ν)(l:List Ev):look E.W M (t,(s,l))=((look E.V M (t,s)).1,(s,l)):=by
 unfold look waits
 by_cases h:t.st≤3
 ·rw[if_pos h,if_pos h];show(if(insT M t).op=26∧E.V.full s (insT M t).a.toNat=true then _ else if(insT M t).op=27∧E.V.empty s (insT M t).a.toNat=true then _ else _)=_;dsimp only
  split
  ·rfl
  split<;>rfl
 ·rw[if_neg h,if_neg h]
include hT in
theorem playW(s:E.ν×List Ev)(e:Ev):play E.W s e=(play E.V s.1 e,s.2 ++[e]):=by
 unfold play
 split
 ·show((_,_):E.ν×List Ev)=(E.V.tell _ _,_);rw[hT];rfl
 split
 ·show((_,_):E.ν×List Ev)=(E.V.tell _ _,_);rw[hT];rfl
 ·show((_,_):E.ν×List Ev)=(E.V.tell _ _,_);rw[hT]
include hT in
theorem playsW:∀(es:List Ev) (s:E.ν×List Ev),es.foldl (play E.W) s=(es.foldl (play E.V) s.1,s.2 ++es)
 |[],s=>by simp
 |e::es,s=>by
  simp only[List.foldl_cons];rw[playsW es,playW hT];simp
include hT in
theorem stepW(t:Tk)(s:E.ν)(l:List Ev):(step E.W M (t,(s,l))).1=(step E.V M (t,s)).1∧(step E.W M (t,(s,l))).2.1=(step E.V M (t,s)).2.1∧(step E.W M (t,(s,l))).2.2.1=(step E.V M (t,s)).2.2∧(step E.W M (t,(s,l))).2.2.2=l ++evs E.V M (t,s):=by
 have hl:=lookW (M:=M) t s l;have hl1:(look E.W M (t,(s,l))).1=(look E.V M (t,s)).1:=by rw[hl]
 by_cases hs:(look E.V M (t,s)).1.st=1
 ·have hs':(look E.W M (t,(s,l))).1.st=1:=by rw[hl1];exact hs
  have hi:inp E.W M (t,(s,l))=inp E.V M (t,s):=rfl;rw[step_yes _ M hs,step_yes _ M hs',hi,hl1];unfold evs;rw[if_pos hs];generalize lstep M (inp E.V M (t,s)) (look E.V M (t,s)).1=r;have e1:pl E.W (t,(s,l)).2 r=(r.1,(r.2.foldl (play E.V) s,l ++r.2)):=by
   show((_,_):Tk×(E.ν×List Ev))=_;rw[playsW hT]
  rw[e1,lookW];refine⟨rfl,rfl,?_,rfl⟩;rw[look_snd]
 ·have hs':¬(look E.W M (t,(s,l))).1.st=1:=by rw[hl1];exact hs
  rw[step_no _ M hs,step_no _ M hs'];unfold evs;rw[if_neg hs];refine⟨rfl,hl1,?_,?_⟩
  ·dsimp only;rw[look_snd,look_snd]
  ·dsimp only;rw[look_snd];simp
include hT in
theorem goNW:∀(n:Nat) (t:Tk) (s:E.ν) (l:List Ev),(goN E.W M n (t,(s,l))).1=(goN E.V M n (t,s)).1∧(goN E.W M n (t,(s,l))).2.1=(goN E.V M n (t,s)).2.1∧(goN E.W M n (t,(s,l))).2.2.1=(goN E.V M n (t,s)).2.2
 |0,t,s,l=>⟨rfl,rfl,rfl⟩
 |n+1,t,s,l=>by
  obtain⟨h1,h2,h3, -⟩:=stepW hT (M:=M) t s l;unfold goN;rw[h1]
  by_cases hb:(step E.V M (t,s)).1=true
  ·rw[if_pos hb,if_pos hb];obtain⟨g1,g2,g3⟩:=goNW n (step E.V M (t,s)).2.1 (step E.V M (t,s)).2.2 (step E.W M (t,(s,l))).2.2.2;have e1:(step E.W M (t,(s,l))).2=((step E.V M (t,s)).2.1,((step E.V M (t,s)).2.2,(step E.W M (t,(s,l))).2.2.2)):=Prod.ext h2 (Prod.ext h3 rfl);have e2:(step E.V M (t,s)).2=((step E.V M (t,s)).2.1,(step E.V M (t,s)).2.2):=rfl;rw[e1,e2];dsimp only;exact⟨by rw[g1],g2,g3⟩
  ·rw[if_neg hb,if_neg hb];exact⟨rfl,h2,h3⟩
end
end Go.Proofs.YtjehflelkpacfaaGreat.Vm
namespace Go.Proofs.YtjehflelkpacfaaGreat.Vm
open ImgM Ver Opt
section
variable{ν:Type}{V:Env ν}{M:Mdl}
end
structure Beg(r s:Tk×Ls):Prop where
 out:r.1.out<+:s.1.out
 len:r.2.sent.length=s.2.sent.length
 sent:∀b,r.2.sent.getD b []<+:s.2.sent.getD b []
def Alk(t t':Tk):Prop:=t=t'∨(t.st≤3∧∃a b,a≤3∧t'={t with st:=a,bx:=b})
theorem look_alk{ν:Type}(V:Env ν)(M:Mdl){t t':Tk}(h:Alk t t')(s:ν):look V M (t,s)=look V M (t',s):=by
 rcases h with rfl|⟨h3,a,b,ha,rfl⟩
 ·rfl
 ·unfold look;rw[if_pos (show(t,s).1.st≤3 from h3),if_pos (show(({t with st:=a,bx:=b}:Tk),s).1.st≤3 from ha)];rfl
structure Longer(M:Mdl)(F G:List (List Int)):Prop where
 pre:∀b,b<M.boxes.length→F.getD b []<+:G.getD b []
theorem look_ready{ν:Type}{V:Env ν}{M:Mdl}{r:Tk×ν}(h:(look V M r).1.st=1):
  r.1.st≤3∧((insT M r.1).op=26→V.full r.2 (insT M r.1).a.toNat=false)∧((insT M r.1).op=27→V.empty r.2 (insT M r.1).a.toNat=false):=by
 by_cases h3:r.1.st≤3
 ·refine⟨h3,?_⟩;unfold look waits at h;rw[if_pos h3]at h
  by_cases c1:(insT M r.1).op=26∧V.full r.2 (insT M r.1).a.toNat=true
  ·rw[if_pos c1]at h;cases h
  rw[if_neg c1]at h
  by_cases c2:(insT M r.1).op=27∧V.empty r.2 (insT M r.1).a.toNat=true
  ·rw[if_pos c2]at h;cases h
  refine⟨fun ho=>?_,fun ho=>?_⟩
  ·cases hx:V.full r.2 (insT M r.1).a.toNat with
   |false=>rfl
   |true=>exact absurd ⟨ho,hx⟩ c1
  ·cases hx:V.empty r.2 (insT M r.1).a.toNat with
   |false=>rfl
   |true=>exact absurd ⟨ho,hx⟩ c2
 ·unfold look at h;rw[if_neg h3]at h;omega
theorem look_one{ν:Type}{V:Env ν}{M:Mdl}{r:Tk×ν}(h3:r.1.st≤3)(h26:(insT M r.1).op=26→V.full r.2 (insT M r.1).a.toNat=false)(h27:(insT M r.1).op=27→V.empty r.2 (insT M r.1).a.toNat=false):
  look V M r=({r.1 with st:=1,bx:=0},r.2):=by
 unfold look waits;rw[if_pos h3,if_neg (fun h=>by rw[h26 h.1]at h;exact absurd h.2 (by simp)),if_neg (fun h=>by rw[h27 h.1]at h;exact absurd h.2 (by simp))]
section
variable{M:Mdl}{T:Nat→Int→Option Shape}{F G:List (List Int)}(hC:Certs M T)(hF:Fed M F)(hl:Longer M F G)
include hC hF hl
end
structure Goes(M:Mdl)(F:List (List Int))(n:Nat)(r:Nat×(Tk×Ls)):Prop where
 steps:r.1≤n
 sent:r.2.2.sent.length=M.boxes.length
 took:r.2.2.took.length=M.boxes.length
 le:∀b,b<M.boxes.length→r.2.2.took.getD b 0≤(F.getD b []).length
 typ:∀b,b<M.boxes.length→Typed (M.boxes.getD b default).1 (r.2.2.sent.getD b [])
 st:(r.2.1.st=3∧0≤r.2.1.bx∧r.2.1.bx.toNat<M.boxes.length∧r.2.2.took.getD r.2.1.bx.toNat 0=(F.getD r.2.1.bx.toNat []).length)∨(r.2.1.st=1∧r.1=n)∨r.2.1.st=4∨r.2.1.st=5
end Go.Proofs.YtjehflelkpacfaaGreat.Vm
