/- A task's small functions, walked. -/
import Derived.Test.YtofckcabpchcmaaGreatDoorM17
set_option linter.unusedVariables false
set_option linter.unusedSimpArgs false
set_option linter.unusedSectionVars false
set_option maxRecDepth 100000
namespace Go.Proofs.YtofckcabpchcmaaGreatDoor
namespace Vw
open Go.RowKit Img
section
attribute [local irreducible] aE aG End aB Still aN aU RunT Fn aS
variable(E:dK)
theorem A8(F:TF)(st tr:Int)(e:E.μ)(he:E.iY e)(a b v:Int):Fn Tryz.prog 66 #[ptr F.tb, .int .i64 a, .int .i64 b, .int .i64 v] [E.rc] [E.tc F st tr,E.mem e] (σ:=E.μ) (fun e'=>E.ok e'∧E.abs e'=E.V.tell (E.abs e) (a,b,v)) (fun _=> .tuple #[]) (fun e'=>[E.tc F st tr,E.mem e']):=by
 have hT:=E.tell;have key:Fn Tryz.prog 66 #[ptr F.tb, .int .i64 a, .int .i64 b, .int .i64 v] [E.rc] [aF F.tb (rV F.mb E.kE F.cos F.cb st F.bx tr F.out (j6 E.told)) 103,E.mem e] (σ:=E.μ) (fun e'=>E.ok e'∧E.abs e'=E.V.tell (E.abs e) (a,b,v)) (fun _=> .tuple #[]) (fun e'=>[aF F.tb (rV F.mb E.kE F.cos F.cb st F.bx tr F.out (j6 E.told)) 103,E.mem e']):=by
  cases ht:E.told with
  |none=>
   rw[ht]at hT;refine JE [ptr F.tb, .int .i64 a, .int .i64 b, .int .i64 v] Tryz.func66 Tryz.ntmps66 fun w S=>?_;refine aD ?_;(refine End.dL (e) (hp:=?_));exact⟨he.1,(hT _ _).symm⟩
  |some fc=>
   obtain⟨f,cap⟩:=fc;rw[ht]at hT;obtain⟨hb,hT⟩:=hT;have hT:=hT e a b v he.1 he.2;refine JE [ptr F.tb, .int .i64 a, .int .i64 b, .int .i64 v] Tryz.func66 Tryz.ntmps66 fun w S=>?_;refine aD ?_;(apply aE.op;exact rfl;refine aB.QM (spec:=hT) (hc:=hb) (r:=fun w=>Reads.any (tk) E.eC .nil) (k:=?_));intro s hs;refine aD ?_;(refine End.dL (s) (hp:=?_));exact hs
 exact key
theorem wE(F:TF)(st tr:Int)(e:E.μ)(he:E.iY e)(n:Int):Fn Tryz.prog 64 #[ptr F.tb, .int .i64 n] [E.rc] [E.tc F st tr,E.mem e] (σ:=Int×Int×E.μ) (H0 E n st tr e) (fun _=> .tuple #[]) (fun q=>[E.tc F q.1 q.2.1,E.mem q.2.2]):=by
 refine JE [ptr F.tb, .int .i64 n] Tryz.func64 Tryz.ntmps64 fun w S=>?_;refine Jn ?_
 by_cases h5:st=5
 ·refine aD ?_;(refine End.dL ((st,tr,e)) (hp:=?_));exact⟨fun _=>rfl,fun h=>absurd h5 h⟩
 ·refine aD ?_;(refine Jc ?_;refine aB.bA (spec:=A8 E F 5 n e he 5 0 n) (r:=fun w=>Reads.any (tk) E.eC .nil) (k:=?_);intro s hs;refine Jn ?_);refine aD ?_;(refine End.dL ((5,n,s)) (hp:=?_));exact⟨fun h=>absurd h h5,fun _=>⟨rfl,rfl,hs⟩⟩
theorem mK(F:TF)(st tr:Int)(e:E.μ)(he:E.iY e)(cst:Int)(up fr:Value)(k:Sk)(hk:k.Ok)(v:Int):Fn Tryz.prog 61 #[ptr F.tb, .int .i64 v] [E.rc] (E.tc F st tr::cc F.cb cst up fr k.sb::E.mem e::iQ k) (σ:=Sk×Int×Int×E.μ) (O7 E v k st tr e) (fun _=> .tuple #[]) (fun q=>E.tc F q.2.1 q.2.2.1::cc F.cb cst up fr q.1.sb::E.mem q.2.2.2::iQ q.1):=by
 refine JE [ptr F.tb, .int .i64 v] Tryz.func61 Tryz.ntmps61 fun w S=>?_;refine aD ?_;(refine dV (MT k hk v) fun s hs=>?_)
 by_cases h4:k.live=400
 ·rw[if_pos h4]at hs;rw[hs,decide_eq_true h4];refine aD ?_;(refine Jc ?_;refine aB.bA (spec:=wE E F st tr e he 4) (r:=fun w=>Reads.any (tk) E.eC .nil) (k:=?_);intro s hs;refine Jn ?_);refine aD ?_;(refine End.dL ((k,s)) (hp:=?_));exact⟨fun _=>⟨rfl,hs⟩,fun h=>absurd h4 h⟩
 ·rw[if_neg h4]at hs;rw[decide_eq_false h4];obtain⟨sb2,lb2,l2,live2⟩:=s;obtain rfl:sb2=k.sb:=hs.sb;refine aD ?_;(refine End.dL ((⟨k.sb,lb2,l2,live2⟩,st,tr,e)) (hp:=?_));exact⟨fun h=>absurd h h4,fun _=>⟨hs,rfl⟩⟩
theorem n9(F:TF)(st tr:Int)(cst:Int)(up fr:Value)(mail told:Value)(k:Sk)(hk:k.Ok)(h0:0<k.live):Fn Tryz.prog 63 #[ptr F.tb] [] (aF F.tb (rV F.mb mail F.cos F.cb st F.bx tr F.out told) 103::cc F.cb cst up fr k.sb::iQ k) (σ:=Sk) (fun k'=>pG k k' (k.ws.take (k.live-1))) (fun _=> .int .i64 (k.ws.getD (k.live-1) 0)) (fun k'=>aF F.tb (rV F.mb mail F.cos F.cb st F.bx tr F.out told) 103::cc F.cb cst up fr k'.sb::iQ k'):=by
 obtain⟨g1,g2,g3⟩:=id hk;refine JE [ptr F.tb] Tryz.func63 Tryz.ntmps63 fun w S=>?_;refine aD ?_;(refine dV (FX k) fun s hs=>?_);have s1:IntKind.i64.wrap ((k.live:Int)-1)=((k.live-1:Nat):Int):=by rw[dX aA];omega
 refine aD ?_;(refine iN (H7 k (k.live-1) aA g3) fun s hs=>?_);(refine dV (MS k hk 1 h0) fun s hs=>?_);obtain⟨sb2,lb2,l2,live2⟩:=s;obtain rfl:sb2=k.sb:=hs.sb;refine aD ?_;refine End.aX (⟨k.sb,lb2,l2,live2⟩:Sk) (he:=?_) (hp:=hs);show _=Value.int IntKind.i64 ((k.l.take k.live).getD (k.live-1) 0);rw[Jd,Jd,BW,if_pos aA];rfl
theorem Z8(F:TF)(st tr:Int)(cst:Int)(up fr:Value)(mail told:Value)(k:Sk)(hk:k.Ok)(n:Nat)(h0:n≤k.live):Fn Tryz.prog 108 #[ptr F.tb, .int .i64 n] [] (aF F.tb (rV F.mb mail F.cos F.cb st F.bx tr F.out told) 103::cc F.cb cst up fr k.sb::iQ k) (σ:=Sk×Option Addr×Nat) (fun s=>pG k s.1 (k.ws.take (k.live-n))) (fun s=> .slice s.2.1 n s.2.2) (fun s=>arr s.2.1 n s.2.2 2 aY (k.ws.drop (k.live-n))::aF F.tb (rV F.mb mail F.cos F.cb st F.bx tr F.out told) 103::cc F.cb cst up fr s.1.sb::iQ s.1):=by
 obtain⟨g1,g2,g3⟩:=id hk;have hwl:=Sk.len hk;refine JE [ptr F.tb, .int .i64 n] Tryz.func108 Tryz.ntmps108 fun w S=>?_;refine aD ?_;(refine dV (aIU k hk) fun s hs=>?_);obtain⟨ao,cap⟩:=s;refine aD ?_;(refine dV (FX k) fun s hs=>?_);have s1:IntKind.i64.wrap ((k.live:Int)-(n:Int))=((k.live-n:Nat):Int):=by rw[dX aA];omega
 repeat(refine Jy ?_;try intro ao cap)
 rw[show k.live-(k.live-n)=n by omega];(refine dV (MS k hk n h0) fun s hs=>?_);obtain⟨sb2,lb2,l2,live2⟩:=s;obtain rfl:sb2=k.sb:=hs.sb;refine aD ?_;refine End.aX ((⟨k.sb,lb2,l2,live2⟩:Sk),ao,cap) (he:=by rfl) (hp:=hs)
end
def jI(b:Nat):List Value:=[ptr b]
instance:bH jI:=⟨fun _=>rfl,aK,fun a u hu=>by simp[jI]at hu;subst hu;rfl⟩
def dH(f:Vm.Fr):List Value:=[.int .i64 f.unit, .int .i64 f.pc, .int .i64 f.base]
instance:bH dH:=⟨fun _=>rfl,aK,fun a u hu=>by simp[dH]at hu;rcases hu with rfl|rfl|rfl<;>rfl⟩
structure cN where
 cb:Nat
 st:Nat
 up:Option Nat
 upb:Option Nat
 fo:Option Addr
 fc:Nat
 fr:List Vm.Fr
 sk:Sk
instance:Inhabited cN:=⟨⟨0,0,none,none,none,0,[],default⟩⟩
def cN.abs(c:cN):Vm.Co:=⟨c.st,c.up,c.fr,c.sk.ws⟩
def e8:Option Nat→Value
 |none=> .pointer none
 |some b=>ptr b
abbrev gO(c:cN):Chunk:=arr c.fo c.fr.length c.fc 171 dH c.fr
abbrev jP(c:cN):Chunk:=cc c.cb (c.st:Int) (e8 c.upb) (.slice c.fo c.fr.length c.fc) c.sk.sb
abbrev iM(c:cN):List Chunk:=[jP c,gO c,aF c.sk.sb (nN c.sk) 236,arr (some ⟨c.sk.lb,0,none⟩) c.sk.l.length c.sk.l.length 2 aY c.sk.l]
def lL(l:List cN):Chunk:=bC (l.flatMap iM)
@[simp] theorem aI9 (l : List cN) : (lL l).bE = true := iB
structure Pl where
 tb:Nat
 mb:Nat
 m:ML
structure SL(E:dK) where
 co:Option Addr
 ccap:Nat
 bs:List Nat
 oth:List cN
 now:Nat
 cur:cN
 st:Int
 bx:Int
 tr:Int
 oo:Option Addr
 oc:Nat
 out:List Int
 e:E.μ
abbrev lQ(m:ML):List Value:=[.slice m.bo m.bx.length m.bc, .slice m.uo m.us.length m.uc]
abbrev jV{E:dK}(p:Pl)(s:SL E):Chunk:=aF p.tb (rV p.mb E.kE (.slice s.co s.bs.length s.ccap) s.cur.cb s.st s.bx s.tr (.slice s.oo s.out.length s.oc) (j6 E.told)) 103
abbrev lR(p:Pl):Chunk:=aF p.mb (lQ p.m) 26
abbrev B9{E:dK}(s:SL E):Chunk:=arr s.co s.bs.length s.ccap 100 jI s.bs
abbrev UR{E:dK}(s:SL E):Chunk:=arr s.oo s.out.length s.oc 2 aY s.out
abbrev TM{E:dK}(p:Pl)(s:SL E):List Chunk:=[jV p s,lR p,B9 s,UR s,lL (s.oth.eraseIdx s.now),E.mem s.e,jP s.cur,gO s.cur,aF s.cur.sk.sb (nN s.cur.sk) 236,arr (some ⟨s.cur.sk.lb,0,none⟩) s.cur.sk.l.length s.cur.sk.l.length 2 aY s.cur.sk.l]
section
variable{E:dK}
def SL.all(s:SL E):List cN:=s.oth.set s.now s.cur
def SL.tk(s:SL E):Vm.Tk:=⟨s.all.map cN.abs,s.now,s.st,s.bx,s.tr,s.out⟩
def SL.two(s:SL E):Vm.Tk×E.ν:=(s.tk,E.abs s.e)
structure SL.Wf(s:SL E):Prop where
 now:s.now<s.oth.length
 len:s.bs.length=s.oth.length
 eL:s.oth.length≤31
 at_:∀i,i<s.oth.length→(s.all.getD i default).cb=s.bs.getD i 0
 up:∀c∈s.all,c.upb=c.up.map fun j=>s.bs.getD j 0
 mN:∀c∈s.all,∀j,c.up=some j→j<s.oth.length
 sk:∀c∈s.all,c.sk.Ok
 env:E.ok s.e
variable{s:SL E}
theorem SL.Wf.tM(h:s.Wf):s.cur∈s.all:=by
 unfold SL.all;exact List.mem_set h.now _
theorem SL.Wf.dR(h:s.Wf):s.cur.sk.Ok:=h.sk _ h.tM
theorem SL.vA(s:SL E):s.all.length=s.oth.length:=Ji
theorem SL.Wf.xM(h:s.Wf):s.all.getD s.now default=s.cur:=by
 unfold SL.all;rw[Jd,JS (by exact h.now)];rfl
theorem KS{α β:Type} [Inhabited α] [Inhabited β](f:α→β)(l:List α){k:Nat}(hk:k<l.length):(l.map f).getD k default=f (l.getD k default):=by
 rw[Jd,Jd,JU,Je hk];rfl
theorem SL.Wf.cur(h:s.Wf):Vm.cur s.tk=s.cur.abs:=by
 show(s.all.map cN.abs).getD s.now default=_;rw[KS _ _ (by rw[s.vA];exact h.now),h.xM]
theorem SL.Wf.IT(h:s.Wf):s.cur.cb=s.bs.getD s.now 0:=by
 rw[←h.at_ _ h.now,h.xM]
theorem SL.uQ(s:SL E)(c:cN):({s with cur:=c}:SL E).tk=Vm.setCur s.tk c.abs:=by
 unfold SL.tk Vm.setCur Vm.fB SL.all;simp only[List.map_set,List.set_set]
theorem SL.Wf.setCur(h:s.Wf){c:cN}(hcb:c.cb=s.cur.cb)(hup:c.up=s.cur.up)(hupb:c.upb=s.cur.upb)(hk:c.sk.Ok):({s with cur:=c}:SL E).Wf:=by
 have hset:∀d∈({s with cur:=c}:SL E).all,d=c∨d∈s.all:=fun d hd=>by
  unfold SL.all at hd⊢;simp only at hd;obtain⟨i,hi,e⟩:=List.mem_iff_getElem.1 hd;rw[xA]at e
  split at e
  ·exact .inl e.symm
  ·rename_i hne
   right
   rw[←e];refine List.mem_iff_getElem.2 ⟨i,by simpa using hi,?_⟩;rw[List.getElem_set_ne hne]
 have hall:∀i,i<s.oth.length→(({s with cur:=c}:SL E).all.getD i default).cb=(s.all.getD i default).cb:=fun i hi=>by
  unfold SL.all;simp only[Jd,w8]
  by_cases hn:s.now=i
  ·subst hn;simp[h.now,hcb]
  ·simp[hn]
 refine⟨h.now,h.len,h.eL,fun i hi=>(hall i hi).trans (h.at_ i hi),fun d hd=>?_,fun d hd=>?_,fun d hd=>?_,h.env⟩
 ·rcases hset d hd with rfl|hd
  ·rw[hup,hupb];exact h.up _ h.tM
  ·exact h.up _ hd
 ·rcases hset d hd with rfl|hd
  ·rw[hup];exact h.mN _ h.tM
  ·exact h.mN _ hd
 ·rcases hset d hd with rfl|hd
  ·exact hk
  ·exact h.sk _ hd
end
section
attribute [local irreducible] aE aG End aB Still aN aU RunT Fn aS
theorem N3(t:Bool):Fn Tryz.prog 105 #[.bool t] [] [] (σ:=Unit) (fun _=>True) (fun _=> .int .i64 (Opt.yes t)) (fun _=>[]):=by
 refine JE [.bool t] Tryz.func105 Tryz.ntmps105 fun w S=>?_;refine Jn ?_
 cases t with
 |true=>
  refine aD ?_;exact fZ ()
 |false=>
  refine aD ?_;exact fZ ()
theorem aDP{op:Int}(h:op=11)(a:Int)(ha:a= -9223372036854775808):IntKind.i64.wrap (Opt.yes (decide (op=11))*a)=a:=by
 subst ha h;decide
theorem aDQ{op:Int}(h:op=12)(a:Int)(ha:a= -9223372036854775808):IntKind.i64.wrap (Opt.yes (decide (op=11))*a)=0:=by
 subst ha h;decide
set_option maxHeartbeats 1000000 in
theorem HA(op a b:Int)(ha:ImgM.In64 a)(hb:ImgM.In64 b)(h0:op=11∨op=12→b≠0):Fn Tryz.prog 65 #[.int .i64 op, .int .i64 a, .int .i64 b] [] [] (σ:=Unit) (fun _=>True) (fun _=> .int .i64 (Opt.m4 op a b)) (fun _=>[]):=by
 unfold ImgM.In64 at ha hb;refine JE [.int .i64 op, .int .i64 a, .int .i64 b] Tryz.func65 Tryz.ntmps65 fun w S=>?_;refine Jn ?_
 repeat' (first|(refine Jc ?_;refine aB.bA (spec:=N3 _) (k:=?_);intro s hs;refine Jn ?_)|(apply aE.op;exact rfl;refine aB.bP (h:=by(apply Still.quo;exact rfl;exact rfl;(exact h0 aA);exact rfl)) (k:=?_))|(apply aE.op;exact rfl;refine aB.bP (h:=by(apply Still.rem;exact rfl;exact rfl;(exact h0 aA);exact rfl)) (k:=?_))|refine Jo ?_|(refine JB ?_;intro b)|(refine JA ?_;intro ao cap)|refine gQ (k:=fun h=>?_) (k':=fun h=>?_)|fail)
 all_goals ((refine End.aX (()) (he:=by(refine int_eq ?_;unfold Opt.m4;(repeat(first|rw[if_neg aA]|rw[if_pos aA]));first|done|(refine aDP (op:=op) ?_ _ ?_<;>first|assumption|omega)|(refine aDQ (op:=op) ?_ _ ?_<;>first|assumption|omega))) (hp:=?_));trivial)
theorem ZV(b:Bool):ImgM.In64 (Opt.yes b):=by cases b<;>(unfold ImgM.In64 Opt.yes;omega)
section
variable(E:dK)
def lZ(i:ImgM.aT)(v:E.ν):Int:=if i.op=26∧E.V.full v i.a.toNat=true then 2 else if i.op=27∧E.V.empty v i.a.toNat=true then 3 else 1
def o6(i:ImgM.aT)(v:E.ν):Int:=if i.op=26∧E.V.full v i.a.toNat=true then i.a else if i.op=27∧E.V.empty v i.a.toNat=true then i.a else 0
theorem aIL(F:TF)(st tr:Int)(e:E.μ)(he:E.ok e)(i:ImgM.aT)(hb:i.op=26∨i.op=27→0≤i.a∧i.a.toNat<E.boxes):Fn Tryz.prog 60 #[ptr F.tb,lP i] [E.rc] [E.tc F st tr,E.mem e] (σ:=Unit) (fun _=>True) (fun _=> .bool (!decide (lZ E i (E.abs e)=1))) (fun _=>[E.tc ⟨F.tb,F.mb,F.cos,F.cb,o6 E i (E.abs e),F.out⟩ (lZ E i (E.abs e)) tr,E.mem e]):=by
 refine JE [ptr F.tb,lP i] Tryz.func60 Tryz.ntmps60 fun w S=>?_;refine Jn ?_
 by_cases h26:i.op=26
 ·obtain⟨ha,hlt⟩:=hb (.inl h26);have hf:=E.full e i.a.toNat he hlt;rw[oJ ha]at hf
  repeat(refine Jy ?_;try intro b)
  (refine Jc ?_;refine aB.EN (E.TO) (E.PV) (hf) (r:=fun w=>Reads.any (tk) E.eC .nil) (k:=?_);intro s hs;refine Jn ?_)
  cases hv:E.V.full (E.abs e) i.a.toNat with
  |true=>
   have e1:lZ E i (E.abs e)=2:=by unfold lZ;rw[if_pos ⟨h26,hv⟩]
   have e2:o6 E i (E.abs e)=i.a:=by unfold o6;rw[if_pos ⟨h26,hv⟩]
   rw[e1,e2];refine aD ?_;refine b8 9 [aF b (dB i) 113] 10 ?_;refine bR [0,1,2,3,4,5] ?_;refine gWl [6] ?_;refine bR [7,8] ?_;refine gWl [9] ?_;refine b6 ?_;refine aD ?_;exact fZ ()
  |false=>
   have e1:lZ E i (E.abs e)=1:=by unfold lZ;rw[if_neg (by rw[hv];simp),if_neg aA]
   have e2:o6 E i (E.abs e)=0:=by unfold o6;rw[if_neg (by rw[hv];simp),if_neg aA]
   rw[e1,e2];refine aD ?_;exact fZ ()
 ·by_cases h27:i.op=27
  ·obtain⟨ha,hlt⟩:=hb (.inr h27);have hf:=E.empty e i.a.toNat he hlt;rw[oJ ha]at hf
   repeat(refine Jy ?_;try intro b)
   (refine Jc ?_;refine aB.EN (E.TN) (E.PU) (hf) (r:=fun w=>Reads.any (tk) E.eC .nil) (k:=?_);intro s hs;refine Jn ?_)
   cases hv:E.V.empty (E.abs e) i.a.toNat with
   |true=>
    have e1:lZ E i (E.abs e)=3:=by unfold lZ;rw[if_neg aA,if_pos ⟨h27,hv⟩]
    have e2:o6 E i (E.abs e)=i.a:=by unfold o6;rw[if_neg aA,if_pos ⟨h27,hv⟩]
    rw[e1,e2];refine aD ?_;refine b8 9 [aF b (dB i) 113] 10 ?_;refine bR [0,1,2,3,4,5] ?_;refine gWl [6] ?_;refine bR [7,8] ?_;refine gWl [9] ?_;refine b6 ?_;refine aD ?_;exact fZ ()
   |false=>
    have e1:lZ E i (E.abs e)=1:=by unfold lZ;rw[if_neg aA,if_neg (by rw[hv];simp)]
    have e2:o6 E i (E.abs e)=0:=by unfold o6;rw[if_neg aA,if_neg (by rw[hv];simp)]
    rw[e1,e2];refine aD ?_;exact fZ ()
  ·have e1:lZ E i (E.abs e)=1:=by unfold lZ;rw[if_neg aA,if_neg aA]
   have e2:o6 E i (E.abs e)=0:=by unfold o6;rw[if_neg aA,if_neg aA]
   rw[e1,e2]
   repeat(refine Jy ?_;try intro b)
   exact fZ ()
end
section
variable{E:dK}
abbrev SL.f(s:SL E):Vm.Fr:=s.cur.fr.getD (s.cur.fr.length-1) default
abbrev bJ(m:ML)(s:SL E):ImgM.aT:=(m.us.getD s.f.unit default).u.code.getD s.f.pc default
structure mS(m:ML)(s:SL E):Prop where
 fr:s.cur.fr≠[]
 eL:s.cur.fr.length≤40
 unit:s.f.unit<m.us.length
 pc:s.f.pc<(m.us.getD s.f.unit default).u.code.length
 box:(bJ m s).op=26∨(bJ m s).op=27→0≤(bJ m s).a∧(bJ m s).a.toNat<E.boxes
theorem aCw(p:Pl)(s:SL E)(he:E.ok s.e)(st bx:Int)(h4:3<s.st→st=s.st∧bx=s.bx)(h3:s.st≤3→mS p.m s∧st=lZ E (bJ p.m s) (E.abs s.e)∧bx=o6 E (bJ p.m s) (E.abs s.e)):
  Fn Tryz.prog 31 #[ptr p.tb] [md p.m,E.rc] [jV p s,lR p,jP s.cur,gO s.cur,E.mem s.e] (σ:=Unit) (fun _=>True) (fun _=> .tuple #[]) (fun _=>[jV p {s with st:=st,bx:=bx},lR p,jP s.cur,gO s.cur,E.mem s.e]):=by
 refine JE [ptr p.tb] Tryz.func31 Tryz.ntmps31 fun w S=>?_;refine Jn ?_
 by_cases hst:s.st≤3
 ·obtain⟨hs0,e1,e2⟩:=h3 hst;obtain⟨g1,g2,g3,g4,g5⟩:=hs0;have hl:0<s.cur.fr.length:=JP.2 g1;have w1:IntKind.i64.wrap ((s.cur.fr.length:Int)-1)=((s.cur.fr.length-1:Nat):Int):=by rw[dX aA];omega
  refine aD ?_;(refine Jc ?_;refine aB.bA (spec:=aIL E ⟨p.tb,p.mb, .slice s.co s.bs.length s.ccap,s.cur.cb,s.bx, .slice s.oo s.out.length s.oc⟩ s.st s.tr s.e he (bJ p.m s) g5) (r:=fun w=>Reads.any (tk) E.eC .nil) (k:=?_);intro s hs;refine Jn ?_);rw[e1,e2];refine aD ?_;(refine End.dL (()) (hp:=?_));trivial
 ·obtain⟨e1,e2⟩:=h4 aA;rw[e1,e2];refine aD ?_;(refine End.dL (()) (hp:=?_));trivial
end
structure ZW(u:Nat)(ws:List Int)(c:cN):Prop where
 st:c.st=0
 up:c.up=none
 upb:c.upb=none
 fr:c.fr=[⟨u,0,0⟩]
 ok:c.sk.Ok
 ws:c.sk.ws=ws
theorem P7(tb mb:Nat)(m:ML)(rest:List Value)(u:Nat)(hu:u<m.us.length)(ao:Option Addr)(cap:Nat)(a:List Int)(hl:(m.us.getD u default).u.locals.length≤200)(ha:a.length≤400):
  Fn Tryz.prog 59 #[ptr tb, .int .i64 u, .slice ao a.length cap] [md m,rd ao a.length cap aY a] [aF tb (ptr mb::rest) 103,aF mb (lQ m) 26] (σ:=cN)
   (ZW u ((List.range (m.us.getD u default).u.locals.length).map fun i=>a.getD i 0)) (fun c=>ptr c.cb) (fun c=>[jP c,gO c,aF c.sk.sb (nN c.sk) 236,arr (some ⟨c.sk.lb,0,none⟩) c.sk.l.length c.sk.l.length 2 aY c.sk.l,aF tb (ptr mb::rest) 103,aF mb (lQ m) 26]):=by
 refine JE [ptr tb, .int .i64 u, .slice ao a.length cap] Tryz.func59 Tryz.ntmps59 fun w S=>?_;refine aD ?_;(refine dV (aDj) fun s hs=>?_);obtain⟨hk0,hw0,hl0⟩:=hs
 repeat(refine Jy ?_;try intro b)
 obtain⟨cb,rfl⟩:=a7 b;obtain⟨fb,rfl⟩:=a7 b;obtain⟨k0,rfl⟩:=a7 s;obtain⟨n,hn⟩:∃n,n=(m.us.getD u default).u.locals.length:=⟨_,rfl⟩;rw[←hn]at hl⊢;refine kS (σ:=Nat×Sk) (fun s=>s.1≤n∧s.2.Ok∧s.2.sb=k0.sb∧s.2.ws=(List.range s.1).map fun i=>a.getD i 0) (fun s=>[(0,ptr tb),(1, .int .i64 u),(2, .slice ao a.length cap),(7,ptr cb),(27, .int .i64 n),(28, .int .i64 s.1)]) (fun s=>aO w S::rd ao a.length cap aY a::aF tb (ptr mb::rest) 103::aF mb (lQ m) 26::aF cb (QQ 0 (.pointer none) (.slice (some ⟨fb,0,none⟩) 1 1) k0.sb) 168::aF fb (dH ⟨u,0,0⟩) 171::iQ s.2) (fun s=>n-s.1) (0,k0) ?_ fun s hs K hK=>?_
 ·exact⟨bQ _,hk0,rfl,by simp[hw0]⟩
 refine Jn ?_;obtain⟨i,k⟩:=s;obtain⟨hi,hk,hsb,hws⟩:=hs;simp only at hi hk hsb hws hK⊢;have hlen:k.live=i:=by
  have h:=Sk.len hk;rw[hws]at h;simpa using h.symm
 have hst:∀(v:Int) (k':Sk),v=a.getD i 0→(if k.live=400 then k'=k else pG k k' (k.ws ++[v]))→i<n→(i+1≤n∧k'.Ok∧k'.sb=k0.sb∧k'.ws=(List.range (i+1)).map fun i=>a.getD i 0):=fun v k' hv h hi'=>by
  rw[if_neg aA]at h;refine⟨hi',h.ok,h.sb.trans hsb,?_⟩;rw[h.ws,hws,nT,Jq,hv];rfl
 rw[←hsb]
 by_cases hin:i<n
 ·by_cases hia:i<a.length
  ·refine aD ?_;(refine dV (MT k hk (a.getD i default)) fun s hs=>?_);have hh:=hst _ _ rfl hs hin;have hsb2:k.sb=s.sb:=by rw[hsb,hh.2.2.1]
   refine aD ?_;rw[hsb];refine End.pY hK (i+1,s) ?_ ?_
   ·exact hh
   ·simp only;omega
  ·refine aD ?_;(refine dV (MT k hk 0) fun s hs=>?_);have hh:=hst _ _ (by rw[Jd,yZ aA];rfl) hs hin;refine aD ?_;rw[hsb];refine End.pY hK (i+1,s) ?_ ?_
   ·exact hh
   ·simp only;omega
 ·obtain rfl:i=n:=aA;refine aD ?_;apply End.imp (fun w hm=>Mem.jB (b:=fb) (e:=171) (f:=dH) (n:=1) hm (tk) [⟨u,0,0⟩] rfl rfl (by unfold maxLen;simp));refine End.aX (⟨cb,0,none,none,some ⟨fb,0,none⟩,1,[⟨u,0,0⟩],k⟩:cN) (he:=by rfl) (hp:=⟨rfl,rfl,rfl,rfl,hk,hws⟩)
end
end Vw
namespace Opt
open ImgM Ver
def nx(l:List aT)(p:Nat):Nat:=p+(if(shorter l p).2=0 then 1 else(shorter l p).2)
def em(l:List aT)(p:Nat):List aT:=if(shorter l p).2=0 then [at_ l p]else(shorter l p).1
def C9(l:List aT):Nat→Nat→List Nat
 |0,_=>[]
 |n+1,p=>if p<l.length then p::C9 l n (nx l p)else []
structure Ran(l:List aT)(n:Nat)(s r:PS):Prop where
 out:r.out=s.out ++(C9 l n s.p).flatMap (em l)
 aO:∀q,q<s.p→r.wh.getD q 0=s.wh.getD q 0
 wh:∀A q C,C9 l n s.p=A ++q::C→r.wh.getD q 0=((s.out.length+(A.flatMap (em l)).length:Nat):Int)
 CB:r.CB=(s.CB||(C9 l n s.p).any fun q=>decide ((shorter l q).2≠0))
 len:r.wh.length=l.length+1
def bs(l:List aT):List Nat:=C9 l l.length 0
def aGb(l:List aT)(b:List Nat):List Nat:=b.flatMap fun q=>if em l q=[]then []else [q]
section
variable{M:aL}{u:bM}{i:aT}{st:List Int}{h:List Bool}
end
section
variable{M:aL}{u:bM}{τ:Int→Option Shape}(hc:Cert M u τ)
include hc
end
end Opt
namespace Vm
open ImgM Ver Opt
theorem xP{e:Int}(he:e≠0){f:aZ}:(fail e f).err≠0:=by
 unfold Ver.fail
 split
 ·exact he
 ·assumption
theorem nL{t:Int}{f:aZ}(h:(Ver.push t f).err=0):f.err=0∧Ver.push t f={f with stack:=f.stack ++[t]}∧f.stack.length+1≤300:=by
 unfold Ver.push at h⊢
 split
 ·rename_i h3
  rw[if_pos h3]at h;exact absurd h (xP aK)
 ·rename_i h3
  rw[if_neg h3]at h;exact⟨h,rfl,aA⟩
theorem aGW{α:Type} [Inhabited α]{l:List α}(h:¬l.length=0):l=l.take (l.length-1) ++[l.getD (l.length-1) default]:=by
 have:l.length-1+1=l.length:=aA
 conv=>lhs;rw[←pF (l:=l),←this,Jp (show l.length-1<l.length by omega)]
 rw[Jd,Je (show l.length-1<l.length by omega)];rfl
theorem AU{f:aZ}(h:(pop f).2.err=0):f.err=0∧∃st t,f.stack=st ++[t]∧(pop f).1=t∧(pop f).2={f with stack:=st}:=by
 unfold pop at h⊢
 split
 ·rename_i h0
  rw[if_pos h0]at h;exact absurd h (xP aK)
 ·rename_i h0
  rw[if_neg h0]at h;exact⟨h,_,_,aGW h0,rfl,rfl⟩
theorem aIN{t:Int}{f:aZ}(h:(lX t f).err=0):f.err=0∧∃st,f.stack=st ++[t]∧lX t f={f with stack:=st}:=by
 unfold lX at h⊢
 split
 ·rename_i hn
  rw[if_pos hn]at h;exact absurd h (xP aK)
 ·rename_i hn
  rw[if_neg hn]at h;obtain⟨h1,st,t',h2,h3,h4⟩:=AU h;have:t'=t:=yX fun hx=>hn (by rw[h3];exact hx);subst this;exact⟨h1,st,h2,h4⟩
theorem o5:∀(l:List Int) {f:aZ},(want l f).err=0→f.err=0∧∃st,f.stack=st ++l∧want l f={f with stack:=st}
 |[],f,h=>⟨h,f.stack,aW,rfl⟩
 |t::r,f,h=>by
  have hh:want (t::r) f=lX t (want r f):=rfl;rw[hh]at h⊢;obtain⟨h1,st,h2,h3⟩:=aIN h;obtain⟨g1,st',g2,g3⟩:=o5 r h1;rw[g3]at h2 h3;simp only at h2;exact⟨g1,st,by rw[g2,h2];simp,by rw[g3];exact h3⟩
theorem zP{e:Int}(he:e≠0){c:Prop} [Decidable c]{f:aZ}(h:(if c then fail e f else f).err=0):¬c∧f.err=0:=by
 by_cases hc:c
 ·rw[if_pos hc]at h;exact absurd h (xP he)
 ·rw[if_neg hc]at h;exact⟨hc,h⟩
theorem aBk{e:Int}(he:e≠0){c:Prop} [Decidable c]{f:aZ}(h:(if c then f else fail e f).err=0):c∧f.err=0:=by
 by_cases hc:c
 ·rw[if_pos hc]at h;exact⟨hc,h⟩
 ·rw[if_neg hc]at h;exact absurd h (xP he)
theorem RD{f:aZ}(h:(done f).err=0):f.err=0∧f.stack=[]∧done f=f:=by
 unfold done at h⊢
 split
 ·rename_i h0;rw[if_pos h0]at h;exact⟨h,qC h0,rfl⟩
 ·rename_i h0;rw[if_neg h0]at h;exact absurd h (xP aK)
inductive iR(M:aL)(u:bM)(i:aT):List Int→List Bool→List Int→List Bool→Prop
 |const (st h) (hi:i.op=1∨i.op=2):iR M u i st h (st ++[i.op]) h
 |load (st h) (hi:i.op=3) (hh:h.getD i.a.toNat false=true):iR M u i st h (st ++[u.locals.getD i.a.toNat 0]) h
 |store (st h) (hi:i.op=4):iR M u i (st ++[u.locals.getD i.a.toNat 0]) h st (h.set i.a.toNat true)
 |drop (st h t) (hi:i.op=5):iR M u i (st ++[t]) h st h
 |neg (st h) (hi:i.op=6):iR M u i (st ++[1]) h (st ++[1]) h
 |not (st h) (hi:i.op=7):iR M u i (st ++[2]) h (st ++[2]) h
 |arith (st h) (hi:8≤i.op∧i.op≤12):iR M u i (st ++[1,1]) h (st ++[1]) h
 |eq (st h t) (hi:i.op=13∨i.op=14) (ht:t=1∨t=2):iR M u i (st ++[t,t]) h (st ++[2]) h
 |cmp (st h) (hi:15≤i.op∧i.op≤18):iR M u i (st ++[1,1]) h (st ++[2]) h
 |LD (st h) (hi:i.op=19∨i.op=20):iR M u i (st ++[2,2]) h (st ++[2]) h
 |jump (st h) (hi:i.op=21):iR M u i st h st h
 |fJ (st h) (hi:i.op=22):iR M u i (st ++[2]) h st h
 |call (st h) (hi:i.op=23):iR M u i (st ++(M.aJ.getD i.a.toNat default).locals.take (M.aJ.getD i.a.toNat default).params.toNat) h (st ++[(M.aJ.getD i.a.toNat default).result]) h
 |ret (h) (hi:i.op=24) (hk:u.kind=2):iR M u i [u.result] h [] h
 |end_ (h) (hi:i.op=25) (hk:u.kind≠2):iR M u i [] h [] h
 |send (st h) (hi:i.op=26):iR M u i (st ++[(M.boxes.getD i.a.toNat default).1]) h st h
 |recv (st h) (hi:i.op=27):iR M u i st h (st ++[(M.boxes.getD i.a.toNat default).1]) h
 |out (st h t) (hi:i.op=28):iR M u i (st ++[t]) h st h
 |start (st h) (hi:i.op=29):iR M u i (st ++(M.aJ.getD i.a.toNat default).locals.take (M.aJ.getD i.a.toNat default).params.toNat) h (st ++[10+i.a]) h
 |resume (st h k) (hi:i.op=30) (hk:handle M (10+k)=true):iR M u i (st ++[10+k,(M.aJ.getD k.toNat default).aP]) h (st ++[(M.aJ.getD k.toNat default).result]) h
 |yield (st h) (hi:i.op=31) (hk:u.kind=3):iR M u i (st ++[u.result]) h (st ++[u.aP]) h
 |alive (st h k) (hi:i.op=32) (hk:handle M (10+k)=true):iR M u i (st ++[10+k]) h (st ++[2]) h
theorem PL{α:Type}(s:List α)(a b:α):s ++[a] ++[b]=s ++[a,b]:=aW
theorem SF{M:aL}{f:aZ}(h:(gen M f).2.err=0):f.err=0∧∃st k,f.stack=st ++[10+k]∧handle M (10+k)=true∧gen M f=(some k,{f with stack:=st}):=by
 unfold gen at h⊢
 by_cases h1:(pop f).2.err≠0
 ·rw[if_pos h1]at h;exact absurd h h1
 rw[if_neg h1]at h⊢
 by_cases h2:handle M (pop f).1=false
 ·rw[if_pos h2]at h;exact absurd h (xP aK)
 rw[if_neg h2]at h⊢;obtain⟨g1,st,t,g2,g3,g4⟩:=AU h;rw[g3]at h2⊢;refine⟨g1,st,t-10,by rw[g2];congr 2;omega,?_,?_⟩
 ·rw[show(10:Int)+(t-10)=t by omega];simpa using h2
 ·rw[g4]
theorem aGE{M:aL}{u:bM}{i:aT}{st:List Int}{h:List Bool}(ho:1≤i.op∧i.op≤32)(he:(cS M u i (st,h)).err=0):
  iR M u i st h (cS M u i (st,h)).stack (cS M u i (st,h)).has:=by
 unfold cS core at he⊢
 by_cases h21:i.op=21
 ·rw[if_pos h21];exact .jump _ _ h21
 rw[if_neg h21]at he⊢
 by_cases h22:i.op=22
 ·rw[if_pos h22]at he⊢;obtain⟨-,s,g2,g3⟩:=o5 _ he;simp only at g2;rw[g3];subst g2;exact .fJ _ _ h22
 rw[if_neg h22]at he⊢;unfold Ver.step at he⊢
 by_cases h1:i.op=1
 ·rw[if_pos h1]at he⊢;obtain⟨-,g2, -⟩:=nL he;simp only;rw[g2];have:=iR.const (M:=M) (u:=u) (i:=i) st h (.inl h1);rw[h1]at this;exact this
 rw[if_neg h1]at he⊢
 by_cases h2:i.op=2
 ·rw[if_pos h2]at he⊢;obtain⟨-,g2, -⟩:=nL he;simp only;rw[g2];have:=iR.const (M:=M) (u:=u) (i:=i) st h (.inr h2);rw[h2]at this;exact this
 rw[if_neg h2]at he⊢
 by_cases h3:i.op=3
 ·rw[if_pos h3]at he⊢;obtain⟨g1,g2, -⟩:=nL he;obtain⟨k1,k2⟩:=aBk aK g1;simp only at k1⊢;rw[g2,if_pos k1];exact .load _ _ h3 k1
 rw[if_neg h3]at he⊢
 by_cases h4:i.op=4
 ·rw[if_pos h4]at he⊢;obtain⟨-,s,g2,g3⟩:=o5 _ (show(want [u.locals.getD i.a.toNat 0] ⟨[],[],st,h,0⟩).err=0 from he);simp only at g2⊢;rw[g3];subst g2;exact .store _ _ h4
 rw[if_neg h4]at he⊢
 by_cases h5:i.op=5
 ·rw[if_pos h5]at he⊢;obtain⟨-,s,t,g2,g3,g4⟩:=AU he;simp only at g2⊢;rw[g4];subst g2;exact .drop _ _ _ h5
 rw[if_neg h5]at he⊢
 by_cases h6:i.op=6
 ·rw[if_pos h6]at he⊢;obtain⟨g1,g2, -⟩:=nL he;obtain⟨-,s,k2,k3⟩:=o5 _ g1;simp only at k2⊢;rw[g2,k3];subst k2;exact .neg _ _ h6
 rw[if_neg h6]at he⊢
 by_cases h7:i.op=7
 ·rw[if_pos h7]at he⊢;obtain⟨g1,g2, -⟩:=nL he;obtain⟨-,s,k2,k3⟩:=o5 _ g1;simp only at k2⊢;rw[g2,k3];subst k2;exact .not _ _ h7
 rw[if_neg h7]at he⊢
 by_cases h8:8≤i.op∧i.op≤12
 ·rw[if_pos h8]at he⊢;obtain⟨g1,g2, -⟩:=nL he;obtain⟨-,s,k2,k3⟩:=o5 _ g1;simp only at k2⊢;rw[g2,k3];subst k2;exact .arith _ _ h8
 rw[if_neg h8]at he⊢
 by_cases h9:i.op=13∨i.op=14
 ·rw[if_pos h9]at he⊢;obtain⟨g1,g2, -⟩:=nL he;obtain⟨g3,s,k2,k3⟩:=o5 _ g1;obtain⟨q1,q2⟩:=zP aK g3;obtain⟨-,s',t,p2,p3,p4⟩:=AU q2;rw[if_neg q1]at k2 k3 g2⊢;rw[g2,k3];rw[p4]at k2⊢;rw[p3]at q1 k2;simp only at k2 p2⊢;subst k2 p2;rw[PL];refine .eq _ _ _ h9 ?_;omega
 rw[if_neg h9]at he⊢
 by_cases h10:15≤i.op∧i.op≤18
 ·rw[if_pos h10]at he⊢;obtain⟨g1,g2, -⟩:=nL he;obtain⟨-,s,k2,k3⟩:=o5 _ g1;simp only at k2⊢;rw[g2,k3];subst k2;exact .cmp _ _ h10
 rw[if_neg h10]at he⊢
 by_cases h11:i.op=19∨i.op=20
 ·rw[if_pos h11]at he⊢;obtain⟨g1,g2, -⟩:=nL he;obtain⟨-,s,k2,k3⟩:=o5 _ g1;simp only at k2⊢;rw[g2,k3];subst k2;exact .LD _ _ h11
 rw[if_neg h11,if_neg h21,if_neg h22]at he⊢;unfold eP at he⊢
 by_cases h23:i.op=23
 ·rw[if_pos h23]at he⊢;obtain⟨g1,g2, -⟩:=nL he;obtain⟨-,s,k2,k3⟩:=o5 _ (show(want _ _).err=0 from g1);simp only at k2⊢;rw[g2];unfold args;rw[k3];subst k2;exact .call _ _ h23
 rw[if_neg h23]at he⊢
 by_cases h29:i.op=29
 ·rw[if_pos h29]at he⊢;obtain⟨g1,g2, -⟩:=nL he;obtain⟨-,s,k2,k3⟩:=o5 _ (show(want _ _).err=0 from g1);simp only at k2⊢;rw[g2];unfold args;rw[k3];subst k2;exact .start _ _ h29
 rw[if_neg h29]at he⊢
 by_cases h24:i.op=24
 ·rw[if_pos h24]at he⊢;obtain⟨g1,g2,g3⟩:=RD he;obtain⟨k1,s,k2,k3⟩:=o5 _ g1;obtain⟨q1,q2⟩:=zP aK k1;rw[if_neg q1]at k2 k3 g2;simp only at k2⊢;rw[g3,if_neg q1,k3];rw[k3]at g2;simp only at g2;subst g2 k2;exact .ret _ h24 (yX q1)
 rw[if_neg h24]at he⊢
 by_cases h25:i.op=25
 ·rw[if_pos h25]at he⊢;obtain⟨g1,g2,g3⟩:=RD he;obtain⟨q1,q2⟩:=zP aK g1;rw[if_neg q1]at g2;simp only at g2⊢;rw[g3,if_neg q1];subst g2;exact .end_ _ h25 q1
 rw[if_neg h25]at he⊢
 by_cases h26:i.op=26
 ·rw[if_pos h26]at he⊢;obtain⟨-,s,g2,g3⟩:=o5 _ he;simp only at g2⊢;rw[g3];subst g2;exact .send _ _ h26
 rw[if_neg h26]at he⊢
 by_cases h27:i.op=27
 ·rw[if_pos h27]at he⊢;obtain⟨-,g2, -⟩:=nL he;simp only;rw[g2];exact .recv _ _ h27
 rw[if_neg h27]at he⊢
 by_cases h28:i.op=28
 ·rw[if_pos h28]at he⊢;obtain⟨q1,q2⟩:=zP aK (show(if(pop ⟨[],[],st,h,0⟩).2.err=0∧plain (pop ⟨[],[],st,h,0⟩).1=false then fail 9 (pop ⟨[],[],st,h,0⟩).2 else(pop ⟨[],[],st,h,0⟩).2).err=0 from he);obtain⟨-,s,t,g2,g3,g4⟩:=AU q2;simp only at g2⊢;rw[if_neg q1,g4];subst g2;exact .out _ _ _ h28
 rw[if_neg h28]at he⊢
 by_cases h30:i.op=30
 ·rw[if_pos h30]at he⊢;have hg:(gen M (pop ⟨[],[],st,h,0⟩).2).2.err=0∧∀k g,gen M (pop ⟨[],[],st,h,0⟩).2=(some k,g)→(pop ⟨[],[],st,h,0⟩).1=(M.aJ.getD k.toNat default).aP:=by
   revert he
   generalize gen M (pop ⟨[],[],st,h,0⟩).2=G;obtain⟨o,g⟩:=G
   cases o with
   |none=>intro he;exact⟨he,fun k g h=>by cases h⟩
   |some k=>
    intro he;obtain⟨g1, -, -⟩:=nL (show(Ver.push _ _).err=0 from he);obtain⟨q1,q2⟩:=zP aK g1;refine⟨q2,fun k' g' h=>?_⟩;simp only[u7,tE]at h;obtain⟨rfl,rfl⟩:=h;exact yX q1
  obtain⟨hg1,hg2⟩:=hg;obtain⟨g1,s,k,g2,g3,g4⟩:=SF hg1;obtain⟨-,s',t,p2,p3,p4⟩:=AU g1;have ht:=hg2 _ _ g4;rw[g4]at he⊢;obtain⟨-,r2, -⟩:=nL (show(Ver.push _ _).err=0 from he);simp only at r2⊢;rw[r2,if_neg (fun hx=>hx ht)];rw[p4]at g2⊢;simp only at g2 p2⊢;rw[p3]at ht;subst g2 p2 ht;rw[PL];exact .resume _ _ _ h30 g3
 rw[if_neg h30]at he⊢
 by_cases h31:i.op=31
 ·rw[if_pos h31]at he⊢;obtain⟨g1,g2, -⟩:=nL he;obtain⟨k1,s,k2,k3⟩:=o5 _ g1;obtain⟨q1,q2⟩:=zP aK k1;rw[if_neg q1]at k2 k3;simp only at k2⊢;rw[g2,if_neg q1,k3];subst k2;exact .yield _ _ h31 (yX q1)
 rw[if_neg h31]at he⊢;have h32:i.op=32:=aA;rw[if_pos h32]at he⊢;obtain⟨g1,g2, -⟩:=nL he;obtain⟨-,s,k,k2,k3,k4⟩:=SF g1;simp only at k2⊢;rw[g2,k4];subst k2;exact .alive _ _ _ h32 k3
def fY(gs:List Nat)(t v:Int):Prop:=In64 v∧(t=2→v=0∨v=1)∧(10≤t→∃k:Nat,v=(k:Int)∧k<gs.length∧((gs.getD k 0:Nat):Int)=t-10∧0<k)
theorem fY.num{gs:List Nat}{v:Int}(h:In64 v):fY gs 1 v:=⟨h,fun h=>aA,fun h=>aA⟩
theorem fY.bool{gs:List Nat}{b:Bool}:fY gs 2 (yes b):=by
 cases b
 ·exact⟨by unfold yes In64;simp,fun _=> .inl rfl,fun h=>aA⟩
 ·exact⟨by unfold yes In64;simp,fun _=> .inr rfl,fun h=>aA⟩
theorem fY.N2{gs:List Nat}{v:Int}(h:v=0∨v=1):fY gs 2 v:=⟨by unfold In64;omega,fun _=>h,fun h=>aA⟩
theorem fY.grow{gs gs':List Nat}{t v:Int}(h:fY gs t v):fY (gs ++gs') t v:=by
 refine⟨h.1,h.2.1,fun ht=>?_⟩;obtain⟨k,h1,h2,h3,h4⟩:=h.2.2 ht;refine⟨k,h1,by simp;omega,?_,h4⟩;rw[←h3,Jd,tD h2,Jd]
inductive eZ(gs:List Nat):List Int→List Int→Prop
 |nil:eZ gs [] []
 |cons {t v:Int} {ts vs:List Int}:fY gs t v→eZ gs ts vs→eZ gs (t::ts) (v::vs)
theorem eZ.len{gs:List Nat}{a x:List Int}(h:eZ gs a x):a.length=x.length:=by induction h with|nil=>rfl|cons _ _ ih=>simp[ih]
theorem eZ.app{gs:List Nat}{a x b y:List Int}(h:eZ gs a x)(k:eZ gs b y):eZ gs (a ++b) (x ++y):=by induction h with|nil=>exact k|cons h1 _ ih=>exact .cons h1 ih
theorem eZ.split{gs:List Nat}:∀{a b z:List Int},eZ gs (a ++b) z→∃x y,z=x ++y∧eZ gs a x∧eZ gs b y
 |[],b,z,h=>⟨[],z,rfl, .nil,h⟩
 |t::a,b,z,h=>by
  cases h with
  |cons h1 h2=>
   obtain⟨x,y,e,g1,g2⟩:=eZ.split h2;exact⟨_::x,y,by rw[e];rfl, .cons h1 g1,g2⟩
theorem eZ.one{gs:List Nat}{t v:Int}(h:fY gs t v):eZ gs [t] [v]:= .cons h .nil
theorem eZ.rX{gs:List Nat}{t:Int}{y:List Int}(h:eZ gs [t] y):∃v,y=[v]∧fY gs t v:=by
 cases h with
 |cons h1 h2=>cases h2;exact⟨_,rfl,h1⟩
theorem eZ.yQ{gs:List Nat}{t u:Int}{y:List Int}(h:eZ gs [t,u] y):∃v w,y=[v,w]∧fY gs t v∧fY gs u w:=by
 cases h with
 |cons h1 h2=>obtain⟨w,rfl,hw⟩:=eZ.rX h2;exact⟨_,_,rfl,h1,hw⟩
theorem eZ.grow{gs gs':List Nat}{a x:List Int}(h:eZ gs a x):eZ (gs ++gs') a x:=by induction h with|nil=>exact .nil|cons h1 _ ih=>exact .cons h1.grow ih
theorem eZ.mE{gs:List Nat}{a x:List Int}(h:eZ gs a x):∀v∈x,In64 v:=by
 induction h with
 |nil=>intro v h;cases h
 |cons h1 _ ih=>intro v h;rcases cY.1 h with rfl|h;exact h1.1;exact ih v h
structure Loc(gs:List Nat)(ts:List Int)(h:List Bool)(loc:List Int):Prop where
 len:loc.length=ts.length
 ok:∀j,j<ts.length→h.getD j false=true→fY gs (ts.getD j 0) (loc.getD j 0)
 mE:∀v∈loc,In64 v
theorem Loc.le{gs:List Nat}{ts:List Int}{h h':List Bool}{loc:List Int}(a:Loc gs ts h loc)(b:Le h' h):Loc gs ts h' loc:=⟨a.len,fun j hj x=>a.ok j hj (b.2 j x),a.mE⟩
theorem Loc.grow{gs gs':List Nat}{ts:List Int}{h:List Bool}{loc:List Int}(a:Loc gs ts h loc):Loc (gs ++gs') ts h loc:=⟨a.len,fun j hj x=>(a.ok j hj x).grow,a.mE⟩
theorem aCG{l:List Int}{k j:Nat}{v:Int}(hk:k<l.length):(l.set k v).getD j 0=if k=j then v else l.getD j 0:=by
 simp only[Jd,w8]
 by_cases h:k=j
 ·subst h;simp[hk]
 ·simp[h]
theorem Loc.put{gs:List Nat}{ts:List Int}{h:List Bool}{loc:List Int}(a:Loc gs ts h loc){k:Nat}(hk:k<ts.length){v:Int}(hv:fY gs (ts.getD k 0) v):Loc gs ts (h.set k true) (loc.set k v):=by
 have hl:=a.len;refine⟨by rw[Ji];exact hl,fun j hj x=>?_,fun w hw=>?_⟩
 ·rw[aCG aA]
  by_cases hkj:k=j
  ·subst hkj;rw[if_pos rfl];exact hv
  ·rw[if_neg hkj];refine a.ok j hj ?_;rw[FB,if_neg aA]at x;exact x
 ·rcases BR hw with hw|rfl
  ·exact a.mE w hw
  ·exact hv.1
section
variable(M:aL)(T:Nat→Int→Option Shape)
def cE(gs:List Nat)(q p:Nat)(seg pend:List Int):Prop:=
 q<M.aJ.length∧∃st h loc op,T q (p:Int)=some (st ++pend,h)∧seg=loc ++op∧Loc gs (bL M q).locals h loc∧eZ gs st op
inductive iT(gs:List Nat):List Fr→List Int→List Int→Prop
 |one {q p:Nat} {seg pend:List Int} (h:cE M T gs q p seg pend):iT gs [⟨q,p,0⟩] seg pend
 |more {fs:List Fr} {ws:List Int} {q p:Nat} {seg pend:List Int} (hs:iT gs fs ws [(bL M q).result]) (hk:(bL M q).kind=2) (h:cE M T gs q p seg pend):iT gs (fs ++[⟨q,p,ws.length⟩]) (ws ++seg) pend
def EG(gs:List Nat)(q:Nat)(fs:List Fr)(ws:List Int):Prop:=(fs=[]∧ws=[])∨(iT M T gs fs ws [(bL M q).result]∧(bL M q).kind=2)
end
section
variable{M:aL}{T:Nat→Int→Option Shape}{gs gs':List Nat}
theorem cE.grow{q p:Nat}{seg pend:List Int}(h:cE M T gs q p seg pend):cE M T (gs ++gs') q p seg pend:=by
 obtain⟨h1,st,hh,loc,op,h2,h3,h4,h5⟩:=h;exact⟨h1,st,hh,loc,op,h2,h3,h4.grow,h5.grow⟩
theorem iT.grow{fs:List Fr}{ws pend:List Int}(h:iT M T gs fs ws pend):iT M T (gs ++gs') fs ws pend:=by
 induction h with
 |one h=>exact .one h.grow
 |more _ hk h ih=>exact .more ih hk h.grow
theorem iT.view{fs:List Fr}{ws pend:List Int}(h:iT M T gs fs ws pend):∃fs0 ws0 q p seg,fs=fs0 ++[⟨q,p,ws0.length⟩]∧ws=ws0 ++seg∧cE M T gs q p seg pend∧EG M T gs q fs0 ws0:=by
 cases h with
 |one h=>exact⟨[],[],_,_,_,rfl,rfl,h, .inl ⟨rfl,rfl⟩⟩
 |more hs hk h=>exact⟨_,_,_,_,_,rfl,rfl,h, .inr ⟨hs,hk⟩⟩
theorem EG.DM{q p:Nat}{fs:List Fr}{ws seg pend:List Int}(h:EG M T gs q fs ws)(k:cE M T gs q p seg pend):iT M T gs (fs ++[⟨q,p,ws.length⟩]) (ws ++seg) pend:=by
 rcases h with⟨rfl,rfl⟩|⟨h1,h2⟩
 ·exact .one k
 ·exact .more h1 h2 k
end
def bot(fs:List Fr):Nat:=(fs.getD 0 default).unit
theorem H9(fs:List Fr)(f f':Fr)(h:f'.unit=f.unit):bot (fs ++[f'])=bot (fs ++[f]):=by
 cases fs with
 |nil=>exact h
 |cons a r=>rfl
theorem QC(fs gs:List Fr)(h:fs≠[]):bot (fs ++gs)=bot fs:=by
 cases fs with
 |nil=>exact absurd rfl h
 |cons a r=>rfl
def dJ(t:Tk):List Nat:=t.cs.map fun c=>bot c.fr
def co(t:Tk)(k:Nat):Co:=t.cs.getD k default
structure Ok(M:aL)(T:Nat→Int→Option Shape)(t:Tk)(ch:List Nat):Prop where
 now:ch[0]?=some t.now
 eL:t.cs.length≤31
 nodup:ch.Nodup
 mem:∀k∈ch,k<t.cs.length
 going:∀k,k<t.cs.length→((co t k).st=2↔k∈ch)
 chain:∀i k,ch[i]?=some k→(co t k).up=ch[i+1]?
 root:∀i k,ch[i]?=some k→ch[i+1]?=none→k=0
 top:iT M T (dJ t) (cur t).fr (cur t).ws []
 wait:∀i d k,ch[i]?=some d→ch[i+1]?=some k→iT M T (dJ t) (co t k).fr (co t k).ws [(bL M (bot (co t d).fr)).result]
 fresh:∀k,k<t.cs.length→(co t k).st=0→iT M T (dJ t) (co t k).fr (co t k).ws []
 held:∀k,k<t.cs.length→(co t k).st=1→iT M T (dJ t) (co t k).fr (co t k).ws [(bL M (bot (co t k).fr)).aP]
 lens:∀k,k<t.cs.length→(co t k).ws.length≤400∧(co t k).fr.length≤40
 kinds:∀k,k<t.cs.length→bot (co t k).fr<M.aJ.length∧(bL M (bot (co t k).fr)).kind=if k=0 then 4 else 3
 bV:∀k,k<t.cs.length→(co t k).st≤3
theorem Ok.jS{M:aL}{T:Nat→Int→Option Shape}{t:Tk}{ch:List Nat}(h:Ok M T t ch):t.now<t.cs.length:=h.mem _ (kO h.now)
theorem kP(t:Tk):cur t=co t t.now:=rfl
theorem qK{t:Tk}{k j:Nat}{c:Co}(h:k<t.cs.length):co (fB t k c) j=if k=j then c else co t j:=by
 unfold co fB;simp only[Jd,w8]
 by_cases hk:k=j
 ·subst hk;simp[h]
 ·simp[hk]
theorem aGH(t:Tk)(k:Nat)(c:Co):(fB t k c).cs.length=t.cs.length:=Ji
theorem nY{t:Tk}{c:Co}(h:t.now<t.cs.length):cur (setCur t c)=c:=by
 show co (fB t t.now c) t.now=c;rw[qK h,if_pos rfl]
theorem set_set(t:Tk)(c d:Co):setCur (setCur t c) d=setCur t d:=by
 unfold setCur fB;simp[List.set_set]
theorem aGM(t:Tk)(c:Co):(setCur t c).now=t.now:=rfl
theorem oC(t:Tk)(c:Co):(setCur t c).cs.length=t.cs.length:=Ji
theorem zT(t:Tk):(dJ t).length=t.cs.length:=Jf _
theorem aCJ(t:Tk){k:Nat}(h:k<t.cs.length):(dJ t).getD k 0=bot (co t k).fr:=by
 unfold dJ co;rw[Jd,JU,Je h,Jd,Je h];rfl
theorem CI{t:Tk}{k:Nat}{c:Co}(h:k<t.cs.length)(hb:bot c.fr=bot (co t k).fr):dJ (fB t k c)=dJ t:=by
 unfold dJ fB;simp only[List.map_set];rw[hb];refine pE aW (fun i h1 h2=>?_);rw[xA]
 split
 ·rename_i hi;subst hi
  unfold co;rw[List.getElem_map,Jd,Je h];rfl
 ·rfl
theorem AN:∀{l:List Nat},l.Nodup→∀{i j a:Nat},l[i]?=some a→l[j]?=some a→i=j
 |[],_,i,j,a,h,_=>by simp at h
 |x::l,hn,i,j,a,hi,hj=>by
  obtain⟨h1,h2⟩:=zB.1 hn
  cases i with
  |zero=>
   cases j with
   |zero=>rfl
   |succ j=>
    simp at hi hj;subst hi;exact absurd (kO hj) h1
  |succ i=>
   cases j with
   |zero=>
    simp at hi hj;subst hj;exact absurd (kO hi) h1
   |succ j=>
    have:=AN h2 (i:=i) (j:=j) (a:=a) (by simpa using hi) (by simpa using hj);omega
theorem Ok.put{M:aL}{T:Nat→Int→Option Shape}{t:Tk}{ch:List Nat}(h:Ok M T t ch){c:Co}(hst:c.st=(cur t).st)(hup:c.up=(cur t).up)(hb:bot c.fr=bot (cur t).fr)
  (hs:iT M T (dJ t) c.fr c.ws []) (hl:c.ws.length≤400∧c.fr.length≤40):Ok M T (setCur t c) ch:=by
 have hn:=h.jS;have hg:dJ (setCur t c)=dJ t:=CI hn hb;have hc:∀j,co (setCur t c) j=if t.now=j then c else co t j:=fun j=>qK hn;have hcur:(co (setCur t c) t.now)=c:=by rw[hc,if_pos rfl]
 have hst':∀j,(co (setCur t c) j).st=(co t j).st:=fun j=>by
  rw[hc];split
  ·rename_i e;subst e;exact hst
  ·rfl
 have hup':∀j,(co (setCur t c) j).up=(co t j).up:=fun j=>by
  rw[hc];split
  ·rename_i e;subst e;exact hup
  ·rfl
 have hb':∀j,bot (co (setCur t c) j).fr=bot (co t j).fr:=fun j=>by
  rw[hc];split
  ·rename_i e;subst e;exact hb
  ·rfl
 have hne:∀j,t.now≠j→co (setCur t c) j=co t j:=fun j hj=>by rw[hc,if_neg hj]
 have hin:t.now∈ch:=kO h.now;refine⟨h.now,by rw[oC];exact h.eL,h.nodup,by rw[oC];exact h.mem,fun k hk=>?_,fun i k hk=>?_,h.root,?_,fun i d k hd hk=>?_,fun k hk h0=>?_,fun k hk h1=>?_,fun k hk=>?_,fun k hk=>?_,fun k hk=>?_⟩
 ·rw[oC]at hk;rw[hst'];exact h.going k hk
 ·rw[hup'];exact h.chain i k hk
 ·rw[hg,nY hn];exact hs
 ·rw[hg,hb'];have hk':t.now≠k:=fun e=>by
   subst e;have h0:=h.now;have:=AN h.nodup h0 hk;omega
  rw[hne k hk'];exact h.wait i d k hd hk
 ·rw[oC]at hk;rw[hst']at h0;have hk':t.now≠k:=fun e=>by subst e;have:=(h.going _ hk).2 hin;omega
  rw[hg,hne k hk'];exact h.fresh k hk h0
 ·rw[oC]at hk;rw[hst']at h1;have hk':t.now≠k:=fun e=>by subst e;have:=(h.going _ hk).2 hin;omega
  rw[hg,hne k hk'];exact h.held k hk h1
 ·rw[oC]at hk;rw[hc];split
  ·exact hl
  ·exact h.lens k hk
 ·rw[oC]at hk;rw[hb'];exact h.kinds k hk
 ·rw[oC]at hk;rw[hst'];exact h.bV k hk
end Vm
namespace Opt
open ImgM Ver
def src(l:List aT):List Nat:=aGb l (bs l)
section
variable{M:aL}{u:bM}{τ:Int→Option Shape}(hc:Cert M u τ)
include hc
end
structure EE(M:aL)(u:bM):Prop where
 head:head M u=0
 ins:∀i∈u.code,eV M u i=0
 cert:∃τ,Cert M u τ
theorem aCS{M:aL}{u:bM}(h:Ver.head M u=0):1≤u.code.length∧u.code.length≤4000:=by
 unfold Ver.head at h
 by_cases e1:u.kind≠2∧u.kind≠3∧u.kind≠4
 ·rw[if_pos e1]at h;cases h
 rw[if_neg e1]at h
 by_cases e2:200<u.locals.length∨u.params<0∨6<u.params∨(u.locals.length:Int)<u.params∨(u.kind=4∧0<u.params)
 ·rw[if_pos e2]at h;cases h
 rw[if_neg e2]at h
 by_cases e3:u.code.length<1∨4000<u.code.length
 ·rw[if_pos e3]at h;cases h
 omega
theorem aH8{M:aL}{u:bM}{i:aT}(h:eV M u i=0)(ho:i.op=2):i.a=0∨i.a=1:=by
 unfold eV at h;rw[if_pos ho]at h;have:=A0 h;rw[xC,JV,JV]at this;exact this
theorem aI0(b:Bool):yes b=0∨yes b=1:=by cases b<;>simp[yes]
theorem aHa{op x y:Int}(h:12<op)(h20:op≤20)(hx:18<op→(x=0∨x=1)∧(y=0∨y=1)):m4 op x y=0∨m4 op x y=1:=by
 unfold m4
 (repeat rw[if_neg aA])
 repeat' split
 all_goals first|exact aI0 _|skip
 ·obtain⟨h1,h2⟩:=hx aA;rcases h1 with rfl|rfl<;>rcases h2 with rfl|rfl<;>decide
 ·obtain⟨h1,h2⟩:=hx aA;rcases h1 with rfl|rfl<;>rcases h2 with rfl|rfl<;>decide
theorem aDM{l:List aT}{q:Nat}(hq:q<l.length):at_ l q∈l:=by
 unfold at_;rw[Jd,Je hq];exact hZ _
end Opt
end Go.Proofs.YtofckcabpchcmaaGreatDoor
