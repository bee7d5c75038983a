/- How all stands, walked. -/
import Derived.Test.YtofckcabpchcmaaGreatDoorM24
set_option linter.unusedVariables false
set_option linter.unusedSimpArgs false
set_option linter.unusedSectionVars false
set_option maxRecDepth 100000
namespace Go.Proofs.YtofckcabpchcmaaGreatDoor
namespace Vw
open Go.RowKit Img
section
attribute [local irreducible] aE aG End aB Still aN aU RunT Fn aS
structure rZ where
 st:Int
 bx:Int
 tr:Int
 oo:Option Addr
 oc:Nat
 out:List Int
instance:Inhabited rZ:=⟨⟨0,0,0,none,0,[]⟩⟩
def mD(x:rZ):List Value:=[.int .i64 x.st, .int .i64 x.bx, .int .i64 x.tr, .slice x.oo x.out.length x.oc]
instance:bH mD:=⟨fun _=>rfl,aK,fun a u hu=>by simp[mD]at hu;rcases hu with rfl|rfl|rfl|rfl<;>rfl⟩
def nF(x:rZ):Int×Int×Int×List Int:=(x.st,x.bx,x.tr,x.out)
def G6(t:Vm.Tk):Int×Int×Int×List Int:=(t.st,t.bx,t.tr,t.out)
abbrev sL(x:rZ):Chunk:=arr x.oo x.out.length x.oc 2 aY x.out
structure jD where
 eo:Option Addr
 ec:Nat
 ends:List rZ
 wo:Option Addr
 wc:Nat
 rows:List Rw
 n:Nat
abbrev jD.cells(r:jD):List Value:=[.slice r.eo r.ends.length r.ec, .slice r.wo r.rows.length r.wc, .int .i64 r.n]
abbrev jD.mem(r:jD):List Chunk:=[arr r.eo r.ends.length r.ec 46 mD r.ends,bC (r.ends.map sL),arr r.wo r.rows.length r.wc 39 nM r.rows,bC (r.rows.map (uK 2))]
structure jD.Is(r:jD)(c:Vm.Ma):Prop where
 ends:r.ends.map nF=c.ts.map G6
 rows:r.rows.map (·.l)=c.bs.ws
 n:r.n=c.n
theorem nA.one{m:ML}{T:Nat→Int→Option Ver.Shape}{x:sF}{ts ts0:List cC}{e:eF}{n k:Nat}(h:lA m T x ts0 e n)(hl:nA m ts0 e k ts)(hk:k<ts0.length):
  ((dC ts0 e n).looked m.aC).ts.getD k default=((((ts.getD k default).sl (E0 m x.p) e).look m).lay (ts.getD k default).tb).tk:=by
 have h1:=((hl.next h hk).at_ k hk).2.2;rw[if_pos aA]at h1;have hlu:k<ts.length:=by rw[hl.len];exact hk
 have e2:(ts.set k ((((ts.getD k default).sl (E0 m x.p) e).look m).lay (ts.getD k default).tb)).getD k default=(((ts.getD k default).sl (E0 m x.p) e).look m).lay (ts.getD k default).tb:=by
  rw[Jd,JS hlu];rfl
 rw[e2]at h1;rw[h1];unfold Vm.Ma.looked;rw[Jd,JU];simp only[dC,JU,Je hk,pA,JZ,Jd]
set_option maxHeartbeats 2000000 in
theorem ZI(m:ML){T:Nat→Int→Option Ver.Shape}(hC:Vm.gN m.aC T)(x:sF)(ts:List cC)(e:eF)(n:Nat)(h:lA m T x ts e n)(hn:ts.length≤30)(hb30:m.bx.length≤30):
  Fn Tryz.prog 28 #[ptr x.xb] [md m,kB x.p] (nH m x ts e n) (σ:=List cC×jD) (fun s=>lA m T x s.1 e n∧dC s.1 e n=(dC ts e n).looked m.aC∧s.2.Is ((dC ts e n).looked m.aC))
   (fun s=> .agg s.2.cells.toArray) (fun s=>s.2.mem ++nH m x s.1 e n):=by
 obtain⟨C,hC'⟩:∃C,C=(dC ts e n).looked m.aC:=⟨_,rfl⟩;rw[←hC'];have htb:x.cW.length=ts.length:=by rw[←h.cW,Jf]
 have hCl:C.ts.length=ts.length:=by rw[hC'];simp[Vm.Ma.looked]
 have hbl:x.p.bs.length=m.bx.length:=by rw[←h.bx.at_,Jf];exact h.bx.len
 have hn2:=h.ok.n;refine JE [ptr x.xb] Tryz.func28 Tryz.ntmps28 fun w S=>?_;refine Jn ?_
 repeat(refine Jy ?_;try intro b)
 obtain⟨wb,rfl⟩:=a7 b;obtain⟨rb,rfl⟩:=a7 b;apply aG.imp (fun w hm=>(hm.cU 46 mD).gH);refine cK (σ:=Nat×List cC×Option Addr×Nat×List rZ) (fun z=>z.1≤ts.length∧nA m ts e z.1 z.2.1∧z.2.2.2.2.length=z.1∧z.2.2.2.2.map nF=(C.ts.take z.1).map G6) (fun z=>[(0,ptr x.xb),(2,ptr rb),(3,ptr wb),(16, .slice x.to x.cW.length x.tc),(17, .int .i64 x.cW.length),(18, .int .i64 z.1)]) (fun z=>aO w S::md m::kB x.p::aF rb [.slice none 0 0, .slice none 0 0, .int .i64 0] 32::aF wb [.slice z.2.2.1 z.1 z.2.2.2.1, .slice none 0 0, .int .i64 n] 32::arr z.2.2.1 z.1 z.2.2.2.1 46 mD z.2.2.2.2::bC (z.2.2.2.2.map sL)::nH m x z.2.1 e n) (fun z=>ts.length-z.1) (0,ts,none,0,[]) ?_ fun z hz K1 hK1=>?_
 ·exact⟨bQ _,nA.zero h,rfl,rfl⟩
 refine Jn ?_;obtain⟨q,us,eo,ec,ends⟩:=z;obtain⟨hq0,hl,he1,he2⟩:=hz;dsimp only at hq0 hl he1 he2 hK1⊢
 by_cases hq:q<ts.length
 ·have hCq:=hl.one h hq;rw[←hC']at hCq;obtain⟨t,ht⟩:∃t,t=us.getD q default:=⟨_,rfl⟩;have hz:=(hl.at_ q hq).2.1.sl (E:=E0 m x.p) h.bx;have hg:=h.oR hl hq;have hnx:=hl.next h hq;have hlu:q<us.length:=by rw[hl.len];exact hq
  rw[←ht]at hz hg hnx hCq;have htbq:x.cW.getD q default=t.tb:=by
   rw[←hl.cW h,ht,Jd,Jd,JU,Je hlu];rfl
  have hout:t.out.length≤40000:=by
   have h1:=h.ok.looked.out (C.ts.getD q default) (by rw[hC'];exact h.ok.looked.at_ (by rw[←hC',hCl];exact hq));rw[hCq]at h1;have h2:t.out.length≤2*n:=h1;have h3:n≤20000:=hn2;omega
  apply aG.imp (fun w hm=>by have:=Mem.NY (k:=q) hm (tk) hlu;rw[←ht]at this;exact this);refine aD ?_;rw[htbq];refine aD ?_;(refine Jc ?_;refine aB.bA (spec:=LG (E:=E0 m x.p) ⟨t.tb,x.mb,m⟩ (t.sl (E0 m x.p) e) hC hz rfl hg) (r:=(fun w=>Reads.md (tk) (Reads.any (tk) (sK x.p) .nil))) (k:=?_);intro s hs;refine Jn ?_);refine aD ?_;apply aG.imp (fun w hm=>hm.cU 2 aY);refine b8 23 [jV ⟨t.tb,x.mb,m⟩ ((t.sl (E0 m x.p) e).look m),aF wb [.slice eo q ec, .slice none 0 0, .int .i64 n] 32] 24 ?_;refine bR [0,1,2,3,4,5,6,7,8,9,10,11,12,13,14,15,16,17] ?_;have hout':((t.sl (E0 m x.p) e).look m).out.length≤40000:=hout;(refine JT 18 ?_;refine aB.xJ (l2:=t.out) (k:=?_);intro no nc;refine JG ?_);simp only[sD,Jk];refine JR 19 ?_;refine iF 20 fun b=>?_;(refine JT 21 ?_;refine aB.jN (a:=(⟨((t.sl (E0 m x.p) e).look m).st,((t.sl (E0 m x.p) e).look m).bx,((t.sl (E0 m x.p) e).look m).tr,no,nc,t.out⟩:rZ)) (k:=?_);intro ao cap;refine JG ?_;refine Jn ?_);refine JR 22 ?_;refine gWl [23] ?_;refine b6 ?_;refine aD ?_;obtain⟨X,hX⟩:∃X:rZ,X=⟨((t.sl (E0 m x.p) e).look m).st,((t.sl (E0 m x.p) e).look m).bx,((t.sl (E0 m x.p) e).look m).tr,no,nc,t.out⟩:=⟨_,rfl⟩;have hXe:nF X=G6 (C.ts.getD q default):=by rw[hCq,hX];rfl
  apply End.imp (fun w hm=>Mem.G5 (told:=fun _=> .nilFunc) (t:=((t.sl (E0 m x.p) e).look m).lay t.tb) hm (tk) (cA) hlu);apply End.imp (fun w hm=>Mem.B8 (cs:=ends.map sL) (ds:=[sL X]) hm (tk) (by rw[hX];(repeat(first|exact aR.nil|exact Take.head|apply Take.tail|apply aR.cons))) (fun c hc=>by simp at hc;subst hc;exact dU));have hmp:ends.map sL ++[sL X]=(ends ++[X]).map sL:=aW;rw[hmp,←hX];refine End.bK hK1 (q+1,us.set q (((t.sl (E0 m x.p) e).look m).lay t.tb),ao,cap,ends ++[X]) ?_ ?_
  ·refine⟨by dsimp only;omega,hnx,by simp[he1],?_⟩;have hqC:q<C.ts.length:=aA;dsimp only;rw[Jq,he2,Jp hqC,Jq];congr 1;simp only[fI,m9];rw[hXe,Jd,Je hqC];rfl
  ·dsimp only;omega
 ·obtain rfl:q=ts.length:=aA;obtain⟨d1,d2⟩:=hl.done h;clear hK1;refine aD ?_;apply aG.imp (fun w hm=>(hm.cU 39 nM).gH);refine cK (σ:=Nat×Option Addr×Nat×List Rw) (fun z=>z.1≤m.bx.length∧z.2.2.2.length=z.1∧z.2.2.2.map (·.l)=e.abs.ws.take z.1) (fun z=>[(2,ptr rb),(3,ptr wb),(51, .slice x.p.bo x.p.bs.length x.p.bc),(52, .int .i64 x.p.bs.length),(53, .int .i64 z.1)]) (fun z=>aO w S::kB x.p::aF rb [.slice none 0 0, .slice none 0 0, .int .i64 0] 32::aF wb [.slice eo ts.length ec, .slice z.2.1 z.1 z.2.2.1, .int .i64 n] 32::arr eo ts.length ec 46 mD ends::bC (ends.map sL)::arr z.2.1 z.1 z.2.2.1 39 nM z.2.2.2::bC (z.2.2.2.map (uK 2))::nH m x us e n) (fun z=>m.bx.length-z.1) (0,none,0,[]) ?_ fun z hz K1 hK1=>?_
  ·exact⟨bQ _,rfl,rfl⟩
  refine Jn ?_;obtain⟨q,wo,wc,rows⟩:=z;obtain⟨y1,y2,y3⟩:=hz;dsimp only at y1 y2 y3 hK1⊢
  by_cases hq:q<m.bx.length
  ·obtain⟨s1,u1,r,h1,h2,h3,h4,h5,h6,h7⟩:=h.bx.split hq;have hrn:r.ws.length≤20:=by have:=r.len;have:=h3.n;have:=h3.cap;omega
   apply aG.imp (fun w hm=>Mem.DH hm (tk) h1);refine aD ?_;rw[h5];refine b8 7 [aF wb [.slice eo ts.length ec, .slice wo q wc, .int .i64 n] 32] 8 ?_;refine bR [0,1,2] ?_;refine lN 3 (aIT r h3) fun s hs=>?_;obtain⟨no,nc⟩:=s;dsimp only;refine iF 4 fun b=>?_;(refine JT 5 ?_;refine aB.jN (a:=(⟨no,nc,r.ws⟩:Rw)) (k:=?_);intro ao cap;refine JG ?_;refine Jn ?_);refine JR 6 ?_;refine gWl [7] ?_;refine b6 ?_;refine aD ?_;apply End.imp (fun w hm=>Mem.DG (p:=x.p) (e:=e) (s:=s1) (u:=u1) (r:=r) hm (cA));rw[←h1];apply End.imp (fun w hm=>Mem.B8 (cs:=rows.map (uK 2)) (ds:=[uK 2 ⟨no,nc,r.ws⟩]) hm (tk) (cA) (fun c hc=>by simp at hc;subst hc;exact dU));have hmp:rows.map (uK 2) ++[uK 2 ⟨no,nc,r.ws⟩]=(rows ++[(⟨no,nc,r.ws⟩:Rw)]).map (uK 2):=aW;rw[hmp];refine End.bK hK1 (q+1,ao,cap,rows ++[⟨no,nc,r.ws⟩]) ?_ ?_
   ·refine⟨by dsimp only;omega,by simp[y2],?_⟩;have hqe:q<e.abs.ws.length:=by show q<(e.rs.map Ring.ws).length;rw[Jf];have h9:e.rs.length=m.bx.length:=h.bx.len;omega
    dsimp only;rw[Jq,y3,Jp hqe];congr 1;simp only[fI,m9];rw[←h6,Jd,Je hqe];rfl
   ·dsimp only;omega
  ·obtain rfl:q=m.bx.length:=aA;clear hK1;refine aD ?_;obtain⟨R,hR⟩:∃R:jD,R=⟨eo,ec,ends,wo,wc,rows,n⟩:=⟨_,rfl⟩;refine End.fX ((us,R):List cC×jD) (he:=by rw[hR];simp only[jD.cells,he1,y2]) (hF:=by(subst hR;simp only[jD.mem,he1,y2,w9,Jk];exact cA)) (hp:=?_) (hx:=by simp[iL,dU,iB,vD,G7]);subst hR;have hel:e.abs.ws.length=m.bx.length:=by show(e.rs.map Ring.ws).length=_;rw[Jf];exact h.bx.len
   refine⟨d1,d2.trans hC'.symm,⟨?_,?_,?_⟩⟩
   ·dsimp only;rw[he2,kN aA]
   ·dsimp only;rw[y3,kN aA,hC'];rfl
   ·dsimp only;rw[hC'];rfl
end
theorem aBo{R pre:List Chunk}(hR:∀c∈R,c.bE=false):e7 (R ++pre)=e7 pre:=by
 funext b
 simp only[e7,eq_iff_iff];constructor
 ·rintro⟨c,hc,hx,hb⟩;rcases dF.1 hc with hc|hc
  ·rw[hR c hc]at hx;cases hx
  ·exact⟨c,hc,hx,hb⟩
 ·rintro⟨c,hc,hx,hb⟩;exact⟨c,mQ _ hc,hx,hb⟩
theorem Fn.conv{P:Program}{f:FuncId}{args:Array Value}{σ τ:Type}{R pre pre' F:List Chunk}{post:σ→Prop}{val:σ→Value}{mem:σ→List Chunk}{post':τ→Prop}{val':τ→Value}{mem':τ→List Chunk}(hR:∀c∈R,c.bE=false)
  (spec:Fn P f args R pre' post' val' mem') (hin:∀w G,Mem w (pre ++G)→Mem w (pre' ++(F ++G)))
  (hout:∀w G x,post' x→Mem w (mem' x ++(F ++G))→∃y,post y∧val' x=val y∧(∀c∈mem y,c.bE=true)∧Mem w (mem y ++G)):Fn P f args R pre post val mem:=by
 intro w hm;have h0:=hm.since;rw[aBo hR]at h0;have h1:Mem w (pre ++(R ++[aO w (e7 pre)])):=by
  refine h0.perm ?_;rw[←Jt];exact(pB (l₁:=[aO w (e7 pre)]) (l₂:=R ++pre)).trans (List.Perm.append_right _ pB)
 have h2:=hin w _ h1;have h3:Mem w (R ++pre'):=by
  refine Mem.left (M:=F ++[aO w (e7 pre)]) (h2.perm ?_);have p1:(pre' ++(F ++(R ++[aO w (e7 pre)]))).Perm (pre' ++(R ++(F ++[aO w (e7 pre)]))):=List.Perm.append_left _ (BP _ _ _);have p2:(pre' ++(R ++(F ++[aO w (e7 pre)]))).Perm (R ++(pre' ++(F ++[aO w (e7 pre)]))):=BP _ _ _;have:=p1.trans p2;rwa [←Jt R]at this
 refine(spec w h3).mono ?_;rintro e w' ⟨x,hp,rfl,hx,hM⟩;have h4:=h2.frame hM hx;obtain⟨y,g1,g2,g3,g4⟩:=hout w' _ x hp h4;refine⟨y,g1,by rw[g2],g3,?_⟩;refine Mem.left (M:=R) (g4.perm ?_);have p1:(mem y ++(R ++[aO w (e7 pre)])).Perm (mem y ++([aO w (e7 pre)] ++R)):=List.Perm.append_left _ pB;refine p1.trans ?_;have p2:(mem y ++([aO w (e7 pre)] ++R)).Perm ([aO w (e7 pre)] ++(mem y ++R)):=BP _ _ _;exact p2
theorem aDG(l:List cC)(k:Nat)(t:cC):(l.set k t).map cC.tk=(l.map cC.tk).set k t.tk:=List.map_set
abbrev DN(p:m8)(told:Bool):Nat→Value:=fun k=>j6 (toldOf p (Vm.A5 told k))
abbrev F4(m:ML)(x:sF)(told:Bool)(ts:List cC)(e:eF)(n:Nat):List Chunk:=[aF x.xb (mG x.to x.cW.length x.tc x.p.bo x.p.bs.length x.p.bc n) 160,aF x.mb (lQ m) 26,arr x.to x.cW.length x.tc 95 jI x.cW,nV x.p e,qY x.mb (vE x.p.bo x.p.bs.length x.p.bc) (DN x.p told) ts]
set_option maxHeartbeats 1000000 in
theorem aE3(m:ML){T:Nat→Int→Option Ver.Shape}(hC:Vm.gN m.aC T)(x:sF)(ts:List cC)(e:eF)(n:Nat)(h:lA m T x ts e n)(hn:ts.length≤30)(told:Bool)(hK:∀k,k<ts.length→tF x.p (Vm.A5 told k))(tk q:Int):
  Fn Tryz.prog 26 #[ptr x.xb, .agg #[.int .i64 tk, .int .i64 q]] [md m,kB x.p] (F4 m x told ts e n) (σ:=List cC×eF)
   (fun s=>lA m T x s.1 s.2 (Vm.pick m.aC told (dC ts e n) (tk,q)).2.n∧s.1.length=ts.length∧dC s.1 s.2 (Vm.pick m.aC told (dC ts e n) (tk,q)).2.n=(Vm.pick m.aC told (dC ts e n) (tk,q)).2)
   (fun _=> .agg #[.int .i64 (Vm.pick m.aC told (dC ts e n) (tk,q)).1.1, .int .i64 ((Vm.pick m.aC told (dC ts e n) (tk,q)).1.2:Int)])
   (fun s=>F4 m x told s.1 s.2 (Vm.pick m.aC told (dC ts e n) (tk,q)).2.n):=by
 have htb:x.cW.length=ts.length:=by rw[←h.cW,Jf]
 have hel:∀(us:List cC) (e':eF) (n':Nat),∀c∈F4 m x told us e' n',c.bE=true:=fun us e' n'=>by simp[iL,dU,vD,G7]
 by_cases h1:tk<0∨(ts.length:Int)≤tk
 ·have hp:Vm.pick m.aC told (dC ts e n) (tk,q)=((3,0),dC ts e n):=by
   unfold Vm.pick;rw[if_pos (by show tk<0∨((ts.map cC.tk).length:Int)≤tk;rw[Jf];exact h1)]
  rw[hp];refine Fn.conv (F:=(F4 m x told ts e n).tail) (by simp[mH,eO]) ?_ ?_ ?_ (pre':=[aF x.xb (mG x.to x.cW.length x.tc x.p.bo x.p.bs.length x.p.bc n) 160]) (σ:=List cC×eF) (τ:=Unit) (post':=fun _=>True) (val':=fun _=> .agg #[.int .i64 3, .int .i64 0]) (mem':=fun _=>[aF x.xb (mG x.to x.cW.length x.tc x.p.bo x.p.bs.length x.p.bc n) 160])
  ·intro w hm;have:=aE5 x.xb x.to x.tc x.cW.length x.p.bo x.p.bs.length x.p.bc n tk q aA w (Mem.right (L:=[md m,kB x.p]) hm);exact this
  ·intro w G hm;exact hm
  ·intro w G s _ hm;exact⟨(ts,e),⟨h,rfl,rfl⟩,rfl,hel _ _ _,hm⟩
 ·obtain⟨k,rfl⟩:=JI (show 0≤tk by omega);have hk:k<ts.length:=aA;obtain⟨t,ht⟩:∃t,t=ts.getD k default:=⟨_,rfl⟩
  let E:=QG m.aC x.p (Vm.A5 told k) (hK k hk)
  have htm:t∈ts:=by rw[ht];exact NZ hk
  have hcm:t.tk∈(dC ts e n).ts:=eY.2 ⟨t,htm,rfl⟩;have hz:=(h.wf t htm).sl (E:=E) h.bx;have hg:Vm.Good m.aC T (Vm.KB m.aC) (t.sl (E) e).two:=h.ok.oR _ hcm;have ho:(t.sl (E) e).out.length≤2*n:=h.ok.out _ hcm;have hat:(dC ts e n).at_ k=(t.sl (E) e).two:=by
   show((ts.map cC.tk).getD k default,e.abs)=(t.tk,e.abs);rw[ht,Jd,JU,Je hk,Jd,Je hk];rfl
  have htbk:x.cW.getD k 0=t.tb:=by
   rw[←h.cW,ht,Jd,Jd,JU,Je hk];rfl
  have hsp:=aE8 (E:=E) ⟨t.tb,x.mb,m⟩ x.xb x.to x.tc x.cW x.p.bo x.p.bs.length x.p.bc n k q aA htbk (t.sl (E) e) hC (Vm.QK m.aC (Vm.A5 told k)) hz rfl hg h.ok.n ho h.ok.log aA;obtain⟨R,hR⟩:∃R,R=Vm.nJ (Vm.cZ m.aC (Vm.A5 told k)) m.aC n q (t.sl (E) e).two:=⟨_,rfl⟩;have hsp':Fn Tryz.prog 26 #[ptr x.xb, .agg #[.int .i64 k, .int .i64 q]] [md m,kB x.p] (aF x.xb (mG x.to x.cW.length x.tc x.p.bo x.p.bs.length x.p.bc n) 160::arr x.to x.cW.length x.tc 95 jI x.cW::TM ⟨t.tb,x.mb,m⟩ (t.sl (E) e)) (σ:=SL (E)) (jL (t.sl (E) e) R.2) (fun _=> .agg #[.int .i64 R.1.1, .int .i64 R.1.2]) (fun z'=>aF x.xb (mG x.to x.cW.length x.tc x.p.bo x.p.bs.length x.p.bc (n+R.1.2)) 160::arr x.to x.cW.length x.tc 95 jI x.cW::TM ⟨t.tb,x.mb,m⟩ z'):=by rw[hR];exact hsp
  have hp:Vm.pick m.aC told (dC ts e n) ((k:Int),q)=(R.1,⟨(ts.map cC.tk).set k R.2.1,R.2.2,n+R.1.2⟩):=by
   unfold Vm.pick;rw[if_neg (by show¬((k:Int)<0∨((ts.map cC.tk).length:Int)≤(k:Int));rw[Jf];omega)];show _=_;rw[hR,←hat];rfl
  have hok':=h.ok.pick hC told ((k:Int),q);rw[hp]at hok'⊢;refine Fn.conv (F:=[G8 x.mb (vE x.p.bo x.p.bs.length x.p.bc) (DN x.p told) ts k]) (by simp[mH,eO]) hsp' ?_ ?_
  ·intro w G hm;have h2:=Mem.NY (k:=k) hm (show Take (qY x.mb (vE x.p.bo x.p.bs.length x.p.bc) (DN x.p told) ts) _ _ from .tail (.tail (.tail (.tail .head)))) hk;rw[←ht]at h2;exact h2.aP (cA)
  ·intro w G z' hz' hm;obtain⟨w1,w2⟩:=hz';have htk:(z'.lay t.tb).tk=R.2.1:=congrArg (·.1) w2;have hbs:eF.abs z'.e=R.2.2:=congrArg (·.2) w2;have hA:dC (ts.set k (z'.lay t.tb)) z'.e (n+R.1.2)=⟨(ts.map cC.tk).set k R.2.1,R.2.2,n+R.1.2⟩:=by
    simp only[dC,aDG,htk,hbs]
   refine⟨(ts.set k (z'.lay t.tb),z'.e),⟨⟨?_,fun y hy=>?_,w1.env,by rw[hA];exact hok'⟩,aW,hA⟩,rfl,hel _ _ _,?_⟩
   ·dsimp only;rw[List.map_set,h.cW];refine pE aW fun j h1 h2=>?_;rw[xA]
    split
    ·rename_i hkj;subst hkj
     rw[Jd,Je h2]at htbk;exact htbk.symm
    ·rfl
   ·rcases BR hy with hy|rfl
    ·exact h.wf y hy
    ·exact w1.lay _
   ·have h3:=Mem.G5 (told:=DN x.p told) (t:=z'.lay t.tb) hm (show Take (G8 x.mb (vE x.p.bo x.p.bs.length x.p.bc) (DN x.p told) ts k) _ _ from tk) (cA) hk;exact h3.aP (cA)
theorem MO(m:ML){T:Nat→Int→Option Ver.Shape}(hC:Vm.gN m.aC T)(x:sF)(ts:List cC)(e:eF)(n:Nat)(h:lA m T x ts e n)(hn:ts.length≤30)(tk q:Int):
  Fn Tryz.prog 26 #[ptr x.xb, .agg #[.int .i64 tk, .int .i64 q]] [md m,kB x.p] (nH m x ts e n) (σ:=List cC×eF)
   (fun s=>lA m T x s.1 s.2 (Vm.pick m.aC false (dC ts e n) (tk,q)).2.n∧s.1.length=ts.length∧dC s.1 s.2 (Vm.pick m.aC false (dC ts e n) (tk,q)).2.n=(Vm.pick m.aC false (dC ts e n) (tk,q)).2)
   (fun _=> .agg #[.int .i64 (Vm.pick m.aC false (dC ts e n) (tk,q)).1.1, .int .i64 ((Vm.pick m.aC false (dC ts e n) (tk,q)).1.2:Int)])
   (fun s=>nH m x s.1 s.2 (Vm.pick m.aC false (dC ts e n) (tk,q)).2.n):=aE3 m hC x ts e n h hn false (fun _ _=>trivial) tk q
end Vw
section
section
variable{P:Program} [eT P]{N:Nd}{E:Env}{L L' F:List Chunk}{σ:Type}{fn:Func}{post:σ→Prop}{val:σ→Value}{mem:σ→List Chunk}{w0:World}{S:Nat→Prop}
theorem Still.RV{x:Operand}{d:Option Tmp}{T ft ty:TypeId}{pos:String}{aft:Array Edge}{g:Option (Nat×Bool)}{fs:List (Nat×TypeId)}{s' b' f off s2 b2:Nat}{z' z2:List Value}{k:IntKind}{cs:Array Value}{v:Value}(hx:ev E x=Option.some (.agg cs))(ht:bB P T=Option.some ⟨.struct fs,s',b',z'⟩)
  (hf:fs[f]?=Option.some (off,ft)) (hj:bB P ft=Option.some ⟨.int k,s2,b2,z2⟩) (hv:cs[off]?=Option.some v):Still P N ⟨d, .field T x f,ty,pos,aft,g⟩ E L v:=fun A w hs _=>by
 obtain⟨l,h1,h2⟩:=(cI ht).struct;rw[←h2,JU]at hf;have h3:=(cI hj).int
 cases hlf:l[f]? with
 |none=>rw[Array.getElem?_toList,hlf]at hf;cases hf
 |some fl=>
  rw[Array.getElem?_toList,hlf]at hf;simp only[pA,tE,u7]at hf;obtain⟨rfl,rfl⟩:=hf;simp[execOp,hs.ev hx,Instr.field,run_underlying h1,hlf,part,isAgg,run_underlying h3,asAgg,hv]
theorem End.RB{t u v:Tmp}{ty bt:TypeId}{b s' b':Nat}{fs:List (Nat×TypeId)}{z' cs:List Value}{y z:Value}(x:σ)(hr:fn.results= #[.cell t ty, .tmp u, .tmp v])(hv:look E t=Option.some (.pointer (Option.some ⟨b,0,none⟩)))(ht:bB P ty=Option.some ⟨.struct fs,s',b',z'⟩)
  (hm:Take (aF b cs bt) L L') (hl:cs.length=s') (hu:look E u=Option.some y) (hw:look E v=Option.some z) (he:val x= .tuple #[.agg cs.toArray,y,z]) (hp:post x) (hx:∀c∈mem x,c.bE=true) (hF:aR (aO w0 S::mem x) L F) (hD:N.ds=[]):End (bodyPost P fn (eJ post val mem w0 S)) N .ret E L:=fun a w hs hM=>by
 have hb:=jO.1 (hM.has hm);have h1:=hs.slot t _ hv;have h2:=hs.slot u _ hu;have h3:=hs.slot v _ hw;refine bodyPost_ret (v:= .tuple #[.agg cs.toArray,y,z]) ?_ (hs.defs.trans hD) ⟨x,hp,by rw[he],hx,(hM.aP hF).left⟩;simp[results,hr,h1,h2,h3,asAddr,uL ht hb hl]
end
end
namespace Vw
open Go.RowKit Img
section
attribute [local irreducible] aE aG End aB Still aN aU RunT Fn aS
section
def vQ(p:Int×Int):List Value:=[.int .i64 p.1, .int .i64 p.2]
instance:bH vQ:=⟨fun _=>rfl,aK,fun a u hu=>by simp[vQ]at hu;rcases hu with rfl|rfl<;>rfl⟩
def zO(d:Int×Nat):List Value:=[.int .i64 d.1, .int .i64 d.2]
instance:bH zO:=⟨fun _=>rfl,aK,fun a u hu=>by simp[zO]at hu;rcases hu with rfl|rfl<;>rfl⟩
attribute [local irreducible] Ver.verify
theorem ZR(m:ML)(hwf:m.Wf)(n:Nat):Fn Tryz.prog 24 #[m.val, .int .i64 n] [md m] [] (σ:=Unit) (fun _=>True) (fun _=> .int .i64 (Vm.kX m.aC n)) (fun _=>[]):=by
 refine Fn.enter (args:=[m.val, .int .i64 n]) Tryz.func24 rfl _ Tryz.ntmps24 rfl (by simp[mH]) (fun w S=>?_);refine Jn ?_
 repeat(refine Jy ?_;try first|intro ao cap|intro b)
 (refine dV (YP m hwf) fun s hs=>?_);obtain⟨V,hV⟩:∃V,V=Ver.verify m.aC:=⟨_,rfl⟩;have hW:Vm.kX m.aC n=if V.err≠0 then V.err else if 400<n then 5 else 0:=by unfold Vm.kX;rw[←hV]
 rw[hW,←hV]
 by_cases h1:V.err=0
 ·rw[if_neg (fun h=>h h1)]
  by_cases h2:400<n
  ·rw[if_pos h2]
   repeat(refine Jy ?_;try first|intro ao cap|intro b)
   exact fZ ()
  ·rw[if_neg h2]
   repeat(refine Jy ?_;try first|intro ao cap|intro b)
   exact fZ ()
 ·rw[if_pos h1]
  repeat(refine Jy ?_;try first|intro ao cap|intro b)
  exact fZ ()
end
theorem Ring.aIX{r:Ring}(h:r.n=0):r.ws=[]:=qC (by rw[r.len,h])
def kM.pl(s:kM)(mb:Nat):sF:=⟨s.xb,mb,s.to,s.tc,s.ts.map (·.tb),⟨s.bo,s.bc,s.rs.map (·.bb),none⟩⟩
def kM.be(s:kM):eF:=⟨s.rs,none,0,[]⟩
theorem Mem.aDn{w:World}{L:List Chunk}(h:Mem w L)(e:TypeId){α:Type}{iα:Inhabited α}(f:α→List Value) [bH f]{l:List α}(hl:l=[]):Mem w (arr none 0 0 e f l::L):=by subst hl;exact h.cU e f
theorem P5{w:World}{L F:List Chunk}{m:ML}{mb:Nat}(s:kM){n:Nat}(hn:n=0)(t:aR (kM.mem m mb s) L F)(h:Mem w L):Mem w (kB (s.pl mb).p::(nH m (s.pl mb) s.ts s.be n ++F)):=by
 subst hn;have h1:Mem w (kM.mem m mb s ++F):=h.aP t;have h2:=aEz (α:=Nat) (ao:=s.bo) (n:=s.rs.length) (cap:=s.bc) (e:=161) (f:=jI) (l:=s.rs.map (·.bb)) (L:=kM.mem m mb s ++F) (by exact .cons (.tail (.tail (.tail .head))) .nil) h1;have h3:Mem w (bC []::_):=h2.gH;have h4:=Mem.pack (cs:=[bC (s.rs.flatMap eA),bC []]) (L:=_) (h3.aP (by exact .cons (.tail (.tail (.tail (.tail (.tail .head))))) (.cons .head .nil))) (fun c hc=>by simp at hc;rcases hc with rfl|rfl<;>exact iB);have e1:(s.pl mb).cW.length=s.ts.length:=by simp[kM.pl]
 have e2:(s.pl mb).p.bs.length=s.rs.length:=by simp[kM.pl]
 have h5:Mem w (nV (s.pl mb).p s.be::rd s.bo s.rs.length s.bc jI (s.rs.map (·.bb))::aF s.xb (mG s.to s.ts.length s.tc s.bo s.rs.length s.bc 0) 160::aF mb (lQ m) 26::arr s.to s.ts.length s.tc 95 jI (s.ts.map (·.tb))::qY mb (vE s.bo s.rs.length s.bc) (fun _=> .nilFunc) s.ts::F):=h4;unfold nH kB;rw[e1,e2];exact h5.aP (by exact .cons (.tail .head) (.cons (.tail .head) (.cons (.tail .head) (.cons (.tail .head) (.cons .head (.cons .head .nil))))))
theorem P3{m:ML}{T:Nat→Int→Option Ver.Shape}(hC:Vm.gN m.aC T){s:kM}(h:s.Ok m)(mb:Nat):lA m T (s.pl mb) s.ts s.be 0∧dC s.ts s.be 0=Vm.Ma.init m.aC:=by
 have hws:s.be.abs.ws=List.replicate m.aC.boxes.length []:=by
  show s.rs.map Ring.ws=_;refine pE (by simp[h.GS]) fun j h1 h2=>?_;simp only[Jf]at h1;have:=(h.ring j (by rw[←h.GS];exact h1)).2.2;rw[Jd,Je h1,JZ]at this;simp[Ring.aIX this]
 have hA:dC s.ts s.be 0=Vm.Ma.init m.aC:=by
  unfold Vm.Ma.init;simp only[dC,Vm.Ma.mk.injEq,and_true];refine⟨h.ts,?_⟩;have:s.be.abs=⟨s.be.abs.ws,[]⟩:=rfl;rw[this,hws]
 refine⟨⟨rfl,h.wf,⟨rfl,h.GS,fun r hr=>?_,fun b hb=>(h.ring b hb).2.1⟩,by rw[hA];exact Vm.Ma.Ok.init hC⟩,hA⟩;obtain⟨j,hj,rfl⟩:=pC hr;have:=(h.ring j (by rw[←h.GS];exact hj)).1;rw[Jd,Je (show j<s.rs.length from hj),JZ]at this;exact this
theorem P4{m:ML}{s:kM}(h:s.Ok m)(h30:m.us.length≤30):s.ts.length≤30:=by
 have h1:=congrArg List.length h.ts;simp only[Jf]at h1;rw[h1,NS];have:=NT m m.us.length;omega
end
end Vw
namespace Vm
theorem VB(M:ImgM.aL)(told:Bool):∀(a b:List (Int×Int)) (c:Ma),iI M told (a ++b) c=((iI M told a c).1 ++(iI M told b (iI M told a c).2).1,(iI M told b (iI M told a c).2).2)
 |[],b,c=>by simp[iI]
 |p::a,b,c=>by simp only[w9,iI];rw[VB M told a b]
theorem aE9(M:ImgM.aL)(told:Bool)(p:Int×Int)(c:Ma):iI M told [p] c=([(pick M told c p).1],(pick M told c p).2):=by simp[iI]
theorem aEa(M:ImgM.aL)(told:Bool)(l:List (Int×Int))(c:Ma)(k:Nat)(hk:k<l.length):iI M told (l.take (k+1)) c=((iI M told (l.take k) c).1 ++[(pick M told (iI M told (l.take k) c).2 (l.getD k default)).1],(pick M told (iI M told (l.take k) c).2 (l.getD k default)).2):=by
 rw[Jp hk,VB,aE9,Jd,Je hk];rfl
theorem MP(M:ImgM.aL)(told:Bool):∀(l:List (Int×Int)) (c:Ma),(iI M told l c).1.length=l.length
 |[],c=>rfl
 |p::l,c=>by simp only[iI,JW];rw[MP]
end Vm
namespace Vw
open Go.RowKit Img
section
attribute [local irreducible] aE aG End aB Still aN aU RunT Fn aS
structure sG where
 o:Option Addr
 c:Nat
 l:List (Int×Int)
abbrev sG.val(p:sG):Value:= .slice p.o p.l.length p.c
abbrev vR(p:sG):Chunk:=rd p.o p.l.length p.c vQ p.l
structure mB where
 w:jD
 o:Option Addr
 c:Nat
 l:List (Int×Nat)
abbrev mB.zero:mB:=⟨⟨none,0,[],none,0,[],0⟩,none,0,[]⟩
structure mB.Is(m:ML)(ps:List (Int×Int))(r:mB):Prop where
 w:r.w.Is ((Vm.iI m.aC false ps (Vm.Ma.init m.aC)).2.looked m.aC)
 l:r.l=(Vm.iI m.aC false ps (Vm.Ma.init m.aC)).1
def B5(m:ML)(ps:List (Int×Int))(r:mB):Prop:=if Vm.kX m.aC ps.length=0 then r.Is m ps else r=mB.zero
abbrev mB.mem(r:mB):List Chunk:=arr r.o r.l.length r.c 82 zO r.l::r.w.mem
theorem ZT{M:ImgM.aL}{n:Nat}(h:Vm.kX M n=0):Ver.verify M= .ok∧n≤400:=by
 unfold Vm.kX at h
 by_cases h1:(Ver.verify M).err≠0
 ·rw[if_pos h1]at h;exact absurd h h1
 ·rw[if_neg h1]at h;refine⟨Ver.YO (Classical.not_not.1 h1),?_⟩
  by_cases h2:400<n
  ·rw[if_pos h2]at h;cases h
  ·exact Nat.le_of_not_lt h2
attribute [local irreducible] Ver.verify Vm.kX Vm.iI
theorem QP{m:ML}(h:Ver.verify m.aC= .ok)(b:Nat)(hb:b<m.bx.length):1≤(m.bx.getD b default).2∧(m.bx.getD b default).2≤20:=by
 have:=(Ver.wO.1 h).form.boxes (m.bx.getD b default) (by rw[Jd,Je hb];exact hZ _);exact this.2
def fQ(m:ML)(ps:List (Int×Int))(k:Nat):List (Int×Nat)×Vm.Ma:=Vm.iI m.aC false (ps.take k) (Vm.Ma.init m.aC)
theorem QU(m:ML)(ps:List (Int×Int)):fQ m ps 0=([],Vm.Ma.init m.aC):=by unfold fQ Vm.iI;rfl
theorem IL(m:ML)(ps:List (Int×Int)){k:Nat}(hk:k<ps.length):fQ m ps (k+1)=((fQ m ps k).1 ++[(Vm.pick m.aC false (fQ m ps k).2 (ps.getD k default)).1],(Vm.pick m.aC false (fQ m ps k).2 (ps.getD k default)).2):=Vm.aEa m.aC false ps _ k hk
theorem QT(m:ML)(ps:List (Int×Int)):fQ m ps ps.length=Vm.iI m.aC false ps (Vm.Ma.init m.aC):=by unfold fQ;rw[pF]
set_option maxHeartbeats 2000000 in
theorem WH(m:ML)(hwf:m.Wf)(ps:sG):Fn Tryz.prog 19 #[m.val,ps.val] [md m,vR ps] [] (σ:=mB) (B5 m ps.l) (fun r=> .tuple #[.agg r.w.cells.toArray, .slice r.o r.l.length r.c, .int .i64 (Vm.kX m.aC ps.l.length)]) mB.mem:=by
 refine Fn.enter (args:=[m.val,ps.val]) Tryz.func19 rfl _ Tryz.ntmps19 rfl (by simp[mH,eO]) (fun w S=>?_);refine Jn ?_;obtain⟨W,hW⟩:∃W,W=Vm.kX m.aC ps.l.length:=⟨_,rfl⟩;unfold B5;rw[←hW]
 repeat(refine Jy ?_;try first|intro ao cap|intro b)
 obtain⟨rb,rfl⟩:=a7 b;(refine dV (ZR m hwf ps.l.length) fun s hs=>?_);rw[←hW]
 by_cases h0:¬W=0
 ·repeat(refine Jy ?_;try first|intro ao cap|intro b)
  apply End.imp (fun w hm=>(((((hm.gH).gH).cU 46 mD).cU 39 nM)).cU 82 zO);(refine End.RB (mB.zero) (hD:=aV) (hr:=aV) (hv:=aV) (ht:=aV) (hm:=tk) (hl:=aV) (hu:=aV) (hw:=aV) (he:=Jv) (hx:=by(simp[iL,dU,iB,gU])) (hF:=cA) (hp:=?_));rw[if_neg h0]
 have h0:=Classical.not_not.1 h0;subst h0;obtain⟨hv,hp4⟩:=ZT hW.symm;have hF:=formed (Ver.wO.1 hv).form;have hu30:=hF.aJ;have hb30:=hF.boxes;obtain⟨T,hC⟩:=QS hwf hv
 repeat(refine Jy ?_;try first|intro ao cap|intro b)
 obtain⟨mb,rfl⟩:=a7 b;(refine dV (P6 mb m hb30 hu30 (QP hv) (fun k hk=>(xW (hF.head k hk)).1)) fun s hs=>?_);obtain⟨e1,e2⟩:=P3 hC hs mb;have hn:=P4 hs hu30;have hk0:=QU m ps.l;obtain⟨n0,hn0'⟩:∃n,n=(fQ m ps.l 0).2.n:=⟨_,rfl⟩;have hn0:n0=0:=by rw[hn0',hk0];rfl
 apply aE.imp' (fun w hm=>P5 s hn0 (cA) hm);refine Jn ?_;obtain⟨x,hx⟩:∃x,x=s.pl mb:=⟨_,rfl⟩;obtain⟨ts0,ht0⟩:∃x,x=s.ts:=⟨_,rfl⟩;obtain⟨e0,he0⟩:∃x,x=s.be:=⟨_,rfl⟩;have hxb:s.xb=x.xb:=by rw[hx];rfl
 rw[←hx]at e1;rw[←ht0,←he0]at e1 e2;rw[←ht0]at hn;rw[hxb,←hx,←ht0,←he0];clear hx ht0 he0 hxb hs s;subst hn0'
 repeat(refine Jy ?_;try first|intro ao cap|intro b)
 apply aG.imp (fun w hm=>Mem.aDn hm 82 zO (l:=(fQ m ps.l 0).1) (by rw[hk0]));refine cK (σ:=Nat×List cC×eF×Option Addr×Nat) (fun z=>z.1≤ps.l.length∧z.2.1.length≤30∧lA m T x z.2.1 z.2.2.1 (fQ m ps.l z.1).2.n∧dC z.2.1 z.2.2.1 (fQ m ps.l z.1).2.n=(fQ m ps.l z.1).2) (fun z=>[(4,ptr rb),(8,ptr x.xb),(9, .slice z.2.2.2.1 z.1 z.2.2.2.2),(21, .slice ps.o ps.l.length ps.c),(22, .int .i64 ps.l.length),(23, .int .i64 z.1)]) (fun z=>[aO w S,md m,kB x.p,vR ps,aF rb [.slice none 0 0, .slice none 0 0, .int .i64 0] 32,arr z.2.2.2.1 z.1 z.2.2.2.2 82 zO (fQ m ps.l z.1).1] ++nH m x z.2.1 z.2.2.1 (fQ m ps.l z.1).2.n) (fun z=>ps.l.length-z.1) (0,ts0,e0,none,0) ?_ fun z hz K1 hK1=>?_
 ·exact⟨bQ _,hn,by rw[hn0];exact e1,by rw[hn0,e2,hk0]⟩
 refine Jn ?_;obtain⟨q,us,e,ao,ac⟩:=z;obtain⟨hq0,hun,hI,hA⟩:=hz;dsimp only at hq0 hun hI hA hK1⊢
 by_cases hq:q<ps.l.length
 ·obtain⟨tq,q1,htq⟩:∃tq q1,ps.l.getD q default=(tq,q1):=⟨_,_,rfl⟩;have hsn:=IL m ps.l hq
  repeat(refine Jy ?_;try first|intro ao cap|intro b)
  rw[htq];rw[htq]at hsn;obtain⟨C1,hC1⟩:∃C,C=fQ m ps.l (q+1):=⟨_,rfl⟩;rw[←hC1]at hsn;generalize fQ m ps.l q=C at *;rw[←hA]at hsn;have hsp:=MO m hC x us e C.2.n hI hun tq q1;generalize Vm.pick m.aC false (dC us e C.2.n) (tq,q1)=R at *;(refine Jc ?_;refine aB.bA (spec:=hsp) (r:=(fun w=>Reads.md (tk) (Reads.any (tk) (sK x.p) .nil))) (k:=?_);intro s hs;refine Jn ?_);obtain⟨us',e'⟩:=s;obtain⟨g1,g2,g3⟩:=hs;dsimp only at g1 g2 g3⊢
  repeat(refine Jy ?_;try first|intro ao cap|intro b)
  have a1:C.1 ++[R.1]=(fQ m ps.l (q+1)).1:=by rw[←hC1,hsn]
  have a2:R.2.n=(fQ m ps.l (q+1)).2.n:=by rw[←hC1,hsn]
  rw[a1,a2];rw[a2]at g1 g3;refine End.bK hK1 (q+1,us',e',ao,cap) ?_ ?_
  ·exact⟨by dsimp only;omega,by dsimp only;omega,g1,by dsimp only;rw[g3,←hC1,hsn]⟩
  ·dsimp only;omega
 ·obtain rfl:q=ps.l.length:=aA;clear hK1
  repeat(refine Jy ?_;try first|intro ao cap|intro b)
  have hce:=QT m ps.l;have hcl:=congrArg List.length (congrArg Prod.fst hce);rw[Vm.MP]at hcl;generalize fQ m ps.l ps.l.length=C at *;(refine Jc ?_;refine aB.bA (spec:=ZI m hC x us e C.2.n hI hun hb30) (r:=(fun w=>Reads.md (tk) (Reads.any (tk) (sK x.p) .nil))) (k:=?_);intro s hs;refine Jn ?_);obtain⟨us',r⟩:=s;obtain⟨g1,g2,g3⟩:=hs;dsimp only at g1 g2 g3⊢;rw[hA]at g3;rw[←hcl]
  repeat(refine Jy ?_;try first|intro ao cap|intro b)
  (refine End.RB ((⟨r,ao,ac,C.1⟩:mB)) (hD:=aV) (hr:=aV) (hv:=aV) (ht:=aV) (hm:=tk) (hl:=aV) (hu:=aV) (hw:=aV) (he:=Jv) (hx:=by(simp[iL,dU,iB,gU])) (hF:=cA) (hp:=?_));rw[if_pos rfl];exact⟨by rw[←hce];exact g3,by rw[←hce]⟩
end
end Vw
section
open Go.RowKit Go.ChangeShapes Go.WideShapes Go.ChangeAt
section
variable{H:Type}{enc:TypeId×Value→H}{w:World}
theorem aA7:Tryz.prog.cellsOf 80=2:=b7
theorem aBU:∀fuel cs (x:DataW H×List MemPlace),ED enc Tryz.prog w fuel 80 cs x→cs.length=2→∃y:Int×Int,cs=Vw.vQ y∧(ImgM.In64 y.1∧ImgM.In64 y.2)∧0≤Rows.uptoBulk x.1:=by
 intro fuel cs x h hlen;obtain⟨y0,y1,n,rfl,_,hy0,hy1⟩:=trod_struct2 Tryz.underlying80 h
 match cs,hlen with
 |[c0,c1],_=>
  have e0:([c0,c1].drop 0).take (Tryz.prog.cellsOf 3)=[c0]:=by rw[QR];rfl
  have e1:([c0,c1].drop 1).take (Tryz.prog.cellsOf 3)=[c1]:=by rw[QR];rfl
  simp only[e0,e1]at hy0 hy1;obtain⟨a,ha,wa,ba⟩:=RH Tryz.underlying3 _ _ _ hy0 rfl;obtain⟨b,hb,wb,bb⟩:=RH Tryz.underlying3 _ _ _ hy1 rfl;simp at ha hb;exact⟨⟨a,b⟩,by rw[ha,hb];rfl,⟨wa,wb⟩,bQ _⟩
theorem aFF{base:Nat}{v:Value}(hok:Value.okWide Tryz.prog w .any base 49 v){d:DataW H}{p:List MemPlace}(h:DataW.Trod enc Tryz.prog w 0 (fun _=>true) true 49 v d p)(hf:Fits Tryz.prog 49 d):
  ∃f:Vw.sG,v=f.val∧Row w (.slice f.o f.l.length f.c) (sz Vw.vQ) f.l.length (f.l.flatMap Vw.vQ)∧f.l.length*16≤140737488351232:=by
 obtain⟨fuel,h⟩:=h;obtain⟨v',l,hv,h1, -,h2, -⟩:=aFG Vw.vQ (fun y=>ImgM.In64 y.1∧ImgM.In64 y.2) Tryz.underlying49 aA7 aK (fun fuel cs x h _ hl=>by obtain⟨y,a,b,_⟩:=aBU fuel cs x h hl;exact⟨y,a,b⟩) h hf;obtain⟨a,n,c,rfl⟩:=okWide_slice Tryz.underlying49 hok;have e:Value.slice a n c=v':=by simpa[Value.cells]using hv
 rw[show Tryz.prog.bytesOf 80=16 by kernel_rfl]at h2;obtain⟨-, -,ao,cap,rfl, -⟩:=id h1;exact⟨⟨ao,cap,l⟩,e,h1,h2⟩
end
end
end Go.Proofs.YtofckcabpchcmaaGreatDoor
