/- The parser, walked: bodies, parameters. -/
import Derived.Test.YtofckcabpchcmaaGreatDoorM28
import Derived.Recover
set_option linter.unusedVariables false
set_option linter.unusedSimpArgs false
set_option linter.unusedSectionVars false
set_option maxRecDepth 100000
namespace Go.Proofs.YtofckcabpchcmaaGreatDoor
namespace Vw
open Go.RowKit Img
attribute [local irreducible] aE aG End aB Still aN aU RunT Fn aS
section
attribute [local irreducible] Fr.is Fr.expr Fr.name Fr.stat Fr.j7
variable{pb:Nat}{en:Int}
theorem aGe(one:Fr.Rd Fr.St)(n:Nat)(l:List Fr.Tok):Fr.stats one n l=match Fr.is Fr.MK l with
  |some r=>some ([],r)
  |none=>match n with
   |0=>none
   |n+1=>(one l).bind fun(x,r)=>(Fr.stats one n r).map fun(xs,r)=>(x::xs,r):=by
 rw[Fr.stats.eq_def];try rfl
set_option maxHeartbeats 1000000 in
theorem U0(f:Nat)(hf:f≤200)(hB:∀f',f=f'+1→BN pb en f'):BN pb en f:=fun s hs=>by
 refine PE [ptr pb] Tryz.func95 Tryz.ntmps95 fun w S=>?_;refine Jn ?_;obtain⟨ρ,hρ⟩:∃ρ,ρ=Fr.body f s.l:=⟨_,rfl⟩;rw[←hρ];refine a8 ?_;refine PQ (MJ s aA aA) ?_ ?_
 ·intro q hq;refine PO ?_;refine PX q ?_;obtain rfl:f=0:=aA;rw[hρ];rfl
 intro xb hlt;obtain⟨f',rfl⟩:∃f',f=f'+1:=⟨f-1,aA⟩;refine Jn ?_;rw[Fr.body]at hρ;refine a8 ?_;refine PD ?_
 repeat(refine Fy ?_;try intro b)
 rw[show s.l=(s.to (s.deep+1)).l from rfl]at hρ;dsimp only at hρ;refine PN (mY (s.to (s.deep+1)) b Fr.U2) ?_ ?_;(intro hq e y;refine PO ?_;refine B0 e y ?_;simp only[hρ,hq,D6,yY]);intro y hi dy ly;refine kC fun hρ=>?_;dsimp only at dy ly;refine a8 ?_;apply aG.imp (fun w hm=>(hm.cU 259 fS).gH);refine cK (σ:=zE×PS) (fun z=>z.1.l.length≤50∧z.2.deep=s.deep+1∧z.2.l.length≤s.l.length∧ρ=(Fr.stats (Fr.stat (Fr.expr f') (Fr.body f')) (50-z.1.l.length) z.2.l).map fun x=>(aM.bV z.1.l ++x.1,x.2)) (fun z=>[(0,ptr pb),(3, .slice z.1.o z.1.l.length z.1.c)]) (fun z:zE×PS=>aO w S::cF::aF xb [ptr pb] 136::(z.1.ml ++dN pb en z.2)) (fun z=>51-z.1.l.length) (⟨none,0,[]⟩,y) ?_ fun z hz K hK=>?_
 ·refine⟨aW,dy,Nat.le_of_lt ly,?_⟩;rw[hρ];simp[aM.bV]
 refine Jn ?_;clear hρ hi dy ly;clear y;obtain⟨x,y⟩:=z;obtain⟨hx,dy,ly,hρ⟩:=hz;dsimp only at hx dy ly hρ⊢;rw[aGe]at hρ;refine a8 ?_;refine PI (iH y Fr.MK) ?_ ?_
 ·intro u hi du lu;refine bT fun hρ=>?_;refine P1u (x,u.up) u ⟨by rw[hρ];simp,?_,by dsimp only;omega⟩ rfl;dsimp only;rw[du,dy,dX aA];omega
 intro hi;refine kC fun hρ=>?_
 by_cases h6:x.l.length=50
 ·rw[show 50-x.l.length=0 by omega]at hρ;refine a8 ?_;refine oO (pU y) fun a ha=>?_;refine PQ (oU y (vI a)) ?_ ?_;(intro q hq;refine PO ?_;refine B0 (vI a) y ?_;exact hρ);intro z _;exact z.elim
 ·obtain⟨m,hm⟩:∃m,50-x.l.length=m+1:=⟨49-x.l.length,aA⟩;rw[hm]at hρ;dsimp only at hρ;refine a8 ?_;refine PK (aET f' aA (hB f' rfl) y aA) ?_ ?_;(intro hq e y;refine PO ?_;refine B0 e y ?_;simp only[hρ,hq,D6,yY]);intro g v hi dv lv;refine kC fun hρ=>?_
  repeat(refine Fy ?_;try first|intro ao cap|intro b)
  rw[show x.l.length+1=(x.l ++[g]).length by simp];apply End.imp (fun w hm=>Mem.zJ (cs:=aM.dM x.l) (ds:=g.mem) hm tk tk);rw[←aHH];refine End.bK hK (⟨ao,cap,x.l ++[g]⟩,v) ⟨by simp;omega,by dsimp only;omega,by dsimp only;omega,?_⟩ (by simp;omega);rw[hρ,show 50-(x.l ++[g]).length=m by simp;omega];simp[w7,yK]
theorem QB:∀f,f≤200→BN pb en f
 |0,h=>U0 0 h (fun f' hf=>aA)
 |f+1,h=>U0 (f+1) h (fun f' hf=>by obtain rfl:f=f':=aA;exact QB f aA)
structure BY where
 o:Option Addr
 c:Nat
 l:List Fr.Pm
abbrev prm:Fr.Rd Fr.Pm:=fun l=>(Fr.name l).bind fun(s,r)=>(Fr.j7 r).map fun(t,r)=>(⟨s,t⟩,r)
theorem U5(s:PS):Pf pb en 94 [ptr pb] [cF] s (Fr.params s.l) (fun x:BY=>x.l) (fun x=> .slice x.o x.l.length x.c) (fun x=>[arr x.o x.l.length x.c 227 oW x.l]):=by
 refine PE [ptr pb] Tryz.func94 Tryz.ntmps94 fun w S=>?_;refine Jn ?_;obtain⟨ρ,hρ⟩:∃ρ,ρ=Fr.params s.l:=⟨_,rfl⟩;rw[←hρ];unfold Fr.params at hρ;obtain⟨one,hone⟩:∃one,one=prm:=⟨_,rfl⟩;rw[show(fun l=>(Fr.name l).bind fun(s,r)=>(Fr.j7 r).map fun(t,r)=>(⟨s,t⟩,r):Fr.Rd Fr.Pm)=one from hone.symm]at hρ
 repeat(refine Fy ?_;try intro b)
 refine oQ (mY s b Fr.pW) ?_;intro y hi dy ly;refine bT fun hρ=>?_;apply aG.imp (fun w hm=>hm.cU 227 oW);refine cK (σ:=BY×PS) (fun z=>z.1.l.length≤6∧z.2.deep=s.deep∧z.2.l.length≤s.l.length∧ρ=(Fr.listed one (6-z.1.l.length) z.1.l.isEmpty z.2.l).map fun x=>(z.1.l ++x.1,x.2)) (fun z=>[(0,ptr pb),(3, .slice z.1.o z.1.l.length z.1.c)]) (fun z:BY×PS=>aO w S::cF::arr z.1.o z.1.l.length z.1.c 227 oW z.1.l::dN pb en z.2) (fun z=>7-z.1.l.length) (⟨none,0,[]⟩,y) ?_ fun z hz K hK=>?_
 ·refine⟨aW,dy,Nat.le_of_lt ly,?_⟩;rw[hρ];simp
 refine Jn ?_;clear hρ hi dy ly;clear y;obtain⟨x,y⟩:=z;obtain⟨hx,dy,ly,hρ⟩:=hz;dsimp only at hx dy ly hρ⊢;rw[TD]at hρ;refine a8 ?_;refine PI (iH y Fr.qT) ?_ ?_
 ·intro u hi du lu;refine bT fun hρ=>?_;exact P1 (x,u) ⟨by rw[hρ];simp,by dsimp only;omega,by dsimp only;omega⟩ rfl
 intro hi;refine kC fun hρ=>?_
 by_cases h0:0<x.l.length
 ·rw[show x.l.isEmpty=false by cases hx:x.l<;>simp_all]at hρ
  repeat(refine Fy ?_;try intro b)
  refine PN (mY y b Fr.yA) ?_ ?_;(intro hq e y;refine PO ?_;refine PX (e,y) ?_;(rw[hρ,hq];cases 6-x.l.length<;>rfl));intro u hi du lu;refine kC fun hρ=>?_
  by_cases h6:x.l.length=6
  ·rw[show 6-x.l.length=0 by omega]at hρ;refine a8 ?_;refine oO (pU u) fun a ha=>?_;refine PQ (oU u (vI a)) ?_ ?_;(intro q hq;refine PO ?_;refine PX ((vI a,u)) ?_;exact hρ);intro z _;exact z.elim
  ·obtain⟨m,hm⟩:∃m,6-x.l.length=m+1:=⟨5-x.l.length,aA⟩;rw[hm]at hρ;simp only[BV,if_false,eR]at hρ;refine a8 ?_;rw[show one u.l=(Fr.name u.l).bind fun z=>(Fr.j7 z.2).map fun q=>(⟨z.1,q.1⟩,q.2) by rw[hone]]at hρ;refine dQ (pV u) ?_;intro g v hi dv lv;refine bT fun hρ=>?_;refine dQ (AQ v) ?_;intro k r hi dr lr;refine kC fun hρ=>?_
   repeat(refine Fy ?_;try intro b)
   apply aE.op aV;refine aB.jN (a:=(⟨g,k⟩:Fr.Pm)) (k:=?_);intro ao cap;refine a8 ?_;rw[show x.l.length+1=(x.l ++[(⟨g,k⟩:Fr.Pm)]).length by simp];refine End.bK hK (⟨ao,cap,x.l ++[⟨g,k⟩]⟩,r) ⟨by simp;omega,by dsimp only;omega,by dsimp only;omega,?_⟩ (by simp;omega);rw[hρ,show 6-(x.l ++[(⟨g,k⟩:Fr.Pm)]).length=m by simp;omega,show(⟨ao,cap,x.l ++[⟨g,k⟩]⟩:BY).l.isEmpty=false by simp];simp[w7]
 ·rw[show x.l.isEmpty=true by cases hx:x.l<;>simp_all,show 6-x.l.length=5+1 by omega]at hρ;simp only[if_true,eR]at hρ;refine a8 ?_;rw[show one y.l=(Fr.name y.l).bind fun z=>(Fr.j7 z.2).map fun q=>(⟨z.1,q.1⟩,q.2) by rw[hone]]at hρ;refine dQ (pV y) ?_;intro g v hi dv lv;refine bT fun hρ=>?_;refine dQ (AQ v) ?_;intro k r hi dr lr;refine kC fun hρ=>?_
  repeat(refine Fy ?_;try intro b)
  apply aE.op aV;refine aB.jN (a:=(⟨g,k⟩:Fr.Pm)) (k:=?_);intro ao cap;refine a8 ?_;rw[show x.l.length+1=(x.l ++[(⟨g,k⟩:Fr.Pm)]).length by simp];refine End.bK hK (⟨ao,cap,x.l ++[⟨g,k⟩]⟩,r) ⟨by simp;omega,by dsimp only;omega,by dsimp only;omega,?_⟩ (by simp;omega);rw[hρ,show 6-(x.l ++[(⟨g,k⟩:Fr.Pm)]).length=5 by simp;omega,show(⟨ao,cap,x.l ++[⟨g,k⟩]⟩:BY).l.isEmpty=false by simp];simp[w7]
end
attribute [local irreducible] Fr.is Fr.body Fr.name Fr.number Fr.params Fr.j7
variable{pb:Nat}{en:Int}
abbrev dfV(x:DL):Value:= .agg (mV x).toArray
set_option maxHeartbeats 4000000 in
theorem aEM(s:PS)(hs:s.deep=0):Pf pb en 52 [ptr pb] [cF] s (Fr.vH s.l) DL.df dfV (fun x=>[bC x.mem]):=by
 have hB:BN pb en 200:=QB 200 (bS _);refine PE [ptr pb] Tryz.func52 Tryz.ntmps52 fun w S=>?_;refine Jn ?_;obtain⟨ρ,hρ⟩:∃ρ,ρ=Fr.vH s.l:=⟨_,rfl⟩;rw[←hρ];unfold Fr.vH at hρ
 repeat(refine Fy ?_;try intro b)
 refine oO (pU s) fun at_ hat_=>?_;refine PI (iH s Fr.YT) ?_ ?_
 ·intro y hi dy ly;refine bT fun hρ=>?_;refine dQ (pV y) ?_;intro g u hi du lu;refine bT fun hρ=>?_;refine dQ (AQ u) ?_;intro t v hi dv lv;refine kC fun hρ=>?_
  repeat(refine Fy ?_;try intro b)
  refine oO (pU v) fun a ha=>?_;refine dQ (U3 v) ?_;intro n v4 hi dv4 lv4;refine kC fun hρ=>?_
  by_cases hn:n<1∨20<n
  ·rw[if_pos hn]at hρ
   by_cases h1:n<1
   ·refine a8 ?_;refine PQ (oU v4 (EV a)) ?_ ?_;(intro q hq;refine PO ?_;refine PX ((EV a,v4)) ?_;exact hρ);intro z _;exact z.elim
   ·have h2:20<n:=aA;refine a8 ?_;refine PQ (oU v4 (EV a)) ?_ ?_;(intro q hq;refine PO ?_;refine PX ((EV a,v4)) ?_;exact hρ);intro z _;exact z.elim
  ·rw[if_neg hn]at hρ;have h1:¬n<1:=fun h=>hn (.inl h);have h2:¬20<n:=fun h=>hn (.inr h)
   repeat(refine Fy ?_;try intro b)
   refine oQ (mY v4 b Fr.GO) ?_;intro r hi dr lr;refine bT fun hρ=>?_;apply End.imp (fun w hm=>Mem.GB (⟨1,g,t,default,n,none,0,[],none,0,[]⟩:DL) ((hm.gH.cU 259 fS).cU 227 oW) .head .head .head);exact PC ((⟨1,g,t,default,n,none,0,[],none,0,[]⟩:DL),r) ⟨hρ,by dsimp only;omega,by dsimp only;omega⟩ aV
 intro hi;refine bT fun hρ=>?_;refine PI (iH s Fr.YX) ?_ ?_
 ·intro y hi dy ly;refine bT fun hρ=>?_;refine dQ (pV y) ?_;intro g u hi du lu;refine bT fun hρ=>?_;refine dQ (U5 u) ?_;intro p v hi dv lv;refine kC fun hρ=>?_
  repeat(refine Fy ?_;try intro b)
  refine dQ (AQ v) ?_;intro t q hi dq lq;refine bT fun hρ=>?_;refine dQ (hB q aA) ?_;intro x r hi dr lr;refine bT fun hρ=>?_;apply End.imp (fun w hm=>Mem.GB (⟨2,g,t,default,0,p.o,p.c,p.l,x.o,x.c,x.l⟩:DL) hm tk tk tk);exact PC ((⟨2,g,t,default,0,p.o,p.c,p.l,x.o,x.c,x.l⟩:DL),r) ⟨hρ,by dsimp only;omega,by dsimp only;omega⟩ aV
 intro hi;refine bT fun hρ=>?_;refine PI (iH s Fr.YY) ?_ ?_
 ·intro y hi dy ly;refine bT fun hρ=>?_;refine dQ (pV y) ?_;intro g u hi du lu;refine bT fun hρ=>?_;refine dQ (U5 u) ?_;intro p v hi dv lv;refine kC fun hρ=>?_
  repeat(refine Fy ?_;try intro b)
  refine oQ (mY v b Fr.ZA) ?_;intro v1 hi dv1 lv1;refine bT fun hρ=>?_;refine dQ (AQ v1) ?_;intro k v2 hi dv2 lv2;refine kC fun hρ=>?_
  repeat(refine Fy ?_;try intro b)
  refine oQ (mY v2 b Fr.ZG) ?_;intro v3 hi dv3 lv3;refine bT fun hρ=>?_;refine dQ (AQ v3) ?_;intro t q hi dq lq;refine bT fun hρ=>?_;refine dQ (hB q aA) ?_;intro x r hi dr lr;refine bT fun hρ=>?_;apply End.imp (fun w hm=>Mem.GB (⟨3,g,t,k,0,p.o,p.c,p.l,x.o,x.c,x.l⟩:DL) hm tk tk tk);exact PC ((⟨3,g,t,k,0,p.o,p.c,p.l,x.o,x.c,x.l⟩:DL),r) ⟨hρ,by dsimp only;omega,by dsimp only;omega⟩ aV
 intro hi;refine bT fun hρ=>?_;refine PI (iH s Fr.ZC) ?_ ?_
 ·intro y hi dy ly;refine bT fun hρ=>?_;refine dQ (pV y) ?_;intro g u hi du lu;refine bT fun hρ=>?_;refine dQ (hB u aA) ?_;intro x r hi dr lr;refine bT fun hρ=>?_;apply End.imp (fun w hm=>Mem.GB (⟨4,g,default,default,0,none,0,[],x.o,x.c,x.l⟩:DL) (hm.cU 227 oW) tk tk tk);exact PC ((⟨4,g,default,default,0,none,0,[],x.o,x.c,x.l⟩:DL),r) ⟨hρ,by dsimp only;omega,by dsimp only;omega⟩ aV
 intro hi;refine bT fun hρ=>?_;refine PQ (oU s (qM at_)) ?_ ?_;(intro q hq;refine PO ?_;refine PX ((qM at_,s)) ?_;exact hρ);intro z _;exact z.elim
end Vw
section
open Go Go.RowKit
section
variable{P:Program}{σ:Type}{post:σ→Prop}{mem:σ→List Chunk}{f:FuncId}{fn:Func}{c:Code}{R pre:List Chunk}
theorem MZ{args:List Value}{id d N:Nat}{ty:TypeId}{pos:String}{aft:Array Edge}{u u':FrameMode}{v:Value}(hf:P.funcs[f]?=some fn)(hb:fn.body=some (.seq (.region id #[⟨some d, .call ⟨.builtin .recover, #[], #[]⟩,ty,pos,aft,none⟩] false) c))(hN:fn.ntmps=N)(hA:Nat.ble args.length N=true)(hd:Nat.blt d N=true)(hR:∀c∈R,c.bE=false)
  (hrec:∀(c0:Frame) (cs:List Frame),c0.mode=u→recoverD (c0::cs)=some (v,{c0 with mode:=u'}::cs)∨(recoverD (c0::cs)=none∧v= .nilIface∧u'=u))
  (h:∀w S,aG P (bodyPost P fn (eJ post (fun _=> .tuple #[]) mem w S)) ⟨N,[]⟩ c ((d,v)::first 0 args) (aO w S::(R ++pre))):
  ∀w,Mem w (R ++pre)→CallsD P f args.toArray u w fun e u1 w'=>u1=u'∧eJ post (fun _=> .tuple #[]) mem w (e7 pre) e w':=by
 intro w hm;have hA:=Nat.le_of_ble_eq_true hA;subst hN;refine callsD_of_wpS hf hb (fun c0 cs hu=>wpS_seq (wpS_region ?_));have hs:=(CE hA (args:=args)).put (dst:=some d) v hd;have hw:=h w (e7 pre) _ w hs (A3 hR hm);have key:∀cs',cs'={c0 with mode:=u'}::cs→c.wpS P (bodyPostS P fn c0 cs fun e u1 w'=>u1=u'∧eJ post (fun _=> .tuple #[]) mem w (e7 pre) e w') (Act.put {tmps:=args.toArray ++Array.replicate (fn.ntmps-args.toArray.size) undef,defers:=[]} (some d) v) cs' w:=by
  rintro cs' rfl;refine wpS_of_wp (wp_mono hw fun e a' w' hq=>?_)
  cases e with
  |normal=>obtain⟨h1,v',h2,h3⟩:=hq;exact⟨h1,u',rfl,v',h2,rfl,h3⟩
  |ret=>obtain⟨h1,v',h2,h3⟩:=hq;exact⟨h1,u',rfl,v',h2,rfl,h3⟩
  |panic ch=>obtain⟨h1,h2⟩:=hq;exact⟨h1,u',rfl,rfl,h2⟩
  |outgrown=>exact⟨u',rfl,hq⟩
  |exit id=>exact hq
  |goto l=>exact hq
 have hr:∀ρ,(execOp ρ (⟨some d, .call ⟨.builtin .recover, #[], #[]⟩,ty,pos,aft,none⟩:Oper)).run P w= .ok .recover w:=fun ρ=>by
  simp[execOp,resolve,invoke,builtin]
 show wpOpsS P _ _ [0] _ _ w;unfold wpOpsS;simp only[List.getElem?_toArray,List.getElem?_cons_zero,Region.wanted,if_true,hr];rcases hrec c0 cs hu with h1|⟨h1,rfl,rfl⟩
 ·rw[h1];exact key _ rfl
 ·rw[h1];refine key _ ?_
  cases c0;cases hu;rfl
end
def vC(P:Program)(fn:Func)(t u:Tmp)(R:Ending→World→Prop):Exit→Act→World→Prop
 | .panic ch,a,w=>∃p q:Value,(a.tmps[t]?=some p∧a.tmps[u]?=some q)∧∀tmps:Array Value,tmps.size=a.tmps.size→tmps[t]?=some p→tmps[u]?=some q→Leaves P fn tmps R a.defers (.panicking ch) w
 |e,a,w=>bodyPostD P fn R e a w
def nB(Q:Exit→Act→World→Prop)(d:Tmp):Prop:=∀c a w v,Q (.panic c) (Act.put a (some d) v) w→Q (.panic c) a w
section
variable{P:Program} [eT P]{Q:Exit→Act→World→Prop}{N:Nd}{E:Env}{L L' F:List Chunk}{ops:Array Oper}{fn:Func}{t u:Tmp}{R':Ending→World→Prop}
theorem nB.body{d:Tmp}(h1:d≠t)(h2:d≠u):nB (vC P fn t u R') d:=fun c a w v ⟨p,q,⟨h3,h4⟩,h⟩=>
 ⟨p,q,⟨by simpa[Act.put,D8,h1]using h3,by simpa[Act.put,D8,h2]using h4⟩,fun tmps hs a b=>h tmps (by simpa[Act.put]using hs) a b⟩
theorem nB.pT{d:Tmp}{y:Code}(h:nB Q d):nB (fN P y Q) d:=by unfold fN;exact h
theorem nB.p6{d:Tmp}{K:Act→World→Prop}(h:nB Q d):nB (Exit.then K Q) d:=h
theorem nB.block{d:Tmp}{id:Nat}(h:nB Q d):nB (Exit.inBlock id Q) d:=h
section
variable{e:Nat}{LT:List Chunk}{fuel:Nat}{listed:Array Bool}
theorem RunT.fT(i:Nat){d:Tmp}{op:Op}{ty:TypeId}{pos:String}{aft:Array Edge}{v:Value}(hi:ops[i]?=some ⟨some d,op,ty,pos,aft,none⟩:=by exact rfl)(hQ:nB Q d:=by(repeat(first|exact nB.body aK aK|apply nB.pT|apply nB.p6|apply nB.block));first|done|fail)(h:RunT P ops Q N e LT fuel (listed.setIfInBounds i true) ((d,v)::E) L)(hy:Still P N ⟨some d,op,ty,pos,aft,none⟩ E LT v:=by exact oE)(ht:aR LT L F:=by exact cA)(hns:Region.noSelect ops=true:=by kernel_rfl)(hf:Region.free .any ops listed i=true:=by kernel_rfl)(hr:(Region.ready .any ops listed).contains i=true:=by kernel_rfl)(hcl:vG .any ops listed=true:=by kernel_rfl)(hw:p8 .any ops i ops.size e=true:=by kernel_rfl)
  (hd:Nat.blt d N.n=true:=by kernel_rfl):RunT P ops Q N e LT (fuel+1) listed E L:=
 fun a w hs hM=>ZL hi (Region.noSelect_spec hns) (fun c a w hq=>hQ c a w _ hq) hw fuel listed a w (QV hcl) (Region.free_spec hi hf) (by simpa using hr)
  (.inl ⟨by simp[Region.wanted],fun w' hw'=>hy a w' hs hw'⟩) (hM.aP ht).left (h _ w (hs.put (dst:=some d) v hd) hM)
end
variable{σ:Type}{post:σ→Prop}{val:σ→Value}{mem:σ→List Chunk}{f:FuncId}{c:Code}{R pre:List Chunk}
theorem OW.enter{args:List Value}(t u:Tmp)(N:Nat)(hf:P.funcs[f]?=some fn)(hN:fn.ntmps=N)(h:∀w S,aG P (vC P fn t u (eJ post val mem w S)) ⟨N,[]⟩ c (first 0 args) (aO w S::(R ++pre)))(hb:fn.body=some c:=by exact rfl)(hA:Nat.ble args.length N=true:=by exact rfl)(hR:∀c∈R,c.bE=false:=by simp[eO,mH, *]):Fn P f args.toArray R pre post val mem:=by
 intro w hm;have hA:=Nat.le_of_ble_eq_true hA;subst hN;exact calls_of_wp_defers hf hb (wp_mono (h w (e7 pre) _ w (CE hA) (A3 hR hm)) fun e a w' hq=>by
  cases e with
  |panic ch=>obtain⟨p,q,⟨h1,h2⟩,h3⟩:=hq;exact h3 a.tmps rfl h1 h2
  |_=>exact hq)
theorem End.M0(h:fU P fn R' N .returning E L):End (vC P fn t u R') N .ret E L:=fun a w hs hm=>by
 show Leaves P fn a.tmps R' a.defers .returning w;rw[hs.defs];exact h a w hs hm
theorem End.aEU{p q:Value}{ch:List PanicEntry}(h:fU P fn R' N (.panicking ch) [(t,p),(u,q)] L)(ht:look E t=Option.some p:=by exact rfl)(hu:look E u=Option.some q:=by exact rfl)(htu:look [(t,p),(u,q)] u=Option.some q:=by exact rfl):End (vC P fn t u R') N (.panic ch) E L:=fun a w hs hm=>
 ⟨p,q,⟨hs.slot _ _ ht,hs.slot _ _ hu⟩,fun tmps h0 h1 h2=>by
  rw[hs.defs];exact h {tmps:=tmps,defers:=N.ds} w ⟨h0.trans hs.size,rfl,fun d v hd=>by
  simp only[AD]at hd
  split at hd
  ·rename_i he;subst he;cases hd;exact h1
  ·split at hd
   ·rename_i he;subst he;cases hd;exact h2
   ·cases hd⟩ hm⟩
theorem fU.recover{n:Nat}{ds:List Deferred}{vs cap:Array Value}{ch:List PanicEntry}{u':FrameMode}(hc:fW P f=true)(spec:∀w,Mem w (R ++pre)→CallsD P f (vs ++cap) (.panicking ch) w fun e u1 w'=>u1=u'∧eJ post (fun _=> .tuple #[]) mem w (e7 pre) e w')(hu':settle u'= .returning)(t:aR pre L F)(r:∀w,Reads w R F)(k:∀s,post s→fU P fn R' ⟨n,ds⟩ .returning E (mem s ++F)):
  fU P fn R' ⟨n,{target:= .fn (.func f) cap,args:=vs}::ds⟩ (.panicking ch) E L:=fun a w hs hm=>by
 refine leaves_cons aW (yD hc _) ((spec w ((hm.aP t).reads (r w))).mono ?_);rintro e u1 w' ⟨rfl,s,h1,rfl,hx,hm'⟩;show Leaves P fn a.tmps R' ds (settle _) w';rw[hu'];exact k s h1 {a with defers:=ds} w' ⟨hs.size,rfl,hs.slot⟩ ((hm.aP t).frame hm' hx)
theorem fU.quiet{n:Nat}{ds:List Deferred}{vs cap:Array Value}(hc:fW P f=true)(spec:∀w,Mem w (R ++pre)→CallsD P f (vs ++cap) .returning w fun e u1 w'=>u1= .returning∧eJ post (fun _=> .tuple #[]) mem w (e7 pre) e w')(t:aR pre L F)(r:∀w,Reads w R F)(k:∀s,post s→fU P fn R' ⟨n,ds⟩ .returning E (mem s ++F)):
  fU P fn R' ⟨n,{target:= .fn (.func f) cap,args:=vs}::ds⟩ .returning E L:=fun a w hs hm=>by
 refine leaves_cons aW (yD hc _) ((spec w ((hm.aP t).reads (r w))).mono ?_);rintro e u1 w' ⟨rfl,s,h1,rfl,hx,hm'⟩;show Leaves P fn a.tmps R' ds (settle .returning) w';exact k s h1 {a with defers:=ds} w' ⟨hs.size,rfl,hs.slot⟩ ((hm.aP t).frame hm' hx)
theorem LJ{n:Nat}{ty ty2 bt bt2:TypeId}{b b2 s' b':Nat}{v:Value}{ti:jX}{fs:List (Nat×TypeId)}{z' cs:List Value}{L2:List Chunk}(hr:fn.results= #[.cell t ty, .cell u ty2])(hv:look E t=some (.pointer (some ⟨b,0,none⟩)))(hu:look E u=some (.pointer (some ⟨b2,0,none⟩)))(ht:bB P ty=some ti)(hd:ti.d.row=false)(ht2:bB P ty2=some ⟨.struct fs,s',b',z'⟩)
  (hm:Take (aF b [v] bt) L L') (hm2:Take (aF b2 cs bt2) L L2) (hl:cs.length=s') (h:∀w,Mem w L→R' (.returned (.tuple #[v, .agg cs.toArray])) w):fU P fn R' ⟨n,[]⟩ .returning E L:=fun a w hs hM=>by
 have hb:=jO.1 (hM.has hm);have hc:w.cell? ⟨b,0,none⟩=some v:=by rw[hb.cell];rfl
 have h1:(loadVar ty ⟨b,0,none⟩).run P w= .ok v w:=by simp[loadVar,(cI ht).isAgg hd,load,Sem.run,hc]
 have h2:=uL ht2 (jO.1 (hM.has hm2)) hl;exact⟨.tuple #[v, .agg cs.toArray],by simp[results,hr,hs.slot t _ hv,hs.slot u _ hu,asAddr,h1,h2],h w hM⟩
end
end
section
section
open Go Go.RowKit
theorem Still.aAA{P:Program} [eT P]{N:Nd}{E:Env}{L:List Chunk}{dst:Option Tmp}{ty:TypeId}{pos:String}{aft:Array Edge}{g:Option (Nat×Bool)}{x:Operand}{t xT:TypeId}{v:Value}{s b:Nat}{z:List Value}{fs:List (Nat×TypeId)}(hx:ev E x=some (.iface t v))(ht:bB P t=some ⟨.struct fs,s,b,z⟩):Still P N ⟨dst, .typeAssert x xT t true,ty,pos,aft,g⟩ E L (.tuple #[v, .bool true]):=fun A w hs _=>by
 obtain⟨l,h1, -⟩:=(cI ht).struct;simp[execOp,hs.ev hx,Instr.typeAssert,run_underlying h1]
end
end
namespace Vw
open Go.RowKit Img
section
attribute [local irreducible] aE aG End aB Still aN aU RunT Fn aS
theorem aEs(rb fb:Nat)(v0 a0 a1:Value)(e:mP):∀w,Mem w ([] ++[aF rb [v0] 68,aF fb [a0,a1] 70])→CallsD Tryz.prog 49 #[ptr rb,ptr fb] (.panicking (n8 (rR e))) w fun x u1 w'=>u1= .panicking [{v:=rR e,recovered:=true}]∧eJ (σ:=Unit) (fun _=>True) (fun _=> .tuple #[]) (fun _=>[aF rb [.slice none 0 0] 68,aF fb [.int .i64 e.1.1, .int .i64 e.1.2] 70]) w (e7 [aF rb [v0] 68,aF fb [a0,a1] 70]) x w':=by
 refine MZ (args:=[ptr rb,ptr fb]) (v:=rR e) Tryz.func49 rfl Tryz.ntmps49 rfl rfl aW (fun c0 cs h=> .inl ?_) (fun w S=>?_)
 ·simp[recoverD,h,n8]
 refine a8 ?_;apply aE.op aV;refine aB.bP (h:=Still.aAA rfl rfl) (k:=?_)
 repeat(refine Fy ?_;try intro b)
 refine b8 3 [aF b [.int .i64 e.1.1, .int .i64 e.1.2] 135] 4 ?_;refine gP [0,1] ?_;refine gWl [2,3] ?_;refine b6 ?_;refine a8 ?_;exact End.dL () (hp:=trivial)
theorem aEt(rb fb:Nat):∀w,Mem w ([] ++[])→CallsD Tryz.prog 49 #[ptr rb,ptr fb] .returning w fun x u1 w'=>u1= .returning∧eJ (σ:=Unit) (fun _=>True) (fun _=> .tuple #[]) (fun _=>[]) w (e7 []) x w':=by
 refine MZ (args:=[ptr rb,ptr fb]) (v:= .nilIface) Tryz.func49 rfl Tryz.ntmps49 rfl rfl aW (fun c0 cs h=> .inr ⟨?_,rfl,rfl⟩) (fun w S=>?_)
 ·simp[recoverD,h]
 refine a8 ?_;exact End.dL () (hp:=trivial)
end
end Vw
section
open Go Go.RowKit
@[irreducible] def bX (cs : List Chunk) : Chunk where
 holds w:=∀c∈cs,c.holds w
 dA b:=∃c∈cs,c.dA b
 bE:=false
 lT k hs h:=fun c hc=>c.lT k (fun b hb=>hs b ⟨c,hc,hb⟩) (h c hc)
 lt h b hb:=by obtain⟨c,hc,hb⟩:=hb;exact c.lt (h c hc) b hb
theorem VY{w:World}{cs:List Chunk}:(bX cs).holds w↔∀c∈cs,c.holds w:=by unfold bX;exact Iff.rfl
theorem aEx{b:Nat}{cs:List Chunk}:(bX cs).dA b↔∃c∈cs,c.dA b:=by unfold bX;exact Iff.rfl
@[simp] theorem aEw {cs : List Chunk} : (bX cs).bE = false := by unfold bX; rfl
theorem Reads.bX{w:World}{cs R F F':List Chunk}(t:Take (Proofs.YtofckcabpchcmaaGreatDoor.bC cs) F F')(h:Reads w R F):Reads w (Proofs.YtofckcabpchcmaaGreatDoor.bX cs::R) F:=
 .cons t aEw (fun h=>⟨VY.2 (qJ.1 h).1.all,fun b hb=>xK.2 (aEx.1 hb)⟩) h
def Has(cs:List Chunk)(b o:Nat)(vs:List Value):Prop:=∀w,(bX cs).holds w→∀j v,vs[j]?=some v→w.cell? ⟨b,o+j,none⟩=some v
def ob(a:Option Addr):Nat:=match a with
 |some a=>a.block
 |none=>0
def oo(a:Option Addr):Nat:=match a with
 |some a=>a.off
 |none=>0
section
variable{α:Type} [Inhabited α]{f:α→List Value} [bH f]{ao:Option Addr}{n c:Nat}{e:TypeId}{l:List α}{cs:List Chunk}{w:World}
theorem V0(h:(bX cs).holds w)(hm:arr ao n c e f l∈cs):Row w (.slice ao n c) (sz f) n (l.flatMap f)∧l.length=n:=by
 have h:=fV.1 (VY.1 h _ hm);exact⟨h.1.row bH.pos,h.2⟩
theorem VZ(h:(bX cs).holds w)(hm:arr ao n c e f l∈cs)(hn:0<n):ao=some ⟨ob ao,oo ao,none⟩:=by
 obtain⟨b,o,he⟩:=(V0 h hm).1.form hn;rw[he];rfl
theorem Has.elem(hm:arr ao n c e f l∈cs){i:Nat}(hi:i<n):Has cs (ob ao) (oo ao+i*sz f) (f (l.getD i default)):=fun w h j v hv=>by
 obtain⟨hr,hl⟩:=V0 h hm;have hp:=VZ h hm aA;rw[hp]at hr;have h1:=hr.aA6 (i*sz f+j) (by
  have hj:j<sz f:=by
   unfold sz;rw[←bH.len (f:=f) (l.getD i default)];exact(rE.1 hv).1
  have:(i+1)*sz f≤n*sz f:=Nat.mul_le_mul_right _ hi;rw[Nat.add_mul]at this;omega)
 rw[uZ,h1];rw[KC f l i aA j (by
  unfold sz;rw[←bH.len (f:=f) (l.getD i default)];exact(rE.1 hv).1)]
 exact hv
theorem Has.part{b o:Nat}{vs us:List Value}(h:Has cs b o vs)(k:Nat)(hu:∀j v,us[j]?=some v→vs[k+j]?=some v):Has cs b (o+k) us:=fun w hw j v hv=>by
 rw[uZ];exact h w hw _ v (hu j v hv)
end
section
variable{P:Program} [eT P]{N:Nd}{E:Env}{L L':List Chunk}{dst:Option Tmp}{ty:TypeId}{pos:String}{aft:Array Edge}{g:Option (Nat×Bool)}{cs:List Chunk}{b o:Nat}{vs:List Value}
theorem Still.aCq{x:Operand}{t:TypeId}{off:Nat}{v:Value}{ti:jX}(hx:ev E x=some (.pointer (some ⟨b,o+off,none⟩)))(ht:bB P t=some ti)(hd:ti.d.row=false)(hm:Take (bX cs) L L')(hh:Has cs b o vs)(hv:vs[off]?=some v):Still P N ⟨dst, .load t x,ty,pos,aft,g⟩ E L v:=fun A w hs hM=>by
 have hc:=hh w (hM.has hm) off v hv;simp[execOp,hs.ev hx,Instr.loadAt,Instr.sureAddr,loadVar,(cI ht).isAgg hd,load,hc]
theorem Still.AA{x:Operand}{t:TypeId}{off s' b':Nat}{fs:List (Nat×TypeId)}{z' ds:List Value}(hx:ev E x=some (.pointer (some ⟨b,o+off,none⟩)))(ht:bB P t=some ⟨.struct fs,s',b',z'⟩)(hm:Take (bX cs) L L')(hh:Has cs b o vs)(hv:Cut vs off s' ds):Still P N ⟨dst, .load t x,ty,pos,aft,g⟩ E L (.agg ds.toArray):=fun A w hs hM=>by
 obtain⟨hl,hg⟩:=hv.get;obtain⟨l,h1, -⟩:=(cI ht).struct;obtain⟨x',z,h3,h4, -⟩:=(cI ht).info;have:=run_loadAt_mid (P:=P) w b (o+off) t ds _ (fun j v hj=>by
  have:=hh w (hM.has hm) (off+j) v (hg j v hj);rwa [←uZ]at this) h1 rfl (by rw[h3];simp[h4,hl])
 simp[execOp,hs.ev hx,this]
theorem Still.vB{α:Type}{iα:Inhabited α}{f:α→List Value}{ef:bH f}{ao:Option Addr}{n c:Nat}{e:TypeId}{l:List α}{t:TypeId}{x ix:Operand}{k:IntKind}{j:Int}{i s' b' s2 b2:Nat}{z' z2:List Value}{d2:dO}(hx:ev E x=some (.slice ao n c))(hi:ev E ix=some (.int k j))(hm:Take (bX cs) L L')(hr:arr ao n c e f l∈cs)
  (ht:bB P t=some ⟨.slice e,s',b',z'⟩) (he:bB P e=some ⟨d2,s2,b2,z2⟩) (hs:s2=sz f) (hj:j=(i:Int)) (hlt:i<n):Still P N ⟨dst, .indexAddr t x ix,ty,pos,aft,g⟩ E L (.pointer (some ⟨ob ao,oo ao+i*sz f,none⟩)):=fun A w hS hM=>by
 have hp:=VZ (hM.has hm) hr aA;subst hj;have h0:(0:Int)≤(i:Int)∧(i:Int)<(n:Int):=aA;have hz:(sizeOf e).run P w= .ok s2 w:=(cI he).size w;subst hs;have hx':=hS.ev hx;rw[hp]at hx';simp[execOp,hx',hS.ev hi,Instr.indexAt,asIntOf,run_underlying (cI ht).slice,h0,hz,Addr.tJ,hlt]
end
theorem Fh{A:Prop}(h:A:=by(first|(apply Still.AA;exact rfl;exact rfl;(focus ((repeat(first|exact Take.head|apply Take.tail));done));(focus assumption);(repeat(first|exact Cut.done|apply Cut.take|apply Cut.skip));done)|exact Fs|(apply Still.aCq;exact rfl;exact rfl;exact rfl;(focus ((repeat(first|exact Take.head|apply Take.tail));done));(focus assumption);exact rfl)|(apply Still.vB;exact rfl;exact rfl;(focus ((repeat(first|exact Take.head|apply Take.tail));done));(focus assumption);exact rfl;exact rfl;exact rfl;(first|exact(rfl:(0:Int)=((0:Nat):Int))|exact gT _|exact rfl);omega))):A:=h
theorem Fk{A G:Prop}(k:G)(h:Bx G→A:=by intro hk;(first|(apply aE.op;exact rfl;refine aB.bP (h:=Fh) (k:=?_))|(refine aE.eE (h:=?_);refine aB.bP (h:=Fh) (k:=?_))|refine aN.bP (h:=Fh) (k:=?_)|refine aN.eE (h:=Fh) (k:=?_)|refine aU.bP (h:=Fh) (k:=?_)|refine aU.eE (h:=Fh) (k:=?_));exact hk.out):A:=h ⟨k⟩
theorem Fz{A G:Prop}(k:G)(h:Bx G→A:=by intro hk;(first|(refine Jo ?_;exact hk.out)|(refine Fk ?_;exact hk.out)|(refine JB ?_;exact hk.out)|(refine JA ?_;exact hk.out))):A:=h ⟨k⟩
end
namespace Fr
open ImgM
def nd(depth n:Nat):Option Nat:=if 2000<n+1∨40<depth then none else some (n+1)
def eW(k:Int):Int:=if k≤3∨k=20 then 0 else if k≤5∨k=21∨k=24 then 1 else if k≤18∨k=23 then 2 else -1
def lO(k n:Int)(s:aH)(m:Nat):Bool:=
 decide (1≤k)&&decide (k≤24)&& !(decide (k=1)&&(decide (n<0)||decide (999999999999999<n)))&& !(decide (k=2)&& !decide (n=0)&& !decide (n=1))
  && !((decide (k=3)||decide (k=20)||decide (eW k<0))&& !named s)&& !(decide (0≤eW k)&& !decide ((m:Int)=eW k))&& !(decide (eW k<0)&&decide (6<m))
mutual
def iG(depth:Nat):Ex→Nat→Option Nat
 | .mk k n s l,c=>(nd depth c).bind fun c=>if lO k n s l.length=true then iX (depth+1) l c else none
def iX(depth:Nat):List Ex→Nat→Option Nat
 |[],c=>some c
 |x::l,c=>(iG depth x c).bind (iX depth l)
end
def sP(k:Int)(s:aH):Bool:=decide (1≤k)&&decide (k≤9)&& !((decide (k=1)||decide (k=2)||decide (k=7))&& !named s)
mutual
def jT(depth:Nat):St→Nat→Option Nat
 | .mk k s x b e,c=>(nd depth c).bind fun c=>if sP k s=true then(if k=6 then some c else
   (iG (depth+1) x c).bind fun c=>(if k=3∨k=4 then(if 50<b.length then none else eH (depth+1) b c)else some c).bind fun c=>if k=3 then(if 50<e.length then none else eH (depth+1) e c)else some c)else none
def eH(depth:Nat):List St→Nat→Option Nat
 |[],c=>some c
 |x::l,c=>(jT depth x c).bind (eH depth l)
end
def kF(t:Ty):Bool:=decide (1≤t.kind)&&decide (t.kind≤3)&& !(decide (t.kind=3)&& !named t.gen)
def oS(d:Df)(c:Nat):Option Nat:=(nd 1 c).bind fun c=>
 if(decide (1≤d.kind)&&decide (d.kind≤4)&&named d.name
  && !((decide (d.kind=2)||decide (d.kind=3))&& !(decide (d.params.length≤6)&&d.params.all fun p=>named p.name&&kF p.type))
  && !(decide (d.kind=3)&& !kF d.aP)&& !(!decide (d.kind=4)&& !kF d.type))=true
 then(if d.kind=1 then(if d.cap<1∨20<d.cap then none else some c)else if 50<d.body.length then none else eH 2 d.body c)else none
def lS:List Df→Nat→Option Nat
 |[],c=>some c
 |d::l,c=>(oS d c).bind (lS l)
def shaped(l:List Df):Bool:=decide (l.length≤30)&&(lS l 0).isSome
--what programs mean
def cV(t:Ty):Bool:=!decide (t.kind=3)
def bare(t:Ty):Ty:=if cV t=true then⟨t.kind,[]⟩else t
abbrev Scope:=List (List (aH×Ty))
def at_{α:Type}(m:List (aH×α))(s:aH):Option α:=(m.find? fun x=>decide (x.1=s)).map (·.2)
def eN{α:Type}:List (List (aH×α))→aH→Option α
 |[],_=>none
 |b::r,s=>match at_ b s with
  |some t=>some t
  |none=>eN r s
section
variable(P:List Df)
def dG(s:aH):Option Df:=P.find? fun d=>decide (d.name=s)
def kR(k:Int)(s:aH):Option Df:=(dG P s).bind fun d=>if d.kind=k then some d else none
def kJ:Ty:=⟨1,[]⟩
def gM:Ty:=⟨2,[]⟩
variable(D:Df)
def same(t:Option Ty)(want:Ty):Option Unit:=t.bind fun t=>if t=bare want then some ()else none
mutual
def b9(B:Scope):Ex→Option Ty
 | .mk k n s l=>
  if k=1 then some kJ
  else if k=2 then some gM
  else if k=3 then eN B s
  else if k=4 then(eD B [kJ] l).map fun _=>kJ
  else if k=5 then(eD B [gM] l).map fun _=>gM
  else if k=11∨k=12 then(fF B l).bind fun ts=>match ts with
   |[a,b]=>if a=b∧cV a=true then some gM else none
   |_=>none
  else if k=19 then(kR P 2 s).bind fun d=>(eD B (d.params.map (·.type)) l).map fun _=>bare d.type
  else if k=20 then(kR P 1 s).map fun d=>bare d.type
  else if k=21 then(if D.kind=3 then(eD B [D.type] l).map fun _=>bare D.aP else none)
  else if k=22 then(kR P 3 s).bind fun d=>(eD B (d.params.map (·.type)) l).map fun _=>⟨3,s⟩
  else if k=23 then(fF B l).bind fun ts=>match ts with
   |[h,v]=>if cV h=true then none else(dG P h.gen).bind fun d=>if v=bare d.aP then some (bare d.type)else none
   |_=>none
  else if k=24 then(fF B l).bind fun ts=>match ts with
   |[h]=>if cV h=true then none else some gM
   |_=>none
  else
   let want:=if 17≤k then gM else kJ
   (eD B (l.map fun _=>want) l).map fun _=>if 13≤k then gM else kJ
def eD(B:Scope):List Ty→List Ex→Option Unit
 |[],[]=>some ()
 |t::ts,x::l=>(same (b9 B x) t).bind fun _=>eD B ts l
 |_,_=>none
def fF(B:Scope):List Ex→Option (List Ty)
 |[]=>some []
 |x::l=>(b9 B x).bind fun t=>(fF B l).map (t::·)
end
mutual
def lV(B:Scope):St→Option Scope
 | .mk k s x b e=>
  if k=1 then(b9 P D B x).bind fun t=>if(eN B s).isSome then none else match B with
   |[]=>none
   |c::r=>some ((c ++[(s,t)])::r)
  else if k=2 then(eN B s).bind fun t=>(same (b9 P D B x) t).map fun _=>B
  else if k=3∨k=4 then(same (b9 P D B x) gM).bind fun _=>(fC ([]::B) b).bind fun _=>if k=4 then some B else(fC ([]::B) e).map fun _=>B
  else if k=5 then(if D.kind=2 then(same (b9 P D B x) D.type).map fun _=>B else none)
  else if k=6 then(if D.kind=2 then none else some B)
  else if k=7 then(kR P 1 s).bind fun d=>(same (b9 P D B x) d.type).map fun _=>B
  else if k=8 then(b9 P D B x).bind fun t=>if cV t=true then some B else none
  else(b9 P D B x).map fun _=>B
def fC(B:Scope):List St→Option Scope
 |[]=>some B
 |x::l=>(lV B x).bind fun B=>fC B l
end
end
def gA(P:List Df)(t:Ty):Bool:=cV t||(kR P 3 t.gen).isSome
def gR(P:List Df)(d:Df):Bool:=
 !((decide (d.kind=2)||decide (d.kind=3))&& !(decide ((d.params.map (·.name)).Nodup)&&d.params.all fun p=>gA P p.type))
  && !(decide (d.kind=3)&& !cV d.aP)&& !(!decide (d.kind=4)&& !cV d.type)
def mC(P:List Df)(d:Df):Bool:=decide (d.kind=1)||(fC P d [[],if d.kind=4 then []else d.params.map fun p=>(p.name,bare p.type)] d.body).isSome
mutual
def oF:Ex→List aH×List aH
 | .mk k n s l=>let r:=mO l;((if k=19∨k=22 then [s]else []) ++r.1,(if k=20 then [s]else []) ++r.2)
def mO:List Ex→List aH×List aH
 |[]=>([],[])
 |x::l=>((oF x).1 ++(mO l).1,(oF x).2 ++(mO l).2)
end
structure Us where
 calls:List aH
 iP:List aH
 gW:List aH
instance:Inhabited Us:=⟨⟨[],[],[]⟩⟩
def Us.add(a b:Us):Us:=⟨a.calls ++b.calls,a.iP ++b.iP,a.gW ++b.gW⟩
mutual
def rA:St→Us
 | .mk k s x b e=>((⟨[],if k=7 then [s]else [],[]⟩:Us).add (if k=6 then default else⟨(oF x).1,[],(oF x).2⟩)).add ((if k=3∨k=4 then cD b else default).add (if k=3 then cD e else default))
def cD:List St→Us
 |[]=>default
 |x::l=>(rA x).add (cD l)
end
def kV(P:List Df):Nat→List aH→List Df→List aH×List aH
 |0,_,_=>([],[])
 |_,_,[]=>([],[])
 |n+1,cG,d::todo=>
  let u:=cD d.body
  let new:=u.calls.foldl (fun(h:List aH×List aH) s=>if s∈h.1 then h else(h.1 ++[s],h.2 ++[s])) (cG,[])
  let r:=kV P n new.1 (todo ++new.2.filterMap (dG P))
  (u.iP ++r.1,u.gW ++r.2)
def vP(P:List Df):Bool:=
 (P.filter fun d=>decide (d.kind=1)).all fun b=>
  let ts:=P.filter fun d=>decide (d.kind=4)
  decide ((ts.filter fun t=>decide (b.name∈(kV P (P.length+1) [] [t]).1)).length≤1)&&decide ((ts.filter fun t=>decide (b.name∈(kV P (P.length+1) [] [t]).2)).length≤1)
def check(P:List Df):Bool:=shaped P&&decide ((P.map (·.name)).Nodup)&&(P.any fun d=>decide (d.kind=4))&&P.all (gR P)&&P.all (mC P)&&vP P
--modules
section
variable(P:List Df)
def iC(s:aH):Nat:=((P.filter fun d=>decide (d.kind=1)).findIdx? fun d=>decide (d.name=s)).getD 0
def dE(s:aH):Nat:=((P.filter fun d=>!decide (d.kind=1)).findIdx? fun d=>decide (d.name=s)).getD 0
def bO(t:Ty):Int:=if t.kind=3 then 10+(dE P t.gen:Int)else t.kind
structure Wr where
 locals:List Int
 code:List aT
 blocks:List (List (aH×Nat))
def Wr.put(w:Wr)(op a:Int)(n:Int):Wr:={w with code:=w.code ++[⟨op,a,n⟩]}
def Wr.gK(w:Wr)(s:aH)(t:Int):Wr:={w with locals:=w.locals ++[t],blocks:=match w.blocks with
 |[]=>[]
 |b::r=>(b ++[(s,w.locals.length)])::r}
def Wr.look(w:Wr)(s:aH):Nat:=(eN w.blocks s).getD 0
def q0(s:aH):Int:=match dG P s with
 |some d=>bO P d.type
 |none=>0
variable(aP:Int)
mutual
def bD:Ex→Wr→Wr×Int
 | .mk k n s l,w0=>
  let (w,ts):=dS l w0
  if k=1 then(w.put 1 0 n,1)
  else if k=2 then(w.put 2 n 0,2)
  else if k=3 then(w.put 3 (w.look s) 0,w.locals.getD (w.look s) 0)
  else if k=4 then(w.put 6 0 0,1)
  else if k=5 then(w.put 7 0 0,2)
  else if 6≤k∧k≤18 then(w.put (8+k-6) 0 0,if k≤10 then 1 else 2)
  else if k=19 then(w.put 23 (dE P s) 0,q0 P s)
  else if k=20 then(w.put 27 (iC P s) 0,q0 P s)
  else if k=22 then(w.put 29 (dE P s) 0,10+(dE P s:Int))
  else if k=21 then(w.put 31 0 0,aP)
  else if k=24 then(w.put 32 0 0,2)
  else(w.put 30 0 0,match (P.filter fun d=>!decide (d.kind=1))[(ts.headD 0-10).toNat]? with
   |some d=>bO P d.type
   |none=>0)
def dS:List Ex→Wr→Wr×List Int
 |[],w=>(w,[])
 |x::l,w=>let (w,t):=bD x w;let (w,ts):=dS l w;(w,t::ts)
end
def Wr.open_(w:Wr):Wr:={w with blocks:=[]::w.blocks}
def Wr.close(w:Wr):Wr:={w with blocks:=w.blocks.tail}
def Wr.patch(w:Wr)(k a:Nat):Wr:={w with code:=w.code.set k {w.code.getD k default with a:=(a:Int)}}
mutual
def kL:St→Wr→Wr
 | .mk k s x b e,w=>
  if k=3 then
   let w:=((bD P aP x w).1).put 22 0 0
   let no:=w.code.length-1
   let w:=((bZ b w.open_).close).put 21 0 0
   let end_:=w.code.length-1
   let w:=w.patch no w.code.length
   let w:=(bZ e w.open_).close
   w.patch end_ w.code.length
  else if k=4 then
   let top:=w.code.length
   let w:=((bD P aP x w).1).put 22 0 0
   let no:=w.code.length-1
   let w:=((bZ b w.open_).close).put 21 top 0
   w.patch no w.code.length
  else if k=6 then w.put 25 0 0
  else
   let (w,t):=bD P aP x w
   if k=1 then(w.gK s t).put 4 w.locals.length 0
   else if k=2 then w.put 4 (w.look s) 0
   else if k=5 then w.put 24 0 0
   else if k=7 then w.put 26 (iC P s) 0
   else if k=8 then w.put 28 0 0
   else if k=9 then w.put 5 0 0
   else w
def bZ:List St→Wr→Wr
 |[],w=>w
 |x::l,w=>bZ l (kL x w)
end
end
def fH(P:List Df)(d:Df):bM:=
 let ps:=if d.kind=4 then []else d.params
 let aP:=if d.kind=3 then bO P d.aP else 0
 let w:Wr:=ps.foldl (fun w p=>w.gK p.name (bO P p.type)) ⟨[],[],[[]]⟩
 let w:=(bZ P aP d.body w.open_).close
 let res:=if d.kind=4 then 0 else bO P d.type
 let w:=if d.kind=2 then(w.put (if res=2 then 2 else 1) 0 0).put 24 0 0 else w.put 25 0 0
 ⟨d.kind,if d.kind=4 then 0 else(d.params.length:Int),w.locals,res,aP,w.code⟩
def compile(P:List Df):Option aL:=
 if check P=true then
  let us:=(P.filter fun d=>!decide (d.kind=1)).map (fH P)
  if us.any fun u=>decide (200<u.locals.length)||decide (4000<u.code.length)then none
  else some ⟨(P.filter fun d=>decide (d.kind=1)).map fun d=>(bO P d.type,d.cap),us⟩
 else none
def module(s:aH):Option aL:=(parse s).bind compile
end Fr
namespace Vw
open Go.RowKit Img
section
attribute [local irreducible] aE aG End aB Still aN aU RunT Fn aS
attribute [local irreducible] Fr.named
theorem EL.ind{p:EL→Prop}(h:∀x,(∀y∈x.kids,p y)→p x)(x:EL):p x:=by
 suffices H:∀(n:_root_.Nat) (x:EL),SizeOf.sizeOf x<n→p x from H _ x (Nat.lt_succ_self _)
 intro n
 induction n with
 |zero=>intro x hx;omega
 |succ n ih=>
  intro x hx;refine h x (fun y hy=>ih y ?_);have h1:=List.sizeOf_lt_of_mem hy
  cases x with
  |mk k m s o c l=>simp only[EL.mk.sizeOf_spec]at hx;dsimp only[EL.kids]at h1;omega
structure nQ(cs:List Chunk)(b o:Nat)(x:EL):Prop where
 has:Has cs b o (eK x)
 sub:∀c∈x.mem,c∈cs
theorem nQ.arr{cs:List Chunk}{b o:Nat}{x:EL}(h:nQ cs b o x):Proofs.YtofckcabpchcmaaGreatDoor.arr x.o x.kids.length x.c 257 eK x.kids∈cs:=h.sub _ (by
 cases x;rw[EL.mem];exact gF)
theorem nQ.mF{cs:List Chunk}{b o:Nat}{x:EL}(h:nQ cs b o x){i:Nat}(hi:i<x.kids.length):nQ cs (ob x.o) (oo x.o+i*sz eK) (x.kids.getD i default):=⟨Has.elem h.arr hi,fun c hc=>h.sub c (by
 cases x with
 |mk k n s o c' l=>
  rw[EL.mem,LN];exact gZ _ (qF.2 ⟨_,dW hi,hc⟩))⟩
abbrev Wf(pb:Nat)(f:FuncId)(args:List Value)(R:List Chunk)(c:Nat)(ρ:Option Nat):Prop:=
 Fn Tryz.prog f args.toArray R [aF pb [.int .i64 c] 217] (σ:=Int×Nat) (fun x=>(x.1=0∧ρ=some x.2∧x.2≤2000)∨(x.1≠0∧ρ=none)) (fun x=> .int .i64 x.1) (fun x=>[aF pb [.int .i64 x.2] 217])
theorem OH(pb c:Nat)(hc:c≤2000)(d:Nat):Wf pb 133 [ptr pb, .int .i64 d] [] c (Fr.nd d c):=by
 refine JE [ptr pb, .int .i64 d] Tryz.func133 Tryz.ntmps133 fun w S=>?_;refine Jn ?_
 repeat' (first|(refine Fy ?_)|refine gQ (k:=fun h=>?_) (k':=fun h=>?_)|fail)
 ·exact End.aX (4,c+1) (he:=rfl) (hp:= .inr ⟨by show(4:Int)≠0;decide,by unfold Fr.nd;rw[if_pos aA]⟩)
 ·exact End.aX (4,c+1) (he:=rfl) (hp:= .inr ⟨by show(4:Int)≠0;decide,by unfold Fr.nd;rw[if_pos aA]⟩)
 ·exact End.aX (0,c+1) (he:=rfl) (hp:= .inl ⟨rfl,by unfold Fr.nd;rw[if_neg aA],by dsimp only;omega⟩)
theorem DV(t:Fr.Ty):Fn Tryz.prog 134 #[.agg #[.int .i64 t.kind,sv t.gen]] [cF] [] (σ:=Int) (fun e=>(e=0∧Fr.kF t=true)∨(e≠0∧Fr.kF t=false)) (fun e=> .int .i64 e) (fun _=>[]):=by
 refine JE [.agg #[.int .i64 t.kind,sv t.gen]] Tryz.func134 Tryz.ntmps134 fun w S=>?_;refine Jn ?_;have key:Fr.kF t=true↔1≤t.kind∧t.kind≤3∧¬(t.kind=3∧Fr.named t.gen=false):=by
  unfold Fr.kF;by_cases h1:1≤t.kind<;>by_cases h2:t.kind≤3<;>by_cases h3:t.kind=3<;>cases Fr.named t.gen<;>simp[h1,h2,h3]
 have kf:Fr.kF t=false↔¬(1≤t.kind∧t.kind≤3∧¬(t.kind=3∧Fr.named t.gen=false)):=by rw[←key];cases Fr.kF t<;>simp
 repeat' (first|(refine Fy ?_;try intro b)|(refine bU (AJ t.gen) fun z hz=>?_)|refine gQ (k:=fun h=>?_) (k':=fun h=>?_)|fail)
 all_goals first
  |refine End.aX 1 (he:=rfl) (hp:= .inr ⟨by show(1:Int)≠0;decide,kf.2 ?_⟩)
  |refine End.aX 7 (he:=rfl) (hp:= .inr ⟨by show(7:Int)≠0;decide,kf.2 ?_⟩)
  |refine End.aX 0 (he:=rfl) (hp:= .inl ⟨rfl,key.2 ?_⟩)
 all_goals (simp_all;try omega)
theorem aIJ(k:Int):Fn Tryz.prog 186 #[.int .i64 k] [] [] (σ:=Int) (fun e=>e=Fr.eW k) (fun e=> .int .i64 e) (fun _=>[]):=by
 refine JE [.int .i64 k] Tryz.func186 Tryz.ntmps186 fun w S=>?_;refine Jn ?_
 repeat' (first|(refine Fy ?_)|refine gQ (k:=fun h=>?_) (k':=fun h=>?_)|fail)
 all_goals first
  |refine End.aX 0 (he:=rfl) (hp:=?_)
  |refine End.aX 1 (he:=rfl) (hp:=?_)
  |refine End.aX 2 (he:=rfl) (hp:=?_)
  |refine End.aX (-1) (he:=rfl) (hp:=?_)
 all_goals
  show _=Fr.eW k;unfold Fr.eW
  repeat' split
 all_goals omega
theorem oN{α:Type} [Inhabited α]{l:List α}{k:Nat}(h:k<l.length):l.drop k=l.getD k default::l.drop (k+1):=by
 rw[List.drop_eq_getElem_cons h];simp[List.getD,Je h]
theorem KW(k n:Int)(s:aH)(m:Nat):∃nm:Int,(Fr.named s=true→nm=1)∧(Fr.named s=false→nm=0)∧(Fr.lO k n s m=true↔1≤k∧k≤24∧¬(k=1∧(n<0∨999999999999999<n))∧¬(k=2∧n≠0∧n≠1)∧¬((k=3∨k=20∨Fr.eW k<0)∧nm=0)∧¬(0≤Fr.eW k∧(m:Int)≠Fr.eW k)∧¬(Fr.eW k<0∧6<m)):=by
 refine⟨if Fr.named s=true then 1 else 0,fun h=>if_pos h,fun h=>if_neg (by simp[h]),?_⟩;unfold Fr.lO
 cases hs:Fr.named s<;>simp[and_assoc,or_assoc]<;>intro _ _<;>omega
theorem aM.ind{p:aM→Prop}(h:∀x,(∀y∈x.body,p y)→(∀y∈x.fJ,p y)→p x)(x:aM):p x:=by
 suffices H:∀(n:_root_.Nat) (x:aM),SizeOf.sizeOf x<n→p x from H _ x (Nat.lt_succ_self _)
 intro n
 induction n with
 |zero=>intro x hx;omega
 |succ n ih=>
  intro x hx
  cases x with
  |mk k s x bo bc b eo ec e=>
   simp only[aM.mk.sizeOf_spec]at hx;refine h _ (fun y hy=>ih y ?_) (fun y hy=>ih y ?_)
   all_goals
    have h1:=List.sizeOf_lt_of_mem hy;dsimp only[aM.body,aM.fJ]at h1;omega
structure sH(cs:List Chunk)(b o:Nat)(x:aM):Prop where
 has:Has cs b o (fS x)
 sub:∀c∈x.mem,c∈cs
structure tI(cs:List Chunk)(o:Option Addr)(c:Nat)(l:List aM):Prop where
 arr:Proofs.YtofckcabpchcmaaGreatDoor.arr o l.length c 259 fS l∈cs
 sub:∀d∈aM.dM l,d∈cs
section
variable{cs:List Chunk}{b o:Nat}{x:aM}
theorem sH.ex(h:sH cs b o x):nQ cs b (o+2) x.x:=⟨h.has.part 2 (fun j v hv=>by rcases j with _|_|_|_|j<;>(first|(simp[eK,fS]at hv;done)|simpa[eK,fS]using hv)),fun c hc=>h.sub c (by
 cases x;rw[aM.mem];exact kY _ hc)⟩
theorem sH.body(h:sH cs b o x):tI cs x.bo x.bc x.body:=by
 cases x;exact⟨h.sub _ (by rw[aM.mem];exact mQ _ gF),fun d hd=>h.sub _ (by rw[aM.mem];exact mQ _ (gZ _ (kY _ hd)))⟩
theorem sH.fJ(h:sH cs b o x):tI cs x.eo x.ec x.fJ:=by
 cases x;exact⟨h.sub _ (by rw[aM.mem];exact mQ _ (gZ _ (mQ _ gF))),fun d hd=>h.sub _ (by rw[aM.mem];exact mQ _ (gZ _ (mQ _ (gZ _ hd))))⟩
theorem tI.mF{a:Option Addr}{c:Nat}{l:List aM}(h:tI cs a c l){i:Nat}(hi:i<l.length):sH cs (ob a) (oo a+i*sz fS) (l.getD i default):=⟨Has.elem h.arr hi,fun c hc=>h.sub c (by
 rw[NN];exact qF.2 ⟨_,dW hi,hc⟩)⟩
end
abbrev HY(pb:Nat)(cs:List Chunk)(x:aM):Prop:=∀(b o d c:Nat),sH cs b o x→c≤2000→d≤41→Wf pb 159 [ptr pb, .pointer (some ⟨b,o,none⟩), .int .i64 d] [bX cs,cF] c (Fr.jT d x.st c)
theorem DU(pb:Nat)(cs:List Chunk)(a:Option Addr)(ca:Nat)(l:List aM)(ih:∀y∈l,HY pb cs y)(d c:Nat)(hl:tI cs a ca l)(hc:c≤2000)(hd:d≤41):Wf pb 135 [ptr pb, .slice a l.length ca, .int .i64 d] [bX cs,cF] c (if 50<l.length then none else Fr.eH d (aM.bV l) c):=by
 refine JE [ptr pb, .slice a l.length ca, .int .i64 d] Tryz.func135 Tryz.ntmps135 fun w S=>?_;refine Jn ?_
 by_cases h5:50<l.length
 ·refine lE ?_;exact End.aX (5,c) (he:=rfl) (hp:= .inr ⟨show(5:Int)≠0 by decide,if_pos h5⟩)
 have ha:=hl.arr;refine lE ?_;refine cK (σ:=Nat×Nat) (fun s=>s.1≤l.length∧s.2≤2000∧Fr.eH d (aM.bV l) c=Fr.eH d (aM.bV (l.drop s.1)) s.2) (fun s=>[(0,ptr pb),(1, .slice a l.length ca),(2, .int .i64 d),(6, .int .i64 0),(13, .int .i64 l.length),(14, .int .i64 s.1)]) (fun s=>[aO w S,bX cs,cF,aF pb [.int .i64 s.2] 217]) (fun s=>l.length-s.1) (0,c) ?_ fun s hs K hK=>?_
 ·exact⟨bQ _,hc,rfl⟩
 refine Jn ?_;obtain⟨k,c2⟩:=s;obtain⟨hk',hc2,hr⟩:=hs;dsimp only at hk' hc2 hr⊢;rw[if_neg h5]
 by_cases hlt:k<l.length
 ·have hs:Fr.eH d (aM.bV (l.drop k)) c2=(Fr.jT d (l.getD k default).st c2).bind (Fr.eH d (aM.bV (l.drop (k+1)))):=by
   rw[oN hlt,aM.bV,Fr.eH]
  refine lE ?_;refine bU (ih _ (dW hlt) _ _ d c2 (hl.mF hlt) hc2 hd) fun e he=>?_;obtain⟨e,c3⟩:=e;rcases he with⟨he,hn,hc3⟩|⟨he,hn⟩
  ·dsimp only at he hn hc3;subst he;refine lE ?_;exact End.bK hK (k+1,c3) ⟨hlt,hc3,by rw[hr,hs,hn];rfl⟩ (by dsimp only;omega)
  ·have he':decide (e=0)=false:=decide_eq_false he;refine lE ?_;exact End.aX (e,c3) (he:=rfl) (hp:= .inr ⟨he,by rw[hr,hs,hn];rfl⟩)
 ·refine lE ?_;exact End.aX (0,c2) (he:=rfl) (hp:= .inl ⟨rfl,by rw[hr,iS aA];rfl,hc2⟩)
theorem FG(k:Int)(s:aH):∃nm:Int,(Fr.named s=true→nm=1)∧(Fr.named s=false→nm=0)∧(Fr.sP k s=true↔1≤k∧k≤9∧¬((k=1∨k=2∨k=7)∧nm=0)):=by
 refine⟨if Fr.named s=true then 1 else 0,fun h=>if_pos h,fun h=>if_neg (by simp[h]),?_⟩;unfold Fr.sP
 cases hs:Fr.named s<;>simp[and_assoc,or_assoc]
end
end Vw
end Go.Proofs.YtofckcabpchcmaaGreatDoor
