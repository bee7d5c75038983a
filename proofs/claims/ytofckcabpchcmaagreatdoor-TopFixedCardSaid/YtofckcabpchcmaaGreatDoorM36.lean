/- TopFixed, walked. -/
import Derived.Test.YtofckcabpchcmaaGreatDoorM35
set_option linter.unusedVariables false
set_option linter.unusedSimpArgs false
set_option linter.unusedSectionVars false
set_option maxRecDepth 100000
namespace Go.Proofs.YtofckcabpchcmaaGreatDoor
namespace Vw
open Go.RowKit Img
theorem aF0{M:ImgM.aG}{ps:List (Int×Int)}{q:Int}(h:Vm.kD M ps q=0):Vm.lZ M ps.length=0∧1≤q∧q≤10000∧∃c,Vm.settled M ps q=some c:=by
 unfold Vm.kD at h
 by_cases h1:Vm.lZ M ps.length≠0
 ·rw[if_pos h1]at h;exact absurd h h1
 rw[if_neg h1]at h
 by_cases h2:q<1∨10000<q
 ·rw[if_pos h2]at h;cases h
 rw[if_neg h2]at h;refine⟨tW.1 h1,by omega,by omega,?_⟩
 cases hs:Vm.settled M ps q with
 |none=>rw[if_pos hs]at h;cases h
 |some c=>exact⟨c,rfl⟩
theorem setAt{M:ImgM.aG}{T:Nat→Int→Option Ver.Shape}{ps:List (Int×Int)}{q:Int}{c:Vm.Ma}(hC:Vm.dF M T)(h1:1≤q)(h2:q≤10000)(h:Vm.settled M ps q=some c):Vm.G3 M (some c):=by
 have:=Vm.aF6 hC h1 h2 ps;unfold Vm.settled at h;rw[h]at this;exact this
def pZ(r:dP):List Value:=r.cells
instance:bF pZ:=⟨fun _=>rfl,by decide,fun a u hu=>by simp[pZ]at hu;rcases hu with rfl|rfl|rfl|rfl|rfl|rfl|rfl<;>rfl⟩
structure A4 where
 k:Nat
 rows:List Rw
 eo:Option Addr
 ec:Nat
 es:List dP
abbrev lV(r:dP):Chunk:=arr r.oo r.out.length r.oc 2 aT r.out
theorem Mem.aE7{w:World}{L:List Chunk}(h:Mem w L):Mem w (bE []::L):=
 Mem.xK (pre:=[]) (F:=L) .nil h (zG.2 fun c hc=>by cases hc) FM (fun b hb=>by
  obtain⟨c,hc, -⟩:=CH.1 hb
  cases hc)
theorem Mem.aDe{w:World}{L F:List Chunk}{cs:List Chunk}{p:dP}(t:aQ [bE cs,lV p] L F)(h:Mem w L):Mem w (bE (cs ++[lV p])::F):=by
 have ht:=h.aS t;have a1:=zG.1 (ht.all _ (.head _));have a2:=ht.all _ (.tail _ (.head _));refine Mem.xK t h (zG.2 fun c hc=>?_) FM (fun b hb=>?_)
 ·rcases dH.1 hc with hc|hc
  ·exact a1 c hc
  ·rw[gD.1 hc];exact a2
 ·obtain⟨c,hc,hb⟩:=CH.1 hb;rcases dH.1 hc with hc|hc
  ·exact⟨_, .head _,CH.2 ⟨c,hc,hb⟩⟩
  ·rw[gD.1 hc]at hb;exact⟨_, .tail _ (.head _),hb⟩
theorem Mem.aDf{w:World}{L L':List Chunk}{es:List dP}{k:Nat}(hk:k<es.length)(t:Take (bE (es.map lV)) L L')(h:Mem w L):Mem w (rd (es.getD k default).oo (es.getD k default).out.length (es.getD k default).oc aT (es.getD k default).out::L):=by
 have hm:lV (es.getD k default)∈es.map lV:=fD.2 ⟨_,by rw[Jd,Je hk];exact fB _,rfl⟩;have hh:=h.has t;refine h.dup t fP (kA.2 (ME hh hm)) (fun b hb=>CH.2 ⟨_,hm,?_⟩) FM;obtain⟨h1,h2⟩:=j9.1 hb;exact fS.2 ⟨h1,vV h2 (fH.1 (zG.1 hh _ hm)).1.le⟩
structure TkI(m:ML)(F:List (List Int))(z:A4):Prop where
 k:z.k≤(Vm.tasks m.aC).length
 rows:z.rows.map (·.l)=Vm.lX m.aC F 5000 z.k
 len:z.es.length=z.k
 es:∀j,j<z.k→(z.es.getD j default).Is (Vm.e6 m.aC ((Vm.tasks m.aC).getD j 0) F 5000)∧(z.es.getD j default).st≠1
abbrev qT:Rw:=⟨none,0,[]⟩
theorem Mem.aBG{w:World}{L L':List Chunk}{b n:Nat}(t:Take (arr (some ⟨b,0,none⟩) n n 39 cW (List.replicate n qT)) L L')(h:Mem w L):Mem w (fd ⟨some ⟨b,0,none⟩,n,List.replicate n qT⟩::L'):=
 DX (t:=2) (e:=39) (f:=⟨some ⟨b,0,none⟩,n,List.replicate n qT⟩) (by dsimp only;rw[AS];exact .cons (.tail t) (.cons .head .nil)) (Mem.MI 2 n h)
attribute [local irreducible] aE aB End aA Still aM aP RunT Fn aO
attribute [local irreducible] Fr.module Vm.kD Vm.settled
set_option maxHeartbeats 1000000 in
theorem aBR(t:aF)(hn:t.length≤9223372036854775807):Fn Tryz.prog 3 #[sv t] [bN] [] (σ:=Unit) (fun _=>True) (fun _=> .bool true) (fun _=>[]):=by
 refine Fn.enter (args:=[sv t]) Tryz.func3 rfl _ Tryz.ntmps3 rfl (by simp[I1]) (fun w S=>?_);(refine Jn ?_)
 repeat(refine Fm ?_)
 refine FQ (YW) ?_;intro u hu;refine Jn ?_
 repeat(refine Fm ?_)
 refine FQ (SG t hn) ?_;intro r hr;refine Jn ?_;obtain⟨m,ok⟩:=r;rcases hr with⟨rfl,hm⟩|⟨rfl,hm⟩
 rotate_left
 ·repeat(refine Fm ?_;try intro b)
  (refine End.aH (()) (he:=Jv) (hp:=?_));trivial
 have hwf:m.Wf:=SI hm;clear hm
 repeat(refine Fm ?_;try intro b)
 obtain⟨mb,rfl⟩:∃x,x=b:=⟨_,rfl⟩;apply aE.imp' (fun w hm=>Mem.T6 (SF m (by exact tk) hm));(refine Jc ?_;refine aA.aZ (spec:=VN m hwf ⟨none,0,[]⟩ 50) (r:=(fun w=>Reads.md (tk) (Reads.rd (tk) .nil))) (k:=?_);intro s hs;(refine Jn ?_));obtain⟨r,rfl⟩:∃x,x=s:=⟨_,rfl⟩;unfold DF at hs
 by_cases c1:¬Vm.kD m.aC [] 50=0
 ·rw[if_neg c1]at hs;subst hs;generalize Vm.kD m.aC [] 50=e1 at *
  repeat(refine Jy ?_;try intro b)
  (refine End.aH (()) (he:=Jv) (hp:=?_));trivial
 have c1:=tW.1 c1;obtain⟨a1,a2,a3,c,a4⟩:=aF0 (M:=m.aC) (ps:=[]) (q:=50) c1;obtain⟨hv, -⟩:=YK a1;obtain⟨T,hC⟩:=HX hwf hv;have hR:=Ver.AG.1 hv;have s1:=setAt hC a2 a3 a4;obtain⟨xs,hS,hrs, -⟩:=s1;rw[if_pos c1]at hs;obtain⟨c',f1,hIs⟩:=hs;have f3:some c=some c':=a4.symm.trans f1
 cases f3
 have hF:=formed hR.form;have hu30:=hF.aL;have hb30:=hF.boxes;clear a1 a2 a3 f1 a4;rw[show Vm.kD m.aC (x3.l ⟨none,0,[]⟩) 50=0 from c1];clear c1;apply aE.imp' (fun w hm=>X8 r (aK) hm)
 repeat(refine Jy ?_;try intro b)
 obtain⟨wb,rfl⟩:∃x,x=b:=⟨_,rfl⟩;(refine Jc ?_;refine aA.aZ (spec:=aGf m (by omega)) (r:=(fun w=>Reads.md (tk) .nil)) (k:=?_);intro s hs;(refine Jn ?_))
 repeat(refine Jy ?_)
 apply aE.op (by exact rfl);refine aA.rQ (f:=cW) (iα:=inferInstance) (ef:=inferInstance) (z:=qT) (n:=m.bx.length) (k:=?_);intro fb;(refine Jn ?_)
 repeat(refine Jy ?_)
 apply aB.imp (fun w hm=>Mem.aBG (n:=m.bx.length) (by exact tk) hm);refine aB.only ((fun z=>[aI w S,md m,aD mb (fN m) 26,aD wb r.cells 32,ed r.el,fd z.2]) (0,⟨some ⟨fb,0,none⟩,m.bx.length,List.replicate m.bx.length qT⟩)) (aK) ?_;apply aB.loop (σ:=Nat×FL) (fun z=>z.1≤60∧Vm.rD m.aC c xs z.2.ws) (fun z=>[(3,ptr mb),(5,ptr wb),(7, .int .i64 ((Vm.tasks m.aC).length:Int)),(8, .slice z.2.o m.bx.length z.2.c),(10, .int .i64 (z.1:Int))]) (fun z=>[aI w S,md m,aD mb (fN m) 26,aD wb r.cells 32,ed r.el,fd z.2]) (fun z=>61-z.1) (0,⟨some ⟨fb,0,none⟩,m.bx.length,List.replicate m.bx.length qT⟩)
 rotate_left
 exact sb;exact aK;intro z hz K hK;(refine Jn ?_)
 rotate_left
 ·refine⟨bP _,?_⟩;show Vm.rD m.aC c xs ((List.replicate m.bx.length qT).map (·.l));rw[List.map_replicate];exact Vm.rD.init
 obtain⟨ρ,f⟩:=z;obtain⟨hρ,hfx⟩:=hz;dsimp only at hρ hfx⊢;have hfl:f.l.length=m.bx.length:=by have:=hfx.oR.len;simpa using this
 rw[show Value.slice f.o m.bx.length f.c=f.val by rw[←hfl]]
 repeat(refine Jy ?_)
 apply aE.op (by exact rfl);refine aA.rQ (f:=cW) (iα:=inferInstance) (ef:=inferInstance) (z:=qT) (n:=m.bx.length) (k:=?_);intro qb;(refine Jn ?_)
 repeat(refine Jy ?_)
 apply aB.imp (fun w hm=>Mem.aE7 ((Mem.MI 2 m.bx.length hm).bY 41 pZ));refine aB.only ((fun q:A4=>[aI w S,md m,aD mb (fN m) 26,aD wb r.cells 32,ed r.el,fd f,arr (some ⟨qb,0,none⟩) m.bx.length m.bx.length 39 cW q.rows,aR (q.rows.map (gI 2)),arr q.eo q.es.length q.ec 41 pZ q.es,bE (q.es.map lV)]) ⟨0,List.replicate m.bx.length qT,none,0,[]⟩) (aK) ?_;apply aB.loop (σ:=A4) (fun q=>TkI m f.ws q) (fun q=>[(3,ptr mb),(5,ptr wb),(7, .int .i64 ((Vm.tasks m.aC).length:Int)),(8,f.val),(9, .slice q.eo q.es.length q.ec),(10, .int .i64 (ρ:Int)),(11, .slice (some ⟨qb,0,none⟩) m.bx.length m.bx.length),(12, .int .i64 (q.k:Int))]) (fun q:A4=>[aI w S,md m,aD mb (fN m) 26,aD wb r.cells 32,ed r.el,fd f,arr (some ⟨qb,0,none⟩) m.bx.length m.bx.length 39 cW q.rows,aR (q.rows.map (gI 2)),arr q.eo q.es.length q.ec 41 pZ q.es,bE (q.es.map lV)]) (fun q=>(Vm.tasks m.aC).length-q.k) ⟨0,List.replicate m.bx.length qT,none,0,[]⟩
 rotate_left
 exact sb;exact aK;intro q hq K2 hK2;(refine Jn ?_)
 rotate_left
 ·exact⟨bP _,by rw[Vm.VJ];show(List.replicate m.bx.length qT).map (·.l)=_;rw[List.map_replicate],rfl,fun j hj=>by cases hj⟩
 obtain⟨k,rows,eo,ec,es⟩:=q;obtain⟨q1,q2,q3,q4⟩:=hq;dsimp only at q1 q2 q3 q4⊢
 by_cases hk:k<(Vm.tasks m.aC).length
 ·have htl:(Vm.tasks m.aC).length≤30:=by rw[zS];exact dO (zT m _) hu30
  have her:=Vm.aBE hv hfx.oR hk
  repeat(refine Jy ?_)
  (refine Jc ?_;refine aA.aZ (spec:=aFi m hwf f hfx.oR.iJ (k:Int) 5000) (r:=(fun w=>Reads.md (tk) (Reads.any (tk) m6 .nil))) (k:=?_);intro s hs;(refine Jn ?_));obtain⟨p,rfl⟩:∃x,x=s:=⟨_,rfl⟩;unfold AP at hs;rw[if_pos her]at hs;have hp:p.Is (Vm.e6 m.aC ((Vm.tasks m.aC).getD k 0) f.ws 5000):=hs;clear hs;rw[her];obtain⟨zs,hz⟩:=Vm.VV hC hfx.oR (k:=k) (by simpa[Vm.bZ]using hk) 5000;have hsl:p.bM.length=m.bx.length:=by
   have:=hz.kQ.K.bM;rw[←hp.bM,Jf]at this;exact this
  clear hz
  by_cases h1:p.st=1
  ·clear hK2 hK
   repeat(refine Jy ?_;try intro b)
   (refine End.aH (()) (he:=Jv) (hp:=?_));trivial
  repeat(refine Jy ?_;try first|intro ao cap|intro b)
  repeat(refine Jy ?_)
  refine aB.imp (fun w hm=>Mem.aDe (cs:=es.map lV) (p:=p) (by exact aK) hm) ?_;rw[show es.map lV ++[lV p]=(es ++[p]).map lV by simp,show es.length+1=(es ++[p]).length by simp];refine aB.imp (fun w hm=>DX (f:=⟨p.so,p.sc,p.bM⟩) (t:=2) (e:=39) (by exact aK) hm) ?_;refine aB.only ((fun z:Nat×List Rw=>[aI w S,md m,aD mb (fN m) 26,aD wb r.cells 32,ed r.el,fd f,fd ⟨p.so,p.sc,p.bM⟩,arr (some ⟨qb,0,none⟩) m.bx.length m.bx.length 39 cW z.2,aR (z.2.map (gI 2)),arr ao (es ++[p]).length cap 41 pZ (es ++[p]),bE ((es ++[p]).map lV)]) (0,rows)) (aK) ?_;apply aB.loop (σ:=Nat×List Rw) (fun z=>z.1≤m.bx.length∧z.2.map (·.l)=Vm.oA m.aC f.ws 5000 k z.1) (fun z=>[(3,ptr mb),(5,ptr wb),(7, .int .i64 ((Vm.tasks m.aC).length:Int)),(8,f.val),(9, .slice ao (es ++[p]).length cap),(10, .int .i64 (ρ:Int)),(11, .slice (some ⟨qb,0,none⟩) m.bx.length m.bx.length),(12, .int .i64 (k:Int)),(81, .slice p.so p.bM.length p.sc),(82, .int .i64 (p.bM.length:Int)),(83, .int .i64 (z.1:Int))]) (fun z:Nat×List Rw=>[aI w S,md m,aD mb (fN m) 26,aD wb r.cells 32,ed r.el,fd f,fd ⟨p.so,p.sc,p.bM⟩,arr (some ⟨qb,0,none⟩) m.bx.length m.bx.length 39 cW z.2,aR (z.2.map (gI 2)),arr ao (es ++[p]).length cap 41 pZ (es ++[p]),bE ((es ++[p]).map lV)]) (fun z=>m.bx.length-z.1) (0,rows)
  rotate_left
  exact sb;exact aK;intro z hz2 K3 hK3;(refine Jn ?_)
  rotate_left
  ·exact⟨bP _,by rw[Vm.aFV];exact q2⟩
  obtain⟨i,us⟩:=z;obtain⟨i1,i2⟩:=hz2;dsimp only at i1 i2⊢
  by_cases hi:i<m.bx.length
  rotate_left
  ·obtain rfl:i=m.bx.length:=by omega
   clear hK3
   repeat(refine Jy ?_)
   refine End.bK hK2 (⟨k+1,us,ao,cap,es ++[p]⟩:A4) ?_ ?_
   ·refine⟨hk,i2.trans Vm.aFS,by simp[q3],fun j hj=>?_⟩
    by_cases hjk:j<k
    ·have:=q4 j hjk;rwa [show(es ++[p]).getD j default=es.getD j default by simp only[Jd];rw[rF (by omega)]]
    ·obtain rfl:j=k:=by dsimp only at hj;omega
     rw[show(es ++[p]).getD j default=p by simp[Jd,←q3]];exact⟨hp,h1⟩
   ·dsimp only;omega
  have hul:us.length=m.bx.length:=by have:=congrArg List.length i2;rwa [Jf,Vm.aFT]at this
  obtain⟨s1,u1,hsp,hlen⟩:=MV (l:=us) (k:=i) (by omega);obtain⟨ri,hr⟩:∃x,x=us.getD i default:=⟨_,rfl⟩;rw[←hr]at hsp;subst hsp;subst hlen;have hgr:(s1 ++ri::u1).getD s1.length default=ri:=BJ _ _ _;have hb1:ri.l.length≤600000:=by
   have e:ri.l=(Vm.lX m.aC f.ws 5000 k).getD s1.length []:=by rw[←Vm.VG hi,←i2,oT,hgr]
   have:=Vm.VH (M:=m.aC) (F:=f.ws) (n:=5000) hi k (by omega);rw[e];exact dO this (by omega)
  have hb2:(p.bM.getD s1.length default).l.length≤20000:=by
   have:=Vm.VW (M:=m.aC) (F:=f.ws) ((Vm.tasks m.aC).getD k 0) 5000 s1.length;rwa [←hp.bM,oT]at this
  apply aB.imp (fun w hm=>Mem.U3 hm (tk));apply aB.imp (fun w hm=>Mem.yE (f:=⟨p.so,p.sc,p.bM⟩) (tk) hm);apply aB.imp (fun w hm=>Mem.BG (f:=⟨p.so,p.sc,p.bM⟩) (k:=s1.length) (by dsimp only;omega) (tk) hm);dsimp only
  repeat(refine Jy ?_)
  rw[hgr];apply aE.op (by exact rfl);refine aA.wH (k:=?_);intro ao2 cap2;(refine Jn ?_)
  repeat(refine Jy ?_)
  have hv:∀l:List Int,cW ⟨ao2,cap2,l⟩=[.slice ao2 l.length cap2]:=fun l=>by simp[cW]
  apply aE.op (by exact rfl);refine aA.iG (f:=cW) (l:=s1 ++ri::u1) (i:=s1.length) (off:=0) (vs:=[.slice ao2 (ri.l.length+(p.bM.getD s1.length default).l.length) cap2]) (a':=(⟨ao2,cap2,ri.l ++(p.bM.getD s1.length default).l⟩:Rw)) (hp:=by rw[hgr,hv,Jl];exact Put.take .done) (k:=?_);rw[CM]
  repeat(refine Jy ?_)
  rw[←Jl];apply End.imp (fun w hm=>Mem.U2 (r:=⟨ao2,cap2,ri.l ++(p.bM.getD s1.length default).l⟩) hm (tk) (aK));refine End.bK hK3 (s1.length+1,s1 ++⟨ao2,cap2,ri.l ++(p.bM.getD s1.length default).l⟩::u1) ?_ ?_
  ·refine⟨hi,?_⟩;show(s1 ++⟨ao2,cap2,ri.l ++(p.bM.getD s1.length default).l⟩::u1).map (·.l)=Vm.oA m.aC f.ws 5000 k (s1.length+1);rw[Vm.aFU hk hi,←i2,oT,hgr,←hp.bM,oT];simp[List.set_append]
  ·dsimp only;omega
 ·obtain rfl:k=(Vm.tasks m.aC).length:=by omega
  clear hK2;have hrl:rows.length=m.bx.length:=by have:=congrArg List.length q2;rwa [Jf,Vm.MQ]at this
  rw[Vm.aFW]at q2;obtain⟨f2,hf2⟩:∃x:FL,x=⟨some ⟨qb,0,none⟩,m.bx.length,rows⟩:=⟨_,rfl⟩;have h2l:f2.l.length=m.bx.length:=by rw[hf2];exact hrl
  have h2v:Value.slice (some ⟨qb,0,none⟩) m.bx.length m.bx.length=f2.val:=by rw[hf2];show Value.slice _ _ _=Value.slice _ rows.length _;rw[hrl]
  have h2w:f2.ws=Vm.mF m.aC f.ws 5000:=by rw[hf2];exact q2
  refine aB.imp (fun w hm=>DX (f:=f2) (t:=2) (e:=39) (by rw[hf2];dsimp only;rw[hrl];exact aK) hm) ?_;rw[h2v];clear hf2 h2v q2 hrl
  repeat(refine Jy ?_)
  (refine Jc ?_;refine aA.aZ (spec:=aFO f2 f) (r:=(fun w=>Reads.any (tk) m6 (Reads.any (tk) m6 .nil))) (k:=?_);intro s hs;(refine Jn ?_));obtain⟨v,rfl⟩:∃x,x=s:=⟨_,rfl⟩;rw[h2w]at hs
  by_cases hq:Vm.mF m.aC f.ws 5000=f.ws
  rotate_left
  ·obtain rfl:v=false:=hs.trans (decide_eq_false hq)
   by_cases h60:ρ=60
   ·clear hK;subst h60
    repeat(refine Jy ?_)
    (refine End.aH (()) (he:=Jv) (hp:=?_));trivial
   ·repeat(refine Jy ?_)
    rw[show f2.val=Value.slice f2.o m.bx.length f2.c by rw[←h2l]];refine End.bK hK (ρ+1,f2) ?_ ?_
    ·exact⟨by omega,by rw[h2w];exact hfx.next hC hR hS hrs 5000⟩
    ·dsimp only;omega
  ·obtain rfl:v=true:=hs.trans (decide_eq_true hq);clear hK hs;obtain⟨hel,hfr⟩:=aBP hC hR hS hrs hfx hq hIs q4
   repeat(refine Jy ?_)
   apply aB.fact (r.ends.length≤9223372036854775807) (fun w hm=>(DV.1 (hm.has (c:=ed r.el) (tk))).out.2.1);intro hfs;apply aB.imp (fun w hm=>(show Mem w (rd r.eo r.ends.length r.ec jE r.ends::_)from Mem.IE (f:=r.el) (tk) hm));refine aB.only ((fun z=>[aI w S,aD wb r.cells 32,ed r.el,rd r.eo r.ends.length r.ec jE r.ends,arr eo es.length ec 41 pZ es,bE (es.map lV)]) (0,true)) (aK) ?_;apply aB.loop (σ:=Nat×Bool) (fun z=>z.1≤r.ends.length∧(z.2=true↔∀j,j<z.1→(r.ends.getD j default).st≠2)) (fun z=>[(5,ptr wb),(7, .int .i64 ((Vm.tasks m.aC).length:Int)),(9, .slice eo es.length ec),(17, .bool z.2),(105, .slice r.eo r.ends.length r.ec),(106, .int .i64 (r.ends.length:Int)),(107, .int .i64 (z.1:Int))]) (fun z=>[aI w S,aD wb r.cells 32,ed r.el,rd r.eo r.ends.length r.ec jE r.ends,arr eo es.length ec 41 pZ es,bE (es.map lV)]) (fun z=>r.ends.length-z.1) (0,true)
   rotate_left
   exact sb;exact aK;intro z hz3 K4 hK4;(refine Jn ?_)
   rotate_left
   ·exact⟨bP _,by simp⟩
   obtain⟨i,g⟩:=z;obtain⟨z1,z2⟩:=hz3;dsimp only at z1 z2⊢
   by_cases hi:i<r.ends.length
   ·cases g with
    |false=>
     repeat(refine Jy ?_;try intro b)
     refine End.bK hK4 (i+1,false) ?_ ?_
     ·exact⟨hi,(fun h=>by cases h),fun h=>z2.2 fun j hj=>h j (by dsimp only;omega)⟩
     ·dsimp only;omega
    |true=>
     repeat(refine Jy ?_;try intro b)
     refine End.bK hK4 (i+1,!decide ((r.ends.getD i default).st=2)) ?_ ?_
     ·refine⟨hi,(fun h j hj=>?_),(fun h=>?_)⟩
      ·dsimp only at h hj
       by_cases hji:j=i
       ·subst hji;simpa using h
       ·exact z2.1 rfl j (by omega)
      ·have:=h i (by dsimp only;omega);simpa using this
     ·dsimp only;omega
   ·obtain rfl:i=r.ends.length:=by omega
    clear hK4
    repeat(refine Jy ?_)
    apply aB.imp (fun w hm=>(show Mem w (rd r.eo r.ends.length r.ec jE r.ends::_)from Mem.IE (f:=r.el) (tk) hm));refine aB.only ((fun k=>[aI w S,ed r.el,rd r.eo r.ends.length r.ec jE r.ends,arr eo es.length ec 41 pZ es,bE (es.map lV)]) 0) (aK) ?_;apply aB.loop (σ:=Nat) (fun k=>k≤r.ends.length) (fun k=>[(9, .slice eo es.length ec),(17, .bool g),(124, .slice r.eo r.ends.length r.ec),(125, .int .i64 (r.ends.length:Int)),(126, .int .i64 (k:Int))]) (fun k=>[aI w S,ed r.el,rd r.eo r.ends.length r.ec jE r.ends,arr eo es.length ec 41 pZ es,bE (es.map lV)]) (fun k=>r.ends.length-k) 0
    rotate_left
    exact sb;exact aK;intro k hk K5 hK5;(refine Jn ?_)
    rotate_left
    ·exact bP _
    by_cases hkn:k<r.ends.length
    ·have hke:k<es.length:=by omega
     apply aB.imp (fun w hm=>Mem.P6 (f:=r.el) (k:=k) hkn (tk) hm);apply aB.imp (fun w hm=>Mem.aDf (es:=es) (k:=k) hke (tk) hm)
     repeat(refine Jy ?_;try intro b)
     obtain⟨tb,rfl⟩:∃x,x=b:=⟨_,rfl⟩;apply aB.draw 44 ([aD tb [.int .i64 (r.ends.getD k default).st, .int .i64 (r.ends.getD k default).bx, .int .i64 (r.ends.getD k default).tr, .slice (r.ends.getD k default).oo (r.ends.getD k default).out.length (r.ends.getD k default).oc] 46,arr eo es.length ec 41 pZ es]) (by kernel_rfl) 44 rfl;refine JN 0 ?_;refine JN 1 ?_;refine JN 2 ?_;refine JN 3 ?_;refine JN 4 ?_;refine JN 5 ?_;refine JN 6 ?_;(refine JT 7 ?_;refine aA.aZ (spec:=ZA ⟨(r.ends.getD k default).oo,(r.ends.getD k default).oc,(r.ends.getD k default).out⟩ ⟨(es.getD k default).oo,(es.getD k default).oc,(es.getD k default).out⟩ (hfr.out k hkn)) (r:=fun w=>eZ) (k:=?_);intro u hu;refine JG ?_;refine Jn ?_);refine JN 8 ?_;refine JN 9 ?_;refine RunT.eN 10 (h:=?_);refine RunT.eN 11 (h:=?_)
     cases g with
     |false=>
      refine RunT.lK 12 (h:=?_);refine RunT.lK 13 (h:=?_);refine RunT.lK 14 (h:=?_);refine RunT.lK 15 (h:=?_);refine RunT.lK 16 (h:=?_);refine RunT.lK 17 (h:=?_);refine RunT.lK 18 (h:=?_);refine RunT.lK 19 (h:=?_);refine RunT.lK 20 (h:=?_);refine RunT.lK 21 (h:=?_);refine RunT.lK 22 (h:=?_);refine RunT.mH 23 (h:=?_);refine RunT.mH 24 (h:=?_);refine RunT.mH 25 (h:=?_);refine RunT.mH 26 (h:=?_);refine RunT.mH 27 (h:=?_);refine RunT.mH 28 (h:=?_);refine RunT.mH 29 (h:=?_);refine RunT.mH 30 (h:=?_);refine RunT.lK 31 (h:=?_);refine RunT.lK 32 (h:=?_);refine RunT.mH 33 (h:=?_);refine RunT.mH 34 (h:=?_);refine RunT.mH 35 (h:=?_);refine RunT.mH 36 (h:=?_);refine RunT.mH 37 (h:=?_);refine RunT.mH 38 (h:=?_);refine RunT.mH 39 (h:=?_);refine RunT.mH 40 (h:=?_);refine RunT.lK 41 (h:=?_);refine RunT.eN 42 (h:=?_);refine JN 43 ?_;(apply RunT.done;kernel_rfl)
      repeat(refine Jy ?_)
      refine End.bK hK5 (k+1) ?_ ?_
      ·omega
      ·omega
     |true=>
      obtain⟨e1,e2,e3⟩:=hfr.room (z2.1 rfl) k hkn;refine RunT.eN 12 (h:=?_);refine RunT.eN 13 (h:=?_);refine RunT.eN 14 (h:=?_);refine RunT.eN 15 (h:=?_);refine RunT.eN 16 (h:=?_);refine RunT.eN 17 (h:=?_);refine RunT.eN 18 (h:=?_);refine RunT.eN 19 (h:=?_);refine RunT.eN 20 (h:=?_);refine RunT.eN 21 (h:=?_);refine RunT.eN 22 (h:=?_);refine RunT.part (d:=153) _ (by exact rfl) (fun h=>?_) (fun h=>?_)
      ·rw[e1]at h;simp at h
      clear h;refine RunT.eN 23 (h:=?_);refine RunT.eN 24 (h:=?_);refine RunT.eN 25 (h:=?_);refine RunT.eN 26 (h:=?_);refine RunT.eN 27 (h:=?_);refine RunT.eN 28 (h:=?_);refine RunT.eN 29 (h:=?_);refine RunT.eN 30 (h:=?_);refine RunT.eN 31 (h:=?_);refine RunT.eN 32 (h:=?_);refine RunT.part (d:=163) _ (by exact rfl) (fun h=>?_) (fun h=>?_)
      ·rw[e2]at h;simp at h
      clear h;refine RunT.eN 33 (h:=?_);refine RunT.eN 34 (h:=?_);refine RunT.eN 35 (h:=?_);refine RunT.eN 36 (h:=?_);refine RunT.eN 37 (h:=?_);refine RunT.eN 38 (h:=?_);refine RunT.eN 39 (h:=?_);refine RunT.eN 40 (h:=?_);refine RunT.eN 41 (h:=?_);refine RunT.eN 42 (h:=?_);refine JN 43 ?_;refine RunT.part (d:=174) _ (by exact rfl) (fun h=>?_) (fun h=>?_)
      ·rw[e3]at h;simp at h
      clear h;(apply RunT.done;kernel_rfl)
      repeat(refine Jy ?_)
      refine End.bK hK5 (k+1) ?_ ?_
      ·omega
      ·omega
    ·repeat(refine Jy ?_)
     (refine End.aH (()) (he:=Jv) (hp:=?_));trivial
end Vw
end Go.Proofs.YtofckcabpchcmaaGreatDoor
