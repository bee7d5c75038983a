/- Settle, walked. -/
import Derived.Test.YtofckcabpchcmaaGreatDoorM43
set_option linter.unusedVariables false
set_option linter.unusedSimpArgs false
set_option linter.unusedSectionVars false
set_option maxRecDepth 100000
namespace Go.Proofs.YtofckcabpchcmaaGreatDoor
namespace Vm
open ImgM
theorem T6:∀{l:List Nat} {last:Int} {j:Nat},j<l.length→last<((l.getD j default:Nat):Int)→(∀i,i<j→¬last<((l.getD i default:Nat):Int))→qS l last=l.getD j default
 |[],_,_,hj,_,_=>absurd hj aW
 |a::l,last,0,_,h,_=>by
  unfold qS;rw[List.find?_cons_of_pos (by simpa using h)];rfl
 |a::l,last,j+1,hj,h,hb=>by
  have h1:=T6 (l:=l) (last:=last) (j:=j) (by simpa using hj) (by simpa using h) (fun i hi=>by simpa using hb (i+1) aA);have h0:=hb 0 aA;have hf:∃x,l.find? (fun k:Nat=>decide (last<(k:Int)))=some x:=by
   rw[←lK,List.find?_isSome];refine⟨l.getD j default,?_,by simpa using h⟩;rw[Jd,Je (by simpa using hj)];exact hZ _
  obtain⟨x,hx⟩:=hf;unfold qS at h1⊢;rw[List.find?_cons_of_neg (by simpa using h0),hx];rw[hx]at h1;simpa using h1
theorem aDl{l:List Nat}{last:Int}(hb:∀i,i<l.length→¬last<((l.getD i default:Nat):Int)):qS l last=l.getD 0 default:=by
 unfold qS;rw[List.find?_eq_none.2 (fun x hx=>?_)]
 ·cases l<;>rfl
 ·obtain⟨i,hi,rfl⟩:=pC hx;have:=hb i hi;rw[Jd,Je hi]at this;simpa using this
theorem aI4{α β:Type}{a:List α}{b:List β}(h:a.length=b.length)(x:α)(y:β):(a ++[x]).zip (b ++[y])=a.zip b ++[(x,y)]:=by
 rw[List.zip_append h];rfl
theorem aCd{l:List (Int×Int)}{d:List (Int×Nat)}(h:l.length=d.length)(p:Int×Int)(x:Int×Nat):CN (l ++[p]) (d ++[x])=if x.1=0 then p.1 else CN l d:=by
 unfold CN;rw[aI4 h,qD,List.foldl_append]
 by_cases hx:x.1=0
 ·rw[if_pos hx];simp[hx]
 ·rw[if_neg hx];simp[hx]
theorem aGO(M:aL)(q:Int)(n:Nat)(last:Int)(c:Ma):settle M q (n+1) last c=if(c.looked M).ready=[]then some (c.looked M)else if(pick M false (c.looked M) ((qS (c.looked M).ready last:Int),q)).1.1≠0 then none else settle M q n (qS (c.looked M).ready last) (pick M false (c.looked M) ((qS (c.looked M).ready last:Int),q)).2:=rfl
theorem aE1{ν:Type}{V:Env ν}{M:aL}{n:Nat}{q:Int}{r:Tk×ν}(h:(nJ V M n q r).1.1=0):1≤(nJ V M n q r).1.2:=by
 unfold nJ at h⊢
 by_cases h1:q<1∨10000<q
 ·rw[if_pos h1]at h;cases h
 ·rw[if_neg h1]at h⊢
  by_cases h2:(look V M r).1.st≠1
  ·rw[if_pos h2]at h;cases h
  ·rw[if_neg h2]at h⊢
   by_cases h3:(goN V M (min q.toNat (20000-n)) (look V M r)).1=0
   ·rw[if_pos h3]at h;cases h
   ·rw[if_neg h3];dsimp only;omega
theorem aE7{M:aL}{told:Bool}{c:Ma}{p:Int×Int}(h:(pick M told c p).1.1=0):c.n+1≤(pick M told c p).2.n:=by
 unfold pick at h⊢
 by_cases h1:p.1<0∨(c.ts.length:Int)≤p.1
 ·rw[if_pos h1]at h;cases h
 ·rw[if_neg h1]at h⊢;have:=aE1 h;dsimp only;omega
def settled(M:aL)(ps:List (Int×Int))(q:Int):Option Ma:=settle M q 20001 (CN ps (iI M false ps (Ma.init M)).1) (iI M false ps (Ma.init M)).2
def oB(M:aL)(ps:List (Int×Int))(q:Int):Int:=if kX M ps.length≠0 then kX M ps.length else if q<1∨10000<q then 3 else if settled M ps q=none then 10 else 0
end Vm
namespace Vw
open Go.RowKit Img
section
attribute [local irreducible] aE aG End aB Still aN aU RunT Fn aS
def HV(m:ML)(ps:List (Int×Int))(q:Int)(r:jD):Prop:=if Vm.oB m.aC ps q=0 then∃c,Vm.settled m.aC ps q=some c∧r.Is (c.looked m.aC)else r=mB.zero.w
def tX(m:ML)(ps:List (Int×Int))(k:Nat):Int:=Vm.CN (ps.take k) (fQ m ps k).1
theorem aCc(m:ML)(ps:List (Int×Int)):tX m ps 0= -1:=rfl
theorem aCb(m:ML)(ps:List (Int×Int)){k:Nat}(hk:k<ps.length):tX m ps (k+1)=if(Vm.pick m.aC false (fQ m ps k).2 (ps.getD k default)).1.1=0 then(ps.getD k default).1 else tX m ps k:=by
 unfold tX;rw[IL m ps hk,Jp hk,Vm.aCd (by unfold fQ;rw[Vm.MP]),Jd,Je hk];rfl
attribute [local irreducible] Ver.verify Vm.kX Vm.iI Vm.settle Vm.oB Vm.settled tX
theorem aGI{M:ImgM.aL}{ps:List (Int×Int)}{q W:Int}(h:W=Vm.kX M ps.length)(h0:¬W=0):Vm.oB M ps q=W:=by unfold Vm.oB;rw[←h,if_pos h0]
theorem W2{M:ImgM.aL}{ps:List (Int×Int)}{q:Int}(h:0=Vm.kX M ps.length)(h0:q<1∨10000<q):Vm.oB M ps q=3:=by unfold Vm.oB;rw[←h,if_neg (fun h=>h rfl),if_pos h0]
theorem aGJ{M:ImgM.aL}{ps:List (Int×Int)}{q:Int}(h:0=Vm.kX M ps.length)(h0:¬(q<1∨10000<q)):Vm.oB M ps q=if Vm.settled M ps q=none then 10 else 0:=by unfold Vm.oB;rw[←h,if_neg (fun h=>h rfl),if_neg h0]
theorem aGP(m:ML)(ps:List (Int×Int))(q:Int):Vm.settled m.aC ps q=Vm.settle m.aC q 20001 (tX m ps ps.length) (fQ m ps ps.length).2:=by
 unfold Vm.settled tX;rw[QT,pF]
set_option maxHeartbeats 2000000 in
theorem aGN(m:ML)(hwf:m.Wf)(ps:sG)(Q:Int):Fn Tryz.prog 8 #[m.val,ps.val, .int .i64 Q] [md m,vR ps] [] (σ:=jD) (HV m ps.l Q) (fun r=> .tuple #[.agg r.cells.toArray, .int .i64 (Vm.oB m.aC ps.l Q)]) jD.mem:=by
 refine Fn.enter (args:=[m.val,ps.val, .int .i64 Q]) Tryz.func8 rfl _ Tryz.ntmps8 rfl (by simp[mH,eO]) (fun w S=>?_);refine Jn ?_;obtain⟨W,hW⟩:∃W,W=Vm.kX m.aC ps.l.length:=⟨_,rfl⟩;obtain⟨X,hX⟩:∃X,X=Vm.oB m.aC ps.l Q:=⟨_,rfl⟩;unfold HV;rw[←hX]
 repeat(refine Jy ?_;try intro b)
 obtain⟨rb,rfl⟩:=a7 b;(refine dV (ZR m hwf ps.l.length) fun s hs=>?_);rw[←hW]
 by_cases h0:¬W=0
 ·have hX':X=W:=by rw[hX];exact aGI hW h0
  subst hX';refine aD ?_;apply End.imp (fun w hm=>(((hm.gH).gH).cU 46 mD).cU 39 nM);refine CG mB.zero.w ?_;rw[if_neg h0]
 have h0:=Classical.not_not.1 h0;subst h0
 by_cases hq1:Q<1
 ·have hX':X=3:=by rw[hX];exact W2 hW (.inl hq1)
  subst hX';refine aD ?_;apply End.imp (fun w hm=>(((hm.gH).gH).cU 46 mD).cU 39 nM);refine CG mB.zero.w ?_;rw[if_neg aK]
 by_cases hq2:10000<Q
 ·have hX':X=3:=by rw[hX];exact W2 hW (.inr hq2)
  subst hX';refine aD ?_;apply End.imp (fun w hm=>(((hm.gH).gH).cU 46 mD).cU 39 nM);refine CG mB.zero.w ?_;rw[if_neg aK]
 have hX':=hX.trans (aGJ hW aA);clear hX;obtain⟨hv,hp4⟩:=ZT hW.symm;have hF:=formed (Ver.wO.1 hv).form;have hu30:=hF.aJ;have hb30:=hF.boxes;obtain⟨T,hC⟩:=QS hwf hv;refine aD ?_;obtain⟨mb,rfl⟩:=a7 b;(refine dV (P6 mb m hb30 hu30 (QP hv) (fun k hk=>(xW (hF.head k hk)).1)) fun s hs=>?_);obtain⟨e1,e2⟩:=P3 hC hs mb;have hn:=P4 hs hu30;have hk0:=QU m ps.l;obtain⟨n0,hn0'⟩:∃n,n=(fQ m ps.l 0).2.n:=⟨_,rfl⟩;have hn0:n0=0:=by rw[hn0',hk0];rfl
 apply aE.imp' (fun w hm=>P5 s hn0 (cA) hm);refine Jn ?_;obtain⟨x,hx⟩:∃x,x=s.pl mb:=⟨_,rfl⟩;obtain⟨ts0,ht0⟩:∃x,x=s.ts:=⟨_,rfl⟩;obtain⟨e0,he0⟩:∃x,x=s.be:=⟨_,rfl⟩;have hxb:s.xb=x.xb:=by rw[hx];rfl
 rw[←hx]at e1;rw[←ht0,←he0]at e1 e2;rw[←ht0]at hn;rw[hxb,←hx,←ht0,←he0];clear hx ht0 he0 hxb hs s;subst hn0';refine aD ?_;rw[←aCc m ps.l];refine cK (σ:=Nat×List cC×eF) (fun z=>z.1≤ps.l.length∧z.2.1.length≤30∧lA m T x z.2.1 z.2.2 (fQ m ps.l z.1).2.n∧dC z.2.1 z.2.2 (fQ m ps.l z.1).2.n=(fQ m ps.l z.1).2) (fun z=>[(2, .int .i64 Q),(6,ptr rb),(9,ptr x.xb),(10, .int .i64 (tX m ps.l z.1)),(33, .slice ps.o ps.l.length ps.c),(34, .int .i64 ps.l.length),(35, .int .i64 z.1)]) (fun z=>[aO w S,md m,kB x.p,vR ps,aF rb [.slice none 0 0, .slice none 0 0, .int .i64 0] 32] ++nH m x z.2.1 z.2.2 (fQ m ps.l z.1).2.n) (fun z=>ps.l.length-z.1) (0,ts0,e0) ?_ fun z hz K1 hK1=>?_
 ·exact⟨bQ _,hn,by rw[hn0];exact e1,by rw[hn0,e2,hk0]⟩
 refine Jn ?_;obtain⟨q,us,e⟩:=z;obtain⟨hq0,hun,hI,hA⟩:=hz;dsimp only at hq0 hun hI hA hK1⊢
 by_cases hq:q<ps.l.length
 ·obtain⟨tq,q1,htq⟩:∃tq q1,ps.l.getD q default=(tq,q1):=⟨_,_,rfl⟩;have hsn:=IL m ps.l hq;have hln:=aCb m ps.l hq
  repeat(refine Jy ?_;try intro b)
  rw[htq];rw[htq]at hsn hln;obtain⟨C1,hC1⟩:∃C,C=fQ m ps.l (q+1):=⟨_,rfl⟩;rw[←hC1]at hsn;generalize fQ m ps.l q=C at *;rw[←hA]at hsn hln;have hsp:=MO m hC x us e C.2.n hI hun tq q1;generalize Vm.pick m.aC false (dC us e C.2.n) (tq,q1)=R at *;(refine Jc ?_;refine aB.bA (spec:=hsp) (r:=(fun w=>Reads.md (tk) (Reads.any (tk) (sK x.p) .nil))) (k:=?_);intro s hs;refine Jn ?_);obtain⟨us',e'⟩:=s;obtain⟨g1,g2,g3⟩:=hs;dsimp only at g1 g2 g3 hln⊢;have a2:R.2.n=(fQ m ps.l (q+1)).2.n:=by rw[←hC1,hsn]
  rw[a2]at g1 g3⊢;refine aD ?_;(apply aE.op;exact rfl;refine aB.bP (h:=by exact Still.RV rfl rfl rfl rfl rfl) (k:=?_))
  by_cases hr0:R.1.1=0
  ·rw[if_pos hr0]at hln;refine aD ?_;rw[←hln];refine End.bK hK1 (q+1,us',e') ?_ ?_
   ·exact⟨by dsimp only;omega,by dsimp only;omega,g1,by dsimp only;rw[g3,←hC1,hsn]⟩
   ·dsimp only;omega
  ·rw[if_neg hr0]at hln;refine aD ?_;rw[←hln];refine End.bK hK1 (q+1,us',e') ?_ ?_
   ·exact⟨by dsimp only;omega,by dsimp only;omega,g1,by dsimp only;rw[g3,←hC1,hsn]⟩
   ·dsimp only;omega
 ·obtain rfl:q=ps.l.length:=aA;clear hK1;have hse:=aGP m ps.l Q;refine aD ?_;generalize tX m ps.l ps.l.length=la0 at *;generalize(fQ m ps.l ps.l.length).2=C at *;(refine Jc ?_;refine aB.bA (spec:=V7 m hC x us e C.n hI hun) (r:=(fun w=>Reads.md (tk) (Reads.any (tk) (sK x.p) .nil))) (k:=?_);intro s hs;refine Jn ?_);obtain⟨us0,lo,lc⟩:=s;obtain⟨g1,g2⟩:=hs;dsimp only at g1 g2⊢;rw[hA]at g2;rw[hA,←g2];refine aD ?_;refine cK (σ:=Nat×Int×List cC×eF×Nat×Option Addr×Nat) (fun z=>z.2.2.1.length≤30∧lA m T x z.2.2.1 z.2.2.2.1 z.2.2.2.2.1∧20001≤z.1+z.2.2.2.2.1∧∃c,dC z.2.2.1 z.2.2.2.1 z.2.2.2.2.1=c.looked m.aC∧Vm.settled m.aC ps.l Q=Vm.settle m.aC Q z.1 z.2.1 c) (fun z=>[(2, .int .i64 Q),(6,ptr rb),(9,ptr x.xb),(10, .int .i64 z.2.1),(13, .slice z.2.2.2.2.2.1 (dC z.2.2.1 z.2.2.2.1 z.2.2.2.2.1).ready.length z.2.2.2.2.2.2)]) (fun z=>[aO w S,md m,kB x.p,aF rb [.slice none 0 0, .slice none 0 0, .int .i64 0] 32,arr z.2.2.2.2.2.1 (dC z.2.2.1 z.2.2.2.1 z.2.2.2.2.1).ready.length z.2.2.2.2.2.2 3 rP (dC z.2.2.1 z.2.2.2.1 z.2.2.2.2.1).ready] ++nH m x z.2.2.1 z.2.2.2.1 z.2.2.2.2.1) (fun z=>z.1) (20001,la0,us0,e,C.n,lo,lc) ?_ fun z hz K1 hK1=>?_
  ·refine⟨?_,g1,by dsimp only;omega,C,g2,hse⟩;have h1:=congrArg List.length g1.cW;have h2:=congrArg List.length hI.cW;simp only[Jf]at h1 h2;dsimp only;omega
  refine Jn ?_;obtain⟨fu,la,ts,e1,n,ao,ac⟩:=z;obtain⟨hun1,hI1,hfu,c,hA1,hst⟩:=hz;dsimp only at hun1 hI1 hfu hA1 hst hK1⊢;have hn20:n≤20000:=hI1.ok.n;obtain⟨f,rfl⟩:∃f,fu=f+1:=⟨fu-1,aA⟩;rw[Vm.aGO,←hA1]at hst;obtain⟨l,hl⟩:∃l,l=(dC ts e1 n).ready:=⟨_,rfl⟩;rw[←hl]at hst⊢;have hl30:l.length≤30:=by
   have h1:=nS (fun k=>decide (((dC ts e1 n).ts.getD k default).st=1)) (List.range (dC ts e1 n).ts.length);have h2:l.length≤(ts.map cC.tk).length:=by rw[hl];rw[List.length_range]at h1;exact h1
   rw[Jf]at h2;omega
  by_cases h9:l=[]
  ·rw[if_pos h9]at hst;have hl0:l.length=0:=by rw[h9];rfl
   have hX0:X=0:=by rw[hX',hst];rfl
   subst hX0;clear hK1;refine aD ?_;(refine Jc ?_;refine aB.bA (spec:=ZI m hC x ts e1 n hI1 hun1 hb30) (r:=(fun w=>Reads.md (tk) (Reads.any (tk) (sK x.p) .nil))) (k:=?_);intro s hs;refine Jn ?_);obtain⟨us',r⟩:=s;obtain⟨k1,k2,k3⟩:=hs;dsimp only at k1 k2 k3⊢;refine aD ?_;refine CG r ?_;rw[if_pos rfl];exact⟨_,hst,k3⟩
  ·rw[if_neg h9]at hst;have hl0:0<l.length:=JP.2 h9;refine aD ?_;refine EP (σ:=Unit) (fun _=>True) (fun _=>[(2, .int .i64 Q),(6,ptr rb),(9,ptr x.xb),(14, .int .i64 ((Vm.qS l la:Nat):Int))]) (fun z=>[aO w S,md m,kB x.p,aF rb [.slice none 0 0, .slice none 0 0, .int .i64 0] 32] ++nH m x ts e1 n) ?_ ?_
   ·rintro⟨⟩ -;clear hl h9 hl0;obtain⟨nx,hnx⟩:∃x,x=Vm.qS l la:=⟨_,rfl⟩;rw[←hnx]at hst⊢;have hsp:=MO m hC x ts e1 n hI1 hun1 (nx:Int) Q;have hdn:=Vm.aE7 (M:=m.aC) (told:=false) (c:=dC ts e1 n) (p:=((nx:Int),Q));generalize Vm.pick m.aC false (dC ts e1 n) ((nx:Int),Q)=R at *;refine aD ?_;(refine Jc ?_;refine aB.bA (spec:=hsp) (r:=(fun w=>Reads.md (tk) (Reads.any (tk) (sK x.p) .nil))) (k:=?_);intro s hs;refine Jn ?_);obtain⟨us',e'⟩:=s;obtain⟨k1,k2,k3⟩:=hs;dsimp only at k1 k2 k3 hdn⊢;refine aD ?_;(apply aE.op;exact rfl;refine aB.bP (h:=by exact Still.RV rfl rfl rfl rfl rfl) (k:=?_))
    by_cases hr0:¬R.1.1=0
    ·rw[if_pos hr0]at hst;have hX0:X=10:=by rw[hX',hst];rfl
     subst hX0;refine aD ?_;apply End.imp (fun w hm=>(((hm.gH).gH).cU 46 mD).cU 39 nM);refine CG mB.zero.w ?_;rw[if_neg aK]
    ·have hr0:=Classical.not_not.1 hr0;rw[if_neg (fun h=>h hr0)]at hst;have hd1:=hdn hr0;have hun':us'.length≤30:=aA;refine aD ?_;(refine Jc ?_;refine aB.bA (spec:=V7 m hC x us' e' R.2.n k1 hun') (r:=(fun w=>Reads.md (tk) (Reads.any (tk) (sK x.p) .nil))) (k:=?_);intro s hs;refine Jn ?_);obtain⟨us2,lo2,lc2⟩:=s;obtain⟨j1,j2⟩:=hs;dsimp only at j1 j2⊢;rw[k3]at j2;rw[k3,←j2];refine aD ?_;refine End.bK hK1 (f,(nx:Int),us2,e',R.2.n,lo2,lc2) ?_ ?_
     ·refine⟨?_,j1,by dsimp only;omega,R.2,j2,hst⟩;have h1:=congrArg List.length j1.cW;have h2:=congrArg List.length k1.cW;simp only[Jf]at h1 h2;dsimp only;omega
     ·dsimp only;omega
   ·intro K3 hK3;clear hK1;refine cK (σ:=Nat) (fun j=>j≤l.length∧∀i,i<j→¬la<((l.getD i default:Nat):Int)) (fun j=>[(2, .int .i64 Q),(6,ptr rb),(9,ptr x.xb),(10, .int .i64 la),(14, .int .i64 ((l.getD 0 default:Nat):Int)),(57, .slice ao l.length ac),(58, .int .i64 l.length),(59, .int .i64 j)]) (fun j=>[aO w S,md m,kB x.p,aF rb [.slice none 0 0, .slice none 0 0, .int .i64 0] 32,arr ao l.length ac 3 rP l] ++nH m x ts e1 n) (fun j=>l.length-j) 0 ?_ fun j hj K4 hK4=>?_
    ·exact⟨bQ _,fun i hi=>aA⟩
    refine Jn ?_;obtain⟨hj0,hj1⟩:=hj
    by_cases hj:j<l.length
    ·by_cases hgt:la<((l.getD j default:Nat):Int)
     ·have hnx:=Vm.T6 hj hgt hj1;refine aD ?_;rw[←hnx];refine End.some_ hK3 () ?_;trivial
     ·refine aD ?_;refine End.bK hK4 (j+1) ?_ ?_
      ·refine⟨aA,fun i hi=>?_⟩
       by_cases e:i=j
       ·subst e;exact hgt
       ·exact hj1 i aA
      ·omega
    ·obtain rfl:j=l.length:=aA;have hnx:=Vm.aDl hj1;refine aD ?_;rw[←hnx];refine End.some_ hK3 () ?_;trivial
end
section
structure oI where
 o:Option Addr
 c:Nat
 l:List rZ
abbrev oI.val(f:oI):Value:= .slice f.o f.l.length f.c
structure wU(w:World)(f:oI):Prop where
 out:Row w (.slice f.o f.l.length f.c) (sz mD) f.l.length (f.l.flatMap mD)
 row:∀r∈f.l,Row w (.slice r.oo r.out.length r.oc) (sz aY) r.out.length (r.out.flatMap aY)
def D4(f:oI)(k:Nat):Prop:=
 ((Value.slice f.o f.l.length f.c).ownBlock=some k∧0<f.l.length)∨∃r∈f.l,(Value.slice r.oo r.out.length r.oc).ownBlock=some k∧0<r.out.length
theorem wU.pN{w w':World}{f:oI}(h:wU w f){S:Nat→Prop}(k:cB S w w')(hs:∀b,D4 f b→¬S b):wU w' f:=
 ⟨h.out.tW bH.pos k (fun b h1 h2=>hs b (.inl ⟨h1,h2⟩)),fun r hr=>(h.row r hr).tW bH.pos k (fun b h1 h2=>hs b (.inr ⟨r,hr,h1,h2⟩))⟩
theorem wU.lt{w:World}{f:oI}(h:wU w f):∀b,D4 f b→b<w.heap.size:=by
 rintro b (⟨h1,h2⟩|⟨r,hr,h1,h2⟩)
 ·exact h.out.tZ bH.pos h2 b h1
 ·exact(h.row r hr).tZ bH.pos h2 b h1
@[irreducible] def ed (f : oI) : Chunk where
 holds w:=wU w f
 dA:=D4 f
 bE:=false
 lT k hs h:=h.pN k hs
 lt h:=h.lt
theorem EW{w:World}{f:oI}:(ed f).holds w↔wU w f:=by unfold ed;exact Iff.rfl
theorem I2{f:oI}{k:Nat}:(ed f).dA k↔D4 f k:=by unfold ed;exact Iff.rfl
theorem tN{f:oI}:(ed f).bE=false:=by unfold ed;rfl
theorem RJ{l:List rZ}{k:Nat}(hk:k<l.length):l.getD k default∈l:=by
 rw[Jd,Je hk];exact hZ hk
section
variable{f:oI}{L L':List Chunk}{w:World}
theorem Mem.I0(t:Take (ed f) L L')(h:Mem w L):Mem w (rd f.o f.l.length f.c mD f.l::L):=
 h.dup t eO (jJ.2 ⟨(EW.1 (h.has t)).out,rfl⟩) (fun b hb=>I2.2 (.inl (iZ.1 hb))) tN
theorem Mem.I1{k:Nat}(hk:k<f.l.length)(t:Take (ed f) L L')(h:Mem w L):Mem w (rd (f.l.getD k default).oo (f.l.getD k default).out.length (f.l.getD k default).oc aY (f.l.getD k default).out::L):=
 h.dup t eO (jJ.2 ⟨(EW.1 (h.has t)).row _ (RJ hk),rfl⟩) (fun b hb=>I2.2 (.inr ⟨_,RJ hk,iZ.1 hb⟩)) tN
end
theorem aBT{w:World}{L F:List Chunk}{f:oI}{e:TypeId}(tk:aR [arr f.o f.l.length f.c e mD f.l,bC (f.l.map sL)] L F)(h:Mem w L):Mem w (ed f::F):=by
 have ht:=h.aP tk;have a1:=fV.1 (ht.all _ (.head _));have a2:=qJ.1 (ht.all _ (.tail _ (.head _)));have hrow:∀r∈f.l,(sL r).holds w:=fun r hr=>a2.1.all _ (eY.2 ⟨r,hr,rfl⟩);refine Mem.DO tk h (EW.2 ⟨a1.1.row bH.pos,fun r hr=>(fV.1 (hrow r hr)).1.row bH.pos⟩) tN (fun b hb=>?_);rcases I2.1 hb with⟨h1,h2⟩|⟨r,hr,h1,h2⟩
 ·exact⟨_, .head _,gG.2 ⟨h1,y7 h2 a1.1.le⟩⟩
 ·exact⟨_, .tail _ (.head _),xK.2 ⟨_,eY.2 ⟨r,hr,rfl⟩,gG.2 ⟨h1,y7 h2 (fV.1 (hrow r hr)).1.le⟩⟩⟩
abbrev jD.el(r:jD):oI:=⟨r.eo,r.ec,r.ends⟩
abbrev jD.fl(r:jD):FL:=⟨r.wo,r.wc,r.rows⟩
theorem OM{w:World}{L F:List Chunk}(r:jD)(t:aR r.mem L F)(h:Mem w L):Mem w (ed r.el::fd r.fl::F):=by
 have h1:Mem w (r.mem ++F):=h.aP t;have h2:=aBT (f:=r.el) (e:=46) (L:=r.mem ++F) (by exact .cons .head (.cons .head .nil)) h1;have h3:=aBn (f:=r.fl) (t:=2) (e:=39) (by exact .cons (.tail .head) (.cons (.tail .head) .nil)) h2;exact h3.aP (by exact .cons (.tail .head) (.cons .head .nil))
attribute [local irreducible] aE aG End aB Still aN aU RunT Fn aS
set_option maxHeartbeats 2000000 in
theorem aFj(f g:oI)(h:f.l.map nF=g.l.map nF):Fn Tryz.prog 14 #[f.val,g.val] [ed f,ed g] [] (σ:=Unit) (fun _=>True) (fun _=> .bool true) (fun _=>[]):=by
 have hl:g.l.length=f.l.length:=by have:=congrArg List.length h;simpa using this.symm
 have hr:∀k,nF (g.l.getD k default)=nF (f.l.getD k default):=fun k=>by
  have h1:(f.l.map nF)[k]?=(g.l.map nF)[k]?:=by rw[h]
  simp only[JU]at h1;simp only[Jd]
  cases ha:f.l[k]?<;>cases hb:g.l[k]?<;>simp[ha,hb]at h1⊢
  exact h1.symm
 refine Fn.enter (args:=[f.val,g.val]) Tryz.func14 rfl _ Tryz.ntmps14 rfl (by simp[tN]) (fun w S=>?_);refine Jn ?_;apply aG.fact (f.l.length≤9223372036854775807) (fun w hm=>(EW.1 (hm.has (c:=ed f) (tk))).out.2.1);intro hfs;apply aG.imp (fun w hm=>Mem.I0 (f:=f) (tk) hm);apply aG.imp (fun w hm=>Mem.I0 (f:=g) (tk) hm)
 repeat(refine Jy ?_;try first|intro ao cap|intro b)
 refine cK (σ:=Nat) (fun k=>k≤f.l.length) (fun k=>[(0,f.val),(1,g.val),(12, .int .i64 f.l.length),(13, .int .i64 k)]) (fun k=>[aO w S,ed f,ed g,rd f.o f.l.length f.c mD f.l,rd g.o g.l.length g.c mD g.l]) (fun k=>f.l.length-k) 0 ?_ fun k hk K1 hK1=>?_
 ·exact bQ _
 refine Jn ?_
 by_cases hkn:k<f.l.length
 ·apply aG.imp (fun w hm=>Mem.I1 (f:=f) (k:=k) hkn (tk) hm);apply aG.imp (fun w hm=>Mem.I1 (f:=g) (k:=k) aA (tk) hm);have hrk:=hr k;simp only[nF,u7]at hrk;obtain⟨r1,r2,r3,r4⟩:=hrk
  repeat(refine Jy ?_;try first|intro ao cap|intro b)
  refine dV (M5 ⟨(f.l.getD k default).oo,(f.l.getD k default).oc,(f.l.getD k default).out⟩ ⟨(g.l.getD k default).oo,(g.l.getD k default).oc,(g.l.getD k default).out⟩ r4.symm) fun s hs=>?_
  repeat(refine Jy ?_;try first|intro ao cap|intro b)
  refine End.bK hK1 (k+1) ?_ ?_
  ·omega
  ·omega
 ·repeat(refine Jy ?_;try first|intro ao cap|intro b)
  exact fZ ()
end
theorem LS{w:World}{L F:List Chunk}(m:ML)(t:Take (bC (qQ m)) L F)(h:Mem w L):Mem w (md m::F):=by
 have hb:=qJ.1 (h.has t);have a1:=fV.1 (hb.1.all _ (.head _));have a2:=fV.1 (hb.1.all _ (.tail _ (.head _)));have l1:=a1.1.le;have l2:=a2.1.le;have hm:∀x∈m.us,∀c∈j8 x,c∈qQ m:=fun x hx c hc=> .tail _ (.tail _ (qF.2 ⟨x,hx,hc⟩));refine Mem.DO (.cons t .nil) h (nI.2 ⟨a1.1.row bH.pos,a2.1.row bH.pos,fun x hx=>(fV.1 (hb.1.all _ (hm x hx _ (.head _)))).1.row bH.pos,fun x hx=>(fV.1 (hb.1.all _ (hm x hx _ (.tail _ (.head _))))).1.row bH.pos⟩) mH (fun b hf=>⟨_, .head _,xK.2 ?_⟩);rw[x5]at hf;rcases hf with⟨h,h0⟩|⟨h,h0⟩|⟨x,hx,⟨h,h0⟩|⟨h,h0⟩⟩
 ·exact⟨_, .head _,gG.2 ⟨h,aA⟩⟩
 ·exact⟨_, .tail _ (.head _),gG.2 ⟨h,aA⟩⟩
 ·have:=(fV.1 (hb.1.all _ (hm x hx _ (.head _)))).1.le;exact⟨_,hm x hx _ (.head _),gG.2 ⟨h,aA⟩⟩
 ·have:=(fV.1 (hb.1.all _ (hm x hx _ (.tail _ (.head _))))).1.le;exact⟨_,hm x hx _ (.tail _ (.head _)),gG.2 ⟨h,aA⟩⟩
theorem LU{t:aH}{m:ML}(h:Fr.module t=some m.aC):m.Wf:=by
 obtain⟨h1,h2⟩:=Fr.TY h;refine⟨h1,fun x hx=>?_⟩;have:=h2 x.u (mR hx);exact⟨this.kind,this.params,this.locals,this.result,this.aP,this.code⟩
theorem Mem.aEy{w:World}{L:List Chunk}{α:Type} [Inhabited α](f:α→List Value) [bH f](h:Mem w L):Mem w (rd none 0 0 f []::L):=
 Mem.DO (pre:=[]) (F:=L) .nil h (jJ.2 ⟨⟨aW,aW,none,0,rfl,bS _,fun h=>by simp at h⟩,rfl⟩) eO (fun b hb=>by
  exact absurd (iZ.1 hb).2 (Nat.lt_irrefl 0))
def H2:aH:=[98,111,120,32,98,32,110,117,109,32,49,32,59,32,116,97,115,107,32,97,32,123,32,115,101,110,100,32,98,32,55,32,59,32,125,32,116,97,115,107,32,99,32,123,32,111,117,116,32,114,101,99,118,32,40,32,98,32,41,32,43,32,49,32,59,32,125]
def xH:ImgM.aL:=⟨[(1,1)],[⟨4,0,[],0,0,[⟨1,0,7⟩,⟨26,0,0⟩,⟨25,0,0⟩]⟩,⟨4,0,[],0,0,[⟨27,0,0⟩,⟨1,0,1⟩,⟨8,0,0⟩,⟨28,0,0⟩,⟨25,0,0⟩]⟩]⟩
theorem H3:Fr.module H2=some xH:=b7
theorem PJ:(Vm.settled xH [] 3).map (fun c=>(c.looked xH).ts.map G6)=some [(4,0,0,[]),(4,0,0,[8])]:=b7
theorem Z4:Vm.oB xH [] 3=0:=by
 have h:Ver.verify xH= .ok:=b7;have hs:=PJ;have hw:Vm.kX xH ([]:List (Int×Int)).length=0:=by unfold Vm.kX;rw[h];rfl
 unfold Vm.oB;rw[hw,if_neg (fun h=>h rfl),if_neg aA,if_neg];intro h;rw[h]at hs
 cases hs
theorem Mem.aEb{w:World}{L:List Chunk}(h:Mem w L):Mem w (vR ⟨none,0,[]⟩::L):=Mem.aEy vQ h
attribute [local irreducible] aE aG End aB Still aN aU RunT Fn aS
attribute [local irreducible] Fr.module Vm.oB Vm.settled
set_option maxHeartbeats 1000000 in
theorem Z5:Fn Tryz.prog 6 #[] [cF] [] (σ:=Unit) (fun _=>True) (fun _=> .bool true) (fun _=>[]):=by
 refine Fn.enter (args:=[]) Tryz.func6 rfl _ Tryz.ntmps6 rfl (by simp[FE]) (fun w S=>?_);refine aI ?_;refine bU (TX H2 aK) fun r hr=>?_;obtain⟨m,ok⟩:=r;have hok:ok=true∧m.aC=xH:=by
  rcases hr with⟨h1,h2⟩|⟨h1,h2⟩
  ·rw[H3]at h2;exact⟨h1,(sB h2).symm⟩
  ·rw[H3]at h2;cases h2
 have hwf:m.Wf:=LU (t:=H2) (H3.trans (by rw[hok.2]));obtain⟨rfl,hm⟩:=hok;clear hr
 repeat(refine Fm ?_;try intro b)
 obtain⟨mb,rfl⟩:=a7 b;apply aE.imp' (fun w hm=>Mem.aEb (LS m (by exact tk) hm));have he:Vm.oB m.aC [] 3=0:=by rw[hm];exact Z4
 have hsp:=aGN m hwf ⟨none,0,[]⟩ 3;rw[show Vm.oB m.aC (sG.l ⟨none,0,[]⟩) 3=0 from he]at hsp;(refine Jc ?_;refine aB.bA (spec:=hsp) (r:=(fun w=>Reads.md (tk) (Reads.rd (tk) .nil))) (k:=?_);intro s hs;refine Jn ?_);obtain⟨r,rfl⟩:=a7 s;unfold HV at hs;rw[if_pos he]at hs;obtain⟨c,hc,hI⟩:=hs;have h2:r.ends.map nF=[(4,0,0,[]),(4,0,0,[8])]:=by
  rw[hI.ends];have:=PJ;rw[←hm,show Vm.settled m.aC [] 3=some c from hc]at this;exact sB this
 have h4:r.ends.length=2:=by have:=congrArg List.length h2;simpa using this
 have h6:nF (r.ends.getD 1 default)=(4,0,0,[8]):=by
  have h:(r.ends.map nF)[1]?=some (4,0,0,[8]):=by rw[h2];rfl
  rw[JU]at h;rw[Jd]
  cases hx:r.ends[1]? with
  |none=>rw[hx]at h;cases h
  |some x=>rw[hx]at h;simpa using h
 clear hI h2 hc hsp hwf hm he;simp only[nF,u7]at h6;obtain⟨k1,k2,k3,k4⟩:=h6;apply aE.imp' (fun w hm=>show Mem w (rd (r.ends.getD 1 default).oo (r.ends.getD 1 default).out.length (r.ends.getD 1 default).oc aY (r.ends.getD 1 default).out::rd r.eo r.ends.length r.ec mD r.ends::_)from Mem.I1 (f:=r.el) (k:=1) (by show 1<r.ends.length;omega) (.tail .head) (Mem.I0 (f:=r.el) .head (OM r (cA) hm)))
 repeat(refine Jy ?_;try intro b)
 apply aE.imp' (fun w hm=>Mem.jB (b:=b) (e:=2) (f:=aY) (n:=1) hm (tk) [8] rfl rfl (by unfold maxLen;simp));(refine Jc ?_;refine aB.bA (spec:=M5 ⟨(r.ends.getD 1 default).oo,(r.ends.getD 1 default).oc,(r.ends.getD 1 default).out⟩ ⟨some ⟨b,0,none⟩,1,[8]⟩ k4) (r:=(fun w=>Reads.rd (tk) (Reads.arr (tk) .nil))) (k:=?_);intro s hs;refine Jn ?_);refine aD ?_;exact fZ ()
end Vw
namespace Ver
open ImgM
def Wk(a b:Shape):Prop:=a.1=b.1∧Le a.2 b.2
theorem Wk.refl(a:Shape):Wk a a:=⟨rfl,Le.refl _⟩
theorem Wk.trans{a b c:Shape}(h:Wk a b)(k:Wk b c):Wk a c:=⟨h.1.trans k.1,h.2.trans k.2⟩
def GY(f:aZ):Shape:=(f.stack,f.has)
section
variable(M:aL)(u:bM)(Q:aT→Prop)(X:Int→Shape→Prop)
def Z2(a:Nat)(c:List aT)(t:Shape)(sh:List Shape):Prop:=
 (∀i∈c,Q i)∧sh.length=c.length∧∀i,i<c.length→(cS M u (c.getD i default) (sh.getD i default)).err=0∧
  ∀q∈lH (c.getD i default) ((a+i:Nat):Int),(∃j,q=((a+j:Nat):Int)∧j≤c.length∧Wk ((sh ++[t]).getD j default) (GY (cS M u (c.getD i default) (sh.getD i default))))∨
   ∃x,X q x∧Wk x (GY (cS M u (c.getD i default) (sh.getD i default)))
def cE(a:Nat)(c:List aT)(s t:Shape):Prop:=∃sh,Z2 M u Q X a c t sh∧Wk ((sh ++[t]).getD 0 default) s
end
section
variable{M:aL}{u:bM}{Q:aT→Prop}{X Y:Int→Shape→Prop}{a:Nat}{c d:List aT}{s t r:Shape}
theorem cE.nil(h:Wk t s):cE M u Q X a [] s t:=⟨[],⟨(fun i hi=>by cases hi),rfl,(fun i hi=>by cases hi)⟩,h⟩
theorem sN{α:Type}{l k:List α}{i:Nat}{z:α}(h:i<l.length):(l ++k).getD i z=l.getD i z:=by
 rw[Jd,Jd,tD h]
theorem rK{α:Type}{l k:List α}{i:Nat}{z:α}:(l ++k).getD (l.length+i) z=k.getD i z:=by
 rw[Jd,Jd,rD aA,Nat.add_sub_cancel_left]
theorem cE.append(h:cE M u Q X a c s t)(k:cE M u Q X (a+c.length) d t r):cE M u Q X a (c ++d) s r:=by
 obtain⟨sh,⟨h0,h1,h2⟩,h3⟩:=h;obtain⟨sk,⟨k0,k1,k2⟩,k3⟩:=k;have key:∀j,j≤c.length→Wk ((sh ++sk ++[r]).getD j default) ((sh ++[t]).getD j default):=fun j hj=>by
  by_cases h:j<c.length
  ·rw[Jt,sN aA,sN aA];exact Wk.refl _
  ·obtain rfl:j=sh.length+0:=aA;rw[Jt,rK,rK];exact k3
 refine⟨sh ++sk,⟨fun i hi=>(dF.1 hi).elim (h0 i) (k0 i),by rw[Jl,Jl,h1,k1],fun i hi=>?_⟩,(key 0 (bQ _)).trans h3⟩;rw[Jl]at hi
 by_cases hic:i<c.length
 ·rw[sN hic,sN aA];refine⟨(h2 i hic).1,fun q hq=>?_⟩;rcases(h2 i hic).2 q hq with⟨j,e,hj,hw⟩|h
  ·exact .inl ⟨j,e,by rw[Jl];omega,(key j hj).trans hw⟩
  ·exact .inr h
 ·obtain⟨i,rfl⟩:∃j,i=c.length+j:=⟨i-c.length,aA⟩;rw[rK,show(sh ++sk).getD (c.length+i) default=sk.getD i default by rw[←h1,rK]];refine⟨(k2 i aA).1,fun q hq=>?_⟩;rcases(k2 i aA).2 q (by rwa [uZ])with⟨j,e,hj,hw⟩|h
  ·refine .inl ⟨c.length+j,by rw[e,uZ],by rw[Jl];omega,?_⟩;rw[Jt,show c.length+j=sh.length+j by omega,rK];exact hw
  ·exact .inr h
theorem cE.mono(h:cE M u Q X a c s t)(hx:∀q x,X q x→Y q x):cE M u Q Y a c s t:=by
 obtain⟨sh,⟨h0,h1,h2⟩,h3⟩:=h;exact⟨sh,⟨h0,h1,fun i hi=>⟨(h2 i hi).1,fun q hq=>((h2 i hi).2 q hq).imp id fun⟨x,hx',hw⟩=>⟨x,hx _ _ hx',hw⟩⟩⟩,h3⟩
theorem cE.end_(h:cE M u Q X a c s t){t':Shape}(hw:Wk t' t):cE M u Q X a c s t':=by
 obtain⟨sh,⟨h0,h1,h2⟩,h3⟩:=h;have key:∀j,j≤c.length→Wk ((sh ++[t']).getD j default) ((sh ++[t]).getD j default):=fun j hj=>by
  by_cases h:j<c.length
  ·rw[sN aA,sN aA];exact Wk.refl _
  ·obtain rfl:j=sh.length+0:=aA;rw[rK,rK];exact hw
 refine⟨sh,⟨h0,h1,fun i hi=>⟨(h2 i hi).1,fun q hq=>?_⟩⟩,(key 0 (bQ _)).trans h3⟩;rcases(h2 i hi).2 q hq with⟨j,e,hj,hw⟩|h
 ·exact .inl ⟨j,e,hj,(key j hj).trans hw⟩
 ·exact .inr h
theorem cE.atEnd(h:cE M u Q (fun q x=>X q x∨q=((a+c.length:Nat):Int)∧x=t) a c s t):cE M u Q X a c s t:=by
 obtain⟨sh,⟨h0,h1,h2⟩,h3⟩:=h;refine⟨sh,⟨h0,h1,fun i hi=>⟨(h2 i hi).1,fun q hq=>?_⟩⟩,h3⟩;rcases(h2 i hi).2 q hq with h|⟨x,hx|⟨e,rfl⟩,hw⟩
 ·exact .inl h
 ·exact .inr ⟨x,hx,hw⟩
 ·refine .inl ⟨c.length,e,bS _,?_⟩;rw[show c.length=sh.length+0 by omega,rK];exact hw
theorem cE.aAB(h:cE M u Q (fun q x=>X q x∨q=(a:Int)∧x=s) a c s t):cE M u Q X a c s t:=by
 obtain⟨sh,⟨h0,h1,h2⟩,h3⟩:=h;refine⟨sh,⟨h0,h1,fun i hi=>⟨(h2 i hi).1,fun q hq=>?_⟩⟩,h3⟩;rcases(h2 i hi).2 q hq with h|⟨x,hx|⟨e,rfl⟩,hw⟩
 ·exact .inl h
 ·exact .inr ⟨x,hx,hw⟩
 ·exact .inl ⟨0,e,bQ _,h3.trans hw⟩
theorem cE.one{i:aT}(hQ:Q i)(hok:(cS M u i s).err=0)(hn:∀q∈lH i (a:Int),(q=((a+1:Nat):Int)∧Wk t (GY (cS M u i s)))∨∃x,X q x∧Wk x (GY (cS M u i s))):cE M u Q X a [i] s t:=by
 refine⟨[s],⟨fun j hj=>by rw[dY.1 hj];exact hQ,rfl,fun j hj=>?_⟩,Wk.refl _⟩;obtain rfl:j=0:=by simpa using hj
 refine⟨hok,fun q hq=>?_⟩;rcases hn q hq with⟨e,hw⟩|h
 ·exact .inl ⟨1,e,bS _,hw⟩
 ·exact .inr h
theorem aA9{i:aT}(hc:u.code=c ++[i])(h:cE M u Q (fun _ _=>False) 0 c ([],gJ u) t)(hi:lH i (c.length:Int)=[])(hok:(cS M u i t).err=0):(∃τ,Cert M u τ)∧(∀j∈c,Q j)∧∀j∈c,j.op=21∨j.op=22→0≤j.a∧j.a<(u.code.length:Int):=by
 obtain⟨sh,⟨h0,h1,h2⟩,h3⟩:=h;have hl:u.code.length=c.length+1:=by rw[hc];simp
 refine⟨⟨fun p=>if 0≤p∧p<(u.code.length:Int)then some ((sh ++[t]).getD p.toNat default)else none,?_,fun p s hp=>?_,fun p s hp=>?_⟩,h0,fun j hj ho=>?_⟩
 ·refine⟨((sh ++[t]).getD 0 default).2,?_,h3.2⟩;rw[if_pos ⟨Int.le_refl _,aA⟩];exact congrArg some (Prod.ext h3.1 rfl)
 ·split at hp
  ·assumption
  ·cases hp
 ·split at hp
  ·next hr=>
   cases hp
   obtain⟨k,rfl⟩:=JI hr.1;have hk:k<u.code.length:=aA;have hins:ins u (k:Int)=(c ++[i]).getD k default:=by unfold ins;rw[hc,Jj]
   rw[Jj]
   by_cases hkc:k<c.length
   ·rw[sN hkc]at hins;have e1:(sh ++[t]).getD k default=sh.getD k default:=sN aA;rw[e1];refine⟨by rw[hins];exact(h2 k hkc).1,fun q hq=>?_⟩;rw[hins]at hq⊢;rcases(h2 k hkc).2 q (by rwa [sD])with⟨j,e,hj,hw⟩|⟨x,hx, -⟩
    ·rw[sD]at e;subst e;refine⟨((sh ++[t]).getD j default).2,?_,hw.2⟩;rw[if_pos ⟨aA,aA⟩,Jj];exact congrArg some (Prod.ext hw.1 rfl)
    ·exact hx.elim
   ·obtain rfl:k=c.length+0:=aA;rw[rK]at hins;have e1:(sh ++[t]).getD (c.length+0) default=t:=by rw[←h1,rK];rfl
    rw[e1];have hins:ins u ((c.length+0:Nat):Int)=i:=hins;refine⟨by rw[hins];exact hok,fun q hq=>?_⟩;rw[hins,Nat.add_zero,hi]at hq
    cases hq
  ·cases hp
 ·obtain⟨k,hk,rfl⟩:=pC hj;have e:c.getD k default=c[k]:=by rw[Jd,Je hk];rfl
  have hq:c[k].a∈lH (c.getD k default) ((0+k:Nat):Int):=by
   rw[e];unfold lH;rcases ho with ho|ho
   ·rw[if_pos ho];exact .head _
   ·rw[if_neg aA,if_pos ho];exact .head _
  rcases(h2 k hk).2 _ hq with⟨j,e,hj, -⟩|⟨x,hx, -⟩
  ·omega
  ·exact hx.elim
end
def Fl(S:List Int)(H:List Bool):aZ:=⟨[],[],S,H,0⟩
section
variable{M:aL}{u:bM}{S:List Int}{H:List Bool}
theorem oA{t:Int}(h:S.length<300):push t (Fl S H)=Fl (S ++[t]) H:=by
 unfold push;exact if_neg (show¬300<S.length+1 by omega)
theorem AT{t:Int}:pop (Fl (S ++[t]) H)=(t,Fl S H):=by
 unfold pop;have hl:(Fl (S ++[t]) H).stack.length=S.length+1:=by simp[Fl]
 rw[if_neg aA,hl];simp[Fl,Jd]
theorem aIM{t:Int}:lX t (Fl (S ++[t]) H)=Fl S H:=by
 unfold lX;rw[AT];exact if_neg (fun h=>h rfl)
theorem o4:∀(l S:List Int),want l (Fl (S ++l) H)=Fl S H
 |[],S=>by rw[eS];rfl
 |t::l,S=>by
  show lX t (want l (Fl (S ++t::l) H))=_;rw[show S ++t::l=(S ++[t]) ++l by simp,o4 l,aIM]
theorem RC:done (Fl [] H)=Fl [] H:=by
 unfold done;exact if_pos rfl
theorem oY(i:aT)(T:List Int)(H:List Bool):cS M u i (T,H)=core M u i (Fl T H):=rfl
theorem qL{i:aT}{f:aZ}(h1:i.op≠21)(h2:i.op≠22):core M u i f=(step M u i f).2:=by
 unfold core;rw[if_neg h1,if_neg h2]
theorem WU(a n:Int)(h:S.length<300):cS M u ⟨1,a,n⟩ (S,H)=Fl (S ++[1]) H:=by
 rw[oY,qL (by show(1:Int)≠21;decide) (by show(1:Int)≠22;decide)];exact oA h
theorem WV(a n:Int)(h:S.length<300):cS M u ⟨2,a,n⟩ (S,H)=Fl (S ++[2]) H:=by
 rw[oY,qL (by show(2:Int)≠21;decide) (by show(2:Int)≠22;decide)];exact oA h
theorem aFt(k:Nat)(n:Int)(h:S.length<300)(hk:H.getD k false=true):cS M u ⟨3,(k:Int),n⟩ (S,H)=Fl (S ++[u.locals.getD k 0]) H:=by
 rw[oY,qL (by show(3:Int)≠21;decide) (by show(3:Int)≠22;decide),yI _ _ _ _ rfl];show push (u.locals.getD k 0) (if H.getD k false=true then Fl S H else fail 11 (Fl S H))=_;rw[if_pos hk];exact oA h
theorem WZ(k:Nat)(n:Int):cS M u ⟨4,(k:Int),n⟩ (S ++[u.locals.getD k 0],H)=Fl S (H.set k true):=by
 rw[oY,qL (by show(4:Int)≠21;decide) (by show(4:Int)≠22;decide),yJ _ _ _ _ rfl];show({want [u.locals.getD k 0] (Fl (S ++[u.locals.getD k 0]) H)with has:=(want [u.locals.getD k 0] (Fl (S ++[u.locals.getD k 0]) H)).has.set k true}:aZ)=_;rw[o4];rfl
theorem aFx(a n t:Int):cS M u ⟨5,a,n⟩ (S ++[t],H)=Fl S H:=by
 rw[oY,qL (by show(5:Int)≠21;decide) (by show(5:Int)≠22;decide)];show(pop (Fl (S ++[t]) H)).2=_;rw[AT]
theorem aFy(a n:Int)(h:S.length<300):cS M u ⟨6,a,n⟩ (S ++[1],H)=Fl (S ++[1]) H:=by
 rw[oY,qL (by show(6:Int)≠21;decide) (by show(6:Int)≠22;decide)];show push 1 (want [1] (Fl (S ++[1]) H))=_;rw[o4,oA h]
theorem aFz(a n:Int)(h:S.length<300):cS M u ⟨7,a,n⟩ (S ++[2],H)=Fl (S ++[2]) H:=by
 rw[oY,qL (by show(7:Int)≠21;decide) (by show(7:Int)≠22;decide)];show push 2 (want [2] (Fl (S ++[2]) H))=_;rw[o4,oA h]
theorem aGD{op:Int}(a n:Int)(h:S.length<300)(ho:8≤op∧op≤12):cS M u ⟨op,a,n⟩ (S ++[1,1],H)=Fl (S ++[1]) H:=by
 rw[oY,qL (show op≠21 by omega) (show op≠22 by omega)];unfold step;dsimp only
 repeat rw[if_neg aA]
 rw[if_pos ho];show push 1 (want [1,1] (Fl (S ++[1,1]) H))=_;rw[o4,oA h]
theorem aGB{op:Int}(a n t:Int)(h:S.length<300)(ho:op=13∨op=14)(ht:t=1∨t=2):cS M u ⟨op,a,n⟩ (S ++[t,t],H)=Fl (S ++[2]) H:=by
 rw[oY,qL (show op≠21 by omega) (show op≠22 by omega)];unfold step;dsimp only
 repeat rw[if_neg aA]
 rw[if_pos ho,show S ++[t,t]=(S ++[t]) ++[t] by simp,AT];dsimp only;rw[if_neg aA,o4,oA h]
theorem aGC{op:Int}(a n:Int)(h:S.length<300)(ho:15≤op∧op≤18):cS M u ⟨op,a,n⟩ (S ++[1,1],H)=Fl (S ++[2]) H:=by
 rw[oY,qL (show op≠21 by omega) (show op≠22 by omega)];unfold step;dsimp only
 repeat rw[if_neg aA]
 rw[if_pos ho];show push 2 (want [1,1] (Fl (S ++[1,1]) H))=_;rw[o4,oA h]
theorem aGA{op:Int}(a n:Int)(h:S.length<300)(ho:op=19∨op=20):cS M u ⟨op,a,n⟩ (S ++[2,2],H)=Fl (S ++[2]) H:=by
 rw[oY,qL (show op≠21 by omega) (show op≠22 by omega)];unfold step;dsimp only
 repeat rw[if_neg aA]
 rw[if_pos ho];show push 2 (want [2,2] (Fl (S ++[2,2]) H))=_;rw[o4,oA h]
theorem WW(a n:Int):cS M u ⟨21,a,n⟩ (S,H)=Fl S H:=by
 rw[oY];unfold core;exact if_pos rfl
theorem M9(a n:Int):cS M u ⟨22,a,n⟩ (S ++[2],H)=Fl S H:=by
 rw[oY];unfold core;rw[if_neg (show¬(22:Int)=21 by decide)];dsimp only;rw[if_pos rfl,o4]
theorem sW{i:aT}{T:List Int}(h:23≤i.op):cS M u i (T,H)=(eP M u i (Fl T H)).2:=by
 rw[oY,qL aA aA,XK h]
theorem aFo(k:Nat)(n:Int){l:List Int}(h:S.length<300)(hl:(M.aJ.getD k default).locals.take (M.aJ.getD k default).params.toNat=l):cS M u ⟨23,(k:Int),n⟩ (S ++l,H)=Fl (S ++[(M.aJ.getD k default).result]) H:=by
 rw[sW (show(23:Int)≤23 by decide)];show push (M.aJ.getD k default).result (want ((M.aJ.getD k default).locals.take (M.aJ.getD k default).params.toNat) (Fl (S ++l) H))=_;rw[hl,o4,oA h]
theorem aFs(k:Nat)(n:Int){l:List Int}(h:S.length<300)(hl:(M.aJ.getD k default).locals.take (M.aJ.getD k default).params.toNat=l):cS M u ⟨29,(k:Int),n⟩ (S ++l,H)=Fl (S ++[10+(k:Int)]) H:=by
 rw[sW (show(23:Int)≤29 by decide)];show push (10+(k:Int)) (want ((M.aJ.getD k default).locals.take (M.aJ.getD k default).params.toNat) (Fl (S ++l) H))=_;rw[hl,o4,oA h]
theorem WX(a n:Int)(hk:u.kind=2):cS M u ⟨24,a,n⟩ ([u.result],H)=Fl [] H:=by
 rw[sW (show(23:Int)≤24 by decide)];show done (want [u.result] (if u.kind≠2 then fail 8 (Fl [u.result] H)else Fl [u.result] H))=_;rw[if_neg (fun h=>h hk),show want [u.result] (Fl [u.result] H)=Fl [] H from o4 (H:=H) [u.result] [],RC]
theorem WY(a n:Int)(hk:u.kind≠2):cS M u ⟨25,a,n⟩ ([],H)=Fl [] H:=by
 rw[sW (show(23:Int)≤25 by decide)];show done (if u.kind=2 then fail 8 (Fl [] H)else Fl [] H)=_;rw[if_neg hk,RC]
theorem aFp(k:Nat)(n:Int):cS M u ⟨26,(k:Int),n⟩ (S ++[(M.boxes.getD k default).1],H)=Fl S H:=by
 rw[sW (show(23:Int)≤26 by decide)];show want [(M.boxes.getD k default).1] (Fl (S ++[(M.boxes.getD k default).1]) H)=_;rw[o4]
theorem aFq(k:Nat)(n:Int)(h:S.length<300):cS M u ⟨27,(k:Int),n⟩ (S,H)=Fl (S ++[(M.boxes.getD k default).1]) H:=by
 rw[sW (show(23:Int)≤27 by decide)];exact oA h
theorem aFr(a n t:Int)(ht:plain t=true):cS M u ⟨28,a,n⟩ (S ++[t],H)=Fl S H:=by
 rw[sW (show(23:Int)≤28 by decide)];show(if(pop (Fl (S ++[t]) H)).2.err=0∧plain (pop (Fl (S ++[t]) H)).1=false then fail 9 (pop (Fl (S ++[t]) H)).2 else(pop (Fl (S ++[t]) H)).2)=_;rw[AT,if_neg (by rw[ht];simp)]
theorem SD(k:Nat)(hk:isUnit M (k:Int) 3=true):gen M (Fl (S ++[10+(k:Int)]) H)=(some (k:Int),Fl S H):=by
 unfold gen;rw[AT];dsimp only;have hh:handle M (10+(k:Int))=true:=by
  unfold handle;rw[show 10+(k:Int)-10=(k:Int) by omega,hk,Bool.and_true,JV];omega
 rw[if_neg (show¬(Fl S H).err≠0 from fun h=>h rfl),if_neg (by rw[hh];simp),show 10+(k:Int)-10=(k:Int) by omega]
theorem aFu(a n:Int)(k:Nat)(h:S.length<300)(hk:isUnit M (k:Int) 3=true):cS M u ⟨30,a,n⟩ (S ++[10+(k:Int),(M.aJ.getD k default).aP],H)=Fl (S ++[(M.aJ.getD k default).result]) H:=by
 rw[sW (show(23:Int)≤30 by decide),show S ++[10+(k:Int),(M.aJ.getD k default).aP]=(S ++[10+(k:Int)]) ++[(M.aJ.getD k default).aP] by simp];show(match gen M (pop (Fl ((S ++[10+(k:Int)]) ++[(M.aJ.getD k default).aP]) H)).2 with
  |(none,g)=>g
  |(some k',g)=>push (M.aJ.getD k'.toNat default).result (if(pop (Fl ((S ++[10+(k:Int)]) ++[(M.aJ.getD k default).aP]) H)).1≠(M.aJ.getD k'.toNat default).aP then fail 9 g else g))=_
 rw[AT];dsimp only;rw[SD k hk];dsimp only;rw[Jj,if_neg (fun h=>h rfl),oA h]
theorem aFv(a n:Int)(h:S.length<300)(hk:u.kind=3):cS M u ⟨31,a,n⟩ (S ++[u.result],H)=Fl (S ++[u.aP]) H:=by
 rw[sW (show(23:Int)≤31 by decide)];show push u.aP (want [u.result] (if u.kind≠3 then fail 8 (Fl (S ++[u.result]) H)else Fl (S ++[u.result]) H))=_;rw[if_neg (fun h=>h hk),o4,oA h]
theorem aFw(a n:Int)(k:Nat)(h:S.length<300)(hk:isUnit M (k:Int) 3=true):cS M u ⟨32,a,n⟩ (S ++[10+(k:Int)],H)=Fl (S ++[2]) H:=by
 rw[sW (show(23:Int)≤32 by decide)];show push 2 (gen M (Fl (S ++[10+(k:Int)]) H)).2=_;rw[SD k hk,oA h]
theorem cE.op{Q:aT→Prop}{X:Int→Shape→Prop}{a:Nat}{i:aT}{T U:List Int}{K:List Bool}(hQ:Q i)(hs:cS M u i (T,H)=Fl U K)(h1:i.op≠21)(h2:i.op≠22):cE M u Q X a [i] (T,H) (U,K):=by
 refine cE.one hQ (by rw[hs];rfl) (fun q hq=>?_);unfold lH at hq;rw[if_neg h1,if_neg h2]at hq
 split at hq
 ·cases hq
 ·rw[dY]at hq;subst hq;exact .inl ⟨aA,by rw[hs];exact Wk.refl _⟩
theorem cE.stop{Q:aT→Prop}{X:Int→Shape→Prop}{a:Nat}{i:aT}{T U:List Int}{K:List Bool}{t:Shape}(hQ:Q i)(hs:cS M u i (T,H)=Fl U K)(h:i.op=24∨i.op=25):cE M u Q X a [i] (T,H) t:=by
 refine cE.one hQ (by rw[hs];rfl) (fun q hq=>?_);unfold lH at hq;rw[if_neg aA,if_neg aA,if_pos h]at hq
 cases hq
theorem cE.jump{Q:aT→Prop}{X:Int→Shape→Prop}{a p:Nat}{n:Int}{t:Shape}(hQ:Q ⟨21,(p:Int),n⟩)(hx:X (p:Int) (S,H)):cE M u Q X a [⟨21,(p:Int),n⟩] (S,H) t:=by
 refine cE.one hQ (by rw[WW];rfl) (fun q hq=>?_);unfold lH at hq;rw[if_pos rfl,dY]at hq;subst hq;exact .inr ⟨_,hx,by rw[WW];exact Wk.refl _⟩
theorem cE.RI{Q:aT→Prop}{X:Int→Shape→Prop}{a p:Nat}{n:Int}(hQ:Q ⟨22,(p:Int),n⟩)(hx:X (p:Int) (S,H)):cE M u Q X a [⟨22,(p:Int),n⟩] (S ++[2],H) (S,H):=by
 refine cE.one hQ (by rw[M9];rfl) (fun q hq=>?_);unfold lH at hq;rw[if_neg (show¬(22:Int)=21 by decide),if_pos rfl]at hq;rcases cY.1 hq with rfl|hq
 ·exact .inr ⟨_,hx,by rw[M9];exact Wk.refl _⟩
 ·rw[dY]at hq;subst hq;exact .inl ⟨aA,by rw[M9];exact Wk.refl _⟩
end
end Ver
end Go.Proofs.YtofckcabpchcmaaGreatDoor
