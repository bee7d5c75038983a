/- Settle, walked. -/
import Derived.Test.YtofckcabpchcmaaGreatDoorM33
set_option linter.unusedVariables false
set_option linter.unusedSimpArgs false
set_option linter.unusedSectionVars false
set_option maxRecDepth 100000
namespace Go.Proofs.YtofckcabpchcmaaGreatDoor
namespace Vm
open ImgM
theorem SS:∀{l:List Nat} {last:Int} {j:Nat},j<l.length→last<((l.getD j default:Nat):Int)→(∀i,i<j→¬last<((l.getD i default:Nat):Int))→lG l last=l.getD j default
 |[],_,_,hj,_,_=>absurd hj (by simp)
 |a::l,last,0,_,h,_=>by
  unfold lG;rw[List.find?_cons_of_pos (by simpa using h)];rfl
 |a::l,last,j+1,hj,h,hb=>by
  have h1:=SS (l:=l) (last:=last) (j:=j) (by simpa using hj) (by simpa using h) (fun i hi=>by simpa using hb (i+1) (by omega));have h0:=hb 0 (by omega);have hf:∃x,l.find? (fun k:Nat=>decide (last<(k:Int)))=some x:=by
   rw[←lN,List.find?_isSome];refine⟨l.getD j default,?_,by simpa using h⟩;rw[Jd,Je (by simpa using hj)];exact fB _
  obtain⟨x,hx⟩:=hf;unfold lG at h1⊢;rw[List.find?_cons_of_neg (by simpa using h0),hx];rw[hx]at h1;simpa using h1
theorem aDV{l:List Nat}{last:Int}(hb:∀i,i<l.length→¬last<((l.getD i default:Nat):Int)):lG l last=l.getD 0 default:=by
 unfold lG;rw[List.find?_eq_none.2 (fun x hx=>?_)]
 ·cases l<;>rfl
 ·obtain⟨i,hi,rfl⟩:=mS hx;have:=hb i hi;rw[Jd,Je hi]at this;simpa using this
theorem aHi{α β:Type}{a:List α}{b:List β}(h:a.length=b.length)(x:α)(y:β):(a ++[x]).zip (b ++[y])=a.zip b ++[(x,y)]:=by
 rw[List.zip_append h];rfl
theorem aCC{l:List (Int×Int)}{d:List (Int×Nat)}(h:l.length=d.length)(p:Int×Int)(x:Int×Nat):yO (l ++[p]) (d ++[x])=if x.1=0 then p.1 else yO l d:=by
 unfold yO;rw[aHi h,oH,vZ]
 by_cases hx:x.1=0
 ·rw[if_pos hx];simp[hx]
 ·rw[if_neg hx];simp[hx]
theorem aF5(M:aG)(q:Int)(n:Nat)(last:Int)(c:Ma):settle M q (n+1) last c=if(c.looked M).ready=[]then some (c.looked M)else if(pick M false (c.looked M) ((lG (c.looked M).ready last:Int),q)).1.1≠0 then none else settle M q n (lG (c.looked M).ready last) (pick M false (c.looked M) ((lG (c.looked M).ready last:Int),q)).2:=rfl
theorem aEC{ν:Type}{V:Env ν}{M:aG}{n:Nat}{q:Int}{r:Tk×ν}(h:(j8 V M n q r).1.1=0):1≤(j8 V M n q r).1.2:=by
 unfold j8 at h⊢
 by_cases h1:q<1∨10000<q
 ·rw[if_pos h1]at h;cases h
 ·rw[if_neg h1]at h⊢
  by_cases h2:(look V M r).1.st≠1
  ·rw[if_pos h2]at h;cases h
  ·rw[if_neg h2]at h⊢
   by_cases h3:(goN V M (min q.toNat (20000-n)) (look V M r)).1=0
   ·rw[if_pos h3]at h;cases h
   ·rw[if_neg h3];dsimp only;omega
theorem aEI{M:aG}{told:Bool}{c:Ma}{p:Int×Int}(h:(pick M told c p).1.1=0):c.n+1≤(pick M told c p).2.n:=by
 unfold pick at h⊢
 by_cases h1:p.1<0∨(c.ts.length:Int)≤p.1
 ·rw[if_pos h1]at h;cases h
 ·rw[if_neg h1]at h⊢;have:=aEC h;dsimp only;omega
def settled(M:aG)(ps:List (Int×Int))(q:Int):Option Ma:=settle M q 20001 (yO ps (fW M false ps (Ma.init M)).1) (fW M false ps (Ma.init M)).2
def kD(M:aG)(ps:List (Int×Int))(q:Int):Int:=if lZ M ps.length≠0 then lZ M ps.length else if q<1∨10000<q then 3 else if settled M ps q=none then 10 else 0
end Vm
namespace Vw
open Go.RowKit Img
section
attribute [local irreducible] aE aB End aA Still aM aP RunT Fn aO
def DF(m:ML)(ps:List (Int×Int))(q:Int)(r:jD):Prop:=if Vm.kD m.aC ps q=0 then∃c,Vm.settled m.aC ps q=some c∧r.Is (c.looked m.aC)else r=qH.zero.w
def s6(m:ML)(ps:List (Int×Int))(k:Nat):Int:=Vm.yO (ps.take k) (jM m ps k).1
theorem aCB(m:ML)(ps:List (Int×Int)):s6 m ps 0= -1:=rfl
theorem aCA(m:ML)(ps:List (Int×Int)){k:Nat}(hk:k<ps.length):s6 m ps (k+1)=if(Vm.pick m.aC false (jM m ps k).2 (ps.getD k default)).1.1=0 then(ps.getD k default).1 else s6 m ps k:=by
 unfold s6;rw[O9 m ps hk,Jp hk,Vm.aCC (by unfold jM;rw[Vm.T4]),Jd,Je hk];rfl
attribute [local irreducible] Ver.verify Vm.lZ Vm.fW Vm.settle Vm.kD Vm.settled s6
theorem aFY{M:ImgM.aG}{ps:List (Int×Int)}{q W:Int}(h:W=Vm.lZ M ps.length)(h0:¬W=0):Vm.kD M ps q=W:=by unfold Vm.kD;rw[←h,if_pos h0]
theorem VL{M:ImgM.aG}{ps:List (Int×Int)}{q:Int}(h:0=Vm.lZ M ps.length)(h0:q<1∨10000<q):Vm.kD M ps q=3:=by unfold Vm.kD;rw[←h,if_neg (fun h=>h rfl),if_pos h0]
theorem aFZ{M:ImgM.aG}{ps:List (Int×Int)}{q:Int}(h:0=Vm.lZ M ps.length)(h0:¬(q<1∨10000<q)):Vm.kD M ps q=if Vm.settled M ps q=none then 10 else 0:=by unfold Vm.kD;rw[←h,if_neg (fun h=>h rfl),if_neg h0]
theorem aF7(m:ML)(ps:List (Int×Int))(q:Int):Vm.settled m.aC ps q=Vm.settle m.aC q 20001 (s6 m ps ps.length) (jM m ps ps.length).2:=by
 unfold Vm.settled s6;rw[aAA,l4]
set_option maxHeartbeats 2000000 in
theorem VN(m:ML)(hwf:m.Wf)(ps:x3)(Q:Int):Fn Tryz.prog 8 #[m.val,ps.val, .int .i64 Q] [md m,FI ps] [] (σ:=jD) (DF m ps.l Q) (fun r=> .tuple #[.agg r.cells.toArray, .int .i64 (Vm.kD m.aC ps.l Q)]) jD.mem:=by
 refine Fn.enter (args:=[m.val,ps.val, .int .i64 Q]) Tryz.func8 rfl _ Tryz.ntmps8 rfl (by simp[m9,fP]) (fun w S=>?_);(refine Jn ?_);obtain⟨W,hW⟩:∃W,W=Vm.lZ m.aC ps.l.length:=⟨_,rfl⟩;obtain⟨X,hX⟩:∃X,X=Vm.kD m.aC ps.l Q:=⟨_,rfl⟩;unfold DF;rw[←hX]
 repeat(refine Jy ?_;try intro b)
 obtain⟨rb,rfl⟩:∃x,x=b:=⟨_,rfl⟩;(refine JQ (aHe m hwf ps.l.length) ?_;intro s hs;(refine Jn ?_));rw[←hW]
 by_cases h0:¬W=0
 ·have hX':X=W:=by rw[hX];exact aFY hW h0
  subst hX'
  repeat(refine Jy ?_)
  apply End.imp (fun w hm=>(((hm.eX).eX).bY 46 jE).bY 39 cW);(refine End.dK (qH.zero.w) (he:=Jv) (hp:=?_));rw[if_neg h0]
 have h0:=tW.1 h0;subst h0
 by_cases hq1:Q<1
 ·have hX':X=3:=by rw[hX];exact VL hW (.inl hq1)
  subst hX'
  repeat(refine Jy ?_)
  apply End.imp (fun w hm=>(((hm.eX).eX).bY 46 jE).bY 39 cW);(refine End.dK (qH.zero.w) (he:=Jv) (hp:=?_));rw[if_neg (by decide)]
 by_cases hq2:10000<Q
 ·have hX':X=3:=by rw[hX];exact VL hW (.inr hq2)
  subst hX'
  repeat(refine Jy ?_)
  apply End.imp (fun w hm=>(((hm.eX).eX).bY 46 jE).bY 39 cW);(refine End.dK (qH.zero.w) (he:=Jv) (hp:=?_));rw[if_neg (by decide)]
 have hX':=hX.trans (aFZ hW (by omega));clear hX;obtain⟨hv,hp4⟩:=YK hW.symm;have hF:=formed (Ver.AG.1 hv).form;have hu30:=hF.aL;have hb30:=hF.boxes;obtain⟨T,hC⟩:=HX hwf hv
 repeat(refine Jy ?_)
 obtain⟨mb,rfl⟩:∃x,x=b:=⟨_,rfl⟩;(refine JQ (Y9 mb m hb30 hu30 (Z2 hv) (fun k hk=>(BL (hF.head k hk)).1)) ?_;intro s hs;(refine Jn ?_));obtain⟨e1,e2⟩:=Y6 hC hs mb;have hn:=Y7 hs hu30;have hk0:=aAB m ps.l;obtain⟨n0,hn0'⟩:∃n,n=(jM m ps.l 0).2.n:=⟨_,rfl⟩;have hn0:n0=0:=by rw[hn0',hk0];rfl
 apply aE.imp' (fun w hm=>Y8 s hn0 (aK) hm);(refine Jn ?_);obtain⟨x,hx⟩:∃x,x=s.pl mb:=⟨_,rfl⟩;obtain⟨ts0,ht0⟩:∃x,x=s.ts:=⟨_,rfl⟩;obtain⟨e0,he0⟩:∃x,x=s.be:=⟨_,rfl⟩;have hxb:s.xb=x.xb:=by rw[hx];rfl
 rw[←hx]at e1;rw[←ht0,←he0]at e1 e2;rw[←ht0]at hn;rw[hxb,←hx,←ht0,←he0];clear hx ht0 he0 hxb hs s;subst hn0'
 repeat(refine Jy ?_)
 rw[←aCB m ps.l];refine aB.only ((fun z=>[aI w S,md m,gX x.p,FI ps,aD rb [.slice none 0 0, .slice none 0 0, .int .i64 0] 32] ++j5 m x z.2.1 z.2.2 (jM m ps.l z.1).2.n) (0,ts0,e0)) (aK) ?_;apply aB.loop (σ:=Nat×List bW×dT) (fun z=>z.1≤ps.l.length∧z.2.1.length≤30∧kN m T x z.2.1 z.2.2 (jM m ps.l z.1).2.n∧cM z.2.1 z.2.2 (jM m ps.l z.1).2.n=(jM m ps.l z.1).2) (fun z=>[(2, .int .i64 Q),(6,ptr rb),(9,ptr x.xb),(10, .int .i64 (s6 m ps.l z.1)),(33, .slice ps.o ps.l.length ps.c),(34, .int .i64 (ps.l.length:Int)),(35, .int .i64 (z.1:Int))]) (fun z=>[aI w S,md m,gX x.p,FI ps,aD rb [.slice none 0 0, .slice none 0 0, .int .i64 0] 32] ++j5 m x z.2.1 z.2.2 (jM m ps.l z.1).2.n) (fun z=>ps.l.length-z.1) (0,ts0,e0)
 rotate_left
 exact sb;exact aK;intro z hz K1 hK1;(refine Jn ?_)
 rotate_left
 ·exact⟨bP _,hn,by rw[hn0];exact e1,by rw[hn0,e2,hk0]⟩
 obtain⟨q,us,e⟩:=z;obtain⟨hq0,hun,hI,hA⟩:=hz;dsimp only at hq0 hun hI hA hK1⊢
 by_cases hq:q<ps.l.length
 ·obtain⟨tq,q1,htq⟩:∃tq q1,ps.l.getD q default=(tq,q1):=⟨_,_,rfl⟩;have hsn:=O9 m ps.l hq;have hln:=aCA m ps.l hq
  repeat(refine Jy ?_;try intro b)
  rw[htq];rw[htq]at hsn hln;obtain⟨C1,hC1⟩:∃C,C=jM m ps.l (q+1):=⟨_,rfl⟩;rw[←hC1]at hsn;generalize jM m ps.l q=C at *;rw[←hA]at hsn hln;have hsp:=TZ m hC x us e C.2.n hI hun tq q1;generalize Vm.pick m.aC false (cM us e C.2.n) (tq,q1)=R at *;(refine Jc ?_;refine aA.aZ (spec:=hsp) (r:=(fun w=>Reads.md (tk) (Reads.any (tk) (uJ x.p) .nil))) (k:=?_);intro s hs;(refine Jn ?_));obtain⟨us',e'⟩:=s;obtain⟨g1,g2,g3⟩:=hs;dsimp only at g1 g2 g3 hln⊢;have a2:R.2.n=(jM m ps.l (q+1)).2.n:=by rw[←hC1,hsn]
  rw[a2]at g1 g3⊢
  repeat(refine Jy ?_)
  (apply aE.op;exact rfl;refine aA.b8 (h:=by exact Still.QK rfl rfl rfl rfl rfl) (k:=?_))
  by_cases hr0:R.1.1=0
  ·rw[if_pos hr0]at hln
   repeat(refine Jy ?_)
   rw[←hln];refine End.bK hK1 (q+1,us',e') ?_ ?_
   ·exact⟨by dsimp only;omega,by dsimp only;omega,g1,by dsimp only;rw[g3,←hC1,hsn]⟩
   ·dsimp only;omega
  ·rw[if_neg hr0]at hln
   repeat(refine Jy ?_)
   rw[←hln];refine End.bK hK1 (q+1,us',e') ?_ ?_
   ·exact⟨by dsimp only;omega,by dsimp only;omega,g1,by dsimp only;rw[g3,←hC1,hsn]⟩
   ·dsimp only;omega
 ·obtain rfl:q=ps.l.length:=by omega
  clear hK1;have hse:=aF7 m ps.l Q
  repeat(refine Jy ?_)
  generalize s6 m ps.l ps.l.length=la0 at *;generalize(jM m ps.l ps.l.length).2=C at *;(refine Jc ?_;refine aA.aZ (spec:=UU m hC x us e C.n hI hun) (r:=(fun w=>Reads.md (tk) (Reads.any (tk) (uJ x.p) .nil))) (k:=?_);intro s hs;(refine Jn ?_));obtain⟨us0,lo,lc⟩:=s;obtain⟨g1,g2⟩:=hs;dsimp only at g1 g2⊢;rw[hA]at g2;rw[hA,←g2]
  repeat(refine Jy ?_)
  refine aB.only ((fun z=>[aI w S,md m,gX x.p,aD rb [.slice none 0 0, .slice none 0 0, .int .i64 0] 32,arr z.2.2.2.2.2.1 (cM z.2.2.1 z.2.2.2.1 z.2.2.2.2.1).ready.length z.2.2.2.2.2.2 3 eC (cM z.2.2.1 z.2.2.2.1 z.2.2.2.2.1).ready] ++j5 m x z.2.2.1 z.2.2.2.1 z.2.2.2.2.1) (20001,la0,us0,e,C.n,lo,lc)) (aK) ?_;apply aB.loop (σ:=Nat×Int×List bW×dT×Nat×Option Addr×Nat) (fun z=>z.2.2.1.length≤30∧kN m T x z.2.2.1 z.2.2.2.1 z.2.2.2.2.1∧20001≤z.1+z.2.2.2.2.1∧∃c,cM z.2.2.1 z.2.2.2.1 z.2.2.2.2.1=c.looked m.aC∧Vm.settled m.aC ps.l Q=Vm.settle m.aC Q z.1 z.2.1 c) (fun z=>[(2, .int .i64 Q),(6,ptr rb),(9,ptr x.xb),(10, .int .i64 z.2.1),(13, .slice z.2.2.2.2.2.1 (cM z.2.2.1 z.2.2.2.1 z.2.2.2.2.1).ready.length z.2.2.2.2.2.2)]) (fun z=>[aI w S,md m,gX x.p,aD rb [.slice none 0 0, .slice none 0 0, .int .i64 0] 32,arr z.2.2.2.2.2.1 (cM z.2.2.1 z.2.2.2.1 z.2.2.2.2.1).ready.length z.2.2.2.2.2.2 3 eC (cM z.2.2.1 z.2.2.2.1 z.2.2.2.2.1).ready] ++j5 m x z.2.2.1 z.2.2.2.1 z.2.2.2.2.1) (fun z=>z.1) (20001,la0,us0,e,C.n,lo,lc)
  rotate_left
  exact sb;exact aK;intro z hz K1 hK1;(refine Jn ?_)
  rotate_left
  ·refine⟨?_,g1,by dsimp only;omega,C,g2,hse⟩;have h1:=congrArg List.length g1.cH;have h2:=congrArg List.length hI.cH;simp only[Jf]at h1 h2;dsimp only;omega
  obtain⟨fu,la,ts,e1,n,ao,ac⟩:=z;obtain⟨hun1,hI1,hfu,c,hA1,hst⟩:=hz;dsimp only at hun1 hI1 hfu hA1 hst hK1⊢;have hn20:n≤20000:=hI1.ok.n;obtain⟨f,rfl⟩:∃f,fu=f+1:=⟨fu-1,by omega⟩;rw[Vm.aF5,←hA1]at hst;obtain⟨l,hl⟩:∃l,l=(cM ts e1 n).ready:=⟨_,rfl⟩;rw[←hl]at hst⊢;have hl30:l.length≤30:=by
   have h1:=pG (fun k=>decide (((cM ts e1 n).ts.getD k default).st=1)) (List.range (cM ts e1 n).ts.length);have h2:l.length≤(ts.map bW.tk).length:=by rw[hl];rw[List.length_range]at h1;exact h1
   rw[Jf]at h2;omega
  by_cases h9:l=[]
  ·rw[if_pos h9]at hst;have hl0:l.length=0:=by rw[h9];rfl
   have hX0:X=0:=by rw[hX',hst];rfl
   subst hX0;clear hK1
   repeat(refine Jy ?_)
   (refine Jc ?_;refine aA.aZ (spec:=aHc m hC x ts e1 n hI1 hun1 hb30) (r:=(fun w=>Reads.md (tk) (Reads.any (tk) (uJ x.p) .nil))) (k:=?_);intro s hs;(refine Jn ?_));obtain⟨us',r⟩:=s;obtain⟨k1,k2,k3⟩:=hs;dsimp only at k1 k2 k3⊢
   repeat(refine Jy ?_)
   (refine End.dK (r) (he:=Jv) (hp:=?_));rw[if_pos rfl];exact⟨_,hst,k3⟩
  ·rw[if_neg h9]at hst;have hl0:0<l.length:=JP.2 h9
   repeat(refine Jy ?_)
   refine A8 (σ:=Unit) (fun _=>True) (fun _=>[(2, .int .i64 Q),(6,ptr rb),(9,ptr x.xb),(14, .int .i64 ((Vm.lG l la:Nat):Int))]) (fun z=>[aI w S,md m,gX x.p,aD rb [.slice none 0 0, .slice none 0 0, .int .i64 0] 32] ++j5 m x ts e1 n) ?_ ?_
   ·rintro⟨⟩ -;clear hl h9 hl0;obtain⟨nx,hnx⟩:∃x,x=Vm.lG l la:=⟨_,rfl⟩;rw[←hnx]at hst⊢;have hsp:=TZ m hC x ts e1 n hI1 hun1 (nx:Int) Q;have hdn:=Vm.aEI (M:=m.aC) (told:=false) (c:=cM ts e1 n) (p:=((nx:Int),Q));generalize Vm.pick m.aC false (cM ts e1 n) ((nx:Int),Q)=R at *
    repeat(refine Jy ?_)
    (refine Jc ?_;refine aA.aZ (spec:=hsp) (r:=(fun w=>Reads.md (tk) (Reads.any (tk) (uJ x.p) .nil))) (k:=?_);intro s hs;(refine Jn ?_));obtain⟨us',e'⟩:=s;obtain⟨k1,k2,k3⟩:=hs;dsimp only at k1 k2 k3 hdn⊢
    repeat(refine Jy ?_)
    (apply aE.op;exact rfl;refine aA.b8 (h:=by exact Still.QK rfl rfl rfl rfl rfl) (k:=?_))
    by_cases hr0:¬R.1.1=0
    ·rw[if_pos hr0]at hst;have hX0:X=10:=by rw[hX',hst];rfl
     subst hX0
     repeat(refine Jy ?_)
     apply End.imp (fun w hm=>(((hm.eX).eX).bY 46 jE).bY 39 cW);(refine End.dK (qH.zero.w) (he:=Jv) (hp:=?_));rw[if_neg (by decide)]
    ·have hr0:=tW.1 hr0;rw[if_neg (fun h=>h hr0)]at hst;have hd1:=hdn hr0;have hun':us'.length≤30:=by omega
     repeat(refine Jy ?_)
     (refine Jc ?_;refine aA.aZ (spec:=UU m hC x us' e' R.2.n k1 hun') (r:=(fun w=>Reads.md (tk) (Reads.any (tk) (uJ x.p) .nil))) (k:=?_);intro s hs;(refine Jn ?_));obtain⟨us2,lo2,lc2⟩:=s;obtain⟨j1,j2⟩:=hs;dsimp only at j1 j2⊢;rw[k3]at j2;rw[k3,←j2]
     repeat(refine Jy ?_)
     refine End.bK hK1 (f,(nx:Int),us2,e',R.2.n,lo2,lc2) ?_ ?_
     ·refine⟨?_,j1,by dsimp only;omega,R.2,j2,hst⟩;have h1:=congrArg List.length j1.cH;have h2:=congrArg List.length k1.cH;simp only[Jf]at h1 h2;dsimp only;omega
     ·dsimp only;omega
   ·intro K3 hK3;clear hK1;refine aB.only ((fun j=>[aI w S,md m,gX x.p,aD rb [.slice none 0 0, .slice none 0 0, .int .i64 0] 32,arr ao l.length ac 3 eC l] ++j5 m x ts e1 n) 0) (aK) ?_;apply aB.loop (σ:=Nat) (fun j=>j≤l.length∧∀i,i<j→¬la<((l.getD i default:Nat):Int)) (fun j=>[(2, .int .i64 Q),(6,ptr rb),(9,ptr x.xb),(10, .int .i64 la),(14, .int .i64 ((l.getD 0 default:Nat):Int)),(57, .slice ao l.length ac),(58, .int .i64 (l.length:Int)),(59, .int .i64 (j:Int))]) (fun j=>[aI w S,md m,gX x.p,aD rb [.slice none 0 0, .slice none 0 0, .int .i64 0] 32,arr ao l.length ac 3 eC l] ++j5 m x ts e1 n) (fun j=>l.length-j) 0
    rotate_left
    exact sb;exact aK;intro j hj K4 hK4;(refine Jn ?_)
    rotate_left
    ·exact⟨bP _,fun i hi=>by omega⟩
    obtain⟨hj0,hj1⟩:=hj
    by_cases hj:j<l.length
    ·by_cases hgt:la<((l.getD j default:Nat):Int)
     ·have hnx:=Vm.SS hj hgt hj1
      repeat(refine Jy ?_)
      rw[←hnx];refine End.some_ hK3 () ?_;trivial
     ·repeat(refine Jy ?_)
      refine End.bK hK4 (j+1) ?_ ?_
      ·refine⟨by omega,fun i hi=>?_⟩
       by_cases e:i=j
       ·subst e;exact hgt
       ·exact hj1 i (by omega)
      ·omega
    ·obtain rfl:j=l.length:=by omega
     have hnx:=Vm.aDV hj1
     repeat(refine Jy ?_)
     rw[←hnx];refine End.some_ hK3 () ?_;trivial
end
section
structure oG where
 o:Option Addr
 c:Nat
 l:List rB
abbrev oG.val(f:oG):Value:= .slice f.o f.l.length f.c
structure vR(w:World)(f:oG):Prop where
 out:Row w (.slice f.o f.l.length f.c) (sz jE) f.l.length (f.l.flatMap jE)
 row:∀r∈f.l,Row w (.slice r.oo r.out.length r.oc) (sz aT) r.out.length (r.out.flatMap aT)
def C6(f:oG)(k:Nat):Prop:=
 ((Value.slice f.o f.l.length f.c).ownBlock=some k∧0<f.l.length)∨∃r∈f.l,(Value.slice r.oo r.out.length r.oc).ownBlock=some k∧0<r.out.length
theorem vR.oU{w w':World}{f:oG}(h:vR w f){S:Nat→Prop}(k:bV S w w')(hs:∀b,C6 f b→¬S b):vR w' f:=
 ⟨h.out.s5 bF.pos k (fun b h1 h2=>hs b (.inl ⟨h1,h2⟩)),fun r hr=>(h.row r hr).s5 bF.pos k (fun b h1 h2=>hs b (.inr ⟨r,hr,h1,h2⟩))⟩
theorem vR.lt{w:World}{f:oG}(h:vR w f):∀b,C6 f b→b<w.heap.size:=by
 rintro b (⟨h1,h2⟩|⟨r,hr,h1,h2⟩)
 ·exact h.out.s7 bF.pos h2 b h1
 ·exact(h.row r hr).s7 bF.pos h2 b h1
@[irreducible] def ed (f : oG) : Chunk where
 holds w:=vR w f
 cO:=C6 f
 bB:=false
 kY k hs h:=h.oU k hs
 lt h:=h.lt
theorem DV{w:World}{f:oG}:(ed f).holds w↔vR w f:=by unfold ed;exact Iff.rfl
theorem IG{f:oG}{k:Nat}:(ed f).cO k↔C6 f k:=by unfold ed;exact Iff.rfl
theorem IF{f:oG}:(ed f).bB=false:=by unfold ed;rfl
theorem P7{l:List rB}{k:Nat}(hk:k<l.length):l.getD k default∈l:=by
 rw[Jd,Je hk];exact fB hk
section
variable{f:oG}{L L':List Chunk}{w:World}
theorem Mem.IE(t:Take (ed f) L L')(h:Mem w L):Mem w (rd f.o f.l.length f.c jE f.l::L):=
 h.dup t fP (kA.2 ⟨(DV.1 (h.has t)).out,rfl⟩) (fun b hb=>IG.2 (.inl (j9.1 hb))) IF
theorem Mem.P6{k:Nat}(hk:k<f.l.length)(t:Take (ed f) L L')(h:Mem w L):Mem w (rd (f.l.getD k default).oo (f.l.getD k default).out.length (f.l.getD k default).oc aT (f.l.getD k default).out::L):=
 h.dup t fP (kA.2 ⟨(DV.1 (h.has t)).row _ (P7 hk),rfl⟩) (fun b hb=>IG.2 (.inr ⟨_,P7 hk,j9.1 hb⟩)) IF
end
theorem aAc{w:World}{L F:List Chunk}{f:oG}{e:TypeId}(tk:aQ [arr f.o f.l.length f.c e jE f.l,aR (f.l.map pT)] L F)(h:Mem w L):Mem w (ed f::F):=by
 have ht:=h.aS tk;have a1:=fH.1 (ht.all _ (.head _));have a2:=pP.1 (ht.all _ (.tail _ (.head _)));have hrow:∀r∈f.l,(pT r).holds w:=fun r hr=>a2.1.all _ (fD.2 ⟨r,hr,rfl⟩)
 refine Mem.xK tk h (DV.2 ⟨a1.1.row bF.pos,fun r hr=>(fH.1 (hrow r hr)).1.row bF.pos⟩) IF (fun b hb=>?_);rcases IG.1 hb with⟨h1,h2⟩|⟨r,hr,h1,h2⟩
 ·exact⟨_, .head _,fS.2 ⟨h1,vV h2 a1.1.le⟩⟩
 ·exact⟨_, .tail _ (.head _),wI.2 ⟨_,fD.2 ⟨r,hr,rfl⟩,fS.2 ⟨h1,vV h2 (fH.1 (hrow r hr)).1.le⟩⟩⟩
abbrev jD.el(r:jD):oG:=⟨r.eo,r.ec,r.ends⟩
abbrev jD.fl(r:jD):FL:=⟨r.wo,r.wc,r.rows⟩
theorem X8{w:World}{L F:List Chunk}(r:jD)(t:aQ r.mem L F)(h:Mem w L):Mem w (ed r.el::fd r.fl::F):=by
 have h1:Mem w (r.mem ++F):=h.aS t;have h2:=aAc (f:=r.el) (e:=46) (L:=r.mem ++F) (by exact .cons .head (.cons .head .nil)) h1;have h3:=DX (f:=r.fl) (t:=2) (e:=39) (by exact .cons (.tail .head) (.cons (.tail .head) .nil)) h2;exact h3.aS (by exact .cons (.tail .head) (.cons .head .nil))
attribute [local irreducible] aE aB End aA Still aM aP RunT Fn aO
end
theorem SF{w:World}{L F:List Chunk}(m:ML)(t:Take (aR (s9 m)) L F)(h:Mem w L):Mem w (md m::F):=by
 have hb:=pP.1 (h.has t);have a1:=fH.1 (hb.1.all _ (.head _));have a2:=fH.1 (hb.1.all _ (.tail _ (.head _)));have l1:=a1.1.le;have l2:=a2.1.le;have hm:∀x∈m.us,∀c∈mL x,c∈s9 m:=fun x hx c hc=> .tail _ (.tail _ (wA.2 ⟨x,hx,hc⟩))
 refine Mem.xK (.cons t .nil) h (nW.2 ⟨a1.1.row bF.pos,a2.1.row bF.pos,fun x hx=>(fH.1 (hb.1.all _ (hm x hx _ (.head _)))).1.row bF.pos,fun x hx=>(fH.1 (hb.1.all _ (hm x hx _ (.tail _ (.head _))))).1.row bF.pos⟩) m9 (fun b hf=>⟨_, .head _,wI.2 ?_⟩);rw[EV]at hf;rcases hf with⟨h,h0⟩|⟨h,h0⟩|⟨x,hx,⟨h,h0⟩|⟨h,h0⟩⟩
 ·exact⟨_, .head _,fS.2 ⟨h,by omega⟩⟩
 ·exact⟨_, .tail _ (.head _),fS.2 ⟨h,by omega⟩⟩
 ·have:=(fH.1 (hb.1.all _ (hm x hx _ (.head _)))).1.le;exact⟨_,hm x hx _ (.head _),fS.2 ⟨h,by omega⟩⟩
 ·have:=(fH.1 (hb.1.all _ (hm x hx _ (.tail _ (.head _))))).1.le;exact⟨_,hm x hx _ (.tail _ (.head _)),fS.2 ⟨h,by omega⟩⟩
theorem SI{t:aF}{m:ML}(h:Fr.module t=some m.aC):m.Wf:=by
 obtain⟨h1,h2⟩:=Fr.aCy h;refine⟨h1,fun x hx=>?_⟩;have:=h2 x.u (lO hx);exact⟨this.kind,this.params,this.locals,this.result,this.aS,this.code⟩
theorem Mem.aE8{w:World}{L:List Chunk}{α:Type} [Inhabited α](f:α→List Value) [bF f](h:Mem w L):Mem w (rd none 0 0 f []::L):=
 Mem.xK (pre:=[]) (F:=L) .nil h (kA.2 ⟨⟨by simp,by simp,none,0,rfl,cG _,fun h=>by simp at h⟩,rfl⟩) fP (fun b hb=>by
  exact absurd (j9.1 hb).2 (Nat.lt_irrefl 0))
def HA:aF:=[98,111,120,32,98,32,110,117,109,32,49,32,59,32,116,97,115,107,32,97,32,123,32,115,101,110,100,32,98,32,55,32,59,32,125,32,116,97,115,107,32,99,32,123,32,111,117,116,32,114,101,99,118,32,40,32,98,32,41,32,43,32,49,32,59,32,125]
def wF:ImgM.aG:=⟨[(1,1)],[⟨4,0,[],0,0,[⟨1,0,7⟩,⟨26,0,0⟩,⟨25,0,0⟩]⟩,⟨4,0,[],0,0,[⟨27,0,0⟩,⟨1,0,1⟩,⟨8,0,0⟩,⟨28,0,0⟩,⟨25,0,0⟩]⟩]⟩
theorem HB:Fr.module HA=some wF:=by kernel_rfl
theorem OM:(Vm.settled wF [] 3).map (fun c=>(c.looked wF).ts.map vG)=some [(4,0,0,[]),(4,0,0,[8])]:=by kernel_rfl
theorem YV:Vm.kD wF [] 3=0:=by
 have h:Ver.verify wF= .ok:=by kernel_rfl
 have hs:=OM;have hw:Vm.lZ wF ([]:List (Int×Int)).length=0:=by unfold Vm.lZ;rw[h];rfl
 unfold Vm.kD;rw[hw,if_neg (fun h=>h rfl),if_neg (by omega),if_neg];intro h;rw[h]at hs
 cases hs
section
theorem Mem.T6{w:World}{L:List Chunk}(h:Mem w L):Mem w (FI ⟨none,0,[]⟩::L):=Mem.aE8 FH h
attribute [local irreducible] aE aB End aA Still aM aP RunT Fn aO
attribute [local irreducible] Fr.module Vm.kD Vm.settled
set_option maxHeartbeats 1000000 in
theorem YW:Fn Tryz.prog 6 #[] [bN] [] (σ:=Unit) (fun _=>True) (fun _=> .bool true) (fun _=>[]):=by
 refine Fn.enter (args:=[]) Tryz.func6 rfl _ Tryz.ntmps6 rfl (by simp[I1]) (fun w S=>?_);(refine Jn ?_)
 repeat(refine Fm ?_)
 refine FQ (SG HA (by decide)) ?_;intro r hr;refine Jn ?_;obtain⟨m,ok⟩:=r;have hok:ok=true∧m.aC=wF:=by
  rcases hr with⟨h1,h2⟩|⟨h1,h2⟩
  ·rw[HB]at h2;exact⟨h1,(uB h2).symm⟩
  ·rw[HB]at h2;cases h2
 have hwf:m.Wf:=SI (t:=HA) (HB.trans (by rw[hok.2]));obtain⟨rfl,hm⟩:=hok;clear hr
 repeat(refine Fm ?_;try intro b)
 obtain⟨mb,rfl⟩:∃x,x=b:=⟨_,rfl⟩;apply aE.imp' (fun w hm=>Mem.T6 (SF m (by exact tk) hm));have he:Vm.kD m.aC [] 3=0:=by rw[hm];exact YV
 have hsp:=VN m hwf ⟨none,0,[]⟩ 3;rw[show Vm.kD m.aC (x3.l ⟨none,0,[]⟩) 3=0 from he]at hsp;(refine Jc ?_;refine aA.aZ (spec:=hsp) (r:=(fun w=>Reads.md (tk) (Reads.rd (tk) .nil))) (k:=?_);intro s hs;(refine Jn ?_));obtain⟨r,rfl⟩:∃x,x=s:=⟨_,rfl⟩;unfold DF at hs;rw[if_pos he]at hs;obtain⟨c,hc,hI⟩:=hs;have h2:r.ends.map qL=[(4,0,0,[]),(4,0,0,[8])]:=by
  rw[hI.ends];have:=OM;rw[←hm,show Vm.settled m.aC [] 3=some c from hc]at this;exact uB this
 have h4:r.ends.length=2:=by have:=congrArg List.length h2;simpa using this
 have h6:qL (r.ends.getD 1 default)=(4,0,0,[8]):=by
  have h:(r.ends.map qL)[1]?=some (4,0,0,[8]):=by rw[h2];rfl
  rw[JU]at h;rw[Jd]
  cases hx:r.ends[1]? with
  |none=>rw[hx]at h;cases h
  |some x=>rw[hx]at h;simpa using h
 clear hI h2 hc hsp hwf hm he;simp only[qL,wD]at h6;obtain⟨k1,k2,k3,k4⟩:=h6;apply aE.imp' (fun w hm=>show Mem w (rd (r.ends.getD 1 default).oo (r.ends.getD 1 default).out.length (r.ends.getD 1 default).oc aT (r.ends.getD 1 default).out::rd r.eo r.ends.length r.ec jE r.ends::_)from Mem.P6 (f:=r.el) (k:=1) (by show 1<r.ends.length;omega) (.tail .head) (Mem.IE (f:=r.el) .head (X8 r (aK) hm)))
 repeat(refine Jy ?_;try intro b)
 apply aE.imp' (fun w hm=>Mem.mJ (b:=b) (e:=2) (f:=aT) (n:=1) hm (tk) [8] rfl rfl (by unfold maxLen;simp));(refine Jc ?_;refine aA.aZ (spec:=VE ⟨(r.ends.getD 1 default).oo,(r.ends.getD 1 default).oc,(r.ends.getD 1 default).out⟩ ⟨some ⟨b,0,none⟩,1,[8]⟩ k4) (r:=(fun w=>Reads.rd (tk) (Reads.arr (tk) .nil))) (k:=?_);intro s hs;(refine Jn ?_))
 repeat(refine Jy ?_)
 (refine End.aH (()) (he:=Jv) (hp:=?_));trivial
end
theorem QB{α:Type} [Inhabited α]{l l':List α}{k:Nat}(h:l.take k=l'.take k)(h1:k<l.length)(h2:k<l'.length)(he:l.getD k default=l'.getD k default):l.take (k+1)=l'.take (k+1):=by
 rw[mI h1,mI h2,h,he]
theorem QA{α:Type}{l l':List α}(hl:l.length=l'.length)(h:l.take l.length=l'.take l.length):l=l':=by
 rw[l4,hl,l4]at h;exact h
attribute [local irreducible] aE aB End aA Still aM aP RunT Fn aO
theorem aFP(a b:Rw):Fn Tryz.prog 21 #[.slice a.o a.l.length a.c, .slice b.o b.l.length b.c] [zJ a,zJ b] [] (σ:=Bool) (fun v=>v=decide (a.l=b.l)) (fun v=> .bool v) (fun _=>[]):=by
 obtain⟨ao,ac,l⟩:=a;obtain⟨bo,bc,l'⟩:=b;dsimp only;refine JE [.slice ao l.length ac, .slice bo l'.length bc] Tryz.func21 Tryz.ntmps21 fun w S=>?_
 (refine Jn ?_);apply aB.fact (l.length≤9223372036854775807) (fun w hm=>(kA.1 (hm.has (c:=rd ao l.length ac aT l) (tk))).1.2.1);intro hn
 by_cases hl:l.length=l'.length
 rotate_left
 ·have hne:¬l=l':=fun e=>hl (by rw[e])
  repeat(refine Jy ?_)
  (refine End.aH (false) (he:=Jv) (hp:=?_));exact(decide_eq_false hne).symm
 repeat(refine Jy ?_)
 refine aB.only ((fun k=>[aI w S,rd ao l.length ac aT l,rd bo l'.length bc aT l']) 0) (aK) ?_;apply aB.loop (σ:=Nat) (fun k=>k≤l.length∧l.take k=l'.take k) (fun k=>[(0, .slice ao l.length ac),(1, .slice bo l'.length bc),(12, .int .i64 (l.length:Int)),(13, .int .i64 (k:Int))]) (fun k=>[aI w S,rd ao l.length ac aT l,rd bo l'.length bc aT l']) (fun k=>l.length-k) 0
 rotate_left
 exact sb;exact aK;intro k hk K1 hK1;(refine Jn ?_)
 rotate_left
 ·exact⟨bP _,rfl⟩
 by_cases hkn:k<l.length
 ·by_cases he:l.getD k default=l'.getD k default
  ·have hnx:=QB hk.2 hkn (by omega) he
   repeat(refine Jy ?_)
   refine End.bK hK1 (k+1) ?_ ?_
   ·exact⟨hkn,hnx⟩
   ·omega
  ·have hne:¬l=l':=fun e=>he (by rw[e])
   clear hK1
   repeat(refine Jy ?_)
   (refine End.aH (false) (he:=Jv) (hp:=?_));exact(decide_eq_false hne).symm
 ·obtain rfl:k=l.length:=by omega
  have heq:=QA hl hk.2;clear hK1
  repeat(refine Jy ?_)
  (refine End.aH (true) (he:=Jv) (hp:=?_));exact(decide_eq_true heq).symm
theorem aFO(f g:FL):Fn Tryz.prog 11 #[f.val,g.val] [fd f,fd g] [] (σ:=Bool) (fun v=>v=decide (f.ws=g.ws)) (fun v=> .bool v) (fun _=>[]):=by
 refine Fn.enter (args:=[f.val,g.val]) Tryz.func11 rfl _ Tryz.ntmps11 rfl (by simp[m6]) (fun w S=>?_);(refine Jn ?_);apply aB.fact (f.l.length≤9223372036854775807∧∀k,k<f.l.length→(f.l.getD k default).l.length≤9223372036854775807) (fun w hm=>(yF.1 (hm.has (tk))).small);intro hfs;apply aB.imp (fun w hm=>Mem.yE (f:=f) (tk) hm);apply aB.imp (fun w hm=>Mem.yE (f:=g) (tk) hm);have hlf:f.ws.length=f.l.length:=by simp
 have hlg:g.ws.length=g.l.length:=by simp
 by_cases hl:f.l.length=g.l.length
 rotate_left
 ·have hne:¬f.ws=g.ws:=fun e=>hl (by rw[←hlf,←hlg,e])
  repeat(refine Jy ?_)
  (refine End.aH (false) (he:=Jv) (hp:=?_));exact(decide_eq_false hne).symm
 repeat(refine Jy ?_)
 refine aB.only ((fun k=>[aI w S,fd f,fd g,rd f.o f.l.length f.c cW f.l,rd g.o g.l.length g.c cW g.l]) 0) (aK) ?_;apply aB.loop (σ:=Nat) (fun k=>k≤f.l.length∧f.ws.take k=g.ws.take k) (fun k=>[(0,f.val),(1,g.val),(12, .int .i64 (f.l.length:Int)),(13, .int .i64 (k:Int))]) (fun k=>[aI w S,fd f,fd g,rd f.o f.l.length f.c cW f.l,rd g.o g.l.length g.c cW g.l]) (fun k=>f.l.length-k) 0
 rotate_left
 exact sb;exact aK;intro k hk K1 hK1;(refine Jn ?_)
 rotate_left
 ·exact⟨bP _,rfl⟩
 by_cases hkn:k<f.l.length
 ·apply aB.imp (fun w hm=>Mem.BG (f:=f) (k:=k) hkn (tk) hm);apply aB.imp (fun w hm=>Mem.BG (f:=g) (k:=k) (by omega) (tk) hm);have ef:f.ws.getD k default=(f.l.getD k default).l:=oT _ _;have eg:g.ws.getD k default=(g.l.getD k default).l:=oT _ _
  repeat(refine Jy ?_)
  (refine JQ (aFP (f.l.getD k default) (g.l.getD k default)) ?_;intro s hs;(refine Jn ?_))
  by_cases he:(f.l.getD k default).l=(g.l.getD k default).l
  ·have hnx:=QB hk.2 (by omega) (by omega) (ef.trans (he.trans eg.symm));rw[decide_eq_true he]at hs;subst hs
   repeat(refine Jy ?_)
   refine End.bK hK1 (k+1) ?_ ?_
   ·exact⟨hkn,hnx⟩
   ·omega
  ·have hne:¬f.ws=g.ws:=fun e=>he (by rw[←ef,←eg,e])
   rw[decide_eq_false he]at hs;subst hs;clear hK1
   repeat(refine Jy ?_)
   (refine End.aH (false) (he:=Jv) (hp:=?_));exact(decide_eq_false hne).symm
 ·obtain rfl:k=f.l.length:=by omega
  have heq:=QA (l:=f.ws) (l':=g.ws) (by omega) (by rw[hlf];exact hk.2);clear hK1
  repeat(refine Jy ?_)
  (refine End.aH (true) (he:=Jv) (hp:=?_));exact(decide_eq_true heq).symm
end Vw
namespace Vm
open ImgM
variable{M:aG}{told:Bool}
structure Cnt(n:Nat)(q:Int)(e:Int×Nat)(n':Nat):Prop where
 sum:n'=n+e.2
 ok:e.1=0→1≤e.2∧(e.2:Int)≤q
 no:e.1≠0→e.2=0
theorem T0(c:Ma)(p:Int×Int):Cnt c.n p.2 (pick M told c p).1 (pick M told c p).2.n:=by
 unfold pick
 by_cases h1:p.1<0∨(c.ts.length:Int)≤p.1
 ·rw[if_pos h1];exact⟨rfl,(fun h=>by cases h),fun _=>rfl⟩
 ·rw[if_neg h1];refine⟨rfl,?_,?_⟩
  all_goals
   dsimp only;unfold j8
   by_cases h2:p.2<1∨10000<p.2
   ·rw[if_pos h2];simp
   rw[if_neg h2]
   by_cases h3:(look (bJ M (e7 told p.1.toNat)) M (c.at_ p.1.toNat)).1.st≠1
   ·rw[if_pos h3];simp
   rw[if_neg h3];have hle:=I3 (V:=bJ M (e7 told p.1.toNat)) (M:=M) (min p.2.toNat (20000-c.n)) (look (bJ M (e7 told p.1.toNat)) M (c.at_ p.1.toNat))
   by_cases h4:(goN (bJ M (e7 told p.1.toNat)) M (min p.2.toNat (20000-c.n)) (look (bJ M (e7 told p.1.toNat)) M (c.at_ p.1.toNat))).1=0
   ·rw[if_pos h4];simp
   ·rw[if_neg h4];dsimp only;intro h;omega
structure Rel(c c':Ma):Prop where
 bs:c.bs=c'.bs
 n:c.n=c'.n
 len:c.ts.length=c'.ts.length
 ts:∀k,k<c.ts.length→C4 (c.ts.getD k default) (c'.ts.getD k default)
theorem aCV{ν:Type}(V:Env ν)(r:Tk×ν):C4 (look V M r).1 r.1:=by
 have key:r.1.st≤3→∀a b:Int,a≤3→C4 {r.1 with st:=a,bx:=b} r.1:=fun h a b ha=> .inr ⟨ha,r.1.st,r.1.bx,h,rfl⟩
 unfold look waits
 by_cases h3:r.1.st≤3
 ·rw[if_pos h3]
  split
  ·exact key h3 _ _ (by decide)
  ·split
   ·exact key h3 _ _ (by decide)
   ·exact key h3 _ _ (by decide)
 ·rw[if_neg h3];exact .inl rfl
theorem wR{l:List Tk}{j k:Nat}{t:Tk}(hj:j<l.length):(l.set j t).getD k default=if j=k then t else l.getD k default:=by
 simp only[Jd,pI]
 by_cases h:j=k
 ·subst h;rw[if_pos rfl,if_pos hj,if_pos rfl];rfl
 ·rw[if_neg h,if_neg h]
end Vm
namespace Vm
open ImgM Ver Opt
abbrev bZ(M:aG):List Tk:=(tasks M).map (new M)
def N8(M:aG)(ws:List (List Int))(e:Ev):Prop:=
 (e.1=2→0≤e.2.1∧e.2.1.toNat<M.boxes.length∧(ws.getD e.2.1.toNat []).length+1≤fT M e.2.1.toNat)∧(e.1=3→0≤e.2.1∧e.2.1.toNat<M.boxes.length∧(ws.getD e.2.1.toNat []).length≠0∧(ws.getD e.2.1.toNat []).headD 0=e.2.2)
theorem FZ{α:Type}{a e:α}{p q:List α}(h:[a]=p ++e::q):p=[]∧e=a:=by
 cases p with
 |nil=>simp at h;exact⟨rfl,h.1.symm⟩
 |cons b p=>simp at h
theorem aFw{α:Type}{a b e:α}{p q:List α}(h:[a,b]=p ++e::q):(p=[]∧e=a)∨e=b:=by
 cases p with
 |nil=>simp at h;exact .inl ⟨rfl,h.1.symm⟩
 |cons c p=>
  simp only[v8,xU]at h;exact .inr (FZ h.2).2
theorem l3.first{i:aY}{x:Int}{t:Tk}{r:Tk×List Ev}(h:l3 i x t r){p q:List Ev}{e:Ev}(he:r.2=p ++e::q):(e.1=2→p=[]∧i.op=26∧e.2.1=i.a)∧(e.1=3→p=[]∧i.op=27∧e.2.1=i.a∧e.2.2=x):=by
 rcases h.ex with⟨t1,l1,h1, -, -, -,h5⟩|⟨ho,h1, -⟩
 ·have h2:r.2=l1∨∃n,r.2=l1 ++[(5,0,n)]:=by
   rcases h1 with⟨e, -⟩|⟨e, -⟩
   ·exact .inl e
   ·exact .inr ⟨_,e⟩
  have one:∀a:Ev,l1=[a]→(e.1=2∨e.1=3)→p=[]∧e=a:=fun a ha hk=>by
   subst ha;rcases h2 with h2|⟨n,h2⟩
   ·rw[he]at h2;exact FZ h2.symm
   ·rw[he]at h2;rcases aFw h2.symm with h|h
    ·exact h
    ·rw[h]at hk;simp at hk
  rcases h5 with⟨rfl, -, -⟩|⟨ho,hl⟩|⟨ho,hl⟩|⟨ho,hl⟩|⟨ho,hl⟩
  ·have no:¬(e.1=2∨e.1=3):=fun hk=>by
    rcases h2 with h2|⟨n,h2⟩
    ·rw[he]at h2;simp at h2
    ·rw[he]at h2;obtain⟨-,h⟩:=FZ (h2.symm:[(5,0,n)]=p ++e::q);rw[h]at hk;simp at hk
   exact⟨fun h=>absurd (.inl h) no,fun h=>absurd (.inr h) no⟩
  all_goals
   refine⟨fun hk=>?_,fun hk=>?_⟩
   ·obtain⟨a1,rfl⟩:=one _ hl (.inl hk)
    first
     |exact⟨a1,ho,rfl⟩
     |(simp at hk)
   ·obtain⟨a1,rfl⟩:=one _ hl (.inr hk)
    first
     |exact⟨a1,ho,rfl,rfl⟩
     |(simp at hk)
 ·rw[he]at h1;obtain⟨-,rfl⟩:=FZ h1.symm;exact⟨fun h=>by simp at h,fun h=>by simp at h⟩
structure Stood(M:aG)(told:Bool)(c:Ma)(xs:Nat→List Int):Prop where
 runs:gV M (fT M) (bZ M) c.n xs c.bs.ws
 len:c.ts.length=(bZ M).length
 tk:∀k,k<(bZ M).length→bQ (c.ts.getD k default)=bI M ((bZ M).getD k default) (xs k)
 log:told=true→(∀k:Nat,((c.bs.log.filter fun e=>decide (e.1=k)).map (·.2))=if k<(bZ M).length then dD M ((bZ M).getD k default) (xs k)else [])∧(c.bs.log.map (·.2)).foldl rA (List.replicate M.boxes.length [])=c.bs.ws
 aHl:told=true→∀s r,AZ M (bZ M) s r→∀p e q,c.bs.log.map (·.2)=p ++e::q→N8 M (p.foldl rA (List.replicate M.boxes.length [])) e
section
variable{M:aG}{told:Bool}{c:Ma}{xs:Nat→List Int}
theorem SZ(M:aG)(u:Nat):bQ (new M u)=new M u:=by
 unfold bQ;rw[if_pos (show(new M u).st≤3 from(by decide:(1:Int)≤3))];rfl
theorem CQ{k:Nat}(hk:k<(bZ M).length):(bZ M).getD k default=new M ((tasks M).getD k 0):=by
 have hk':k<(tasks M).length:=by simpa using hk
 rw[Jd,JU,Je hk',Jd,Je hk'];rfl
theorem Stood.init(M:aG)(told:Bool):Stood M told (Ma.init M) (fun _=>[]):=by
 refine⟨gV.nil,rfl,fun k hk=>?_,fun _=>⟨fun k=>?_,rfl⟩,fun _ s r _ p e q h=>by simp[Ma.init]at h⟩
 ·show bQ ((bZ M).getD k default)=(bZ M).getD k default;rw[CQ hk];exact SZ M _
 ·show []=_
  split<;>rfl
theorem aD2{t t':Tk}(h:C4 t t'):bQ t=bQ t':=by
 rcases h with rfl|⟨h3,a,b,ha,rfl⟩
 ·rfl
 ·unfold bQ;rw[if_pos h3,if_pos (show({t with st:=a,bx:=b}:Tk).st≤3 from ha)]
theorem uV{ν:Type}(V:Env ν)(r:Tk×ν):bQ (look V M r).1=bQ r.1:=aD2 (aCV V r)
theorem kV{M:aG}(t:Tk):aV M (bQ t)=aV M t:=by
 unfold bQ
 split<;>rfl
theorem L7(M:aG)(k:Option Nat):∀(l:List Ev) (s:Bs),(l.foldl (gB (bJ M k)) s).ws=l.foldl rA s.ws
 |[],s=>rfl
 |e::l,s=>by
  simp only[List.foldl_cons];rw[L7 M k l];congr 1;have tl:∀(s:Bs) e,((bJ M k).tell s e).ws=s.ws:=fun s e=>by cases k<;>rfl
  unfold gB rA
  split
  ·rw[tl];rfl
  ·split
   ·rw[tl];rfl
   ·rw[tl]
theorem FJ(M:aG)(k:Nat):∀(l:List Ev) (s:Bs),(l.foldl (gB (bJ M (some k))) s).log=s.log ++l.map (fun e=>(k,e))
 |[],s=>by simp
 |e::l,s=>by
  simp only[List.foldl_cons];rw[FJ M k l];have:(gB (bJ M (some k)) s e).log=s.log ++[(k,e)]:=by
   unfold gB
   split
   ·rfl
   ·split<;>rfl
  rw[this];simp
theorem E4(k:Nat):∀l:List Ev,(l.map fun e=>(k,e)).map (·.2)=l
 |[]=>rfl
 |a::l=>by simp only[eG,E4 k l]
theorem V2{k:Option Nat}{t:Tk}{s:Bs}(h:(look (bJ M k) M (t,s)).1.st=1):
  Can M (fT M) (bQ t) s.ws∧(step (bJ M k) M (t,s)).1=true∧bQ (step (bJ M k) M (t,s)).2.1=(iC M (fL M (bQ t) s.ws) (bQ t)).1∧(step (bJ M k) M (t,s)).2.2=(iC M (fL M (bQ t) s.ws) (bQ t)).2.foldl (gB (bJ M k)) s:=by
 obtain⟨h3,h26,h27⟩:=R4 h;dsimp only at h3 h26 h27;have hn:bQ t={t with st:=1,bx:=0}:=by unfold bQ;rw[if_pos h3]
 have hl:look (bJ M k) M (t,s)=(bQ t,s):=by rw[hn];exact KP h3 h26 h27
 have hx:nT (bJ M k) M (t,s)=fL M (bQ t) s.ws:=by
  unfold nT fL cL;rw[kV];rfl
 refine⟨⟨by rw[hn],fun ho=>?_,fun ho=>?_⟩,?_⟩
 ·rw[kV]at ho;have:=h26 ho;unfold cL;rw[kV];exact of_decide_eq_false this
 ·rw[kV]at ho;have:=h27 ho;unfold cL;rw[kV];exact of_decide_eq_false this
 ·rw[vB _ M h,hl,hx];refine⟨rfl,?_,?_⟩
  ·dsimp only;rw[uV];rfl
  ·dsimp only;rw[kT];rfl
theorem aF2{l:List Tk}{k:Nat}(hk:k<l.length):l.set k (l.getD k default)=l:=by
 refine mT (by simp) fun j h1 h2=>?_
 rw[tZ]
 split
 ·rename_i e;subst e;rw[Jd,Je h2];rfl
 ·rfl
theorem Stood.seen{k:Nat}{t t':Tk}{ts:List Tk}{s:Bs}{n:Nat}(hk:k<ts.length)(h:Stood M told ⟨ts.set k t,s,n⟩ xs)(e:bQ t'=bQ t):Stood M told ⟨ts.set k t',s,n⟩ xs:=by
 obtain⟨h1,h2,h3,h4,h5⟩:=h;refine⟨h1,by simpa using h2,fun j hj=>?_,h4,h5⟩;have:=h3 j hj;dsimp only at this⊢;rw[wR hk]at this⊢
 by_cases ejk:k=j
 ·subst ejk;rw[if_pos rfl]at this⊢;rw[e];exact this
 ·rw[if_neg ejk]at this⊢;exact this
theorem QQ{so ro:Nat→Nat}(ho:AZ M (bZ M) so ro){n k:Nat}{ws ws':List (List Int)}(g1:gV M (fT M) (bZ M) n xs ws)(hkT:k<(bZ M).length)(hc:Can M (fT M) (bI M ((bZ M).getD k default) (xs k)) ws)(hws:ws'=ws){p' q:List Ev}{e:Ev}(he:(iC M (fL M (bI M ((bZ M).getD k default) (xs k)) ws) (bI M ((bZ M).getD k default) (xs k))).2=p' ++e::q):N8 M (p'.foldl rA ws') e:=by
 subst hws;have hrng:=ho.kB g1 k hkT hc.st;have hfit:=g1.fit ho;obtain⟨f2,f3⟩:=(wW M (x:=fL M (bI M ((bZ M).getD k default) (xs k)) ws') (t:=bI M ((bZ M).getD k default) (xs k)) (by have:=hc.st;omega)).first he;have h2:=hc.send;have h3:=hc.recv;have hx:(aV M (bI M ((bZ M).getD k default) (xs k))).op=27→fL M (bI M ((bZ M).getD k default) (xs k)) ws'=(ws'.getD (cL M (bI M ((bZ M).getD k default) (xs k))) []).headD 0:=fun h=>by unfold fL;rw[if_pos h]
 generalize bI M ((bZ M).getD k default) (xs k)=u at *;unfold cL at *;refine⟨fun h=>?_,fun h=>?_⟩
 ·obtain⟨rfl,ho,ha⟩:=f2 h;obtain⟨r1,r2⟩:=hrng (.inl ho);rw[ha];have h4:=h2 ho;have h5:=hfit _ r2;show 0≤_∧_∧(ws'.getD _ []).length+1≤_;exact⟨r1,r2,by omega⟩
 ·obtain⟨rfl,ho,ha,hv⟩:=f3 h;obtain⟨r1,r2⟩:=hrng (.inr ho);rw[ha,hv];exact⟨r1,r2,h3 ho,(hx ho).symm⟩
theorem Stood.aG2{k:Nat}{t:Tk}{ts:List Tk}{s:Bs}{n:Nat}(hk:k<ts.length)(h:Stood M told ⟨ts.set k t,s,n⟩ xs)(hs:(look (bJ M (e7 told k)) M (t,s)).1.st=1):
  ∃xs',Stood M told ⟨ts.set k (step (bJ M (e7 told k)) M (t,s)).2.1,(step (bJ M (e7 told k)) M (t,s)).2.2,n+1⟩ xs':=by
 obtain⟨hc,h1,h2,h3⟩:=V2 hs;obtain⟨g1,g2,g3,g4,g5⟩:=h;have hkT:k<(bZ M).length:=by rw[←g2];simpa using hk
 have hu:=g3 k hkT;dsimp only at g1 g2 g3 g4 hu;rw[wR hk,if_pos rfl]at hu;rw[hu]at hc h2 h3;refine⟨fun j=>if j=k then xs k ++[fL M (bI M ((bZ M).getD k default) (xs k)) s.ws]else xs j,⟨?_,by simpa using g2,fun j hj=>?_,fun ht=>?_,fun ht so ro ho p e q hpe=>?_⟩⟩
 ·have:=gV.step g1 hkT hc;dsimp only;rw[h3,L7];exact this
 ·have:=g3 j hj;dsimp only at this⊢;rw[wR hk]at this⊢
  by_cases ejk:k=j
  ·subst ejk;rw[if_pos rfl,if_pos rfl,h2,yV]
  ·rw[if_neg ejk]at this;rw[if_neg ejk,if_neg (fun e=>ejk e.symm)];exact this
 ·obtain⟨l1,l2⟩:=g4 ht;have hto:e7 told k=some k:=by unfold e7;rw[if_pos ht]
  rw[hto]at h3⊢;dsimp only;refine⟨fun j=>?_,?_⟩
  ·rw[h3,FJ,oH,Jq,l1 j]
   by_cases ejk:j=k
   ·subst ejk;rw[if_pos hkT,if_pos hkT,if_pos rfl,yQ];congr 1;rw[List.filter_eq_self.2 (by intro a ha;obtain⟨e, -,rfl⟩:=fD.1 ha;simp),E4]
   ·have:(((iC M (fL M (bI M ((bZ M).getD k default) (xs k)) s.ws) (bI M ((bZ M).getD k default) (xs k))).2.map fun e=>(k,e)).filter fun e=>decide (e.1=j))=[]:=by
     rw[List.filter_eq_nil_iff];intro a ha;obtain⟨e, -,rfl⟩:=fD.1 ha;simpa using fun h=>ejk h.symm
    rw[this,if_neg ejk];simp
  ·rw[h3,FJ,L7,Jq,E4,vZ,l2]
 ·obtain⟨l1,l2⟩:=g4 ht;have hto:e7 told k=some k:=by unfold e7;rw[if_pos ht]
  rw[hto]at h3 hpe;dsimp only at hpe;rw[h3,FJ,Jq,E4]at hpe;rcases List.append_eq_append_iff.1 hpe.symm with⟨p',hp1,hp2⟩|⟨p',hp1,hp2⟩
  ·cases p' with
   |nil=>
    rw[eH]at hp1;exact QQ ho g1 hkT hc (by rw[←hp1,l2]) (p':=[]) hp2.symm
   |cons a p''=>
    simp only[v8,xU]at hp2;obtain⟨rfl, -⟩:=hp2;exact g5 ht so ro ho p e p'' hp1
  ·rw[hp1,vZ,l2];exact QQ ho g1 hkT hc rfl hp2
theorem Stood.goes{k:Nat}{ts:List Tk}(hk:k<ts.length):∀(f:Nat) {t:Tk} {s:Bs} {n:Nat} {xs:Nat→List Int},Stood M told ⟨ts.set k t,s,n⟩ xs→
  ∃xs',Stood M told ⟨ts.set k (goN (bJ M (e7 told k)) M f (t,s)).2.1,(goN (bJ M (e7 told k)) M f (t,s)).2.2,n+(goN (bJ M (e7 told k)) M f (t,s)).1⟩ xs'
 |0,t,s,n,xs,h=>⟨xs,h⟩
 |f+1,t,s,n,xs,h=>by
  unfold goN
  by_cases hs:(look (bJ M (e7 told k)) M (t,s)).1.st=1
  ·obtain⟨xs',h'⟩:=h.aG2 hk hs;have e1:(Vm.step (bJ M (e7 told k)) M (t,s)).1=true:=by rw[vB _ M hs]
   rw[if_pos e1];obtain⟨xs2,h2⟩:=Stood.goes hk f h';refine⟨xs2,?_⟩;dsimp only at h2⊢;rw[Nat.add_comm (goN _ _ _ _).1 1,←Nat.add_assoc];exact h2
  ·have e1:=zQ (bJ M (e7 told k)) M hs;rw[e1,if_neg (by simp)];refine⟨xs,?_⟩;have:=h.seen hk (uV (M:=M) (bJ M (e7 told k)) (t,s));dsimp only;rw[kT];exact this
theorem Stood.T1(h:Stood M told c xs)(p:Int×Int):∃xs',Stood M told (pick M told c p).2 xs':=by
 unfold Vm.pick
 by_cases h1:p.1<0∨(c.ts.length:Int)≤p.1
 ·rw[if_pos h1];exact⟨xs,h⟩
 ·rw[if_neg h1];have hk:p.1.toNat<c.ts.length:=by omega
  have h0:Stood M told ⟨c.ts.set p.1.toNat (c.ts.getD p.1.toNat default),c.bs,c.n⟩ xs:=by rw[aF2 hk];exact h
  dsimp only;unfold j8 Ma.at_
  by_cases h2:p.2<1∨10000<p.2
  ·rw[if_pos h2];exact⟨xs,h0⟩
  rw[if_neg h2];have hL:=h0.seen hk (uV (M:=M) (bJ M (e7 told p.1.toNat)) (c.ts.getD p.1.toNat default,c.bs))
  by_cases h3:(look (bJ M (e7 told p.1.toNat)) M (c.ts.getD p.1.toNat default,c.bs)).1.st≠1
  ·rw[if_pos h3];refine⟨xs,?_⟩;dsimp only;rw[kT];exact hL
  rw[if_neg h3];have hL2:(look (bJ M (e7 told p.1.toNat)) M (c.ts.getD p.1.toNat default,c.bs))=((look (bJ M (e7 told p.1.toNat)) M (c.ts.getD p.1.toNat default,c.bs)).1,c.bs):=oK rfl (kT _ M _);obtain⟨xs',hg⟩:=Stood.goes hk (min p.2.toNat (20000-c.n)) hL;rw[←hL2]at hg;refine⟨xs',?_⟩;dsimp only
  by_cases h4:(Vm.goN (bJ M (e7 told p.1.toNat)) M (min p.2.toNat (20000-c.n)) (look (bJ M (e7 told p.1.toNat)) M (c.ts.getD p.1.toNat default,c.bs))).1=0
  ·rw[if_pos h4];rw[h4]at hg;exact hg
  ·rw[if_neg h4];exact hg
theorem Stood.T2:∀(l:List (Int×Int)) {c:Ma} {xs:Nat→List Int},Stood M told c xs→∃xs',Stood M told (fW M told l c).2 xs'
 |[],c,xs,h=>⟨xs,h⟩
 |p::l,c,xs,h=>by
  obtain⟨xs',h'⟩:=h.T1 p;exact Stood.T2 l h'
theorem Stood.KQ(h:Stood M told c xs):Stood M told (c.looked M) xs:=by
 obtain⟨g1,g2,g3,g4,g5⟩:=h;refine⟨g1,by simpa[Ma.looked]using g2,fun k hk=>?_,g4,g5⟩;rw[←g3 k hk];have hk':k<c.ts.length:=by omega
 unfold Ma.looked;dsimp only;rw[Jd,JU,Je hk',Jd,Je hk'];exact uV _ _
theorem wV{k:Nat}(hk:k<c.ts.length):(c.looked M).ts.getD k default=(look (bJ M none) M (c.ts.getD k default,c.bs)).1:=by
 unfold Ma.looked;dsimp only;rw[Jd,JU,Je hk,Jd,Je hk];rfl
theorem Z1{t:Tk}{s:Bs}(hc:Can M (fT M) (bQ t) s.ws):look (bJ M none) M (t,s)=(bQ t,s):=by
 have h3:t.st≤3:=by
  have:=hc.st;unfold bQ at this
  by_cases h:t.st≤3
  ·exact h
  ·rw[if_neg h]at this;omega
 have hn:bQ t={t with st:=1,bx:=0}:=by unfold bQ;rw[if_pos h3]
 rw[hn];refine KP h3 (fun ho=>decide_eq_false ?_) (fun ho=>decide_eq_false ?_)
 ·have:=hc.send (by rw[kV];exact ho);unfold cL at this;rw[kV]at this;exact this
 ·have:=hc.recv (by rw[kV];exact ho);unfold cL at this;rw[kV]at this;exact this
theorem Stood.rest(h:Stood M told c xs)(hr:(c.looked M).ready=[]):Rest M (fT M) (bZ M) xs c.bs.ws:=by
 intro k hk hc;have hk':k<c.ts.length:=by rw[h.len];exact hk
 rw[←h.tk k hk]at hc;have hl:=Z1 hc;have hm:k∈(c.looked M).ready:=by
  unfold Ma.ready;rw[lP,nN];refine⟨by simpa[Ma.looked]using hk',?_⟩;rw[JV,wV hk',hl];exact hc.st
 rw[hr]at hm
 cases hm
end
section
variable{M:aG}{T:Nat→Int→Option Shape}
theorem aDU{l:List Nat}(h:l≠[])(last:Int):lG l last∈l:=by
 unfold lG
 cases hf:l.find? (fun k:Nat=>decide (last<(k:Int)))with
 |some x=>exact AR hf
 |none=>
  cases l with
  |nil=>exact absurd rfl h
  |cons a r=>exact gU
theorem aEB{ν:Type}{V:Env ν}{n:Nat}{q:Int}{r:Tk×ν}(h1:1≤q)(h2:q≤10000)(hn:n<20000)(hs:(look V M r).1.st=1):(j8 V M n q r).1.1=0:=by
 unfold j8;rw[if_neg (by omega),if_neg (fun h=>h hs)];have:(goN V M (min q.toNat (20000-n)) (look V M r)).1≠0:=by
  cases hm:min q.toNat (20000-n)with
  |zero=>omega
  |succ k=>
   unfold goN;rw[vB V M (by rw[BR];exact hs),if_pos rfl];simp
 rw[if_neg this]
def G3(M:aG):Option Ma→Prop
 |some c=>∃xs,Stood M false c xs∧Rest M (fT M) (bZ M) xs c.bs.ws∧c.n≤20000
 |none=>∃xs ws,gV M (fT M) (bZ M) 20001 xs ws
theorem VM(hC:dF M T){q:Int}(h1:1≤q)(h2:q≤10000):∀(f:Nat) (last:Int) {c:Ma} {xs:Nat→List Int},c.Ok M T→Stood M false c xs→20001≤f+c.n→G3 M (settle M q f last c)
 |0,last,c,xs,hO,hS,hf=>by have:=hO.n;omega
 |f+1,last,c,xs,hO,hS,hf=>by
  rw[show settle M q (f+1) last c=if(c.looked M).ready=[]then some (c.looked M)else if(pick M false (c.looked M) ((lG (c.looked M).ready last:Int),q)).1.1≠0 then none else settle M q f (lG (c.looked M).ready last) (pick M false (c.looked M) ((lG (c.looked M).ready last:Int),q)).2 from rfl]
  by_cases hr:(c.looked M).ready=[]
  ·rw[if_pos hr];exact⟨xs,hS.KQ,hS.rest hr,hO.n⟩
  rw[if_neg hr];have hm:=aDU hr last;generalize lG (c.looked M).ready last=k at *;unfold Ma.ready at hm;rw[lP,nN,JV]at hm;obtain⟨hk,hst⟩:=hm;have hk':k<c.ts.length:=by simpa[Ma.looked]using hk
  have hl:(look (bJ M (e7 false k)) M ((c.looked M).at_ k)).1.st=1:=by
   have e0:e7 false k=none:=rfl;unfold Ma.at_;rw[e0,wV hk'];have e1:((look (bJ M none) M (c.ts.getD k default,c.bs)).1,(c.looked M).bs)=look (bJ M none) M (c.ts.getD k default,c.bs):=oK rfl (kT (bJ M none) M (c.ts.getD k default,c.bs)).symm;rw[e1,BR];rw[wV hk']at hst;exact hst
  have hpk:(pick M false (c.looked M) ((k:Int),q)).1.1=(j8 (bJ M (e7 false k)) M (c.looked M).n q ((c.looked M).at_ k)).1.1:=by
   unfold pick;rw[if_neg (by dsimp only;omega)];rfl
  by_cases he:(pick M false (c.looked M) ((k:Int),q)).1.1≠0
  ·rw[if_pos he];have hn:c.n=20000:=nM fun hn=>he (by
    rw[hpk];exact aEB h1 h2 (by have:=hO.n;show c.n<20000;omega) hl)
   have hS':=hS.KQ;have hkT:k<(bZ M).length:=by rw[←hS.len];exact hk'
   obtain⟨hc, -⟩:=V2 hl;rw[hS'.tk k hkT]at hc;have:=gV.step hS'.runs hkT hc;rw[show(c.looked M).n+1=20001 by show c.n+1=20001;omega]at this;exact⟨_,_,this⟩
  ·rw[if_neg he];have he:=tW.1 he;obtain⟨xs',hS'⟩:=hS.KQ.T1 ((k:Int),q);have hO':=hO.looked.pick hC false ((k:Int),q);have hd:(c.looked M).n+1≤(pick M false (c.looked M) ((k:Int),q)).2.n:=by
    have h1:=(T0 (M:=M) (told:=false) (c.looked M) ((k:Int),q)).sum;have h2:=((T0 (M:=M) (told:=false) (c.looked M) ((k:Int),q)).ok he).1;omega
   have e9:(c.looked M).n=c.n:=rfl;exact VM hC h1 h2 f _ hO' hS' (by omega)
theorem T5(hC:dF M T)(told:Bool):∀(l:List (Int×Int)) {c:Ma},c.Ok M T→(fW M told l c).2.Ok M T
 |[],c,h=>h
 |p::l,c,h=>T5 hC told l (h.pick hC told p)
theorem aF6(hC:dF M T){q:Int}(h1:1≤q)(h2:q≤10000)(ps:List (Int×Int)):G3 M (settle M q 20001 (yO ps (fW M false ps (Ma.init M)).1) (fW M false ps (Ma.init M)).2):=by
 obtain⟨xs,hS⟩:=Stood.T2 ps (Stood.init M false);exact VM hC h1 h2 _ _ (T5 hC false ps (Ma.Ok.init hC)) hS (by omega)
theorem F7:∀(l:List Nat) {f g:Nat→Nat},(∀k,f k≤g k)→(l.map f).sum≤(l.map g).sum
 |[],f,g,h=>cG _
 |a::l,f,g,h=>by
  simp only[eG,List.sum_cons];have:=F7 l h;have:=h a;omega
end
section
variable{M:aG}{T:List Tk}{cap:Nat→Nat}{n:Nat}{ys:Nat→List Int}{us:List (List Int)}
theorem LG(t:Tk):(bQ t).out=t.out:=by unfold bQ;split<;>rfl
end
theorem aCZ{M:aG}{told:Bool}{c:Ma}{xs:Nat→List Int}(h:Stood M told c xs){k:Nat}(hk:k<c.ts.length):((c.looked M).ts.getD k default).out=(bI M ((bZ M).getD k default) (xs k)).out:=by
 rw[wV hk,(uR _ M _).1,←h.tk k (by rw[←h.len];exact hk),LG]
def Lb(t:Tk):Prop:=(t.st=5→t.tr≠0)∧(t.st≠5→t.tr=0)∧t.bx=0
section
variable{x:Int}{M:aG}
theorem zY{n:Int}(hn:n≠0){r:Tk×List Ev}(h:Lb r.1):Lb (dS (rec x) n r).1:=by
 unfold dS
 split
 ·exact h
 ·exact⟨fun _=>hn,fun h5=>absurd rfl h5,h.2.2⟩
theorem n5(v:Int){r:Tk×List Ev}(h:Lb r.1):Lb (push (rec x) v r).1:=by
 unfold push
 split
 ·exact zY (by decide) h
 ·exact h
theorem UG:∀(n:Nat) {r:Tk×List Ev},Lb r.1→Lb (eV (rec x) n r).1
 |0,r,h=>h
 |n+1,r,h=>by unfold eV;exact UG n (n5 0 h)
theorem iB{c:Prop} [Decidable c]{a b:Tk×List Ev}(h1:Lb a.1)(h2:Lb b.1):Lb (if c then a else b).1:=by split<;>assumption
theorem aCG{c:Prop} [Decidable c]{a b:Tk}(h1:Lb a)(h2:Lb b):Lb (if c then a else b):=by split<;>assumption
theorem aCT{i:aY}{t:Tk}(h:Lb t)(h5:t.st≠5):Lb (loc M x i t).1:=by
 have same:∀t':Tk,t'.st=t.st→t'.tr=t.tr→t'.bx=t.bx→Lb t':=fun t' e1 e2 e3=>by unfold Lb;rw[e1,e2,e3];exact h
 unfold loc exec;dsimp only;refine iB (n5 _ h) ?_;refine iB (n5 _ h) ?_;refine iB (n5 _ h) ?_;refine iB (same _ rfl rfl rfl) ?_;refine iB (same _ rfl rfl rfl) ?_;refine iB (n5 _ (same _ rfl rfl rfl)) ?_;refine iB (n5 _ (same _ rfl rfl rfl)) ?_;refine iB (iB (zY (by decide) (same _ rfl rfl rfl)) (n5 _ (same _ rfl rfl rfl))) ?_;refine iB (same _ rfl rfl rfl) ?_;refine iB (aCG (same _ rfl rfl rfl) (same _ rfl rfl rfl)) ?_;refine iB (same _ rfl rfl rfl) ?_;refine iB (n5 _ h) ?_;refine iB (same _ rfl rfl rfl) ?_;refine iB (by unfold rN;exact iB (zY (by decide) h) (UG _ (same _ rfl rfl rfl))) ?_;refine iB (by unfold ret;exact n5 _ (same _ rfl rfl rfl)) ?_;refine iB ?_ ?_
 ·unfold qM;dsimp only
  cases(Vm.cur t).up with
  |none=>exact⟨fun h4=>absurd (show(4:Int)=5 from h4) (by decide),fun _=>h.2.1 h5,h.2.2⟩
  |some j=>exact n5 _ (same _ rfl rfl rfl)
 refine iB (by unfold r0;dsimp only;exact iB (zY (by decide) (same _ rfl rfl rfl)) (n5 _ (same _ rfl rfl rfl))) ?_;refine iB ?_ ?_
 ·unfold tI;dsimp only;refine iB (zY (by decide) (same _ rfl rfl rfl)) ?_;refine iB (zY (by decide) (same _ rfl rfl rfl)) ?_;exact iB (same _ rfl rfl rfl) (n5 _ (same _ rfl rfl rfl))
 refine iB (by unfold xO;dsimp only;exact n5 _ (same _ rfl rfl rfl)) ?_;exact iB (by unfold wG;exact n5 _ (same _ rfl rfl rfl)) h
theorem aD3{t:Tk}(h:Lb t):Lb (bQ t):=by
 unfold bQ
 by_cases h3:t.st≤3
 ·rw[if_pos h3];exact⟨fun h5=>absurd h5 (by show¬(1:Int)=5;decide),fun _=>h.2.1 (by omega),rfl⟩
 ·rw[if_neg h3];exact h
theorem aFB{cap:Nat→Nat}{n:Nat}{xs:Nat→List Int}{ws:List (List Int)}(h:gV M cap (bZ M) n xs ws):∀k,k<(bZ M).length→Lb (bI M ((bZ M).getD k default) (xs k)):=by
 induction h with
 |nil=>
  intro k hk;rw[CQ hk];exact⟨fun h5=>absurd h5 (by show¬(1:Int)=5;decide),fun _=>rfl,rfl⟩
 | @step n j xs ws h hj hc ih=>
  intro k hk
  by_cases e:k=j
  ·subst e;rw[AF,yV];have h1:=hc.st;refine aD3 (aCT ?_ ?_)
   ·exact ih k hk
   ·show(bI M ((bZ M).getD k default) (xs k)).st≠5;omega
  ·rw[AE _ _ e];exact ih k hk
def YT(M:aG)(ws:List (List Int))(st bx tr:Int):Prop:=
 (st=4∧bx=0∧tr=0)∨(st=5∧bx=0∧tr≠0)∨(st=2∧0≤bx∧bx<(M.boxes.length:Int)∧(ws.getD bx.toNat []).length=fT M bx.toNat)∨(st=3∧0≤bx∧bx<(M.boxes.length:Int)∧(ws.getD bx.toNat []).length=0)
theorem aEj{T:Nat→Int→Option Shape}(hC:dF M T)(hR:sP M){c:Ma}{xs:Nat→List Int}(hS:Stood M false c xs)(hr:Rest M (fT M) (bZ M) xs c.bs.ws){k:Nat}(hk:k<c.ts.length):
  YT M c.bs.ws ((c.looked M).ts.getD k default).st ((c.looked M).ts.getD k default).bx ((c.looked M).ts.getD k default).tr:=by
 have hkT:k<(bZ M).length:=by rw[←hS.len];exact hk
 have hg:=(FU hC (o6 M) hS.runs).1 k (by simpa using hkT);have hlb:=aFB hS.runs k hkT;have hrng:=(LV hC hR).kB hS.runs k hkT;have hno:=hr k hkT;have e:=hS.tk k hkT;rw[←e]at hg hlb hno hrng;rw[wV hk];generalize c.ts.getD k default=t at *
 by_cases h3:t.st≤3
 ·have hn:bQ t={t with st:=1,bx:=0}:=by unfold bQ;rw[if_pos h3]
  have hrng':=hrng (by rw[hn]);rw[kV]at hrng';have htr:t.tr=0:=by
   have:=hlb.2.1 (by rw[hn];show¬(1:Int)=5;decide);rw[hn]at this;exact this
  by_cases ha:(aV M t).op=26∧(bJ M none).full c.bs (aV M t).a.toNat=true
  ·have hl:look (bJ M none) M (t,c.bs)=({t with st:=2,bx:=(aV M t).a},c.bs):=by
    unfold look waits;rw[if_pos h3,if_pos ha]
   rw[hl];obtain⟨r1,r2⟩:=hrng' (.inl ha.1);unfold cL at r2;rw[kV]at r2;exact .inr (.inr (.inl ⟨rfl,r1,(by show(aV M t).a<_;omega),of_decide_eq_true ha.2⟩))
  by_cases hb:(aV M t).op=27∧(bJ M none).empty c.bs (aV M t).a.toNat=true
  ·have hl:look (bJ M none) M (t,c.bs)=({t with st:=3,bx:=(aV M t).a},c.bs):=by
    unfold look waits;rw[if_pos h3,if_neg ha,if_pos hb]
   rw[hl];obtain⟨r1,r2⟩:=hrng' (.inr hb.1);unfold cL at r2;rw[kV]at r2;exact .inr (.inr (.inr ⟨rfl,r1,(by show(aV M t).a<_;omega),of_decide_eq_true hb.2⟩))
  exfalso
  refine hno ⟨by rw[hn],fun ho hf=>ha ?_,fun ho hf=>hb ?_⟩
  ·rw[kV]at ho;unfold cL at hf;rw[kV]at hf;exact⟨ho,decide_eq_true hf⟩
  ·rw[kV]at ho;unfold cL at hf;rw[kV]at hf;exact⟨ho,decide_eq_true hf⟩
 ·have hn:bQ t=t:=by unfold bQ;rw[if_neg h3]
  have hl:look (bJ M none) M (t,c.bs)=(t,c.bs):=by unfold look;rw[if_neg h3]
  rw[hl];rw[hn]at hg hlb;rcases hg with h5|h4|⟨h1, -⟩
  ·exact .inr (.inl ⟨h5,hlb.2.2,hlb.1 h5⟩)
  ·exact .inl ⟨h4,hlb.2.2,hlb.2.1 (by omega)⟩
  ·omega
end
theorem aER{p l:List Int}{x:Int}{q:List Int}(h:p ++x::q<+:l):l.getD p.length 0=x:=by
 obtain⟨r,rfl⟩:=h;simp
theorem aES{l l':List Int}(h:l<+:l'){i:Nat}(hi:i<l.length):l.getD i 0=l'.getD i 0:=by
 obtain⟨w,rfl⟩:=h;rw[Jd,Jd,rF hi]
inductive rC(M:aG)(T:Nat→Int→Option Shape)(F:List (List Int))(t0:Tk):List Int→Prop
 |nil:rC M T F t0 []
 |step {xs:List Int} (h:rC M T F t0 xs) (h1:(bI M t0 xs).st=1) (ho:∃ch,Ok M T (bI M t0 xs) ch)
   (hr:(aV M (bI M t0 xs)).op=27→(dR (cL M (bI M t0 xs)) (dD M t0 xs)).length<(F.getD (cL M (bI M t0 xs)) []).length) (x:Int)
   (hx:x=if(aV M (bI M t0 xs)).op=27 then(F.getD (cL M (bI M t0 xs)) []).getD (dR (cL M (bI M t0 xs)) (dD M t0 xs)).length 0 else 0):rC M T F t0 (xs ++[x])
section
variable{M:aG}{T:Nat→Int→Option Shape}{F:List (List Int)}{t0:Tk}{xs:List Int}
theorem rC.path(h:rC M T F t0 xs):Path M T t0 xs:=by
 induction h with
 |nil=>exact .nil
 |step h h1 ho hr x hx ih=>exact .step ih h1 ho x
theorem rC.at_(h:rC M T F t0 xs):∀(p q:List Int) (x:Int),xs=p ++x::q→
  x=if(aV M (bI M t0 p)).op=27 then(F.getD (cL M (bI M t0 p)) []).getD (dR (cL M (bI M t0 p)) (dD M t0 p)).length 0 else 0:=by
 induction h with
 |nil=>intro p q x hx;simp at hx
 | @step xs h h1 ho hr y hy ih=>
  intro p q x hx;rcases List.eq_nil_or_concat q with rfl|⟨q',z,rfl⟩
  ·obtain⟨rfl,e⟩:=List.append_inj' hx rfl;simp only[xU,and_true]at e;rw[←e];exact hy
  ·rw[show p ++x::q'.concat z=(p ++x::q') ++[z] by simp]at hx;obtain⟨e, -⟩:=List.append_inj' hx rfl;exact ih p q' x e
end
abbrev cZ(M:aG)(k:Nat):Tk:=(bZ M).getD k default
section
variable{M:aG}{T:Nat→Int→Option Shape}(hC:dF M T)(hR:sP M){F:List (List Int)}
include hC hR
theorem NA{k:Nat}(hk:k<(bZ M).length):k<(tasks M).length∧cZ M k=new M ((tasks M).getD k 0):=⟨by simpa[bZ]using hk,CQ hk⟩
theorem L6{k:Nat}(hk:k<(bZ M).length){xs:List Int}(h:Path M T (cZ M k) xs)(ho:∃ch,Ok M T (bI M (cZ M k) xs) ch)(o:(aV M (bI M (cZ M k) xs)).op=27):
  cL M (bI M (cZ M k) xs)<M.boxes.length∧MC M (cL M (bI M (cZ M k) xs))=k:=by
 obtain⟨hk',e⟩:=NA hC hR hk;rw[e]at h ho o⊢;obtain⟨h1,h2⟩:=B8 hC hk' h ho (.inr o);refine⟨h2,(IK hC hR 27 (.inr rfl) _ k hk' (RM hC (F9 hk').1 h ho o ?_)).symm⟩;simp only[cL];omega
variable{cap:Nat→Nat}{n:Nat}{xs:Nat→List Int}{ws:List (List Int)}
theorem aFC(h:gV M cap (bZ M) n xs ws){k:Nat}(hk:k<(bZ M).length):Path M T (cZ M k) (xs k)∧((bI M (cZ M k) (xs k)).st=1→∃ch,Ok M T (bI M (cZ M k) (xs k)) ch):=by
 obtain⟨hk',e⟩:=NA hC hR hk;refine⟨?_,fun h1=>((FU hC (o6 M) h).1 k hk').ok h1⟩;rw[e];exact FV hC (o6 M) h k hk'
theorem aBO{zs:Nat→List Int}(hz:∀k,k<(bZ M).length→rC M T F (cZ M k) (zs k))(hF:∀b,b<M.boxes.length→F.getD b []=snd b (dD M (cZ M (n9 M b)) (zs (n9 M b))))
  (hs:∀k,k<(bZ M).length→(bI M (cZ M k) (zs k)).st=1→(aV M (bI M (cZ M k) (zs k))).op=27∧(dR (cL M (bI M (cZ M k) (zs k))) (dD M (cZ M k) (zs k))).length=(F.getD (cL M (bI M (cZ M k) (zs k))) []).length)
  (hx:gV M cap (bZ M) n xs ws):∀k,xs k<+:zs k:=by
 have hO:=LV hC hR
 induction hx with
 |nil=>intro k;exact List.nil_prefix
 | @step n j xs ws h hk hc ih=>
  intro k
  by_cases hkj:k=j
  ·subst hkj;dsimp only;rw[if_pos rfl];obtain⟨hp,hok⟩:=aFC hC hR h hk;have hw:∀(o:(aV M (bI M (cZ M k) (xs k))).op=27),∃tl,dR (cL M (bI M (cZ M k) (xs k))) (dD M (cZ M k) (xs k)) ++fL M (bI M (cZ M k) (xs k)) ws::tl<+:F.getD (cL M (bI M (cZ M k) (xs k))) []:=fun o=>by
    obtain⟨hb,hr⟩:=L6 hC hR hk hp (hok hc.st) o;have f1:=h.IN hO _ hb;rw[hr]at f1;have hne:=hc.recv o;have hxe:fL M (bI M (cZ M k) (xs k)) ws=(ws.getD (cL M (bI M (cZ M k) (xs k))) []).headD 0:=by unfold fL;rw[if_pos o]
    cases hw:ws.getD (cL M (bI M (cZ M k) (xs k))) []with
    |nil=>rw[hw]at hne;exact absurd rfl hne
    |cons z q=>
     rw[hw]at f1 hxe;refine⟨q,?_⟩;rw[hxe];show dR _ _ ++z::q<+:_;rw[←f1,hF _ hb];exact UA (T9 (ih _))
   obtain⟨q,hq⟩:=ih k
   cases q with
   |nil=>
    rw[eH]at hq;have:=hs k hk (by rw[←hq];exact hc.st);rw[←hq]at this;obtain⟨tl,ht⟩:=hw this.1;have:=ht.length_le;rw[Jl,JW]at this;omega
   |cons y q=>
    have hy:=(hz k hk).at_ (xs k) q y hq.symm;have e:fL M (bI M (cZ M k) (xs k)) ws=y:=by
     by_cases o:(aV M (bI M (cZ M k) (xs k))).op=27
     ·rw[if_pos o]at hy;obtain⟨tl,ht⟩:=hw o;rw[hy,aER ht]
     ·rw[if_neg o]at hy;rw[hy];unfold fL;rw[if_neg o]
    rw[e,←hq];exact⟨q,by simp⟩
  ·dsimp only;rw[if_neg hkj];exact ih k
theorem QR(h:gV M cap (bZ M) n xs ws)(hr:Rest M cap (bZ M) xs ws)(h26:∀k,k<(bZ M).length→(bI M (cZ M k) (xs k)).st=1→(aV M (bI M (cZ M k) (xs k))).op≠26)
  (hF:∀b,b<M.boxes.length→F.getD b []<+:snd b (dD M (cZ M (n9 M b)) (xs (n9 M b)))) {k:Nat} (hk:k<(bZ M).length) {zs:List Int} (hz:rC M T F (cZ M k) zs):zs<+:xs k:=by
 have hO:=LV hC hR
 induction hz with
 |nil=>exact List.nil_prefix
 | @step p hz h1 ho hlt x hx ih=>
  obtain⟨q,hq⟩:=ih
  cases q with
  |nil=>
   exfalso
   rw[eH]at hq;subst hq;refine hr k hk ⟨h1,fun o=>absurd o (h26 k hk h1),fun o hl=>?_⟩;obtain⟨hb,hrk⟩:=L6 hC hR hk hz.path ho o;have f1:=h.IN hO _ hb;rw[hrk,pE hl,eH]at f1;have h2:=(hF _ hb).length_le;rw[f1]at h2;exact absurd (hlt o) (Nat.not_lt.2 h2)
  |cons y q=>
   have e:x=y:=by
    by_cases o:(aV M (bI M (cZ M k) p)).op=27
    ·rw[if_pos o]at hx;obtain⟨hb,hrk⟩:=L6 hC hR hk hz.path ho o;have hl:=hlt o;have f1:=h.IN hO _ hb;rw[hrk,←hq,show p ++y::q=(p ++[y]) ++q by simp,EJ,yQ,xB,xB]at f1;have hbx:dR (cL M (bI M (cZ M k) p)) (iC M y (bI M (cZ M k) p)).2=[y]:=by
      obtain⟨hk',e0⟩:=NA hC hR hk;rw[e0]at hz ho o h1⊢;have ha:=(B8 hC hk' hz.path ho (.inr o)).1;rcases(BQ (M:=M) (x:=y) h1).ex with⟨o', -⟩|⟨-, -,h2, -⟩|⟨-,o', -⟩
      ·omega
      ·rw[h2,if_pos];simp only[cL];omega
      ·omega
     rw[hbx]at f1;rw[hx,aES (hF _ hb) hl];have f1':=f1;rw[f1'];simp
    ·rw[if_neg o]at hx;rw[hx];exact(h.zero k p q y hq.symm o).symm
   rw[e,←hq];exact⟨q,by simp⟩
end
end Vm
end Go.Proofs.YtofckcabpchcmaaGreatDoor
