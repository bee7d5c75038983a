/- The names that a program that means something speaks of: how many, and that they are known. Plain Lean. -/
import Derived.Test.YtofckcabpchcmaaGreatDoorM38
set_option linter.unusedVariables false
set_option linter.unusedSimpArgs false
set_option linter.unusedSectionVars false
set_option maxRecDepth 100000
namespace Go.Proofs.YtofckcabpchcmaaGreatDoor
namespace Fr
open ImgM
theorem AL{d c c':Nat}(h:nd d c=some c'):c'=c+1∧c'≤2000:=by
 unfold nd at h
 split at h<;>cases h
 omega
mutual
theorem YL:∀(x:Ex) (d c c':Nat),iG d x c=some c'→c'≤2000∧(oF x).1.length+c≤c'∧(oF x).2.length+c≤c'
 | .mk k n s l,d,c,c',h=>by
  rw[iG]at h;obtain⟨c1,h1,h⟩:=bF.1 h;obtain⟨e1,e2⟩:=AL h1
  split at h
  ·have:=YN l _ _ _ e2 h;rw[oF];dsimp only;rw[Jl,Jl];refine⟨this.1,?_,?_⟩<;>split<;>simp only[gE,kZ]<;>omega
  ·cases h
theorem YN:∀(l:List Ex) (d c c':Nat),c≤2000→iX d l c=some c'→c'≤2000∧(mO l).1.length+c≤c'∧(mO l).2.length+c≤c'
 |[],d,c,c',hc,h=>by rw[iX]at h;cases h;rw[mO];simpa using hc
 |x::l,d,c,c',hc,h=>by
  rw[iX]at h;obtain⟨c1,h1,h⟩:=bF.1 h;have a:=YL x _ _ _ h1;have b:=YN l _ _ _ a.1 h;rw[mO];dsimp only;rw[Jl,Jl];omega
end
mutual
theorem aIC:∀(x:St) (d c c':Nat),jT d x c=some c'→c'≤2000∧(rA x).calls.length+c≤c'∧(rA x).iP.length+c≤c'∧(rA x).gW.length+c≤c'
 | .mk k s x b e,d,c,c',h=>by
  rw[jT]at h;obtain⟨c1,h1,h⟩:=bF.1 h;obtain⟨e1,e2⟩:=AL h1
  split at h
  ·rw[rA];unfold Us.add;dsimp only;simp only[Jl]
   by_cases h6:k=6
   ·rw[if_pos h6]at h
    cases h
    subst h6;simp only[show¬((6:Int)=7) by decide,show¬((6:Int)=3∨(6:Int)=4) by decide,show¬((6:Int)=3) by decide,if_true,if_false];refine⟨e2,?_,?_,?_⟩<;>(show 0+0+(0+0)+_≤_;omega)
   ·rw[if_neg h6]at h;obtain⟨c2,h2,h⟩:=bF.1 h;obtain⟨c3,h3,h⟩:=bF.1 h;have a:=YL x _ _ _ h2;have b':c3≤2000∧(if k=3∨k=4 then cD b else default).calls.length+c2≤c3∧(if k=3∨k=4 then cD b else default).iP.length+c2≤c3∧(if k=3∨k=4 then cD b else default).gW.length+c2≤c3:=by
     by_cases h34:k=3∨k=4
     ·rw[if_pos h34]at h3;rw[if_pos h34]
      split at h3
      ·cases h3
      ·exact HM b _ _ _ a.1 h3
     ·rw[if_neg h34]at h3;rw[if_neg h34]
      cases h3
      refine⟨a.1,?_,?_,?_⟩<;>(show 0+_≤_;omega)
    have e':c'≤2000∧(if k=3 then cD e else default).calls.length+c3≤c'∧(if k=3 then cD e else default).iP.length+c3≤c'∧(if k=3 then cD e else default).gW.length+c3≤c':=by
     by_cases h33:k=3
     ·rw[if_pos h33]at h;rw[if_pos h33]
      split at h
      ·cases h
      ·exact HM e _ _ _ b'.1 h
     ·rw[if_neg h33]at h;rw[if_neg h33]
      cases h
      refine⟨b'.1,?_,?_,?_⟩<;>(show 0+_≤_;omega)
    rw[if_neg h6];dsimp only;have hs:(if k=7 then [s]else([]:List aH)).length≤1:=by split<;>simp
    simp only[kZ];omega
  ·cases h
theorem HM:∀(l:List St) (d c c':Nat),c≤2000→eH d l c=some c'→c'≤2000∧(cD l).calls.length+c≤c'∧(cD l).iP.length+c≤c'∧(cD l).gW.length+c≤c'
 |[],d,c,c',hc,h=>by rw[eH]at h;cases h;rw[cD];refine⟨hc,?_,?_,?_⟩<;>(show 0+_≤_;omega)
 |x::l,d,c,c',hc,h=>by
  rw[eH]at h;obtain⟨c1,h1,h⟩:=bF.1 h;have a:=aIC x _ _ _ h1;have b:=HM l _ _ _ a.1 h;rw[cD];unfold Us.add;dsimp only;simp only[Jl];omega
end
theorem YH{d:Df}{c c':Nat}(h:oS d c=some c')(hc:c≤2000):c'≤2000∧(d.kind≠1→(cD d.body).calls.length≤2000∧(cD d.body).iP.length≤2000∧(cD d.body).gW.length≤2000):=by
 unfold oS at h;obtain⟨c1,h1,h⟩:=bF.1 h;obtain⟨e1,e2⟩:=AL h1
 split at h
 ·by_cases hk:d.kind=1
  ·rw[if_pos hk]at h
   split at h<;>cases h
   exact⟨e2,fun h=>absurd hk h⟩
  ·rw[if_neg hk]at h
   split at h
   ·cases h
   ·have a:=HM d.body _ _ _ e2 h;exact⟨a.1,fun _=>aA⟩
 ·cases h
theorem YJ:∀(l:List Df) (c c':Nat),c≤2000→lS l c=some c'→∀d∈l,d.kind≠1→(cD d.body).calls.length≤2000∧(cD d.body).iP.length≤2000∧(cD d.body).gW.length≤2000
 |[],_,_,_,_,d,hd=>by simp at hd
 |x::l,c,c',hc,h,d,hd=>by
  rw[lS]at h;obtain⟨c1,h1,h⟩:=bF.1 h;have a:=YH h1 hc;rcases cY.1 hd with rfl|hd
  ·exact a.2
  ·exact YJ l _ _ a.1 h d hd
theorem aGS{P:List Df}(h:shaped P=true):∀d∈P,d.kind≠1→(cD d.body).calls.length≤2000∧(cD d.body).iP.length≤2000∧(cD d.body).gW.length≤2000:=by
 unfold shaped at h;rw[JX]at h;obtain⟨c,hc⟩:=lK.1 h.2;exact YJ P _ _ aA hc
section
variable{P:List Df}{D:Df}
def callee(P:List Df)(n:aH):Prop:=∃d,dG P n=some d∧(d.kind=2∨d.kind=3)
theorem yN{B:Scope}:∀{ts:List Ty} {l:List Ex},eD P D B ts l=some ()→∀x∈l,∃t,b9 P D B x=some t
 |[],[],_,x,hx=>by simp at hx
 |[],y::l,h,x,hx=>by rw[eD]at h;cases h;all_goals simp
 |t::ts,[],h,x,hx=>by simp at hx
 |t::ts,y::l,h,x,hx=>by
  rw[eD]at h;obtain⟨_,h1,h⟩:=bF.1 h;rcases cY.1 hx with rfl|hx
  ·unfold same at h1;obtain⟨u,hu, -⟩:=bF.1 h1;exact⟨u,hu⟩
  ·exact yN h x hx
theorem HC{B:Scope}:∀{l:List Ex} {ts:List Ty},fF P D B l=some ts→∀x∈l,∃t,b9 P D B x=some t
 |[],ts,h,x,hx=>by simp at hx
 |y::l,ts,h,x,hx=>by
  rw[fF]at h;obtain⟨u,h1,h⟩:=bF.1 h;obtain⟨us,h2,h⟩:=cQ.1 h;rcases cY.1 hx with rfl|hx
  ·exact⟨u,h1⟩
  ·exact HC h2 x hx
theorem X6{B:Scope}{k n:Int}{s:aH}{l:List Ex}{t:Ty}(hh:lO k n s l.length=true)(h:b9 P D B (.mk k n s l)=some t):(∀x∈l,∃t,b9 P D B x=some t)∧((k=19∨k=22)→callee P s)∧(k=3→∃t,eN B s=some t)∧(k=20→∃d,kR P 1 s=some d):=by
 have nil:eW k=0→∀x∈l,∃t,b9 P D B x=some t:=fun h0=>by
  have:l=[]:=by
   unfold lO at hh;simp only[JX]at hh;have h1:=hh.1.2;rw[decide_eq_true aA]at h1;simp only[xF,Bool.not_not,JV]at h1;exact qC aA
  subst this;simp
 rw[b9]at h
 by_cases h1:k=1
 ·exact⟨nil (by unfold eW;rw[if_pos aA]),aA,aA,aA⟩
 rw[if_neg h1]at h
 by_cases h2:k=2
 ·exact⟨nil (by unfold eW;rw[if_pos aA]),aA,aA,aA⟩
 rw[if_neg h2]at h
 by_cases h3:k=3
 ·rw[if_pos h3]at h;exact⟨nil (by unfold eW;rw[if_pos aA]),aA,fun _=>⟨t,h⟩,aA⟩
 rw[if_neg h3]at h
 by_cases h4:k=4
 ·rw[if_pos h4]at h;obtain⟨_,h, -⟩:=cQ.1 h;exact⟨yN h,aA,aA,aA⟩
 rw[if_neg h4]at h
 by_cases h5:k=5
 ·rw[if_pos h5]at h;obtain⟨_,h, -⟩:=cQ.1 h;exact⟨yN h,aA,aA,aA⟩
 rw[if_neg h5]at h
 by_cases h11:k=11∨k=12
 ·rw[if_pos h11]at h;obtain⟨ts,h, -⟩:=bF.1 h;exact⟨HC h,aA,aA,aA⟩
 rw[if_neg h11]at h
 by_cases h19:k=19
 ·rw[if_pos h19]at h;obtain⟨d,hd,h⟩:=bF.1 h;obtain⟨_,h, -⟩:=cQ.1 h;obtain⟨e1,e2⟩:=lD hd;exact⟨yN h,fun _=>⟨d,e1, .inl e2⟩,aA,aA⟩
 rw[if_neg h19]at h
 by_cases h20:k=20
 ·rw[if_pos h20]at h;obtain⟨d,hd, -⟩:=cQ.1 h;exact⟨nil (by unfold eW;rw[if_pos aA]),aA,aA,fun _=>⟨d,hd⟩⟩
 rw[if_neg h20]at h
 by_cases h21:k=21
 ·rw[if_pos h21]at h
  split at h
  ·obtain⟨_,h, -⟩:=cQ.1 h;exact⟨yN h,aA,aA,aA⟩
  ·cases h
 rw[if_neg h21]at h
 by_cases h22:k=22
 ·rw[if_pos h22]at h;obtain⟨d,hd,h⟩:=bF.1 h;obtain⟨_,h, -⟩:=cQ.1 h;obtain⟨e1,e2⟩:=lD hd;exact⟨yN h,fun _=>⟨d,e1, .inr e2⟩,aA,aA⟩
 rw[if_neg h22]at h
 by_cases h23:k=23
 ·rw[if_pos h23]at h;obtain⟨ts,h, -⟩:=bF.1 h;exact⟨HC h,aA,aA,aA⟩
 rw[if_neg h23]at h
 by_cases h24:k=24
 ·rw[if_pos h24]at h;obtain⟨ts,h, -⟩:=bF.1 h;exact⟨HC h,aA,aA,aA⟩
 rw[if_neg h24]at h;obtain⟨_,h, -⟩:=cQ.1 h;exact⟨yN h,aA,aA,aA⟩
mutual
theorem YK{B:Scope}:∀(x:Ex) (d c c':Nat) (t:Ty),iG d x c=some c'→b9 P D B x=some t→∀n∈(oF x).1,callee P n
 | .mk k n s l,d,c,c',t,h,ht,m,hm=>by
  rw[iG]at h;obtain⟨c1,h1,h⟩:=bF.1 h
  split at h
  ·next hh=>
   obtain⟨a,b, -⟩:=X6 hh ht;rw[oF]at hm;dsimp only at hm;rcases dF.1 hm with hm|hm
   ·split at hm
    ·next hk=>rw[dY.1 hm];exact b hk
    ·simp at hm
   ·exact YM l _ _ _ h a m hm
  ·cases h
theorem YM{B:Scope}:∀(l:List Ex) (d c c':Nat),iX d l c=some c'→(∀x∈l,∃t,b9 P D B x=some t)→∀n∈(mO l).1,callee P n
 |[],d,c,c',h,a,m,hm=>by rw[mO]at hm;simp at hm
 |x::l,d,c,c',h,a,m,hm=>by
  rw[iX]at h;obtain⟨c1,h1,h⟩:=bF.1 h;rw[mO]at hm;dsimp only at hm;rcases dF.1 hm with hm|hm
  ·obtain⟨t,ht⟩:=a x gF;exact YK x _ _ _ t h1 ht m hm
  ·exact YM l _ _ _ h (fun y hy=>a y (gZ _ hy)) m hm
end
theorem N6{B B':Scope}{k:Int}{s:aH}{x:Ex}{b e:List St}(h:lV P D B (.mk k s x b e)=some B'):(k≠6→∃t,b9 P D B x=some t)∧(k=3∨k=4→(fC P D ([]::B) b).isSome=true)∧(k=3→(fC P D ([]::B) e).isSome=true):=by
 have hs:∀{o:Option Ty} {t:Ty} {u:Unit},same o t=some u→∃t,o=some t:=fun h=>by
  unfold same at h;obtain⟨v,hv, -⟩:=bF.1 h;exact⟨v,hv⟩
 rw[lV]at h
 by_cases h1:k=1
 ·rw[if_pos h1]at h;obtain⟨t,ht, -⟩:=bF.1 h;exact⟨fun _=>⟨t,ht⟩,aA,aA⟩
 rw[if_neg h1]at h
 by_cases h2:k=2
 ·rw[if_pos h2]at h;obtain⟨t, -,h⟩:=bF.1 h;obtain⟨_,h, -⟩:=cQ.1 h;exact⟨fun _=>hs h,aA,aA⟩
 rw[if_neg h2]at h
 by_cases h34:k=3∨k=4
 ·rw[if_pos h34]at h;obtain⟨_,ha,h⟩:=bF.1 h;obtain⟨_,hb,h⟩:=bF.1 h;refine⟨fun _=>hs ha,fun _=>by rw[hb];rfl,fun h3=>?_⟩;rw[if_neg aA]at h;obtain⟨_,h, -⟩:=cQ.1 h;rw[h];rfl
 rw[if_neg h34]at h
 by_cases h5:k=5
 ·rw[if_pos h5]at h
  split at h
  ·obtain⟨_,h, -⟩:=cQ.1 h;exact⟨fun _=>hs h,aA,aA⟩
  ·cases h
 rw[if_neg h5]at h
 by_cases h6:k=6
 ·exact⟨fun h=>absurd h6 h,aA,aA⟩
 rw[if_neg h6]at h
 by_cases h7:k=7
 ·rw[if_pos h7]at h;obtain⟨t, -,h⟩:=bF.1 h;obtain⟨_,h, -⟩:=cQ.1 h;exact⟨fun _=>hs h,aA,aA⟩
 rw[if_neg h7]at h
 by_cases h8:k=8
 ·rw[if_pos h8]at h;obtain⟨t,ht, -⟩:=bF.1 h;exact⟨fun _=>⟨t,ht⟩,aA,aA⟩
 rw[if_neg h8]at h;obtain⟨t,ht, -⟩:=cQ.1 h;exact⟨fun _=>⟨t,ht⟩,aA,aA⟩
mutual
theorem aIB:∀(x:St) (B:Scope) (d c c':Nat) (B':Scope),jT d x c=some c'→lV P D B x=some B'→∀n∈(rA x).calls,callee P n
 | .mk k s x b e,B,d,c,c',B',h,ht,m,hm=>by
  obtain⟨p1,p2,p3⟩:=N6 ht;rw[jT]at h;obtain⟨c1,h1,h⟩:=bF.1 h
  split at h
  ·rw[rA]at hm;unfold Us.add at hm;dsimp only at hm;rw[Jk,dF,dF]at hm
   by_cases h6:k=6
   ·rw[if_pos h6,if_neg aA,if_neg aA]at hm;rcases hm with hm|hm|hm<;>exact absurd hm (by show¬m∈([]:List aH);simp)
   ·rw[if_neg h6]at h;obtain⟨c2,h2,h⟩:=bF.1 h;obtain⟨c3,h3,h⟩:=bF.1 h;rcases hm with hm|hm|hm
    ·rw[if_neg h6]at hm;obtain⟨t,ht⟩:=p1 h6;exact YK x _ _ _ t h2 ht m hm
    ·by_cases h34:k=3∨k=4
     ·rw[if_pos h34]at hm h3
      split at h3
      ·cases h3
      ·obtain⟨B2,hB2⟩:=lK.1 (p2 h34);exact HL b _ _ _ _ B2 h3 hB2 m hm
     ·rw[if_neg h34]at hm;exact absurd hm (by show¬m∈([]:List aH);simp)
    ·by_cases h33:k=3
     ·rw[if_pos h33]at hm h
      split at h
      ·cases h
      ·obtain⟨B2,hB2⟩:=lK.1 (p3 h33);exact HL e _ _ _ _ B2 h hB2 m hm
     ·rw[if_neg h33]at hm;exact absurd hm (by show¬m∈([]:List aH);simp)
  ·cases h
theorem HL:∀(l:List St) (B:Scope) (d c c':Nat) (B':Scope),eH d l c=some c'→fC P D B l=some B'→∀n∈(cD l).calls,callee P n
 |[],B,d,c,c',B',h,ht,m,hm=>by rw[cD]at hm;exact absurd hm (by show¬m∈([]:List aH);simp)
 |x::l,B,d,c,c',B',h,ht,m,hm=>by
  rw[eH]at h;obtain⟨c1,h1,h⟩:=bF.1 h;rw[fC]at ht;obtain⟨B1,t1,ht⟩:=bF.1 ht;rw[cD]at hm;unfold Us.add at hm;rcases dF.1 hm with hm|hm
  ·exact aIB x _ _ _ _ B1 h1 t1 m hm
  ·exact HL l _ _ _ _ B' h ht m hm
end
theorem YI(hB:∀d∈P,mC P d=true):∀(l:List Df) (c c':Nat),(∀d∈l,d∈P)→lS l c=some c'→∀d∈l,d.kind≠1→∀n∈(cD d.body).calls,callee P n
 |[],_,_,_,_,d,hd=>by simp at hd
 |x::l,c,c',hl,h,d,hd=>by
  rw[lS]at h;obtain⟨c1,h1,h⟩:=bF.1 h;rcases cY.1 hd with rfl|hd
  ·intro hk n hn;have hb:=hB d (hl d gF);unfold mC at hb;rw[decide_eq_false hk,Bool.false_or]at hb;obtain⟨B',hB'⟩:=lK.1 hb;unfold oS at h1;obtain⟨c2, -,h1⟩:=bF.1 h1
   split at h1
   ·split at h1
    ·cases h1
    ·exact HL d.body _ _ _ _ B' h1 hB' n hn
   ·cases h1
  ·exact YI hB l _ _ (fun e he=>hl e (gZ _ he)) h d hd
theorem aGQ(h:shaped P=true)(hB:∀d∈P,mC P d=true):∀d∈P,d.kind≠1→∀n∈(cD d.body).calls,callee P n:=by
 unfold shaped at h;rw[JX]at h;obtain⟨c,hc⟩:=lK.1 h.2;exact YI hB P _ _ (fun d hd=>hd) hc
end
end Fr
namespace Vw
open Go.RowKit Img
section
attribute [local irreducible] aE aG End aB Still aN aU RunT Fn aS
theorem LY{α:Type} [DecidableEq α]:∀{l m:List α},l.Nodup→(∀x∈l,x∈m)→l.length≤m.length
 |[],m,_,_=>bQ _
 |a::l,m,hn,hs=>by
  obtain⟨h1,h2⟩:=zB.1 hn;have ha:=hs a gF;have h3:=LY (m:=m.erase a) h2 (fun x hx=>(List.mem_erase_of_ne (fun e=>h1 (by rw[←e];exact hx))).2 (hs x (gZ _ hx)));rw[List.length_erase_of_mem ha]at h3;have:=List.length_pos_of_mem ha;simp only[JW];omega
def A7(x:cT)(i:Nat):List Value:=[fD x i]
instance (x:cT):bH (A7 x):=⟨fun _=>rfl,Nat.lt_succ_self 0,fun a u hu=>by simp[A7]at hu;subst hu;rfl⟩
def v8(h:List aH×List aH)(s:aH):List aH×List aH:=if s∈h.1 then h else(h.1 ++[s],h.2 ++[s])
theorem aFB(P:List Fr.Df)(n:Nat)(cG:List aH)(d:Fr.Df)(todo:List Fr.Df):Fr.kV P (n+1) cG (d::todo)=
  ((Fr.cD d.body).iP ++(Fr.kV P n ((Fr.cD d.body).calls.foldl v8 (cG,[])).1 (todo ++((Fr.cD d.body).calls.foldl v8 (cG,[])).2.filterMap (Fr.dG P))).1,
  (Fr.cD d.body).gW ++(Fr.kV P n ((Fr.cD d.body).calls.foldl v8 (cG,[])).1 (todo ++((Fr.cD d.body).calls.foldl v8 (cG,[])).2.filterMap (Fr.dG P))).2):=by
 rw[Fr.kV];rfl
theorem aFC(P:List Fr.Df)(n:Nat)(cG:List aH):Fr.kV P n cG []=([],[]):=by cases n<;>rfl
abbrev jQ(x:cT)(i:Nat):Fr.Df:=(x.l.getD i default).df
structure EC(x:cT)(hl:List aH)(tl:List Nat):Prop where
 nd:hl.Nodup
 cG:∀s∈hl,Fr.callee (x.l.map DL.df) s
 todo:∀i∈tl,i<x.l.length∧(x.l.getD i default).kind≠1
theorem EC.len{x:cT}{hl:List aH}{tl:List Nat}(h:EC x hl tl):hl.length≤x.l.length:=by
 have:=LY h.nd (m:=(x.l.map DL.df).map (·.name)) (fun s hs=>by
  obtain⟨d,hd, -⟩:=h.cG s hs;obtain⟨h1,h2⟩:=Fr.pI hd;exact eY.2 ⟨d,h1,h2⟩)
 simpa using this
structure O8 where
 n:Nat
 A:dT
 ho:Option Addr
 hc:Nat
 hl:List aH
 to:Option Addr
 tc:Nat
 tl:List Nat
structure OZ where
 j:Nat
 ho:Option Addr
 hc:Nat
 hl:List aH
 to:Option Addr
 tc:Nat
 tl:List Nat
 new:List aH
abbrev AM:dT:=⟨none,0,[],none,0,[],none,0,[]⟩
theorem Mem.T8{w:World}{b:Nat}{L L':List Chunk}(h:Mem w L)(t:Take (aF b [.slice none 0 0, .slice none 0 0, .slice none 0 0] 269) L L'):Mem w (uM b AM ++L'):=by
 have h1:=(((h.take t).cU 9 gL).cU 9 gL).cU 9 gL;exact h1.perm (xB (l₁:=[_,_,_]))
set_option maxHeartbeats 1000000 in
theorem aFe(cs:List Chunk)(x:cT)(h:oH cs x.o x.c x.l)(hck:nX (x.l.map DL.df)=true)(pb mb i0:Nat)(hi0:i0<x.l.length)(hk0:(x.l.getD i0 default).kind≠1):Fn Tryz.prog 137 #[ptr pb,fD x i0] [bX cs,cF] (j3 pb mb x (fK x x.l.length)) (σ:=dT)
  (fun v=>v.cl=[]∧v.co=none∧v.cc=0∧Fr.kV (x.l.map DL.df) (x.l.length+1) [] [jQ x i0]=(v.sl,v.rl)∧v.sl.length≤100000∧v.rl.length≤100000) (fun v=> .agg #[.slice none 0 0, .slice v.so v.sl.length v.sc, .slice v.ro v.rl.length v.rc]) (fun v=>arr v.so v.sl.length v.sc 9 gL v.sl::arr v.ro v.rl.length v.rc 9 gL v.rl::j3 pb mb x (fK x x.l.length)):=by
 have hck':=hck;unfold nX at hck';simp only[JX]at hck';obtain⟨⟨⟨⟨hsh, -⟩, -⟩, -⟩,hbd⟩:=hck';have hlen:=Fr.aGS hsh;have hkn:=Fr.aGQ hsh (fun d hd=>pD.1 hbd d hd);obtain⟨h30,hS⟩:=GZ hsh;clear hsh hbd hck;obtain⟨T,hT⟩:∃T,T=Fr.kV (x.l.map DL.df) (x.l.length+1) [] [jQ x i0]:=⟨_,rfl⟩;rw[←hT];refine JE [ptr pb,fD x i0] Tryz.func137 Tryz.ntmps137 fun w S=>?_;refine Jn ?_
 repeat(refine Fm ?_;try intro b)
 obtain⟨tb,rfl⟩:=a7 b;obtain⟨hb,rfl⟩:=a7 b;obtain⟨ab,rfl⟩:=a7 b;obtain⟨rb,rfl⟩:=a7 b;apply aG.imp (fun w hm=>hm.jB (b:=tb) (f:=A7 x) tk [i0] (n:=1) (by simp[A7]) rfl (by unfold maxLen;omega));apply aG.imp (fun w hm=>hm.jB (b:=hb) (f:=gL) tk ([]:List aH) (n:=0) aW rfl (by unfold maxLen;omega));apply aG.imp (fun w hm=>Mem.T8 (b:=ab) hm tk);refine Jn ?_;refine cK (σ:=O8) (fun z=>EC x z.hl z.tl∧z.n+z.hl.length=x.l.length+z.tl.length∧z.A.cl=[]∧z.A.co=none∧z.A.cc=0∧z.A.sl.length+2000*z.n≤2000*(x.l.length+1)∧z.A.rl.length+2000*z.n≤2000*(x.l.length+1)∧T=(z.A.sl ++(Fr.kV (x.l.map DL.df) z.n z.hl (z.tl.map (jQ x))).1,z.A.rl ++(Fr.kV (x.l.map DL.df) z.n z.hl (z.tl.map (jQ x))).2)) (fun z=>[(0,ptr pb),(4,ptr rb),(5,ptr ab),(6, .slice z.ho z.hl.length z.hc),(7, .slice z.to z.tl.length z.tc)]) (fun z:O8=>aO w S::bX cs::cF::aF rb [.slice none 0 0, .slice none 0 0, .slice none 0 0] 269::arr z.ho z.hl.length z.hc 9 gL z.hl::arr z.to z.tl.length z.tc 153 (A7 x) z.tl::(uM ab z.A ++j3 pb mb x (fK x x.l.length))) (fun z=>z.n) ⟨x.l.length+1,AM,some ⟨hb,0,none⟩,0,[],some ⟨tb,0,none⟩,1,[i0]⟩ ?_ fun z hz K hK=>?_
 ·exact⟨⟨aW,aW,fun i hi=>by rw[dY.1 hi];exact⟨hi0,hk0⟩⟩,rfl,rfl,rfl,rfl,by show 0+2000*(x.l.length+1)≤2000*(x.l.length+1);omega,by show 0+2000*(x.l.length+1)≤2000*(x.l.length+1);omega,hT⟩
 refine Jn ?_;obtain⟨n,A,ho,hc,hl,to,tc,tl⟩:=z;obtain⟨hok,hn,ac,ac2,ac3,asl,arl,hR⟩:=hz;dsimp only at hok hn ac ac2 ac3 asl arl hR⊢;have hhl:=hok.len
 cases tl with
 |nil=>
  refine aI ?_;exact End.fX A (he:=by rw[ac,ac2,ac3];rfl) (hp:=⟨ac,ac2,ac3,by rw[hR,m9,aFC];simp,aA,aA⟩)
 |cons i rest=>
  obtain⟨hi,hki⟩:=hok.todo i gF;obtain⟨m,rfl⟩:∃m,n=m+1:=⟨n-1,by simp only[JW]at hn;omega⟩;have hpos:0<(i::rest).length:=Nat.succ_pos _;have hsl:=hlen _ (mR (dW hi)) hki;have hkc:=hkn _ (mR (dW hi)) hki;have hSd:=(hS _ (dW hi)).body hki;have hd:=h.at hi;rw[fI,aFB]at hR;rw[show(x.l.getD i default).df.body=aM.bV (x.l.getD i default).body from rfl]at hsl hkc;rw[show(jQ x i).body=aM.bV (x.l.getD i default).body from rfl]at hR;obtain⟨d,de⟩:∃d,x.l.getD i default=d:=⟨_,rfl⟩;rw[de]at hki hsl hkc hSd hd hR;have hD:=hd.has;obtain⟨us,hus⟩:∃us,us=Fr.cD (aM.bV d.body):=⟨_,rfl⟩;rw[←hus]at hsl hkc hR
  repeat(refine Fm ?_;try first|intro ao cap|intro b)
  obtain⟨ub,rfl⟩:=a7 b;refine aE.imp (fun w hm=>Mem.T8 (b:=ub) hm tk) ?_;refine Jn ?_;rw[show(i::rest).length-(0+1)=rest.length from rfl,show List.drop (0+1) (i::rest)=rest from rfl];refine bU (aHk cs d.body ub _ _ 2 AM hd.body hSd.2 hSd.1 (by rw[←hus];unfold dT.Fit;show 0+_≤_∧0+_≤_∧0+_≤_;omega)) fun v hv=>?_;rw[←hus]at hv;obtain⟨v1,v2,v3⟩:=hv;rw[show AM.cl ++us.calls=us.calls from rfl]at v1;rw[show AM.sl ++us.iP=us.iP from rfl]at v2;rw[show AM.rl ++us.gW=us.gW from rfl]at v3;rw[←v1]at hkc hR hsl;rw[←v2]at hR hsl;rw[←v3]at hR hsl;clear hus v1 v2 v3;refine aI ?_;refine b8 11 [aF ab [.slice A.co A.cl.length A.cc, .slice A.so A.sl.length A.sc, .slice A.ro A.rl.length A.rc] 269,aF ub [.slice v.co v.cl.length v.cc, .slice v.so v.sl.length v.sc, .slice v.ro v.rl.length v.rc] 269] 14 ?_;refine gP [0,1,2,3,5,6,7,8] ?_;(refine JT 4 ?_;refine aB.xJ (k:=?_);intro so' sc';refine JG ?_;refine Jn ?_);refine gP [10] ?_;(refine JT 9 ?_;refine aB.xJ (k:=?_);intro ro' rc';refine JG ?_;refine Jn ?_);refine gWl [11] ?_;refine RunT.aHO 12 (hQ:=by(repeat(first|assumption|exact aS.body|apply aS.pT|apply aS.p6|apply aS.block))) (h:=?_);refine gWl [13] ?_;refine b6 ?_
  refine aI ?_;rw[show A.sl.length+v.sl.length=(A.sl ++v.sl).length by simp,show A.rl.length+v.rl.length=(A.rl ++v.rl).length by simp];have hP:∀s,(bG (fK x x.l.length) s).map (jQ x)=Fr.dG (x.l.map DL.df) s:=fun s=>(M8 h pb mb i0 hi0).ns s;refine cK (σ:=OZ) (fun z=>z.j≤v.cl.length∧EC x z.hl z.tl∧v.cl.foldl v8 (hl,[])=(v.cl.drop z.j).foldl v8 (z.hl,z.new)∧z.tl.map (jQ x)=rest.map (jQ x) ++z.new.filterMap (Fr.dG (x.l.map DL.df))∧z.tl.length+hl.length=rest.length+z.hl.length) (fun z=>[(0,ptr pb),(4,ptr rb),(5,ptr ab),(6, .slice z.ho z.hl.length z.hc),(7, .slice z.to z.tl.length z.tc),(41, .slice v.co v.cl.length v.cc),(42, .int .i64 v.cl.length),(43, .int .i64 z.j)]) (fun z:OZ=>aO w S::bX cs::cF::aF rb [.slice none 0 0, .slice none 0 0, .slice none 0 0] 269::arr z.ho z.hl.length z.hc 9 gL z.hl::arr z.to z.tl.length z.tc 153 (A7 x) z.tl::arr v.co v.cl.length v.cc 9 gL v.cl::(uM ab ⟨A.co,A.cc,A.cl,so',sc',A.sl ++v.sl,ro',rc',A.rl ++v.rl⟩ ++j3 pb mb x (fK x x.l.length))) (fun z=>v.cl.length-z.j) ⟨0,ho,hc,hl,ao,cap,rest,[]⟩ ?_ fun z hz K2 hK2=>?_
  ·exact⟨bQ _,⟨hok.nd,hok.cG,fun i hi=>hok.todo i (gZ _ hi)⟩,rfl,aW,rfl⟩
  refine Jn ?_;obtain⟨j,ho2,hc2,hl2,to2,tc2,tl2,new⟩:=z;obtain⟨hj,ok2,hfo,hmp,hln⟩:=hz;dsimp only at hj ok2 hfo hmp hln⊢;have hh2:=ok2.len;simp only[JW]at hn
  by_cases hlt:j<v.cl.length
  rotate_left
  ·refine aI ?_;rw[iS aA,List.foldl_nil]at hfo;rw[hfo,←hmp]at hR;exact End.bK hK ⟨m,⟨A.co,A.cc,A.cl,so',sc',A.sl ++v.sl,ro',rc',A.rl ++v.rl⟩,ho2,hc2,hl2,to2,tc2,tl2⟩ ⟨ok2,by dsimp only;omega,ac,ac2,ac3,by simp only[Jl];omega,by simp only[Jl];omega,by rw[hR,Jt,Jt]⟩ (by dsimp only;omega)
  have hsm:=dW hlt;rw[oN hlt,zA]at hfo;obtain⟨s,es⟩:∃s,v.cl.getD j default=s:=⟨_,rfl⟩;rw[es]at hsm hfo
  by_cases hin:s∈hl2
  ·have hin':decide (s∈hl2)=true:=decide_eq_true hin;rw[show v8 (hl2,new) s=(hl2,new)from if_pos hin]at hfo;refine aI ?_;rw[es];refine dD (G1 ho2 hc2 hl2 aA s) fun u hu=>?_;exact End.bK hK2 ⟨j+1,ho2,hc2,hl2,to2,tc2,tl2,new⟩ ⟨hlt,ok2,hfo,hmp,hln⟩ (by dsimp only;omega)
  ·have hin':decide (s∈hl2)=false:=decide_eq_false hin;rw[show v8 (hl2,new) s=(hl2 ++[s],new ++[s])from if_neg hin]at hfo;obtain⟨d2,hd2,hk2⟩:=hkc s hsm;obtain⟨i2,hi2⟩:∃i2,bG (fK x x.l.length) s=some i2:=by
    have:=hP s;rw[hd2]at this
    cases hf:bG (fK x x.l.length) s with
    |none=>rw[hf]at this;cases this
    |some i2=>exact⟨i2,rfl⟩
   have he2:jQ x i2=d2:=by have:=hP s;rw[hi2,hd2]at this;exact sB this
   have hil2:=GI x s _ _ hi2;refine aI ?_;rw[es];refine bU (G1 ho2 hc2 hl2 aA s) fun u hu=>?_
   repeat(refine Fm ?_;try first|intro ao cap|intro b)
   rename_i a1 c1
   have hk1:(x.l.getD i2 default).kind≠1:=by
    have:(jQ x i2).kind=2∨(jQ x i2).kind=3:=by rw[he2];exact hk2
    intro h1;rcases this with h2|h2<;>exact absurd ((show(jQ x i2).kind=1 from h1).symm.trans h2) aK
   rw[show tl2.length+1=(tl2 ++[i2]).length by simp,show hl2.length+1=(hl2 ++[s]).length by simp];refine End.bK hK2 ⟨j+1,a1,c1,hl2 ++[s],ao,cap,tl2 ++[i2],new ++[s]⟩ ⟨hlt,⟨?_,?_,?_⟩,hfo,?_,?_⟩ (by dsimp only;omega)
   ·exact r9.2 ⟨ok2.nd,aW,fun a ha b hb=>by rw[dY]at hb;exact fun h'=>hin (by rw[←hb,←h'];exact ha)⟩
   ·intro q hq;rcases dF.1 hq with hq|hq
    ·exact ok2.cG q hq
    ·rw[dY.1 hq];exact hkc s hsm
   ·intro q hq;rcases dF.1 hq with hq|hq
    ·exact ok2.todo q hq
    ·rw[dY.1 hq];exact⟨hil2,hk1⟩
   ·simp only[Jq,hmp,List.filterMap_append,Jt];simp[hd2,he2]
   ·simp only[Jl,gE];omega
end
abbrev MX(x:cT)(i:Nat):List aH×List aH:=Fr.kV (x.l.map DL.df) (x.l.length+1) [] [jQ x i]
def mT(x:cT)(p:Nat→Bool)(k:Nat):Nat:=((List.range k).filter fun i=>decide ((x.l.getD i default).kind=4)&&p i).length
theorem IM(x:cT)(p:Nat→Bool)(k:Nat):mT x p (k+1)=mT x p k+if(x.l.getD k default).kind=4∧p k=true then 1 else 0:=by
 unfold mT;rw[nT,qD,Jl];congr 1
 by_cases h:(x.l.getD k default).kind=4∧p k=true
 ·rw[if_pos h];simp only[l0,List.filter_nil];rw[if_pos (by rw[decide_eq_true h.1,h.2];rfl)];rfl
 ·rw[if_neg h];simp only[l0,List.filter_nil];rw[if_neg (by rw[JX,JV];exact h)];rfl
theorem QX(x:cT)(p:Nat→Bool){j k:Nat}(h:j≤k):mT x p j≤mT x p k:=by
 induction k with
 |zero=>
  obtain rfl:j=0:=aA;exact bS _
 |succ k ih=>
  rcases Nat.lt_or_eq_of_le h with h|rfl
  ·have:=ih aA;rw[IM];omega
  ·exact bS _
abbrev yG(x:cT)(b:aH)(i:Nat):Bool:=decide (b∈(MX x i).1)
abbrev yE(x:cT)(b:aH)(i:Nat):Bool:=decide (b∈(MX x i).2)
def C6(x:cT)(i:Nat):Prop:=mT x (yG x (x.l.getD i default).name) x.l.length≤1∧mT x (yE x (x.l.getD i default).name) x.l.length≤1
theorem aEv{α:Type} [Inhabited α](l:List α):(List.range l.length).map (fun i=>l.getD i default)=l:=by
 have:=AV l id;simpa using this
theorem QW(x:cT)(f:Fr.Df→Bool):mT x (fun i=>f (jQ x i)) x.l.length=(((x.l.map DL.df).filter fun d=>decide (d.kind=4)).filter f).length:=by
 unfold mT;rw[List.filter_filter]
 conv=>rhs;rw[←aEv x.l]
 rw[qG,xD,Jf];congr 1;refine List.filter_congr fun i _=>?_;rw[Bool.and_comm];rfl
theorem UY(x:cT):Fr.vP (x.l.map DL.df)=true↔∀i,i<x.l.length→(x.l.getD i default).kind=1→C6 x i:=by
 have hc:∀i,(C6 x i↔(decide ((((x.l.map DL.df).filter fun d=>decide (d.kind=4)).filter fun t=>decide ((jQ x i).name∈(Fr.kV (x.l.map DL.df) ((x.l.map DL.df).length+1) [] [t]).1)).length≤1)&&decide ((((x.l.map DL.df).filter fun d=>decide (d.kind=4)).filter fun t=>decide ((jQ x i).name∈(Fr.kV (x.l.map DL.df) ((x.l.map DL.df).length+1) [] [t]).2)).length≤1))=true):=fun i=>by
  unfold C6;rw[←QW,←QW,JX,JV,JV,Jf];exact Iff.rfl
 unfold Fr.vP;rw[pD];constructor
 ·intro h i hi hk;exact(hc i).2 (h (jQ x i) (mA.2 ⟨mR (dW hi),decide_eq_true hk⟩))
 ·intro h d hd;obtain⟨h1,h2⟩:=mA.1 hd;obtain⟨e,he,rfl⟩:=eY.1 h1;obtain⟨i,hi,rfl⟩:=pC he;have e2:x.l[i]=x.l.getD i default:=by rw[Jd,Je hi];rfl
  rw[e2]at h2⊢;exact(hc i).1 (h i hi (of_decide_eq_true h2))
theorem aD7{s:aH}(h:Fr.named s=true):s≠[]:=fun e=>by
 subst e;unfold Fr.named at h;simp at h
theorem aGR{l:List DL}(h:Fr.shaped (l.map DL.df)=true):∀d∈l,d.name≠[]:=by
 unfold Fr.shaped at h;rw[JX]at h;obtain⟨c,hc⟩:=lK.1 h.2;clear h;generalize 0=c0 at hc
 induction l generalizing c0 with
 |nil=>simp
 |cons y l ih=>
  rw[fI,Fr.lS]at hc;obtain⟨c1,h1,hc⟩:=bF.1 hc;intro d hd;rcases cY.1 hd with rfl|hd
  ·rw[GK]at h1;obtain⟨c2, -,h1⟩:=bF.1 h1
   split at h1
   ·next hh=>exact aD7 hh.2.2.1
   ·cases h1
  ·exact ih _ hc d hd
theorem IK(P:List Fr.Df):Fr.check P=(nX P&&Fr.vP P):=rfl
end Vw
section
open Go Go.RowKit
section
variable{P:Program} [eT P]{N:Nd}{E:Env}{L:List Chunk}
theorem Still.RW{x:Operand}{d:Option Tmp}{T ft ty e:TypeId}{pos:String}{aft:Array Edge}{g:Option (Nat×Bool)}{fs:List (Nat×TypeId)}{s' b' f off s2 b2:Nat}{z' z2:List Value}{cs:Array Value}{v:Value}(hx:ev E x=Option.some (.agg cs))(ht:bB P T=Option.some ⟨.struct fs,s',b',z'⟩)
  (hf:fs[f]?=Option.some (off,ft)) (hj:bB P ft=Option.some ⟨.slice e,s2,b2,z2⟩) (hv:cs[off]?=Option.some v):Still P N ⟨d, .field T x f,ty,pos,aft,g⟩ E L v:=fun A w hs _=>by
 obtain⟨l,h1,h2⟩:=(cI ht).struct;rw[←h2,JU]at hf;have h3:=(cI hj).slice
 cases hlf:l[f]? with
 |none=>rw[Array.getElem?_toList,hlf]at hf;cases hf
 |some fl=>
  rw[Array.getElem?_toList,hlf]at hf;simp only[pA,tE,u7]at hf;obtain⟨rfl,rfl⟩:=hf;simp[execOp,hs.ev hx,Instr.field,run_underlying h1,hlf,part,isAgg,run_underlying h3,asAgg,hv]
end
end
namespace Vw
open Go.RowKit Img
section
attribute [local irreducible] aE aG End aB Still aN aU RunT Fn aS
abbrev BE(v:dT):Value:= .agg #[.slice none 0 0, .slice v.so v.sl.length v.sc, .slice v.ro v.rl.length v.rc]
def ZZ(x:cT)(k:Nat)(T:List (aH×dT))(bs:List Chunk):Prop:=(∀s,s∉((List.range k).map fun i=>(x.l.getD i default).name)→bG T s=none)∧∀i,i<k→(x.l.getD i default).kind=4→∃v,bG T (x.l.getD i default).name=some v∧MX x i=(v.sl,v.rl)∧v.sl.length≤100000∧v.rl.length≤100000∧arr v.so v.sl.length v.sc 9 gL v.sl∈bs∧arr v.ro v.rl.length v.rc 9 gL v.rl∈bs
theorem CX:∀c∈([]:List Chunk),c.bE=true:=aW
def AP(t:aH×aH×aH):List Value:=[sv t.1,sv t.2.1,sv t.2.2]
instance:bH AP:=⟨fun _=>rfl,aK,fun a u hu=>by simp[AP]at hu;rcases hu with rfl|rfl|rfl<;>rfl⟩
abbrev O1:=Nat×Option Addr×Nat×List (aH×aH×aH)
structure O2 where
 j:Nat
 T:List (aH×dT)
 bs:List Chunk
set_option maxHeartbeats 1000000 in
theorem aEL(cs:List Chunk)(x:cT)(h:oH cs x.o x.c x.l):Fn Tryz.prog 97 #[.slice x.o x.l.length x.c] [bX cs,cF] [] (σ:=(Option Addr×Nat×Nat)×Int×Int) (fun r=>(r.2.1=0∧r.2.2=0∧Fr.check (x.l.map DL.df)=true)∨(r.2.1≠0∧Fr.check (x.l.map DL.df)=false)) (fun r=> .tuple #[.slice r.1.1 r.1.2.1 r.1.2.2, .agg #[.int .i64 r.2.1, .int .i64 r.2.2]]) (fun r=>[]):=by
 have ha:=h.arr;rw[IK];refine JE [.slice x.o x.l.length x.c] Tryz.func97 Tryz.ntmps97 fun w S=>?_;refine Jn ?_
 repeat(refine Fm ?_;try intro b)
 obtain⟨fb,rfl⟩:=a7 b;refine bU (aD6 cs x h) fun r hr=>?_;obtain⟨⟨pb,mb⟩,ns,e,ea⟩:=r;rcases hr with⟨he,hns,hck⟩|⟨he,hck⟩
 rotate_left
 ·have he':decide (e=0)=false:=decide_eq_false he
  repeat(refine Fm ?_;try intro b)
  exact End.oM ((none,0,0),e,ea) (.inr ⟨he,by rw[hck];rfl⟩) rfl (hx:=CX)
 dsimp only at he hns;subst he hns;have hck':=hck;unfold nX at hck';simp only[JX]at hck';obtain⟨⟨⟨⟨hsh,hnd⟩, -⟩, -⟩, -⟩:=hck';have hnd:=of_decide_eq_true hnd;obtain⟨h30,hS⟩:=GZ hsh;have hne:=aGR hsh;rw[hck,xF];clear hsh;rw[qG,show((fun x=>x.name)∘DL.df)=DL.name from rfl,←AV x.l (·.name)]at hnd
 repeat(refine Fm ?_;try intro b)
 apply aE.op aV;refine aB.pO (κ:=aH) BE aV fun um=>?_;refine Jn ?_;apply aE.imp (fun w hm=>hm.gH);refine aI ?_;refine cK (σ:=O2) (fun z=>z.j≤x.l.length∧ZZ x z.j z.T z.bs) (fun z=>[(0, .slice x.o x.l.length x.c),(3,ptr fb),(4,ptr pb),(6, .map (some um)),(27, .int .i64 x.l.length),(28, .int .i64 z.j)]) (fun z:O2=>aO w S::bX cs::cF::aF fb [.int .i64 0, .int .i64 0] 70::mp um BE z.T::bC z.bs::j3 pb mb x (fK x x.l.length)) (fun z=>x.l.length-z.j) ⟨0,[],[]⟩ ?_ fun z hz K hK=>?_
 ·exact⟨bQ _,fun s _=>rfl,fun i hi=>absurd hi (xE i)⟩
 refine Jn ?_;obtain⟨j,T,bs⟩:=z;obtain⟨hj,hT1,hT2⟩:=hz;dsimp only at hj hT1 hT2⊢
 by_cases hlt:j<x.l.length
 ·have hd:=(h.at hlt).has
  by_cases k4:(x.l.getD j default).kind=4
  ·refine aI ?_;refine b8 12 [bX cs] 12 ?_;refine iU [0,1,2] ?_;refine TH 3 ?_;refine JN 4 ?_;refine TH 5 ?_;refine iU [6,7,8] ?_;refine TH 9 ?_;refine jF 10 (aFe cs x h hck pb mb j hlt (by rw[k4];decide)) fun v hv=>?_;obtain⟨-, -, -,hv,hvs,hvr⟩:=hv;refine JT 11 ?_;refine aB.rO (g:=BE) (a:=v) (k:=?_);refine JG ?_;refine Jn ?_;rw[pQ _ _ _ (hT1 _ fun hm=>GD hnd hlt hm)];refine b6 ?_;apply End.imp (fun w hm=>hm.nC (cs:=bs ++[arr v.so v.sl.length v.sc 9 gL v.sl,arr v.ro v.rl.length v.rc 9 gL v.rl]) (ds:=[arr v.so v.sl.length v.sc 9 gL v.sl,arr v.ro v.rl.length v.rc 9 gL v.rl]) (es:=bs) tk (.cons tk (.cons tk .nil)) pB (by simp[dU]));refine aI ?_;refine End.bK hK ⟨j+1,T ++[((x.l.getD j default).name,v)],bs ++[arr v.so v.sl.length v.sc 9 gL v.sl,arr v.ro v.rl.length v.rc 9 gL v.rl]⟩ ⟨hlt,fun s hs=>?_,fun i hi hk=>?_⟩ (by show x.l.length-(j+1)<x.l.length-j;omega)
   ·rw[nT,Jq,dF,not_or]at hs;rw[AH,hT1 s hs.1,Option.none_or,if_neg (fun e=>hs.2 (by rw[←e];simp))]
   ·rcases wY.1 hi with hi|rfl
    ·obtain⟨u,u1,u2,u5,u6,u3,u4⟩:=hT2 i hi hk;exact⟨u,by rw[AH,u1];rfl,u2,u5,u6,kY _ u3,kY _ u4⟩
    ·exact⟨v,by rw[AH,hT1 _ (fun hm=>GD hnd hlt hm),Option.none_or,if_pos rfl],hv,hvs,hvr,aW,aW⟩
  ·refine aI ?_;refine End.bK hK ⟨j+1,T,bs⟩ ⟨hlt,fun s hs=>hT1 s (fun hm=>hs (by rw[nT,Jq];exact kY _ hm)),fun i hi hk=>?_⟩ (by show x.l.length-(j+1)<x.l.length-j;omega);rcases wY.1 hi with hi|rfl
   ·exact hT2 i hi hk
   ·exact absurd hk k4
 obtain rfl:j=x.l.length:=aA;refine aI ?_;apply aG.imp (fun w hm=>hm.cU 272 AP);clear hlt hj hK;refine cK (σ:=O1) (fun z=>z.1≤x.l.length∧z.2.2.2.length≤z.1∧∀i,i<z.1→(x.l.getD i default).kind=1→C6 x i) (fun z=>[(0, .slice x.o x.l.length x.c),(3,ptr fb),(6, .map (some um)),(8, .slice z.2.1 z.2.2.2.length z.2.2.1),(49, .slice x.o x.l.length x.c),(50, .int .i64 x.l.length),(51, .int .i64 z.1)]) (fun z:O1=>[aO w S,bX cs,aF fb [.int .i64 0, .int .i64 0] 70,mp um BE T,bC bs,arr z.2.1 z.2.2.2.length z.2.2.1 272 AP z.2.2.2]) (fun z=>x.l.length-z.1) (0,none,0,[]) ?_ fun z hz K hK=>?_
 ·exact⟨bQ _,bS _,fun i hi=>absurd hi (xE i)⟩
 refine Jn ?_;obtain⟨j,oo',oc,ol⟩:=z;obtain⟨hj,hol,hoj⟩:=hz;dsimp only at hj hol hoj⊢
 by_cases hlt:j<x.l.length
 rotate_left
 ·refine aI ?_;exact End.oM ((oo',ol.length,oc),0,0) (.inl ⟨rfl,rfl,(UY x).2 fun i hi=>hoj i aA⟩) rfl (hx:=CX)
 have hd:=(h.at hlt).has
 by_cases k1:(x.l.getD j default).kind=1
 rotate_left
 ·repeat(refine Fm ?_;try intro b)
  refine End.bK hK (j+1,oo',oc,ol) ⟨hlt,by dsimp only;omega,fun i hi hk=>?_⟩ (by dsimp only;omega);rcases wY.1 hi with hi|rfl
  ·exact hoj i hi hk
  ·exact absurd hk k1
 repeat(refine Fm ?_;try intro b)
 obtain⟨ob',rfl⟩:∃x,x=b:=⟨_,rfl⟩;obtain⟨db,rfl⟩:=a7 b;have hbad:¬C6 x j→Fr.vP (x.l.map DL.df)=false:=fun hn=>by
  cases hb:Fr.vP (x.l.map DL.df)with
  |false=>rfl
  |true=>exact absurd ((UY x).1 hb j hlt k1) hn
 refine cK (σ:=Nat×aH×aH) (fun z=>z.1≤x.l.length∧(z.2.1=[]↔mT x (yG x (x.l.getD j default).name) z.1=0)∧(z.2.2=[]↔mT x (yE x (x.l.getD j default).name) z.1=0)∧mT x (yG x (x.l.getD j default).name) z.1≤1∧mT x (yE x (x.l.getD j default).name) z.1≤1) (fun z=>[(0, .slice x.o x.l.length x.c),(3,ptr fb),(6, .map (some um)),(8, .slice oo' ol.length oc),(9, .int .i64 j),(10,ptr db),(11,ptr ob'),(49, .slice x.o x.l.length x.c),(50, .int .i64 x.l.length),(51, .int .i64 j),(62, .slice x.o x.l.length x.c),(63, .int .i64 x.l.length),(64, .int .i64 z.1)]) (fun z:Nat×aH×aH=>[aO w S,bX cs,aF fb [.int .i64 0, .int .i64 0] 70,mp um BE T,bC bs,arr oo' ol.length oc 272 AP ol,aF db (mV (x.l.getD j default)) 145,aF ob' [sv (x.l.getD j default).name,sv z.2.1,sv z.2.2] 272]) (fun z=>x.l.length-z.1) (0,[],[]) ?_ fun z hz K3 hK3=>?_
 ·exact⟨bQ _,⟨fun _=>rfl,fun _=>rfl⟩,⟨fun _=>rfl,fun _=>rfl⟩,by show mT x _ 0≤1;unfold mT;simp,by show mT x _ 0≤1;unfold mT;simp⟩
 refine Jn ?_;obtain⟨k,wr,rd'⟩:=z;obtain⟨hk,hw0,hr0,hw1,hr1⟩:=hz;dsimp only at hk hw0 hr0 hw1 hr1⊢
 by_cases hkl:k<x.l.length
 rotate_left
 ·obtain rfl:k=x.l.length:=aA
  repeat(refine Fm ?_;try intro b)
  (apply aE.op;exact rfl;refine aB.jN (a:=(((x.l.getD j default).name,wr,rd'):aH×aH×aH)) (k:=?_);intro ao cap;refine Jn ?_);refine aI ?_;rw[show ol.length+1=(ol ++[((x.l.getD j default).name,wr,rd')]).length by simp];refine End.bK hK (j+1,ao,cap,ol ++[((x.l.getD j default).name,wr,rd')]) ⟨hlt,by simp only[Jl,gE];omega,fun i hi hk=>?_⟩ (by dsimp only;omega);rcases wY.1 hi with hi|rfl
  ·exact hoj i hi hk
  ·exact⟨hw1,hr1⟩
 have hdk:=(h.at hkl).has;have cs1:=IM x (yG x (x.l.getD j default).name) k;have cr1:=IM x (yE x (x.l.getD j default).name) k
 by_cases k4:(x.l.getD k default).kind=4
 rotate_left
 ·rw[if_neg (fun h=>k4 h.1),Nat.add_zero]at cs1 cr1
  repeat(refine Fm ?_;try intro b)
  exact End.bK hK3 (k+1,wr,rd') ⟨hkl,by rw[cs1];exact hw0,by rw[cr1];exact hr0,by rw[cs1];exact hw1,by rw[cr1];exact hr1⟩ (by dsimp only;omega)
 obtain⟨v,hv1,hv2,hvs,hvr,hv3,hv4⟩:=hT2 k hkl k4;have hnk:=hne _ (dW hkl);have hsd:yG x (x.l.getD j default).name k=decide ((x.l.getD j default).name∈v.sl):=by unfold yG;rw[hv2]
 have hrv:yE x (x.l.getD j default).name k=decide ((x.l.getD j default).name∈v.rl):=by unfold yE;rw[hv2]
 rw[hsd]at cs1;rw[hrv]at cr1;have ms:=QX x (yG x (x.l.getD j default).name) (show k+1≤x.l.length by omega);have mr:=QX x (yE x (x.l.getD j default).name) (show k+1≤x.l.length by omega)
 repeat(refine Fm ?_;try intro b)
 obtain⟨tb,rfl⟩:=a7 b;apply aE.op aV;refine aB.bP (h:=Still.RW rfl rfl rfl rfl rfl) (k:=?_);refine aI ?_;apply aE.op aV;refine aB.bP (h:=Still.RW rfl rfl rfl rfl rfl) (k:=?_)
 repeat(refine Fm ?_;try intro b)
 obtain⟨vb,rfl⟩:=a7 b;refine cK (σ:=Nat×aH×aH) (fun z=>(z.1=0∧z.2.1=wr∧z.2.2=rd')∨(z.1=1∧z.2.1=(if(x.l.getD j default).name∈v.sl then(x.l.getD k default).name else wr)∧z.2.2=rd'∧((x.l.getD j default).name∈v.sl→wr=[]))∨(z.1=2∧z.2.1=(if(x.l.getD j default).name∈v.sl then(x.l.getD k default).name else wr)∧z.2.2=(if(x.l.getD j default).name∈v.rl then(x.l.getD k default).name else rd')∧((x.l.getD j default).name∈v.sl→wr=[])∧((x.l.getD j default).name∈v.rl→rd'=[]))) (fun z=>[(0, .slice x.o x.l.length x.c),(3,ptr fb),(6, .map (some um)),(8, .slice oo' ol.length oc),(9, .int .i64 j),(10,ptr db),(11,ptr ob'),(49, .slice x.o x.l.length x.c),(50, .int .i64 x.l.length),(51, .int .i64 j),(62, .slice x.o x.l.length x.c),(63, .int .i64 x.l.length),(64, .int .i64 k),(13,ptr tb),(85, .slice (some ⟨vb,0,none⟩) 2 2),(86, .int .i64 2),(87, .int .i64 z.1)]) (fun z:Nat×aH×aH=>[aO w S,bX cs,aF fb [.int .i64 0, .int .i64 0] 70,mp um BE T,bC bs,arr oo' ol.length oc 272 AP ol,aF db (mV (x.l.getD j default)) 145,aF ob' [sv (x.l.getD j default).name,sv z.2.1,sv z.2.2] 272,aF tb (mV (x.l.getD k default)) 145,aF vb [.slice v.so v.sl.length v.sc, .pointer (some ⟨ob',0+1,none⟩), .slice v.ro v.rl.length v.rc, .pointer (some ⟨ob',0+2,none⟩)] 274]) (fun z=>2-z.1) (0,wr,rd') ?_ fun z hz K4 hK4=>?_
 ·exact .inl ⟨rfl,rfl,rfl⟩
 refine Jn ?_;obtain⟨q,w2,r2⟩:=z;dsimp only at hz⊢;rcases hz with⟨rfl,rfl,rfl⟩|⟨rfl,rfl,rfl,e1⟩|⟨rfl,rfl,rfl,e1,e2⟩
 ·refine aI ?_;apply aE.op aV;refine aB.bP (h:=Still.EH (i:=0) rfl rfl rfl rfl rfl aA) (k:=?_)
  repeat(refine Fm ?_;try intro b)
  refine bU (G1 v.so v.sc v.sl aA (x.l.getD j default).name) fun u hu=>?_
  by_cases hin:(x.l.getD j default).name∈v.sl
  ·have hin':decide ((x.l.getD j default).name∈v.sl)=true:=decide_eq_true hin
   by_cases hw:w2=[]
   ·have hw':decide (w2=[])=true:=decide_eq_true hw;refine aI ?_;exact End.bK hK4 (1,(x.l.getD k default).name,r2) (.inr (.inl ⟨rfl,(if_pos hin).symm,rfl,fun _=>hw⟩)) (by dsimp only;omega)
   ·have hw':decide (w2=[])=false:=decide_eq_false hw;refine aI ?_;refine End.oM ((none,0,0),8,(j:Int)) (.inr ⟨show(8:Int)≠0 by decide,hbad fun ho=>?_⟩) rfl (hx:=CX);rw[if_pos ⟨k4,hin'⟩]at cs1;have h1:=ho.1;exact hw (hw0.2 aA)
  ·have hin':decide ((x.l.getD j default).name∈v.sl)=false:=decide_eq_false hin;refine aI ?_;exact End.bK hK4 (1,w2,r2) (.inr (.inl ⟨rfl,(if_neg hin).symm,rfl,fun h=>absurd h hin⟩)) (by dsimp only;omega)
 ·refine aI ?_;apply aE.op aV;refine aB.bP (h:=Still.EH (i:=1) rfl rfl rfl rfl rfl aA) (k:=?_)
  repeat(refine Fm ?_;try intro b)
  refine bU (G1 v.ro v.rc v.rl aA (x.l.getD j default).name) fun u hu=>?_
  by_cases hin:(x.l.getD j default).name∈v.rl
  ·have hin':decide ((x.l.getD j default).name∈v.rl)=true:=decide_eq_true hin
   by_cases hw:r2=[]
   ·have hw':decide (r2=[])=true:=decide_eq_true hw;refine aI ?_;exact End.bK hK4 (2,(if(x.l.getD j default).name∈v.sl then(x.l.getD k default).name else wr),(x.l.getD k default).name) (.inr (.inr ⟨rfl,rfl,(if_pos hin).symm,e1,fun _=>hw⟩)) (by dsimp only;omega)
   ·have hw':decide (r2=[])=false:=decide_eq_false hw;refine aI ?_;refine End.oM ((none,0,0),8,(j:Int)) (.inr ⟨show(8:Int)≠0 by decide,hbad fun ho=>?_⟩) rfl (hx:=CX);rw[if_pos ⟨k4,hin'⟩]at cr1;have h1:=ho.2;exact hw (hr0.2 aA)
  ·have hin':decide ((x.l.getD j default).name∈v.rl)=false:=decide_eq_false hin;refine aI ?_;exact End.bK hK4 (2,(if(x.l.getD j default).name∈v.sl then(x.l.getD k default).name else wr),r2) (.inr (.inr ⟨rfl,rfl,(if_neg hin).symm,e1,fun h=>absurd h hin⟩)) (by dsimp only;omega)
 ·refine aI ?_;have key:∀{w:aH} {c c':Nat} {p:Prop} [Decidable p],(w=[]↔c=0)→c≤1→c'=c+(if(x.l.getD k default).kind=4∧decide p=true then 1 else 0)→(p→w=[])→((if p then(x.l.getD k default).name else w)=[]↔c'=0)∧c'≤1:=fun{w c c' p} _ h1 h2 h3 h4=>by
   by_cases hp:p
   ·rw[if_pos ⟨k4,decide_eq_true hp⟩]at h3;rw[if_pos hp];have:=h1.1 (h4 hp);exact⟨⟨fun h=>absurd h hnk,fun h=>aA⟩,aA⟩
   ·rw[if_neg (fun h=>hp (of_decide_eq_true h.2))]at h3;rw[if_neg hp,h3,Nat.add_zero];exact⟨h1,h2⟩
  obtain⟨a1,a2⟩:=key hw0 hw1 cs1 e1;obtain⟨a3,a4⟩:=key hr0 hr1 cr1 e2;exact End.bK hK3 (k+1,_,_) ⟨hkl,a1,a3,a2,a4⟩ (by dsimp only;omega)
theorem aAb(cs:List Chunk)(x:cT)(h:oH cs x.o x.c x.l):Fn Tryz.prog 54 #[.slice x.o x.l.length x.c] [bX cs,cF] [] (σ:=Int×Int) (fun r=>(r.1=0∧r.2=0∧Fr.check (x.l.map DL.df)=true)∨(r.1≠0∧Fr.check (x.l.map DL.df)=false)) (fun r=> .agg #[.int .i64 r.1, .int .i64 r.2]) (fun r=>[]):=by
 refine JE [.slice x.o x.l.length x.c] Tryz.func54 Tryz.ntmps54 fun w S=>?_;refine Jn ?_
 repeat(refine Fm ?_;try intro b)
 refine bU (aEL cs x h) fun r hr=>?_
 repeat(refine Fm ?_;try intro b)
 exact End.fX r.2 (he:=rfl) (hp:=hr) (hx:=CX)
end
end Vw
end Go.Proofs.YtofckcabpchcmaaGreatDoor
