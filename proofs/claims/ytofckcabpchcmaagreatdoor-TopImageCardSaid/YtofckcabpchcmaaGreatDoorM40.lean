/- What package gen writes of a program that means something: how much, with what types. Plain Lean. -/
import Derived.Test.YtofckcabpchcmaaGreatDoorM39
set_option linter.unusedVariables false
set_option linter.unusedSimpArgs false
set_option linter.unusedSectionVars false
set_option maxRecDepth 100000
namespace Go.Proofs.YtofckcabpchcmaaGreatDoor
namespace Fr
open ImgM
mutual
def pR:Ex→Nat
 | .mk _ _ _ l=>1+pS l
def pS:List Ex→Nat
 |[]=>0
 |x::l=>pR x+pS l
end
mutual
def vN:St→Nat
 | .mk k _ x b e=>1+((if k=6 then 0 else pR x)+((if k=3∨k=4 then kU b else 0)+(if k=3 then kU e else 0)))
def kU:List St→Nat
 |[]=>0
 |x::l=>vN x+kU l
end
mutual
theorem UA:∀(x:Ex) (d c c':Nat),iG d x c=some c'→c'=c+pR x
 | .mk k n s l,d,c,c',h=>by
  rw[iG]at h;obtain⟨c1,h1,h⟩:=bF.1 h;obtain⟨e1, -⟩:=AL h1
  split at h
  ·have:=UB l _ _ _ h;rw[pR];omega
  ·cases h
theorem UB:∀(l:List Ex) (d c c':Nat),iX d l c=some c'→c'=c+pS l
 |[],d,c,c',h=>by rw[iX]at h;cases h;rw[pS];rfl
 |x::l,d,c,c',h=>by
  rw[iX]at h;obtain⟨c1,h1,h⟩:=bF.1 h;have a:=UA x _ _ _ h1;have b:=UB l _ _ _ h;rw[pS];omega
end
mutual
theorem aDr:∀(x:St) (d c c':Nat),jT d x c=some c'→c'=c+vN x
 | .mk k s x b e,d,c,c',h=>by
  rw[jT]at h;obtain⟨c1,h1,h⟩:=bF.1 h;obtain⟨e1, -⟩:=AL h1
  split at h
  ·rw[vN]
   by_cases h6:k=6
   ·rw[if_pos h6]at h
    cases h
    rw[if_pos h6,if_neg (show¬(k=3∨k=4) by omega),if_neg (show¬k=3 by omega)];omega
   ·rw[if_neg h6]at h;obtain⟨c2,h2,h⟩:=bF.1 h;obtain⟨c3,h3,h⟩:=bF.1 h;have a:=UA x _ _ _ h2;have b':c3=c2+(if k=3∨k=4 then kU b else 0):=by
     by_cases h34:k=3∨k=4
     ·rw[if_pos h34]at h3;rw[if_pos h34]
      split at h3
      ·cases h3
      ·exact GG b _ _ _ h3
     ·rw[if_neg h34]at h3;rw[if_neg h34];cases h3;rfl
    have e':c'=c3+(if k=3 then kU e else 0):=by
     by_cases h33:k=3
     ·rw[if_pos h33]at h;rw[if_pos h33]
      split at h
      ·cases h
      ·exact GG e _ _ _ h
     ·rw[if_neg h33]at h;rw[if_neg h33];cases h;rfl
    rw[if_neg h6];omega
  ·cases h
theorem GG:∀(l:List St) (d c c':Nat),eH d l c=some c'→c'=c+kU l
 |[],d,c,c',h=>by rw[eH]at h;cases h;rw[kU];rfl
 |x::l,d,c,c',h=>by
  rw[eH]at h;obtain⟨c1,h1,h⟩:=bF.1 h;have a:=aDr x _ _ _ h1;have b:=GG l _ _ _ h;rw[kU];omega
end
theorem lF{α:Type}{c:Prop} [Decidable c]{p:α→Prop}{a b:α}(h1:c→p a)(h2:¬c→p b):p (if c then a else b):=by
 by_cases h:c
 ·rw[if_pos h];exact h1 h
 ·rw[if_neg h];exact h2 h
section
variable(P:List Df)(tk:Int)
mutual
theorem wR:∀(x:Ex) (w:Wr),(bD P tk x w).1.locals=w.locals∧(bD P tk x w).1.blocks=w.blocks∧(bD P tk x w).1.code.length=w.code.length+pR x
 | .mk k n s l,w=>by
  have h:=DY l w;rw[bD,pR];generalize dS P tk l w=r at h⊢;obtain⟨w1,ts⟩:=r;dsimp only at h⊢;have key:∀y:Wr×Int,(∃op a n t,y=(w1.put op a n,t))→y.1.locals=w.locals∧y.1.blocks=w.blocks∧y.1.code.length=w.code.length+(1+pS l):=fun y hy=>by
   obtain⟨op,a,n,t,rfl⟩:=hy;exact⟨h.1,h.2.1,by simp only[Wr.put,Jl,gE,h.2.2];omega⟩
  refine key _ ?_
  repeat' (first|exact⟨_,_,_,_,rfl⟩|refine lF (p:=fun y=>∃op a n t,y=(w1.put op a n,t)) (fun _=>?_) (fun _=>?_))
theorem DY:∀(l:List Ex) (w:Wr),(dS P tk l w).1.locals=w.locals∧(dS P tk l w).1.blocks=w.blocks∧(dS P tk l w).1.code.length=w.code.length+pS l
 |[],w=>by rw[dS,pS];exact⟨rfl,rfl,rfl⟩
 |x::l,w=>by
  have a:=wR x w;have b:=DY l (bD P tk x w).1;rw[dS,pS];exact⟨b.1.trans a.1,b.2.1.trans a.2.1,by rw[b.2.2,a.2.2];omega⟩
end
end
theorem CY:∀{P:List Df},(P.map (·.name)).Nodup→∀{d:Df},d∈P→(P.find? fun e=>decide (e.name=d.name))=some d
 |[],_,d,hd=>by simp at hd
 |e::P,h,d,hd=>by
  rw[fI,zB]at h;rw[y8];rcases cY.1 hd with rfl|hd
  ·simp
  ·have:¬e.name=d.name:=fun he=>h.1 (by rw[he];exact mR hd);simp only[this,decide_false];exact CY h.2 hd
section
variable{P:List Df}(hn:(P.map (·.name)).Nodup)
include hn
theorem T9(q:Df→Bool){s:aH}{d:Df}(h:dG P s=some d)(hq:q d=true):∃k,((P.filter q).findIdx? fun d=>decide (d.name=s))=some k∧(P.filter q)[k]?=some d:=by
 obtain⟨hm,rfl⟩:=pI h;have hm2:d∈P.filter q:=mA.2 ⟨hm,hq⟩;have hn2:((P.filter q).map (·.name)).Nodup:=(List.filter_sublist.map _).nodup hn;have hf:=CY hn2 hm2
 cases hx:(P.filter q).findIdx? fun e=>decide (e.name=d.name)with
 |none=>
  rw[List.findIdx?_eq_none_iff]at hx;have:=hx d hm2;simp at this
 |some k=>
  refine⟨k,rfl,?_⟩;obtain⟨hk,h1, -⟩:=D7.1 hx;rw[Je hk];have hg:=CY hn2 (hZ hk);have h1':(P.filter q)[k].name=d.name:=of_decide_eq_true h1;rw[h1',hf]at hg;exact hg.symm
theorem HI{s:aH}{d:Df}(h:dG P s=some d)(hk:d.kind≠1):(P.filter fun d=>!decide (d.kind=1))[dE P s]?=some d∧((P.filter fun d=>!decide (d.kind=1)).findIdx? fun d=>decide (d.name=s))=some (dE P s):=by
 obtain⟨k,h1,h2⟩:=T9 hn (fun d=>!decide (d.kind=1)) h (by rw[decide_eq_false hk];rfl);unfold dE;rw[h1];exact⟨h2,rfl⟩
theorem IA{s:aH}{d:Df}(h:dG P s=some d)(hk:d.kind=1):(P.filter fun d=>decide (d.kind=1))[iC P s]?=some d∧((P.filter fun d=>decide (d.kind=1)).findIdx? fun d=>decide (d.name=s))=some (iC P s):=by
 obtain⟨k,h1,h2⟩:=T9 hn (fun d=>decide (d.kind=1)) h (decide_eq_true hk);unfold iC;rw[h1];exact⟨h2,rfl⟩
end
theorem wG{P:List Df}{t:Ty}(h:cV t=true):bO P t=t.kind:=by
 unfold bO;exact if_neg (by unfold cV at h;simpa using h)
theorem m5{P:List Df}(t:Ty):bO P (bare t)=bO P t:=by
 unfold bare
 by_cases h:cV t=true
 ·rw[if_pos h,wG h];exact wG h
 ·rw[if_neg h]
theorem DQ{P:List Df}{t:Ty}(h:cV t=false):bO P t=10+(dE P t.gen:Int):=by
 unfold bO;exact if_pos (by unfold cV at h;simpa using h)
def iJ(P:List Df)(lo:List Int):List (aH×Ty)→List (aH×Nat)→Prop
 |[],[]=>True
 |p::b,q::c=>p.1=q.1∧q.2<lo.length∧lo.getD q.2 0=bO P p.2∧iJ P lo b c
 |_,_=>False
def cX(P:List Df)(lo:List Int):Scope→List (List (aH×Nat))→Prop
 |[],[]=>True
 |b::B,c::C=>iJ P lo b c∧cX P lo B C
 |_,_=>False
section
variable{P:List Df}{lo:List Int}
theorem H6{α:Type}(p:aH×α)(b:List (aH×α))(s:aH):at_ (p::b) s=if p.1=s then some p.2 else at_ b s:=by
 unfold at_;rw[y8]
 by_cases h:p.1=s
 ·simp[h]
 ·simp[h]
theorem iJ.EI:∀{b:List (aH×Ty)} {c:List (aH×Nat)} {s:aH},iJ P lo b c→(∀t,at_ b s=some t→∃k,at_ c s=some k∧k<lo.length∧lo.getD k 0=bO P t)∧(at_ b s=none→at_ c s=none)
 |[],[],s,_=>⟨fun t h=>absurd h (by simp[at_]),fun _=>rfl⟩
 |p::b,q::c,s,h=>by
  obtain⟨h1,h2,h3,h4⟩:=h;have ih:=iJ.EI (s:=s) h4;rw[H6,H6,←h1]
  by_cases hs:p.1=s
  ·rw[if_pos hs,if_pos hs];exact⟨fun t ht=>⟨q.2,rfl,h2,by rw[h3,sB ht]⟩,fun h=>absurd h aW⟩
  ·rw[if_neg hs,if_neg hs];exact ih
 |[],_::_,s,h=>h.elim
 |_::_,[],s,h=>h.elim
theorem cX.look:∀{B:Scope} {C:List (List (aH×Nat))} {s:aH} {t:Ty},cX P lo B C→eN B s=some t→∃k,eN C s=some k∧k<lo.length∧lo.getD k 0=bO P t
 |[],[],s,t,_,h=>by cases h
 |b::B,c::C,s,t,h,ht=>by
  have a:=iJ.EI (s:=s) h.1;rw[eN]at ht⊢
  cases hb:at_ b s with
  |some u=>
   rw[hb]at ht;cases ht;obtain⟨k,h1,h2,h3⟩:=a.1 _ hb;exact⟨k,by rw[h1],h2,h3⟩
  |none=>
   rw[hb]at ht;rw[a.2 hb];exact cX.look h.2 ht
 |[],_::_,s,t,h,_=>h.elim
 |_::_,[],s,t,h,_=>h.elim
theorem iJ.mono(u:List Int):∀{b:List (aH×Ty)} {c:List (aH×Nat)},iJ P lo b c→iJ P (lo ++u) b c
 |[],[],_=>trivial
 |p::b,q::c,h=>⟨h.1,by rw[Jl];have:=h.2.1;omega,by
   have e:(lo ++u).getD q.2 0=lo.getD q.2 0:=by rw[Jd,Jd,tD h.2.1]
   rw[e];exact h.2.2.1,iJ.mono u h.2.2.2⟩
 |[],_::_,h=>h.elim
 |_::_,[],h=>h.elim
theorem cX.mono(u:List Int):∀{B:Scope} {C:List (List (aH×Nat))},cX P lo B C→cX P (lo ++u) B C
 |[],[],_=>trivial
 |_::_,_::_,h=>⟨iJ.mono u h.1,cX.mono u h.2⟩
 |[],_::_,h=>h.elim
 |_::_,[],h=>h.elim
theorem iJ.snoc{s:aH}{k:Nat}{t:Ty}(hk:k<lo.length)(ht:lo.getD k 0=bO P t):∀{b:List (aH×Ty)} {c:List (aH×Nat)},iJ P lo b c→iJ P lo (b ++[(s,t)]) (c ++[(s,k)])
 |[],[],_=>⟨rfl,hk,ht,trivial⟩
 |p::b,q::c,h=>⟨h.1,h.2.1,h.2.2.1,iJ.snoc hk ht h.2.2.2⟩
 |[],_::_,h=>h.elim
 |_::_,[],h=>h.elim
theorem cX.len:∀{B:Scope} {C:List (List (aH×Nat))},cX P lo B C→B.length=C.length
 |[],[],_=>rfl
 |_::_,_::_,h=>congrArg (· +1) (cX.len h.2)
 |[],_::_,h=>h.elim
 |_::_,[],h=>h.elim
end
section
variable(P:List Df)(tk:Int)
theorem ON(k n:Int)(s:aH)(l:List Ex)(w:Wr):bD P tk (.mk k n s l) w=(
  if k=1 then((dS P tk l w).1.put 1 0 n,1)
  else if k=2 then((dS P tk l w).1.put 2 n 0,2)
  else if k=3 then((dS P tk l w).1.put 3 ((dS P tk l w).1.look s) 0,(dS P tk l w).1.locals.getD ((dS P tk l w).1.look s) 0)
  else if k=4 then((dS P tk l w).1.put 6 0 0,1)
  else if k=5 then((dS P tk l w).1.put 7 0 0,2)
  else if 6≤k∧k≤18 then((dS P tk l w).1.put (8+k-6) 0 0,if k≤10 then 1 else 2)
  else if k=19 then((dS P tk l w).1.put 23 (dE P s) 0,q0 P s)
  else if k=20 then((dS P tk l w).1.put 27 (iC P s) 0,q0 P s)
  else if k=22 then((dS P tk l w).1.put 29 (dE P s) 0,10+(dE P s:Int))
  else if k=21 then((dS P tk l w).1.put 31 0 0,tk)
  else if k=24 then((dS P tk l w).1.put 32 0 0,2)
  else((dS P tk l w).1.put 30 0 0,match (P.filter fun d=>!decide (d.kind=1))[((dS P tk l w).2.headD 0-10).toNat]? with
   |some d=>bO P d.type
   |none=>0)):=by rw[bD];rfl
theorem OO(x:Ex)(l:List Ex)(w:Wr):dS P tk (x::l) w=((dS P tk l (bD P tk x w).1).1,(bD P tk x w).2::(dS P tk l (bD P tk x w).1).2):=by rw[dS]
def nP(k:Int)(s:aH)(r:Wr×Int):Wr:=
 if k=1 then(r.1.gK s r.2).put 4 r.1.locals.length 0
 else if k=2 then r.1.put 4 (r.1.look s) 0
 else if k=5 then r.1.put 24 0 0
 else if k=7 then r.1.put 26 (iC P s) 0
 else if k=8 then r.1.put 28 0 0
 else if k=9 then r.1.put 5 0 0
 else r.1
theorem HR(k:Int)(s:aH)(x:Ex)(b e:List St)(w:Wr):kL P tk (.mk k s x b e) w=(
  if k=3 then
   let v:=((bZ P tk b ((bD P tk x w).1.put 22 0 0).open_).close).put 21 0 0
   let u:=(bZ P tk e (v.patch ((bD P tk x w).1.code.length) v.code.length).open_).close
   u.patch (v.code.length-1) u.code.length
  else if k=4 then
   let v:=((bZ P tk b ((bD P tk x w).1.put 22 0 0).open_).close).put 21 w.code.length 0
   v.patch ((bD P tk x w).1.code.length) v.code.length
  else if k=6 then w.put 25 0 0
  else nP P k s (bD P tk x w)):=by
 have hl:∀(v:Wr) (op a n:Int),(v.put op a n).code.length-1=v.code.length:=fun v op a n=>by simp[Wr.put]
 rw[kL];simp only[hl];rfl
end
structure wX(P:List Df)(D:Df)(tk:Int):Prop where
 nd:(P.map (·.name)).Nodup
 gS:∀d∈P,gR P d=true
 mem:D∈P
 aP:D.kind=3→tk=bO P D.aP
section
variable{P:List Df}{D:Df}{tk:Int}(G:wX P D tk)
include G
theorem DX{B:Scope}(hB:gV P B):∀(x:Ex) (w:Wr) (d c c':Nat) (t:Ty),cX P w.locals B w.blocks→iG d x c=some c'→b9 P D B x=some t→(bD P tk x w).2=bO P t
 | .mk k n s l,w,d,c,c',t,hc,h,ht=>by
  have hk:=DY P tk l w;rw[iG]at h;obtain⟨c1, -,h⟩:=bF.1 h
  split at h
  ·next hh=>
   have hr:1≤k∧k≤24:=by
    unfold lO at hh;simp only[JX,JV]at hh;exact⟨hh.1.1.1.1.1.1,hh.1.1.1.1.1.2⟩
   rw[ON];rw[b9]at ht
   by_cases h1:k=1
   ·rw[if_pos h1]at ht;cases ht;rw[if_pos h1];rfl
   rw[if_neg h1]at ht⊢
   by_cases h2:k=2
   ·rw[if_pos h2]at ht;cases ht;rw[if_pos h2];rfl
   rw[if_neg h2]at ht⊢
   by_cases h3:k=3
   ·rw[if_pos h3]at ht;rw[if_pos h3];obtain⟨q,q1,q2,q3⟩:=hc.look ht;show(dS P tk l w).1.locals.getD ((dS P tk l w).1.look s) 0=_;unfold Wr.look;rw[hk.1,hk.2.1,q1];exact q3
   rw[if_neg h3]at ht⊢
   by_cases h4:k=4
   ·rw[if_pos h4]at ht;obtain⟨_,_,rfl⟩:=cQ.1 ht;rw[if_pos h4];rfl
   rw[if_neg h4]at ht⊢
   by_cases h5:k=5
   ·rw[if_pos h5]at ht;obtain⟨_,_,rfl⟩:=cQ.1 ht;rw[if_pos h5];rfl
   rw[if_neg h5]at ht⊢
   by_cases h11:k=11∨k=12
   ·rw[if_pos h11]at ht;obtain⟨ts,_,ht⟩:=bF.1 ht;have:t=gM:=by
     split at ht
     ·split at ht<;>cases ht;rfl
     ·cases ht
    rw[if_pos aA,this];show(if k≤10 then(1:Int)else 2)=2;rw[if_neg aA]
   rw[if_neg h11]at ht
   by_cases h618:6≤k∧k≤18
   ·(repeat rw[if_neg aA]at ht)
    obtain⟨_,_,rfl⟩:=cQ.1 ht;rw[if_pos h618];show(if k≤10 then(1:Int)else 2)=_
    by_cases h10:k≤10
    ·rw[if_pos h10,if_neg aA];rfl
    ·rw[if_neg h10,if_pos aA];rfl
   rw[if_neg h618]
   by_cases h19:k=19
   ·rw[if_pos h19]at ht;obtain⟨e,he,ht⟩:=bF.1 ht;obtain⟨_,_,rfl⟩:=cQ.1 ht;rw[if_pos h19,m5];show q0 P s=_;unfold q0;rw[(lD he).1]
   rw[if_neg h19]at ht⊢
   by_cases h20:k=20
   ·rw[if_pos h20]at ht;obtain⟨e,he,rfl⟩:=cQ.1 ht;rw[if_pos h20,m5];show q0 P s=_;unfold q0;rw[(lD he).1]
   rw[if_neg h20]at ht⊢
   by_cases h21:k=21
   ·rw[if_pos h21]at ht;rw[if_neg aA,if_pos h21]
    split at ht
    ·next hg=>obtain⟨_,_,rfl⟩:=cQ.1 ht;rw[m5];exact G.aP hg
    ·cases ht
   rw[if_neg h21]at ht
   by_cases h22:k=22
   ·rw[if_pos h22]at ht;obtain⟨e,_,ht⟩:=bF.1 ht;obtain⟨_,_,rfl⟩:=cQ.1 ht;rw[if_pos h22];rfl
   rw[if_neg h22]at ht⊢;rw[if_neg h21]
   by_cases h23:k=23
   ·rw[if_pos h23]at ht;rw[if_neg aA];obtain⟨ts,hts,ht⟩:=bF.1 ht
    split at ht
    ·next a b=>
     split at ht
     ·cases ht
     ·next hp=>
      obtain⟨e,he,ht⟩:=bF.1 ht
      split at ht<;>cases ht
      cases l with
      |nil=>cases hts
      |cons x r=>
       rw[fF]at hts;obtain⟨u,hu,hts⟩:=bF.1 hts;obtain⟨us,_,e'⟩:=cQ.1 hts
       cases e'
       rw[iX]at h;obtain⟨c2,h1', -⟩:=bF.1 h;have ih:=DX hB x w _ _ _ a hc h1' hu;obtain⟨d',hd'⟩:=x9 (yP G.gS G.mem hB x a hu) (by simpa using hp);obtain⟨e1,e2⟩:=lD hd';rw[he]at e1;cases e1;obtain⟨g1, -⟩:=HI G.nd he aA;have hh2:(dS P tk (x::r) w).2.headD 0=10+(dE P a.gen:Int):=by
        rw[dS];show(bD P tk x w).2=_;rw[ih];exact DQ (by simpa using hp)
       show(match (P.filter fun d=>!decide (d.kind=1))[((dS P tk (x::r) w).2.headD 0-10).toNat]? with
        |some d=>bO P d.type
        |none=>0)=_
       rw[hh2,show((10+(dE P a.gen:Int)-10).toNat)=dE P a.gen by omega,g1,m5]
    ·cases ht
   rw[if_neg h23]at ht;have h24:k=24:=aA;rw[if_pos h24]at ht;rw[if_pos h24];obtain⟨ts,_,ht⟩:=bF.1 ht;have:t=gM:=by
    split at ht
    ·split at ht<;>cases ht;rfl
    ·cases ht
   rw[this];rfl
  ·cases h
termination_by x=>SizeOf.sizeOf x
end
def Grow(w w':Wr)(n:Nat):Prop:=(∃u,w'.locals=w.locals ++u∧u.length≤n)∧w.code.length≤w'.code.length∧w'.code.length≤w.code.length+2*n
theorem Grow.trans{a b c:Wr}{n m:Nat}(h:Grow a b n)(g:Grow b c m):Grow a c (n+m):=by
 obtain⟨⟨u,h1,h2⟩,h3,h4⟩:=h;obtain⟨⟨v,g1,g2⟩,g3,g4⟩:=g;exact⟨⟨u ++v,by rw[g1,h1,Jt],by rw[Jl];omega⟩,aA,aA⟩
theorem cX.tail{P:List Df}{lo:List Int}:∀{B:Scope} {C:List (List (aH×Nat))},cX P lo B C→cX P lo B.tail C.tail
 |[],[],_=>trivial
 |_::_,_::_,h=>h.2
 |[],_::_,h=>h.elim
 |_::_,[],h=>h.elim
section
variable{P:List Df}{D:Df}{tk:Int}
theorem aCI(x:Ex)(w:Wr):Grow w (bD P tk x w).1 (pR x):=by
 obtain⟨h1, -,h3⟩:=wR P tk x w;exact⟨⟨[],by rw[h1,eS],bQ _⟩,aA,aA⟩
theorem GH(x:Ex):1≤pR x:=by cases x;rw[pR];omega
theorem N8(hH:∀d∈P,gR P d=true)(hD:D∈P):∀{l:List St} {B B':Scope},gV P B→fC P D B l=some B'→B'.tail=B.tail∧B'.length=B.length∧gV P B'
 |[],B,B',hB,h=>by rw[fC]at h;cases h;exact⟨rfl,rfl,hB⟩
 |x::l,B,B',hB,h=>by
  rw[fC]at h;obtain⟨B1,h1,h⟩:=bF.1 h;obtain⟨a1,a2⟩:=N7 h1;obtain⟨b1,b2,b3⟩:=N8 hH hD (DR hH hD hB h1) h;exact⟨b1.trans a1,b2.trans a2,b3⟩
end
section
variable{P:List Df}{D:Df}{tk:Int}(G:wX P D tk)
include G
mutual
theorem HS:∀(x:St) (w:Wr) (B B':Scope) (d c c':Nat),gV P B→cX P w.locals B w.blocks→jT d x c=some c'→lV P D B x=some B'→cX P (kL P tk x w).locals B' (kL P tk x w).blocks∧Grow w (kL P tk x w) (vN x)
 | .mk k s x b e,w,B,B',d,c,c',hB,hc,h,ht=>by
  obtain⟨p1,p2,p3⟩:=N6 ht;rw[jT]at h;obtain⟨c1, -,h⟩:=bF.1 h
  split at h
  ·next hh=>
   have hr:1≤k∧k≤9:=by
    unfold sP at hh;simp only[JX,JV]at hh;exact⟨hh.1.1,hh.1.2⟩
   obtain⟨hB1,hBn⟩:=DS ht;have gx:Grow w (bD P tk x w).1 (pR x):=aCI x w;obtain⟨kx1,kx2,kx3⟩:=wR P tk x w;rw[HR,vN]
   by_cases h6:k=6
   ·rw[if_neg aA,if_neg aA,if_pos h6,if_pos h6,hBn aA];refine⟨hc,⟨[],by simp[Wr.put],bQ _⟩,by simp[Wr.put],?_⟩;simp only[Wr.put,Jl,gE];omega
   simp only[if_neg h6]at h⊢;obtain⟨c2,h2,h⟩:=bF.1 h;obtain⟨c3,h3,h⟩:=bF.1 h;obtain⟨t,hty⟩:=p1 h6;have hcx:cX P ((bD P tk x w).1.put 22 0 0).open_.locals ([]::B) ((bD P tk x w).1.put 22 0 0).open_.blocks:=⟨trivial,by show cX P (bD P tk x w).1.locals B (bD P tk x w).1.blocks;rw[kx1,kx2];exact hc⟩;have body:∀(l:List St) (v:Wr) (c c':Nat),eH (d+1) l c=some c'→(fC P D ([]::B) l).isSome=true→cX P v.locals B v.blocks→(∀(v:Wr) (B':Scope),cX P v.locals ([]::B) v.blocks→fC P D ([]::B) l=some B'→cX P (bZ P tk l v).locals B' (bZ P tk l v).blocks∧Grow v (bZ P tk l v) (kU l))→cX P (bZ P tk l v.open_).close.locals B (bZ P tk l v.open_).close.blocks∧Grow v (bZ P tk l v.open_).close (kU l):=fun l v c c' ho hs hv ih=>by
    obtain⟨B2,hB2⟩:=lK.1 hs;obtain⟨i1,i2⟩:=ih v.open_ B2 ⟨trivial,hv⟩ hB2;obtain⟨t1, -, -⟩:=N8 G.gS G.mem (sR hB) hB2;refine⟨?_,i2⟩;have:=i1.tail;rw[t1]at this;exact this
   have gput:∀(v:Wr) (op a n:Int),cX P v.locals B v.blocks→cX P (v.put op a n).locals B (v.put op a n).blocks:=fun v op a n h=>h
   by_cases k3:k=3
   ·rw[if_pos k3,if_pos (show k=3∨k=4 by omega),if_pos k3,hBn aA];rw[if_pos (show k=3∨k=4 by omega)]at h3;rw[if_pos k3]at h
    split at h3
    ·cases h3
    split at h
    ·cases h
    obtain⟨b1,b2⟩:=body b ((bD P tk x w).1.put 22 0 0) _ _ h3 (p2 aA) hcx.2 (fun v B2 hv hB2=>DZ b v ([]::B) B2 _ _ _ (sR hB) hv h3 hB2);obtain⟨v,hv⟩:∃v,v=((bZ P tk b ((bD P tk x w).1.put 22 0 0).open_).close).put 21 0 0:=⟨_,rfl⟩;have v1:cX P v.locals B v.blocks:=by rw[hv];exact b1
    obtain⟨e1,e2⟩:=body e (v.patch ((bD P tk x w).1.code.length) v.code.length) _ _ h (p3 k3) v1 (fun v B2 hv hB2=>DZ e v ([]::B) B2 _ _ _ (sR hB) hv h hB2);rw[←hv];refine⟨e1,?_⟩;obtain⟨⟨u1,a1,a2⟩,a3,a4⟩:=gx;obtain⟨⟨u2,f1,f2⟩,f3,f4⟩:=b2;obtain⟨⟨u3,g1,g2⟩,g3,g4⟩:=e2;have hvl:v.locals=(bZ P tk b ((bD P tk x w).1.put 22 0 0).open_).close.locals:=by rw[hv];rfl
    have hvc:v.code.length=(bZ P tk b ((bD P tk x w).1.put 22 0 0).open_).close.code.length+1:=by rw[hv];simp[Wr.put]
    have hp1:((bD P tk x w).1.put 22 0 0).code.length=(bD P tk x w).1.code.length+1:=by simp[Wr.put]
    have hpc:∀(v:Wr) (i j:Nat),(v.patch i j).code.length=v.code.length:=fun v i j=>by simp[Wr.patch]
    rw[hp1]at f3 f4;rw[hpc]at g3 g4;have hnp:=GH x;refine⟨⟨u1 ++(u2 ++u3),?_,by simp only[Jl];omega⟩,by rw[hpc];omega,by rw[hpc];omega⟩;show(bZ P tk e _).close.locals=_;rw[g1];show v.locals ++u3=_;rw[hvl,f1];show(bD P tk x w).1.locals ++u2 ++u3=_;rw[a1];simp[Jt]
   rw[if_neg k3]
   by_cases k4:k=4
   ·rw[if_pos k4,if_pos (show k=3∨k=4 by omega),if_neg k3,hBn aA];rw[if_pos (show k=3∨k=4 by omega)]at h3
    split at h3
    ·cases h3
    obtain⟨b1,b2⟩:=body b ((bD P tk x w).1.put 22 0 0) _ _ h3 (p2 aA) hcx.2 (fun v B2 hv hB2=>DZ b v ([]::B) B2 _ _ _ (sR hB) hv h3 hB2);refine⟨b1,?_⟩;obtain⟨⟨u1,a1,a2⟩,a3,a4⟩:=gx;obtain⟨⟨u2,f1,f2⟩,f3,f4⟩:=b2;have hp1:∀(v:Wr) (op a n:Int),(v.put op a n).code.length=v.code.length+1:=fun v op a n=>by simp[Wr.put]
    have hpc:∀(v:Wr) (i j:Nat),(v.patch i j).code.length=v.code.length:=fun v i j=>by simp[Wr.patch]
    rw[hp1]at f3 f4;have hnp:=GH x;refine⟨⟨u1 ++u2,?_,by simp only[Jl];omega⟩,by rw[hpc,hp1];omega,by rw[hpc,hp1];omega⟩;show(bZ P tk b _).close.locals=_;rw[f1];show(bD P tk x w).1.locals ++u2=_;rw[a1];simp[Jt]
   rw[if_neg k4,if_neg (show¬(k=3∨k=4) by omega),if_neg k3];obtain⟨⟨u1,a1,a2⟩,a3,a4⟩:=gx;have hnp:=GH x;have hcw:cX P (bD P tk x w).1.locals B (bD P tk x w).1.blocks:=hcx.2
   by_cases k1:k=1
   ·obtain⟨t',cb,r,ht',hno,e1,e2⟩:=hB1 k1;unfold nP;rw[if_pos k1];have hty2:=DX G hB x w _ _ _ t' hc h2 ht';rw[e2];rw[e1]at hcw;refine⟨?_,⟨u1 ++[(bD P tk x w).2],?_,by simp only[Jl,gE];omega⟩,?_,?_⟩
    ·show cX P ((bD P tk x w).1.locals ++[(bD P tk x w).2]) _ ((bD P tk x w).1.gK s (bD P tk x w).2).blocks;unfold Wr.gK;dsimp only
     cases hbl:(bD P tk x w).1.blocks with
     |nil=>rw[hbl]at hcw;exact hcw.elim
     |cons q C=>
      rw[hbl]at hcw;exact⟨iJ.snoc aW (by rw[Jd];simp[hty2]) (hcw.1.mono _),hcw.2.mono _⟩
    ·show(bD P tk x w).1.locals ++_=_;rw[a1,Jt]
    ·simp only[Wr.put,Wr.gK,Jl,gE];omega
    ·simp only[Wr.put,Wr.gK,Jl,gE];omega
   rw[hBn k1];have key:∀y:Wr,(y=(bD P tk x w).1∨∃op a n,y=(bD P tk x w).1.put op a n)→cX P y.locals B y.blocks∧Grow w y (1+(pR x+(0+0))):=fun y hy=>by
    rcases hy with rfl|⟨op,a,n,rfl⟩
    ·exact⟨hcw,⟨u1,a1,aA⟩,a3,aA⟩
    ·exact⟨hcw,⟨u1,a1,aA⟩,by simp only[Wr.put,Jl,gE];omega,by simp only[Wr.put,Jl,gE];omega⟩
   refine key _ ?_;unfold nP;rw[if_neg k1]
   repeat' (first|exact .inr ⟨_,_,_,rfl⟩|exact .inl rfl|refine lF (p:=fun y=>y=(bD P tk x w).1∨∃op a n,y=(bD P tk x w).1.put op a n) (fun _=>?_) (fun _=>?_))
  ·cases h
theorem DZ:∀(l:List St) (w:Wr) (B B':Scope) (d c c':Nat),gV P B→cX P w.locals B w.blocks→eH d l c=some c'→fC P D B l=some B'→cX P (bZ P tk l w).locals B' (bZ P tk l w).blocks∧Grow w (bZ P tk l w) (kU l)
 |[],w,B,B',d,c,c',hB,hc,h,ht=>by
  rw[fC]at ht;cases ht;rw[bZ,kU];exact⟨hc,⟨[],aW,bS _⟩,bS _,aA⟩
 |x::l,w,B,B',d,c,c',hB,hc,h,ht=>by
  rw[eH]at h;obtain⟨c1,h1,h⟩:=bF.1 h;rw[fC]at ht;obtain⟨B1,t1,ht⟩:=bF.1 ht;obtain⟨a1,a2⟩:=HS x w B B1 _ _ _ hB hc h1 t1;obtain⟨b1,b2⟩:=DZ l (kL P tk x w) B1 B' _ _ _ (DR G.gS G.mem hB t1) a1 h ht;rw[bZ,kU];exact⟨b1,a2.trans b2⟩
end
end
end Fr
section
open Go Go.RowKit
section
variable{κ:Type}{dκ:DecidableEq κ}{iκ:cJ κ}{α:Type}{P:Program} [eT P]{N:Nd}{E:Env}{L L':List Chunk}{dst:Option Tmp}{ty:TypeId}{pos:String}{aft:Array Edge}{gu:Option (Nat×Bool)}{t kt et s1 b1 s2 b2 b ck:Nat}{z1 z2:List Value}{g:α→Value}{l:List (κ×α)}{bs:List Nat}
@[simp] theorem aIb : (mpr b g l bs ck).bE = false := aD0
theorem aD2{w:World}(h:(mpr b g l bs ck).holds w):(mp b g l).holds w:=by
 obtain⟨es,h1,h2, -,h4⟩:=CT.1 (CU.1 h);exact uB.2 ⟨es,ck,h1,h2,h4⟩
theorem Still.F1{x y:Operand}{k:κ}{kv:Value}{kd:dO}{z v:Value}(hx:ev E x=some (.map (some b)))(hy:ev E y=some kv)(ht:bB P t=some ⟨.map kt et,s1,b1,z1⟩)(hkt:bB P kt=some ⟨kd,s2,b2,z2⟩)
  (hz:(P.info? et).map (·.zero)=some (some z)) (hm:Take (mpr b g l bs ck) L L') (hk:kv=cJ.kv k∧kd=cJ.kd κ) (hv:((bG l k).map g).getD z=v):Still P N ⟨dst, .lookup t x y false,ty,pos,aft,gu⟩ E L v:=fun A w hS hM=>by
 obtain⟨rfl,rfl⟩:=hk;subst hv;have hz':(zeroValue et).run P w= .ok z w:=by
  cases hi:P.info? et with
  |none=>rw[hi]at hz;cases hz
  |some i=>rw[hi]at hz;simp at hz;simp[zeroValue,typeInfo,hi,hz]
 have h:=WI (ok:=false) (k:=k) ht hkt z hz' (aD2 (hM.has hm));simp only[execOp,hS.ev hx,hS.ev hy,Sem.run_bind,h,Result.andThen_ok,Sem.run_pure];rfl
end
end
namespace Vw
open Go.RowKit Img
section
attribute [local irreducible] aE aG End aB Still aN aU RunT Fn aS
def lM(l:List DL):List (aH×Nat):=((l.filter fun d=>decide (d.kind=1)).map (·.name)).zipIdx
def fG(l:List DL):List (aH×Nat):=((l.filter fun d=>!decide (d.kind=1)).map (·.name)).zipIdx
theorem GA(L:List aH)(s:aH):∀k,bG (L.zipIdx k) s=(L.findIdx? fun n=>decide (n=s)).map (· +k):=by
 induction L with
 |nil=>intro k;rfl
 |cons a L ih=>
  intro k;rw[List.zipIdx_cons,bG,List.findIdx?_cons,ih]
  by_cases h:a=s
  ·simp[h]
  ·rw[if_neg h,decide_eq_false h]
   cases List.findIdx? (fun n=>decide (n=s)) L with
   |none=>rfl
   |some n=>exact congrArg some (show n+(k+1)=n+1+k by omega)
theorem UQ(o:Option Nat):(o.map (· +0)).getD 0=o.getD 0:=by cases o<;>rfl
theorem RR(l:List DL)(q:Fr.Df→Bool)(s:aH):(((l.map DL.df).filter q).findIdx? fun d=>decide (d.name=s))=((l.filter fun d=>q d.df).map (·.name)).findIdx? fun n=>decide (n=s):=by
 rw[xD,List.findIdx?_map,List.findIdx?_map];rfl
theorem HH(l:List DL)(s:aH):(bG (fG l) s).getD 0=Fr.dE (l.map DL.df) s:=by
 unfold fG Fr.dE;rw[GA,RR];exact UQ _
theorem QJ(l:List DL)(s:aH):(bG (lM l) s).getD 0=Fr.iC (l.map DL.df) s:=by
 unfold lM Fr.iC;rw[GA,RR];exact UQ _
abbrev iW(n:Nat):Value:= .int .i64 n
theorem AK{o:Option Nat}:(o.map iW).getD (.int .i64 0)=iW (o.getD 0):=by cases o<;>rfl
theorem YB(l:List DL)(s:aH)(h:l.length≤30):Fr.dE (l.map DL.df) s≤30:=by
 unfold Fr.dE
 cases hf:List.findIdx? (fun d:Fr.Df=>decide (d.name=s)) (List.filter (fun d=>!decide (d.kind=1)) (l.map DL.df))with
 |none=>exact bQ _
 |some k=>
  obtain⟨hk, -⟩:=D7.1 hf;have:=nS (fun d:Fr.Df=>!decide (d.kind=1)) (l.map DL.df);rw[Jf]at this;show k≤30;omega
structure GT where
 tb:Nat
 bm:Nat
 um:Nat
 dm:Nat
 x:cT
 bs:List Nat
 ck:Nat
abbrev GT.P(g:GT):List Fr.Df:=g.x.l.map DL.df
abbrev GT.R(cs:List Chunk)(g:GT):List Chunk:=[bX cs,mpr g.um iW (fG g.x.l) g.bs g.ck]
abbrev GT.m(g:GT):List Chunk:=[aF g.tb [.map (some g.bm), .map (some g.um), .map (some g.dm)] 152,mp g.bm iW (lM g.x.l),mp g.dm (fD g.x) (fK g.x g.x.l.length)]
theorem aCA(tb:Nat)(t:Fr.Ty)(h:Fr.cV t=true)(P:List Fr.Df):Fn Tryz.prog 55 #[ptr tb,gC t] [] [] (σ:=Unit) (fun _=>True) (fun _=> .int .i64 (Fr.bO P t)) (fun _=>[]):=by
 have h3:¬t.kind=3:=by unfold Fr.cV at h;simpa using h
 rw[Fr.wG h];refine JE [ptr tb,gC t] Tryz.func55 Tryz.ntmps55 fun w S=>?_;refine Jn ?_
 repeat(refine Fm ?_;try intro b)
 exact End.aX () (he:=rfl) (hp:=trivial)
theorem zS(cs:List Chunk)(g:GT)(h30:g.x.l.length≤30)(t:Fr.Ty):Fn Tryz.prog 55 #[ptr g.tb,gC t] (g.R cs) g.m (σ:=Unit) (fun _=>True) (fun _=> .int .i64 (Fr.bO g.P t)) (fun _=>g.m):=by
 unfold Fr.bO;refine JE [ptr g.tb,gC t] Tryz.func55 Tryz.ntmps55 fun w S=>?_;refine Jn ?_
 by_cases h3:t.kind=3
 ·rw[if_pos h3]
  repeat(refine Fm ?_;try intro b)
  refine aN.bP (h:=Still.F1 (v:=iW (Fr.dE g.P t.gen)) rfl rfl rfl rfl rfl tk ⟨rfl,rfl⟩ (by rw[AK,HH])) (k:=?_);have hu:Fr.dE g.P t.gen≤30:=YB g.x.l t.gen h30;refine aI ?_;exact End.aX () (he:=rfl) (hp:=trivial)
 ·rw[if_neg h3]
  repeat(refine Fm ?_;try intro b)
  exact End.aX () (he:=rfl) (hp:=trivial)
structure Gb where
 b:Nat
 l:List (aH×Nat)
instance:Inhabited Gb:=⟨⟨0,[]⟩⟩
def xR(g:Gb):List Value:=[.map (some g.b)]
instance:bH xR:=⟨fun _=>rfl,aK,fun a u hu=>by simp[xR]at hu;subst hu;rfl⟩
abbrev kT(g:Gb):Chunk:=mp g.b iW g.l
structure WM where
 kd:Int
 pr:Int
 rs:Int
 tk:Int
 lo:Option Addr
 lc:Nat
 loc:List Int
 co:Option Addr
 cc:Nat
 code:List ImgM.aT
 bo:Option Addr
 bc:Nat
 gb:List Gb
abbrev wM(wb tb:Nat)(z:WM):List Chunk:=[aF wb [ptr tb, .int .i64 z.kd, .int .i64 z.pr, .slice z.lo z.loc.length z.lc, .int .i64 z.rs, .int .i64 z.tk, .slice z.co z.code.length z.cc, .slice z.bo z.gb.length z.bc] 225,arr z.lo z.loc.length z.lc 3 aY z.loc,arr z.co z.code.length z.cc 113 dB z.code,arr z.bo z.gb.length z.bc 149 xR z.gb,bC (z.gb.map kT)]
abbrev fE(l:List Gb):List (List (aH×Nat)):=(l.map (·.l)).reverse
abbrev WM.wr(z:WM):Fr.Wr:=⟨z.loc,z.code,fE z.gb⟩
structure WM.uW(z:WM):Prop where
 lo:z.loc.length≤100000
 co:z.code.length≤100000
 gb:z.gb.length≤100000
variable{wb tb:Nat}
abbrev WM.j4(z:WM)(i:ImgM.aT)(a:Option Addr×Nat):WM:={z with co:=a.1,cc:=a.2,code:=z.code ++[i]}
theorem iE(z:WM)(h:z.uW)(op a n:Int):Fn Tryz.prog 100 #[ptr wb, .int .i64 op, .int .i64 a, .int .i64 n] [] (wM wb tb z) (σ:=Option Addr×Nat) (fun _=>True) (fun _=> .int .i64 z.code.length) (fun s=>wM wb tb (z.j4 ⟨op,a,n⟩ s)):=by
 have hc:=h.co;refine JE [ptr wb, .int .i64 op, .int .i64 a, .int .i64 n] Tryz.func100 Tryz.ntmps100 fun w S=>?_;refine Jn ?_
 repeat(refine Fm ?_;try intro b)
 (apply aE.op;exact rfl;refine aB.jN (a:=(⟨op,a,n⟩:ImgM.aT)) (k:=?_);intro ao cap;refine Jn ?_);refine aI ?_;rw[show z.code.length+1=(z.code ++[(⟨op,a,n⟩:ImgM.aT)]).length by simp];exact End.aX (ao,cap) (he:=congrArg (Value.int .i64) aW) (hp:=trivial)
theorem FA(z:WM):Fn Tryz.prog 165 #[ptr wb] [] (wM wb tb z) (σ:=Unit) (fun _=>True) (fun _=> .int .i64 z.code.length) (fun s=>wM wb tb z):=by
 refine JE [ptr wb] Tryz.func165 Tryz.ntmps165 fun w S=>?_;refine aI ?_;exact End.aX () (he:=rfl) (hp:=trivial)
theorem F9(l:List (aH×Nat))(s:aH):bG l s=Fr.at_ l s:=by
 induction l with
 |nil=>rfl
 |cons p r ih=>rw[Fr.H6,←ih];rfl
theorem CH(l:List Gb)(x:Gb):fE (l ++[x])=x.l::fE l:=by unfold fE;simp
theorem aCC{l:List Gb}{k:Nat}(h:k<l.length):fE (l.take (k+1))=(l.getD k default).l::fE (l.take k):=by
 unfold fE;rw[mM h];simp
theorem SA(z:WM)(h:z.uW)(s:aH):Fn Tryz.prog 166 #[ptr wb,sv s] [] (wM wb tb z) (σ:=Unit) (fun _=>True) (fun _=>iW (z.wr.look s)) (fun _=>wM wb tb z):=by
 have hb:=h.gb;refine JE [ptr wb,sv s] Tryz.func166 Tryz.ntmps166 fun w S=>?_;refine a8 ?_;refine cK (σ:=Nat) (fun j=>j≤z.gb.length∧Fr.eN (fE (z.gb.take j)) s=Fr.eN (fE z.gb) s) (fun j=>[(0,ptr wb),(1,sv s),(4, .int .i64 0),(5, .int .i64 ((j:Int)-1))]) (fun j=>aO w S::wM wb tb z) (fun j=>j) z.gb.length ?_ fun j hj K hK=>?_
 ·exact⟨bS _,by rw[pF]⟩
 refine Jn ?_;obtain⟨h1,h2⟩:=hj
 by_cases h0:j=0
 ·subst h0;refine a8 ?_;exact End.aX () (he:=by unfold Fr.Wr.look;rw[←h2];rfl) (hp:=trivial)
 obtain⟨k,rfl⟩:∃k,j=k+1:=⟨j-1,aA⟩;rw[show((k+1:Nat):Int)-1=(k:Int) by omega];have hlt:k<z.gb.length:=aA;rw[aCC hlt]at h2;apply aG.imp (fun w hm=>hm.pH tk (uG kT hlt))
 cases hm:bG (z.gb.getD k default).l s with
 |some t=>
  refine a8 ?_;apply End.imp (fun w hm=>hm.nC (es:=(z.gb.eraseIdx k).map kT) tk (.cons tk .nil) (uG kT hlt) (by simp[kT,gU]));exact End.aX () (he:=by unfold Fr.Wr.look;rw[←h2,Fr.eN,←F9,hm];rfl) (hp:=trivial)
 |none=>
  refine a8 ?_;apply End.imp (fun w hm=>hm.nC (es:=(z.gb.eraseIdx k).map kT) tk (.cons tk .nil) (uG kT hlt) (by simp[kT,gU]));exact End.bK hK k ⟨aA,by rw[←h2,Fr.eN,←F9,hm]⟩ aA
abbrev WM.AB(z:WM)(pre:List Gb)(last:Gb)(s:aH)(t:Int)(a:Option Addr×Nat):WM:={z with lo:=a.1,lc:=a.2,loc:=z.loc ++[t],gb:=pre ++[⟨last.b,last.l ++[(s,z.loc.length)]⟩]}
theorem TE(z:WM)(pre:List Gb)(last:Gb)(s:aH)(t:Int)(a:Option Addr×Nat)(h:z.gb=pre ++[last]):(z.AB pre last s t a).wr=z.wr.gK s t:=by
 unfold Fr.Wr.gK WM.AB WM.wr;rw[h];simp only[CH]
theorem R9(z:WM)(h:z.uW)(pre:List Gb)(last:Gb)(hg:z.gb=pre ++[last])(s:aH)(t:Int)(hs:bG last.l s=none):Fn Tryz.prog 98 #[ptr wb,sv s, .int .i64 t] [] (wM wb tb z) (σ:=Option Addr×Nat) (fun _=>True) (fun _=> .int .i64 z.loc.length) (fun a=>wM wb tb (z.AB pre last s t a)):=by
 have hc:=h.lo;have hb:=h.gb;refine JE [ptr wb,sv s, .int .i64 t] Tryz.func98 Tryz.ntmps98 fun w S=>?_;refine Jn ?_;have hpos:0<z.gb.length:=by rw[hg];simp
 repeat(refine Fm ?_;try first|intro ao cap|intro b)
 obtain⟨i,hi⟩:∃i,i=((z.gb.length:Int)-1).toNat:=⟨_,rfl⟩;have hil:i=pre.length:=by rw[hi,hg];simp
 have hgl:z.gb.getD i default=last:=by rw[hil,hg];simp
 rw[←hi,hgl];refine aE.imp (fun w hm=>hm.pH (ds:=[kT last]) (es:=pre.map kT) tk (by rw[hg,Jq];exact pB)) ?_;have hfm:z.gb.flatMap xR=(pre ++[(⟨last.b,last.l ++[(s,z.loc.length)]⟩:Gb)]).flatMap xR:=by rw[hg,r8,r8];rfl
 have hlen:z.gb.length=(pre ++[(⟨last.b,last.l ++[(s,z.loc.length)]⟩:Gb)]).length:=by rw[hg];simp
 apply aE.op aV;refine aB.rO (g:=iW) (a:=z.loc.length) (hv:=congrArg (fun x=>some (Value.int .i64 x)) aA) (k:=?_);rw[pQ _ _ _ hs,H5 hfm hlen];refine aE.imp (fun w hm=>hm.nC (cs:=(pre ++[(⟨last.b,last.l ++[(s,z.loc.length)]⟩:Gb)]).map kT) (ds:=[kT ⟨last.b,last.l ++[(s,z.loc.length)]⟩]) tk (.cons tk .nil) (by rw[Jq];exact pB) (by simp[kT,gU])) ?_;rw[hlen,show z.loc.length+1=(z.loc ++[t]).length by simp];refine aI ?_;exact End.aX (ao,cap) (he:=congrArg (Value.int .i64) aW) (hp:=trivial)
end
end Vw
end Go.Proofs.YtofckcabpchcmaaGreatDoor
