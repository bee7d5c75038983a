/- Package sema, walked: a statement. -/
import Derived.Test.YtofckcabpchcmaaGreatDoorM36
set_option linter.unusedVariables false
set_option linter.unusedSimpArgs false
set_option linter.unusedSectionVars false
set_option maxRecDepth 100000
namespace Go.Proofs.YtofckcabpchcmaaGreatDoor
namespace Vw
open Go.RowKit Img
attribute [local irreducible] aE aG End aB Still aN aU RunT Fn aS
theorem aHf(P:List Fr.Df)(D:Fr.Df)(B:Fr.Scope)(x:aM):Fr.lV P D B x.st=(
  if x.k=1 then(Fr.b9 P D B x.x.ex).bind fun t=>if(Fr.eN B x.s).isSome then none else match B with
   |[]=>none
   |c::r=>some ((c ++[(x.s,t)])::r)
  else if x.k=2 then(Fr.eN B x.s).bind fun t=>(Fr.same (Fr.b9 P D B x.x.ex) t).map fun _=>B
  else if x.k=3∨x.k=4 then(Fr.same (Fr.b9 P D B x.x.ex) Fr.gM).bind fun _=>(Fr.fC P D ([]::B) (aM.bV x.body)).bind fun _=>if x.k=4 then some B else(Fr.fC P D ([]::B) (aM.bV x.fJ)).map fun _=>B
  else if x.k=5 then(if D.kind=2 then(Fr.same (Fr.b9 P D B x.x.ex) D.type).map fun _=>B else none)
  else if x.k=6 then(if D.kind=2 then none else some B)
  else if x.k=7 then(Fr.kR P 1 x.s).bind fun d=>(Fr.same (Fr.b9 P D B x.x.ex) d.type).map fun _=>B
  else if x.k=8 then(Fr.b9 P D B x.x.ex).bind fun t=>if Fr.cV t=true then some B else none
  else(Fr.b9 P D B x.x.ex).map fun _=>B):=by
 cases x;rw[aM.st,Fr.lV];rfl
theorem R1{α β:Type} [Inhabited α]{f:α→List β}{a:α}:∀{l:List α} {i:Nat},i<l.length→f a=f (l.getD i default)→(l.set i a).flatMap f=l.flatMap f
 |[],i,hi,_=>by simp at hi
 |x::l,0,_,h=>by simpa[qE]using h
 |x::l,i+1,hi,h=>by rw[List.set_cons_succ,qE,qE,R1 (by simpa using hi) (by simpa using h)]
theorem NF{B:Fr.Scope}{o:Option Unit}{e:Int}{ρ:Option Fr.Scope}(he:e=0↔o.isSome=true)(hρ:ρ=o.map fun _=>B):(e=0∧ρ=some B)∨(e≠0∧ρ=none):=by
 cases o with
 |none=>exact .inr ⟨fun h=>absurd (he.1 h) aW,hρ⟩
 |some _=>exact .inl ⟨he.2 rfl,hρ⟩
set_option maxHeartbeats 8000000 in
theorem aFf(cs:List Chunk)(x:aM):HX cs x:=by
 refine aM.ind (p:=HX cs) (fun x ihb ihe s sb' o ok hx hS h0=>?_) x;obtain⟨h40,hhd,hxs,hbs,hes⟩:=hS.get;have hX:=hx.has;have hE:=hx.ex;have hty:=aHf s.P s.D s.B x;obtain⟨nm, -, -,hh⟩:=FG x.k x.s;obtain⟨l1,l9, -⟩:=hh.1 hhd;clear hh hhd nm;refine JE [ptr s.q, .pointer (some ⟨sb',o,none⟩)] Tryz.func189 Tryz.ntmps189 fun w S=>?_;refine aI ?_
 by_cases k1:x.k=1
 ·rw[if_pos k1]at hty;refine aI ?_;refine bU (yF cs s ok x.x (hxs aA) _ _ hE) fun r hr=>?_;rcases hr with⟨h1,h2⟩|⟨h1,h2⟩
  rotate_left
  ·have h1':decide (r.2=0)=false:=decide_eq_false h1
   repeat(refine Fm ?_;try intro b)
   exact End.aX ((s.o,s.c,s.bs),r.2) (he:=rfl) (hp:=⟨rfl, .inr ⟨h1,by rw[hty,h2];rfl⟩⟩)
  rw[h2,eR]at hty;obtain⟨t,e⟩:=r;dsimp only at h1 hty;subst h1
  repeat(refine Fm ?_;try intro b)
  obtain⟨tb,rfl⟩:=a7 b;refine bU (M3 s.q s.sc ok.eL x.s) fun u hu=>?_
  cases hl:Fr.eN (jA s.sc.bs) x.s with
  |some t'=>
   repeat(refine Fm ?_;try intro b)
   exact End.aX ((s.o,s.c,s.bs),7) (he:=rfl) (hp:=⟨rfl, .inr ⟨show(7:Int)≠0 by decide,by rw[hty];exact if_pos (by rw[show Fr.eN s.B x.s=_ from hl];rfl)⟩⟩)
  |none=>
   repeat(refine Fm ?_;try intro b)
   obtain⟨i,hi⟩:∃i,i=((s.bs.length:Int)-1).toNat:=⟨_,rfl⟩;have hil:i<s.bs.length:=aA;rw[←hi];refine aE.imp (fun w hm=>hm.pH tk (uG kW hil)) ?_;have hB0:s.B=(s.bs.getD i default).l::jA (s.bs.take i):=by
    rw[←M6 hil,kN aA]
   have hno:bG (s.bs.getD i default).l x.s=none:=by
    have h:=hl;rw[show jA s.sc.bs=s.B from rfl,hB0,Fr.eN,←F8]at h
    cases hf:bG (s.bs.getD i default).l x.s with
    |none=>rfl
    |some _=>rw[hf]at h;cases h
   obtain⟨bs',hbs'⟩:∃bs',bs'=s.bs.set i ⟨(s.bs.getD i default).b,(s.bs.getD i default).l ++[(x.s,t)]⟩:=⟨_,rfl⟩;have hlen:bs'.length=s.bs.length:=by rw[hbs',Ji]
   have hgd:bs'.getD i default=⟨(s.bs.getD i default).b,(s.bs.getD i default).l ++[(x.s,t)]⟩:=by
    rw[hbs',Jd,JS hil];rfl
   have her:bs'.eraseIdx i=s.bs.eraseIdx i:=by rw[hbs'];exact List.eraseIdx_set_eq
   have htk:bs'.take i=s.bs.take i:=by rw[hbs',List.take_set_of_le (bS _)]
   have hfm:s.bs.flatMap pP=bs'.flatMap pP:=by rw[hbs'];exact(R1 hil (by simp[pP])).symm
   apply aE.op aV;refine aB.rO (g:=gC) (a:=t) (k:=?_);rw[pQ _ _ _ hno,H5 hfm hlen.symm,←hlen];refine aE.imp (fun w hm=>hm.nC (cs:=bs'.map kW) (ds:=[kW (bs'.getD i default)]) tk (.cons (by rw[hgd];exact tk) .nil) (by rw[←her];exact uG kW aA) (by simp[kW,gU])) ?_;refine aI ?_;refine End.aX ((s.o,s.c,bs'),0) (he:=rfl) (hp:=⟨rfl, .inl ⟨rfl,?_⟩⟩);rw[hty,if_neg (by rw[show Fr.eN s.B x.s=none from hl];simp),hB0];show some _=some (jA bs');rw[←kN (l:=bs') (i:=i+1) aA,M6 aA,hgd,htk]
 rw[if_neg k1]at hty
 by_cases k2:x.k=2
 ·rw[if_pos k2]at hty;refine aI ?_;refine bU (M3 s.q s.sc ok.eL x.s) fun u hu=>?_
  cases hl:Fr.eN (jA s.sc.bs) x.s with
  |none=>
   repeat(refine Fm ?_;try intro b)
   exact End.aX ((s.o,s.c,s.bs),7) (he:=rfl) (hp:=⟨rfl, .inr ⟨show(7:Int)≠0 by decide,by rw[hty,show Fr.eN s.B x.s=_ from hl];rfl⟩⟩)
  |some t=>
   rw[show Fr.eN s.B x.s=_ from hl,eR]at hty
   repeat(refine Fm ?_;try intro b)
   refine dD (sV cs s x.x (yF cs s ok x.x (hxs aA)) t _ _ hE) fun e he=>?_;exact End.aX ((s.o,s.c,s.bs),e) (he:=rfl) (hp:=⟨rfl,NF he hty⟩)
 rw[if_neg k2]at hty
 by_cases k34:x.k=3∨x.k=4
 ·rw[if_pos k34]at hty;obtain⟨hbl,hbS⟩:=hbs k34;have hc:∀{A:Prop},(x.k=3→A)→(x.k=4→A)→A:=fun a b=>k34.elim a b;refine hc (fun k3=>?_) (fun k4=>?_)
  all_goals
   refine aI ?_;refine b8 7 [] 7 ?_;refine iU [0,1,2,3] ?_;refine jF 4 (uN) fun u hu=>?_;refine jF 5 (sV cs s x.x (yF cs s ok x.x (hxs aA)) Fr.gM _ _ hE) fun e he=>?_;refine JN 6 ?_;refine b6 ?_
   by_cases h1:e=0
   rotate_left
   ·have h1':decide (e=0)=false:=decide_eq_false h1;refine aI ?_;refine End.aX ((s.o,s.c,s.bs),e) (he:=rfl) (hp:=⟨rfl, .inr ⟨h1,?_⟩⟩);rw[hty]
    cases hs:Fr.same (Fr.b9 s.P s.D s.B x.x.ex) Fr.gM with
    |none=>rfl
    |some _=>exact absurd (he.2 (by rw[hs];rfl)) h1
   rw[K8 (he.1 h1),eR]at hty;subst h1;refine aI ?_;refine bU (M4 cs x.body ihb s _ _ ok hx.body hbS aA hbl) fun r hr=>?_;obtain⟨z,e⟩:=r;obtain⟨h2,⟨h3,h4,h5⟩|⟨h3,h4⟩⟩:=hr
   rotate_left
   ·have h3':decide (e=0)=false:=decide_eq_false h3;refine aI ?_;exact End.aX (z,e) (he:=rfl) (hp:=⟨h2, .inr ⟨h3,by rw[hty,h4];rfl⟩⟩)
   dsimp only at h2 h3 h4;subst h3;obtain⟨B',hB'⟩:=lK.1 h5;rw[hB',eR]at hty;refine aI ?_
  ·obtain⟨hel,heS⟩:=hes k3;rw[if_neg aA]at hty;have ok2:=ok.wi z (by rw[h2];exact ok.eL) (by rw[h4];exact ok.eI);refine bU (M4 cs x.fJ ihe (s.wi z) _ _ ok2 hx.fJ (by show aM.iK _ (z.2.2.length+1);rw[h2];exact heS) (by show z.2.2.length≤_;omega) hel) fun r hr=>?_;obtain⟨z2,e⟩:=r;obtain⟨g2,g⟩:=hr;dsimp only at g2 g;have g2':z2.2.2.length=s.bs.length:=g2.trans h2;have hB2:(s.wi z).B=s.B:=h4;rw[hB2]at g;refine aI ?_;refine End.aX (z2,e) (he:=rfl) (hp:=⟨g2',?_⟩);rcases g with⟨g3,g4,g5⟩|⟨g3,g4⟩
   ·obtain⟨B2,hB2'⟩:=lK.1 g5;exact .inl ⟨g3,by rw[hty,show Fr.fC s.P s.D ([]::s.B) (aM.bV x.fJ)=some B2 from hB2'];exact congrArg some g4.symm⟩
   ·exact .inr ⟨g3,by rw[hty,show Fr.fC s.P s.D ([]::s.B) (aM.bV x.fJ)=none from g4];rfl⟩
  ·rw[if_pos k4]at hty;exact End.aX (z,0) (he:=rfl) (hp:=⟨h2, .inl ⟨rfl,by rw[hty];exact congrArg some h4.symm⟩⟩)
 rw[if_neg k34]at hty
 by_cases k5:x.k=5
 ·rw[if_pos k5]at hty;have hd:=(ok.kQ.at ok.di).has
  by_cases hk:(s.x.l.getD s.di default).kind=2
  ·rw[if_pos (show s.D.kind=2 from hk)]at hty;refine n7 ?_;refine dD (sV cs s x.x (yF cs s ok x.x (hxs aA)) (s.x.l.getD s.di default).type _ _ hE) fun e he=>?_;exact End.aX ((s.o,s.c,s.bs),e) (he:=rfl) (hp:=⟨rfl,NF he hty⟩)
  ·rw[if_neg (show¬s.D.kind=2 from hk)]at hty;refine aI ?_;exact End.aX ((s.o,s.c,s.bs),8) (he:=rfl) (hp:=⟨rfl, .inr ⟨show(8:Int)≠0 by decide,hty⟩⟩)
 rw[if_neg k5]at hty
 by_cases k6:x.k=6
 ·rw[if_pos k6]at hty;have hd:=(ok.kQ.at ok.di).has
  by_cases hk:(s.x.l.getD s.di default).kind=2
  ·rw[if_pos (show s.D.kind=2 from hk)]at hty;refine aI ?_;exact End.aX ((s.o,s.c,s.bs),8) (he:=rfl) (hp:=⟨rfl, .inr ⟨show(8:Int)≠0 by decide,hty⟩⟩)
  ·rw[if_neg (show¬s.D.kind=2 from hk)]at hty;refine aI ?_;exact End.aX ((s.o,s.c,s.bs),0) (he:=rfl) (hp:=⟨rfl, .inl ⟨rfl,hty⟩⟩)
 rw[if_neg k6]at hty
 by_cases k7:x.k=7
 ·rw[if_pos k7]at hty;have F:=GV s.p s.mb cs s.x ok.kQ s.ns ok.lt 1 x.s;obtain⟨r,hr⟩:∃r,r=bG s.ns x.s:=⟨_,rfl⟩;obtain⟨kb,hkb⟩:∃b,b=isKind s.x 1 r:=⟨_,rfl⟩;rw[←hr,←hkb]at F;refine aI ?_;refine b8 14 [bX cs,aF s.q [ptr s.p,fD s.x s.di, .slice s.o s.bs.length s.c] 316] 14 ?_;refine iU [0,1,2,3,4,5,6] ?_;refine TH 7 ?_;refine jF 8 (F) fun u hu=>?_;refine iU [9,10,11,12,13] ?_;refine b6 ?_
  cases kb with
  |false=>
   refine aI ?_;exact End.aX ((s.o,s.c,s.bs),7) (he:=rfl) (hp:=⟨rfl, .inr ⟨show(7:Int)≠0 by decide,by rw[hty,ok.E3 (k:=1) (by rw[←hr,←hkb])];rfl⟩⟩)
  |true=>
   obtain⟨i,e1,hi,ek,ef⟩:=ok.E4 (k:=1) (n:=x.s) (by rw[←hr,←hkb]);obtain rfl:r=some i:=hr.trans e1;have hd:=(ok.kQ.at hi).has;rw[ef,eR]at hty;refine n7 ?_;refine dD (sV cs s x.x (yF cs s ok x.x (hxs aA)) (s.x.l.getD i default).type _ _ hE) fun e he=>?_;exact End.aX ((s.o,s.c,s.bs),e) (he:=rfl) (hp:=⟨rfl,NF he hty⟩)
 rw[if_neg k7]at hty
 by_cases k8:x.k=8
 ·rw[if_pos k8]at hty;refine aI ?_;refine bU (yF cs s ok x.x (hxs aA) _ _ hE) fun r hr=>?_;rcases hr with⟨h1,h2⟩|⟨h1,h2⟩
  rotate_left
  ·have h1':decide (r.2=0)=false:=decide_eq_false h1
   repeat(refine Fm ?_;try intro b)
   exact End.aX ((s.o,s.c,s.bs),r.2) (he:=rfl) (hp:=⟨rfl, .inr ⟨h1,by rw[hty,h2];rfl⟩⟩)
  rw[h2,eR]at hty;obtain⟨t,e⟩:=r;dsimp only at h1 hty;subst h1
  repeat(refine Fm ?_;try intro b)
  refine bU (vW t) fun u hu=>?_;rcases rF (Fr.cV t)with hp|hp
  ·refine aI ?_;exact End.aX ((s.o,s.c,s.bs),0) (he:=rfl) (hp:=⟨rfl, .inl ⟨rfl,by rw[hty,if_pos hp]⟩⟩)
  ·refine aI ?_;exact End.aX ((s.o,s.c,s.bs),9) (he:=rfl) (hp:=⟨rfl, .inr ⟨show(9:Int)≠0 by decide,by rw[hty,if_neg (by rw[hp];simp)]⟩⟩)
 rw[if_neg k8]at hty;have k9:x.k=9:=aA;refine aI ?_;refine bU (yF cs s ok x.x (hxs aA) _ _ hE) fun r hr=>?_
 repeat(refine Fm ?_;try intro b)
 refine End.aX ((s.o,s.c,s.bs),r.2) (he:=rfl) (hp:=⟨rfl,?_⟩);rcases hr with⟨h1,h2⟩|⟨h1,h2⟩
 ·exact .inl ⟨h1,by rw[hty,h2];rfl⟩
 ·exact .inr ⟨h1,by rw[hty,h2];rfl⟩
end Vw
end Go.Proofs.YtofckcabpchcmaaGreatDoor
