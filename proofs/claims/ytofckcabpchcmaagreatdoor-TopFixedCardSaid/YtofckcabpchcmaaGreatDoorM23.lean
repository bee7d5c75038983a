/- Package sema, walked: a statement. -/
import Derived.Test.YtofckcabpchcmaaGreatDoorM22
set_option linter.unusedVariables false
set_option linter.unusedSimpArgs false
set_option linter.unusedSectionVars false
set_option maxRecDepth 100000
namespace Go.Proofs.YtofckcabpchcmaaGreatDoor
namespace Vw
open Go.RowKit Img
attribute [local irreducible] aE aB End aA Still aM aP RunT Fn aO
theorem aGz(P:List Fr.Df)(D:Fr.Df)(B:Fr.Scope)(x:aJ):Fr.mK P D B x.st=(
  if x.k=1 then(Fr.b5 P D B x.x.ex).bind fun t=>if(Fr.eL B x.s).isSome then none else match B with
   |[]=>none
   |c::r=>some ((c ++[(x.s,t)])::r)
  else if x.k=2 then(Fr.eL B x.s).bind fun t=>(Fr.same (Fr.b5 P D B x.x.ex) t).map fun _=>B
  else if x.k=3∨x.k=4 then(Fr.same (Fr.b5 P D B x.x.ex) Fr.gJ).bind fun _=>(Fr.e8 P D ([]::B) (aJ.bR x.body)).bind fun _=>if x.k=4 then some B else(Fr.e8 P D ([]::B) (aJ.bR x.eY)).map fun _=>B
  else if x.k=5 then(if D.kind=2 then(Fr.same (Fr.b5 P D B x.x.ex) D.type).map fun _=>B else none)
  else if x.k=6 then(if D.kind=2 then none else some B)
  else if x.k=7 then(Fr.jY P 1 x.s).bind fun d=>(Fr.same (Fr.b5 P D B x.x.ex) d.type).map fun _=>B
  else if x.k=8 then(Fr.b5 P D B x.x.ex).bind fun t=>if Fr.cS t=true then some B else none
  else(Fr.b5 P D B x.x.ex).map fun _=>B):=by
 cases x;rw[aJ.st,Fr.mK];rfl
theorem QS{α β:Type} [Inhabited α]{f:α→List β}{a:α}:∀{l:List α} {i:Nat},i<l.length→f a=f (l.getD i default)→(l.set i a).flatMap f=l.flatMap f
 |[],i,hi,_=>by simp at hi
 |x::l,0,_,h=>by simpa[vY]using h
 |x::l,i+1,hi,h=>by rw[List.set_cons_succ,vY,vY,QS (by simpa using hi) (by simpa using h)]
theorem MW{B:Fr.Scope}{o:Option Unit}{e:Int}{ρ:Option Fr.Scope}(he:e=0↔o.isSome=true)(hρ:ρ=o.map fun _=>B):(e=0∧ρ=some B)∨(e≠0∧ρ=none):=by
 cases o with
 |none=>exact .inr ⟨fun h=>absurd (he.1 h) (by simp),hρ⟩
 |some _=>exact .inl ⟨he.2 rfl,hρ⟩
set_option maxHeartbeats 8000000 in
theorem aFM(cs:List Chunk)(x:aJ):G6 cs x:=by
 refine aJ.ind (p:=G6 cs) (fun x ihb ihe s sb' o ok hx hS h0=>?_) x;obtain⟨h40,hhd,hxs,hbs,hes⟩:=hS.get;have hX:=hx.has;have hE:=hx.ex;have hty:=aGz s.P s.D s.B x;obtain⟨nm, -, -,hh⟩:=D9 x.k x.s;obtain⟨l1,l9, -⟩:=hh.1 hhd;clear hh hhd nm;refine JE [ptr s.q, .pointer (some ⟨sb',o,none⟩)] Tryz.func189 Tryz.ntmps189 fun w S=>?_;refine Jn ?_
 repeat(refine Fm ?_)
 by_cases k1:x.k=1
 ·rw[if_pos k1]at hty
  repeat(refine Fm ?_)
  refine FQ (xF cs s ok x.x (hxs (by omega)) _ _ hE) ?_;intro r hr;refine Jn ?_;rcases hr with⟨h1,h2⟩|⟨h1,h2⟩
  rotate_left
  ·have h1':decide (r.2=0)=false:=decide_eq_false h1
   repeat(refine Fm ?_;try intro b)
   exact End.aH ((s.o,s.c,s.bs),r.2) (he:=rfl) (hp:=⟨rfl, .inr ⟨h1,by rw[hty,h2];rfl⟩⟩)
  rw[h2,aU]at hty;obtain⟨t,e⟩:=r;dsimp only at h1 hty;subst h1
  repeat(refine Fm ?_;try intro b)
  obtain⟨tb,rfl⟩:∃x,x=b:=⟨_,rfl⟩;refine FQ (MK s.q s.sc ok.dY x.s) ?_;intro u hu;refine Jn ?_
  cases hl:Fr.eL (iF s.sc.bs) x.s with
  |some t'=>
   repeat(refine Fm ?_;try intro b)
   exact End.aH ((s.o,s.c,s.bs),7) (he:=rfl) (hp:=⟨rfl, .inr ⟨show(7:Int)≠0 by decide,by rw[hty];exact if_pos (by rw[show Fr.eL s.B x.s=_ from hl];rfl)⟩⟩)
  |none=>
   repeat(refine Fm ?_;try intro b)
   obtain⟨i,hi⟩:∃i,i=((s.bs.length:Int)-1).toNat:=⟨_,rfl⟩;have hil:i<s.bs.length:=by omega
   rw[←hi];refine aE.imp (fun w hm=>hm.nO tk (tF kC hil)) ?_;have hB0:s.B=(s.bs.getD i default).l::iF (s.bs.take i):=by
    rw[←MN hil,pF (by omega)]
   have hno:bC (s.bs.getD i default).l x.s=none:=by
    have h:=hl;rw[show iF s.sc.bs=s.B from rfl,hB0,Fr.eL,←EY]at h
    cases hf:bC (s.bs.getD i default).l x.s with
    |none=>rfl
    |some _=>rw[hf]at h;cases h
   obtain⟨bs',hbs'⟩:∃bs',bs'=s.bs.set i ⟨(s.bs.getD i default).b,(s.bs.getD i default).l ++[(x.s,t)]⟩:=⟨_,rfl⟩;have hlen:bs'.length=s.bs.length:=by rw[hbs',Ji]
   have hgd:bs'.getD i default=⟨(s.bs.getD i default).b,(s.bs.getD i default).l ++[(x.s,t)]⟩:=by
    rw[hbs',Jd,JS hil];rfl
   have her:bs'.eraseIdx i=s.bs.eraseIdx i:=by rw[hbs'];exact List.eraseIdx_set_eq
   have htk:bs'.take i=s.bs.take i:=by rw[hbs',List.take_set_of_le (cG _)]
   have hfm:s.bs.flatMap nV=bs'.flatMap nV:=by rw[hbs'];exact(QS hil (by simp[nV])).symm
   apply aE.op (by exact rfl);refine aA.qS (g:=fQ) (a:=t) (k:=?_);rw[oW _ _ _ hno,HE hfm hlen.symm,←hlen];refine aE.imp (fun w hm=>hm.mA (cs:=bs'.map kC) (ds:=[kC (bs'.getD i default)]) tk (.cons (by rw[hgd];exact tk) .nil) (by rw[←her];exact tF kC (by omega)) (by simp[kC,j6])) ?_
   repeat(refine Fm ?_)
   refine End.aH ((s.o,s.c,bs'),0) (he:=rfl) (hp:=⟨rfl, .inl ⟨rfl,?_⟩⟩);rw[hty,if_neg (by rw[show Fr.eL s.B x.s=none from hl];simp),hB0];show some _=some (iF bs');rw[←pF (l:=bs') (i:=i+1) (by omega),MN (by omega),hgd,htk]
 rw[if_neg k1]at hty
 by_cases k2:x.k=2
 ·rw[if_pos k2]at hty
  repeat(refine Fm ?_)
  refine FQ (MK s.q s.sc ok.dY x.s) ?_;intro u hu;refine Jn ?_
  cases hl:Fr.eL (iF s.sc.bs) x.s with
  |none=>
   repeat(refine Fm ?_;try intro b)
   exact End.aH ((s.o,s.c,s.bs),7) (he:=rfl) (hp:=⟨rfl, .inr ⟨show(7:Int)≠0 by decide,by rw[hty,show Fr.eL s.B x.s=_ from hl];rfl⟩⟩)
  |some t=>
   rw[show Fr.eL s.B x.s=_ from hl,aU]at hty
   repeat(refine Fm ?_;try intro b)
   refine FQ (rX cs s x.x (xF cs s ok x.x (hxs (by omega))) t _ _ hE) ?_;intro e he;refine Jn ?_
   repeat(refine Fm ?_)
   exact End.aH ((s.o,s.c,s.bs),e) (he:=rfl) (hp:=⟨rfl,MW he hty⟩)
 rw[if_neg k2]at hty
 by_cases k34:x.k=3∨x.k=4
 ·rw[if_pos k34]at hty;obtain⟨hbl,hbS⟩:=hbs k34;have hc:∀{A:Prop},(x.k=3→A)→(x.k=4→A)→A:=fun a b=>k34.elim a b
  refine hc (fun k3=>?_) (fun k4=>?_)
  all_goals
   repeat(refine Fm ?_)
   apply aB.draw 7 ([]) (by kernel_rfl) 7 rfl;refine JN 0 ?_;refine JN 1 ?_;refine JN 2 ?_;refine JN 3 ?_;(refine JT 4 ?_;refine aA.aZ (spec:=tJ) (r:=fun w=>eZ) (k:=?_);intro u hu;refine JG ?_;refine Jn ?_);(refine JT 5 ?_;refine aA.aZ (spec:=rX cs s x.x (xF cs s ok x.x (hxs (by omega))) Fr.gJ _ _ hE) (r:=fun w=>eZ) (k:=?_);intro e he;refine JG ?_;refine Jn ?_);refine JN 6 ?_;(apply RunT.done;kernel_rfl)
   by_cases h1:e=0
   rotate_left
   ·have h1':decide (e=0)=false:=decide_eq_false h1
    repeat(refine Fm ?_)
    refine End.aH ((s.o,s.c,s.bs),e) (he:=rfl) (hp:=⟨rfl, .inr ⟨h1,?_⟩⟩);rw[hty]
    cases hs:Fr.same (Fr.b5 s.P s.D s.B x.x.ex) Fr.gJ with
    |none=>rfl
    |some _=>exact absurd (he.2 (by rw[hs];rfl)) h1
   rw[KG (he.1 h1),aU]at hty;subst h1
   repeat(refine Fm ?_)
   refine FQ (MM cs x.body ihb s _ _ ok hx.body hbS (by omega) hbl) ?_;intro r hr;refine Jn ?_;obtain⟨z,e⟩:=r;obtain⟨h2,⟨h3,h4,h5⟩|⟨h3,h4⟩⟩:=hr
   rotate_left
   ·have h3':decide (e=0)=false:=decide_eq_false h3
    repeat(refine Fm ?_)
    exact End.aH (z,e) (he:=rfl) (hp:=⟨h2, .inr ⟨h3,by rw[hty,h4];rfl⟩⟩)
   dsimp only at h2 h3 h4;subst h3;obtain⟨B',hB'⟩:=lN.1 h5;rw[hB',aU]at hty
   repeat(refine Fm ?_)
  ·obtain⟨hel,heS⟩:=hes k3;rw[if_neg (by omega)]at hty;have ok2:=ok.wi z (by rw[h2];exact ok.dY) (by rw[h4];exact ok.dW);refine FQ (MM cs x.eY ihe (s.wi z) _ _ ok2 hx.eY (by show aJ.gW _ (z.2.2.length+1);rw[h2];exact heS) (by show z.2.2.length≤_;omega) hel) ?_;intro r hr;refine Jn ?_;obtain⟨z2,e⟩:=r;obtain⟨g2,g⟩:=hr;dsimp only at g2 g;have g2':z2.2.2.length=s.bs.length:=g2.trans h2;have hB2:(s.wi z).B=s.B:=h4;rw[hB2]at g
   repeat(refine Fm ?_)
   refine End.aH (z2,e) (he:=rfl) (hp:=⟨g2',?_⟩);rcases g with⟨g3,g4,g5⟩|⟨g3,g4⟩
   ·obtain⟨B2,hB2'⟩:=lN.1 g5;exact .inl ⟨g3,by rw[hty,show Fr.e8 s.P s.D ([]::s.B) (aJ.bR x.eY)=some B2 from hB2'];exact congrArg some g4.symm⟩
   ·exact .inr ⟨g3,by rw[hty,show Fr.e8 s.P s.D ([]::s.B) (aJ.bR x.eY)=none from g4];rfl⟩
  ·rw[if_pos k4]at hty;exact End.aH (z,0) (he:=rfl) (hp:=⟨h2, .inl ⟨rfl,by rw[hty];exact congrArg some h4.symm⟩⟩)
 rw[if_neg k34]at hty
 by_cases k5:x.k=5
 ·rw[if_pos k5]at hty;have hd:=(ok.jX.at ok.di).has
  by_cases hk:(s.x.l.getD s.di default).kind=2
  ·rw[if_pos (show s.D.kind=2 from hk)]at hty
   repeat(refine Fp ?_)
   refine FQ (rX cs s x.x (xF cs s ok x.x (hxs (by omega))) (s.x.l.getD s.di default).type _ _ hE) ?_;intro e he;refine Jn ?_
   repeat(refine Fm ?_)
   exact End.aH ((s.o,s.c,s.bs),e) (he:=rfl) (hp:=⟨rfl,MW he hty⟩)
  ·rw[if_neg (show¬s.D.kind=2 from hk)]at hty
   repeat(refine Fm ?_)
   exact End.aH ((s.o,s.c,s.bs),8) (he:=rfl) (hp:=⟨rfl, .inr ⟨show(8:Int)≠0 by decide,hty⟩⟩)
 rw[if_neg k5]at hty
 by_cases k6:x.k=6
 ·rw[if_pos k6]at hty;have hd:=(ok.jX.at ok.di).has
  by_cases hk:(s.x.l.getD s.di default).kind=2
  ·rw[if_pos (show s.D.kind=2 from hk)]at hty
   repeat(refine Fm ?_)
   exact End.aH ((s.o,s.c,s.bs),8) (he:=rfl) (hp:=⟨rfl, .inr ⟨show(8:Int)≠0 by decide,hty⟩⟩)
  ·rw[if_neg (show¬s.D.kind=2 from hk)]at hty
   repeat(refine Fm ?_)
   exact End.aH ((s.o,s.c,s.bs),0) (he:=rfl) (hp:=⟨rfl, .inl ⟨rfl,hty⟩⟩)
 rw[if_neg k6]at hty
 by_cases k7:x.k=7
 ·rw[if_pos k7]at hty;have F:=FW s.p s.mb cs s.x ok.jX s.ns ok.lt 1 x.s;obtain⟨r,hr⟩:∃r,r=bC s.ns x.s:=⟨_,rfl⟩;obtain⟨kb,hkb⟩:∃b,b=isKind s.x 1 r:=⟨_,rfl⟩;rw[←hr,←hkb]at F
  repeat(refine Fm ?_)
  apply aB.draw 14 ([bE cs,aD s.q [ptr s.p,eJ s.x s.di, .slice s.o s.bs.length s.c] 316]) (by kernel_rfl) 14 rfl;refine JN 0 ?_;refine JN 1 ?_;refine JN 2 ?_;refine JN 3 ?_;refine JN 4 ?_;refine JN 5 ?_;refine JN 6 ?_;refine TH 7 ?_;(refine JT 8 ?_;refine aA.aZ (spec:=F) (r:=fun w=>eZ) (k:=?_);intro u hu;refine JG ?_;refine Jn ?_);refine JN 9 ?_;refine JN 10 ?_;refine JN 11 ?_;refine JN 12 ?_;refine JN 13 ?_;(apply RunT.done;kernel_rfl)
  cases kb with
  |false=>
   repeat(refine Fm ?_)
   exact End.aH ((s.o,s.c,s.bs),7) (he:=rfl) (hp:=⟨rfl, .inr ⟨show(7:Int)≠0 by decide,by rw[hty,ok.DY (k:=1) (by rw[←hr,←hkb])];rfl⟩⟩)
  |true=>
   obtain⟨i,e1,hi,ek,ef⟩:=ok.DZ (k:=1) (n:=x.s) (by rw[←hr,←hkb]);obtain rfl:r=some i:=hr.trans e1;have hd:=(ok.jX.at hi).has;rw[ef,aU]at hty
   repeat(refine Fp ?_)
   refine FQ (rX cs s x.x (xF cs s ok x.x (hxs (by omega))) (s.x.l.getD i default).type _ _ hE) ?_;intro e he;refine Jn ?_
   repeat(refine Fm ?_)
   exact End.aH ((s.o,s.c,s.bs),e) (he:=rfl) (hp:=⟨rfl,MW he hty⟩)
 rw[if_neg k7]at hty
 by_cases k8:x.k=8
 ·rw[if_pos k8]at hty
  repeat(refine Fm ?_)
  refine FQ (xF cs s ok x.x (hxs (by omega)) _ _ hE) ?_;intro r hr;refine Jn ?_;rcases hr with⟨h1,h2⟩|⟨h1,h2⟩
  rotate_left
  ·have h1':decide (r.2=0)=false:=decide_eq_false h1
   repeat(refine Fm ?_;try intro b)
   exact End.aH ((s.o,s.c,s.bs),r.2) (he:=rfl) (hp:=⟨rfl, .inr ⟨h1,by rw[hty,h2];rfl⟩⟩)
  rw[h2,aU]at hty;obtain⟨t,e⟩:=r;dsimp only at h1 hty;subst h1
  repeat(refine Fm ?_;try intro b)
  refine FQ (uZ t) ?_;intro u hu;refine Jn ?_;rcases qC (Fr.cS t)with hp|hp
  ·repeat(refine Fm ?_)
   exact End.aH ((s.o,s.c,s.bs),0) (he:=rfl) (hp:=⟨rfl, .inl ⟨rfl,by rw[hty,if_pos hp]⟩⟩)
  ·repeat(refine Fm ?_)
   exact End.aH ((s.o,s.c,s.bs),9) (he:=rfl) (hp:=⟨rfl, .inr ⟨show(9:Int)≠0 by decide,by rw[hty,if_neg (by rw[hp];simp)]⟩⟩)
 rw[if_neg k8]at hty;have k9:x.k=9:=by omega
 repeat(refine Fm ?_)
 refine FQ (xF cs s ok x.x (hxs (by omega)) _ _ hE) ?_;intro r hr;refine Jn ?_
 repeat(refine Fm ?_;try intro b)
 refine End.aH ((s.o,s.c,s.bs),r.2) (he:=rfl) (hp:=⟨rfl,?_⟩);rcases hr with⟨h1,h2⟩|⟨h1,h2⟩
 ·exact .inl ⟨h1,by rw[hty,h2];rfl⟩
 ·exact .inr ⟨h1,by rw[hty,h2];rfl⟩
end Vw
end Go.Proofs.YtofckcabpchcmaaGreatDoor
