/- Package sema, walked: expressions. -/
import Derived.Test.YtofckcabpchcmaaGreatDoorM20
set_option linter.unusedVariables false
set_option linter.unusedSimpArgs false
set_option linter.unusedSectionVars false
set_option maxRecDepth 100000
namespace Go.Proofs.YtofckcabpchcmaaGreatDoor
namespace Vw
open Go.RowKit Img
attribute [local irreducible] aE aB End aA Still aM aP RunT Fn aO
theorem WT(P:List Fr.Df)(D:Fr.Df)(B:Fr.Scope)(x:EL):Fr.b5 P D B x.ex=(
  if x.k=1 then some Fr.kE
  else if x.k=2 then some Fr.gJ
  else if x.k=3 then Fr.eL B x.s
  else if x.k=4 then(Fr.eD P D B [Fr.kE] (EL.bT x.kids)).map fun _=>Fr.kE
  else if x.k=5 then(Fr.eD P D B [Fr.gJ] (EL.bT x.kids)).map fun _=>Fr.gJ
  else if x.k=11∨x.k=12 then(Fr.kK P D B (EL.bT x.kids)).bind fun ts=>match ts with
   |[a,b]=>if a=b∧Fr.cS a=true then some Fr.gJ else none
   |_=>none
  else if x.k=19 then(Fr.jY P 2 x.s).bind fun d=>(Fr.eD P D B (d.params.map (·.type)) (EL.bT x.kids)).map fun _=>Fr.bare d.type
  else if x.k=20 then(Fr.jY P 1 x.s).map fun d=>Fr.bare d.type
  else if x.k=21 then(if D.kind=3 then(Fr.eD P D B [D.type] (EL.bT x.kids)).map fun _=>Fr.bare D.aS else none)
  else if x.k=22 then(Fr.jY P 3 x.s).bind fun d=>(Fr.eD P D B (d.params.map (·.type)) (EL.bT x.kids)).map fun _=>⟨3,x.s⟩
  else if x.k=23 then(Fr.kK P D B (EL.bT x.kids)).bind fun ts=>match ts with
   |[h,v]=>if Fr.cS h=true then none else(Fr.kP P h.gen).bind fun d=>if v=Fr.bare d.aS then some (Fr.bare d.type)else none
   |_=>none
  else if x.k=24 then(Fr.kK P D B (EL.bT x.kids)).bind fun ts=>match ts with
   |[h]=>if Fr.cS h=true then none else some Fr.gJ
   |_=>none
  else(Fr.eD P D B ((EL.bT x.kids).map fun _=>if 17≤x.k then Fr.gJ else Fr.kE) (EL.bT x.kids)).map fun _=>if 13≤x.k then Fr.gJ else Fr.kE):=by
 cases x;rw[EL.ex,Fr.b5];rfl
theorem RV{α:Type}{l:List α}(h:l.length=2):∃u v,l=[u,v]:=by
 match l,h with
 |[u,v],_=>exact⟨u,v,rfl⟩
section
variable{P:List Fr.Df}{D:Fr.Df}{B:Fr.Scope}
theorem NK{y:EL}{t T:Fr.Ty}{e:Int}{ρ:Option Fr.Ty}(he:e=0↔(Fr.same (Fr.b5 P D B y.ex) t).isSome=true)(hρ:ρ=(Fr.eD P D B [t] (EL.bT [y])).map fun _=>T):(e=0∧ρ=some T)∨(e≠0∧ρ=none):=by
 rw[EL.bT,EL.bT,Fr.eD,Fr.eD]at hρ
 cases hs:Fr.same (Fr.b5 P D B y.ex) t with
 |none=>rw[hs]at hρ he;exact .inr ⟨fun h=>absurd (he.1 h) (by decide),hρ⟩
 |some _=>rw[hs]at hρ he;exact .inl ⟨he.2 rfl,hρ⟩
theorem NP(u v:EL):Fr.kK P D B (EL.bT [u,v])=(Fr.b5 P D B u.ex).bind fun a=>(Fr.b5 P D B v.ex).map fun b=>[a,b]:=by
 rw[EL.bT,EL.bT,EL.bT,Fr.kK,Fr.kK,Fr.kK]
 cases Fr.b5 P D B u.ex<;>cases Fr.b5 P D B v.ex<;>rfl
theorem aHB(u:EL):Fr.kK P D B (EL.bT [u])=(Fr.b5 P D B u.ex).map fun a=>[a]:=by
 rw[EL.bT,EL.bT,Fr.kK,Fr.kK]
 cases Fr.b5 P D B u.ex<;>rfl
theorem aGy{l:List EL}{j:Nat}(w:Fr.Ty)(h:j<l.length):Fr.eD P D B ((EL.bT (l.drop j)).map fun _=>w) (EL.bT (l.drop j))=(Fr.same (Fr.b5 P D B (l.getD j default).ex) w).bind fun _=>Fr.eD P D B ((EL.bT (l.drop (j+1))).map fun _=>w) (EL.bT (l.drop (j+1))):=by
 rw[nR h,EL.bT,eG,Fr.eD]
end
set_option maxHeartbeats 8000000 in
theorem xF(cs:List Chunk)(s:SE)(ok:SE.Kn cs s)(x:EL):x.fF→vS cs s x:=by
 refine EL.ind (p:=fun x=>x.fF→vS cs s x) (fun x ih hS xb o hx=>?_) x;have hE:∀y∈x.kids,vS cs s y:=fun y hy=>ih y hy (hS.kids y hy)
 have hX:=hx.has;have ha:=hx.arr;obtain⟨kl,kh,hlen,h6⟩:=hS.len;have hty:=WT s.P s.D s.B x;have one:(x.k=4∨x.k=5∨x.k=21∨x.k=24)→∃y,x.kids=[y]:=fun h=>List.length_eq_one_iff.1 (by
  have:Fr.gA x.k=1:=by
   unfold Fr.gA
   repeat' split
   all_goals omega
  omega)
 have two:(6≤x.k∧x.k≤18∨x.k=23)→∃u v,x.kids=[u,v]:=fun h=>RV (by
  have:Fr.gA x.k=2:=by
   unfold Fr.gA
   repeat' split
   all_goals omega
  omega)
 clear hlen ih;refine JE [ptr s.q, .pointer (some ⟨xb,o,none⟩)] Tryz.func196 Tryz.ntmps196 fun w S=>?_;refine Jn ?_
 repeat(refine Fm ?_;try intro b)
 obtain⟨rb,rfl⟩:∃x,x=b:=⟨_,rfl⟩
 by_cases k1:x.k=1
 ·rw[if_pos k1]at hty
  repeat(refine Fm ?_)
  refine FQ (rV) ?_;intro u hu;refine Jn ?_
  repeat(refine Fm ?_)
  exact End.dK (Fr.kE,0) (he:=rfl) (hp:= .inl ⟨rfl,hty⟩)
 rw[if_neg k1]at hty
 by_cases k2:x.k=2
 ·rw[if_pos k2]at hty
  repeat(refine Fm ?_)
  refine FQ (tJ) ?_;intro u hu;refine Jn ?_
  repeat(refine Fm ?_)
  exact End.dK (Fr.gJ,0) (he:=rfl) (hp:= .inl ⟨rfl,hty⟩)
 rw[if_neg k2]at hty
 by_cases k3:x.k=3
 ·rw[if_pos k3]at hty
  repeat(refine Fm ?_)
  refine FQ (MK s.q s.sc ok.dY x.s) ?_;intro u hu;refine Jn ?_
  cases hl:Fr.eL (iF s.sc.bs) x.s with
  |some t=>
   repeat(refine Fm ?_;try intro b)
   exact End.dK (t,0) (he:=rfl) (hp:= .inl ⟨rfl,hty.trans hl⟩)
  |none=>
   repeat(refine Fm ?_;try intro b)
   refine FQ (rV) ?_;intro u hu;refine Jn ?_
   repeat(refine Fm ?_)
   exact End.dK (Fr.kE,7) (he:=rfl) (hp:= .inr ⟨show(7:Int)≠0 by decide,hty.trans hl⟩)
 rw[if_neg k3]at hty
 by_cases k4:x.k=4
 ·rw[if_pos k4]at hty;obtain⟨y,hy⟩:=one (by omega);have k0:=hx.lF (i:=0) (by rw[hy];simp);rw[show x.kids.getD 0 default=y by rw[hy];rfl]at k0;rw[hy]at hty
  repeat(refine Fm ?_)
  apply aB.draw 11 ([bE cs]) (by kernel_rfl) 11 rfl;refine JN 1 ?_;refine JN 2 ?_;refine JN 3 ?_;refine JN 4 ?_;refine TH 5 ?_;refine TH 6 ?_ (hy:=Still.uH (i:=0) (f:=dU) (l:=x.kids) rfl rfl tk ha rfl rfl rfl rfl (by rw[hy];simp));(refine JT 0 ?_;refine aA.aZ (spec:=rV) (r:=fun w=>eZ) (k:=?_);intro u hu;refine JG ?_;refine Jn ?_);(refine JT 7 ?_;refine aA.aZ (spec:=rV) (r:=fun w=>eZ) (k:=?_);intro v hv;refine JG ?_;refine Jn ?_);(refine JT 8 ?_;refine aA.aZ (spec:=rX cs s y (hE y (by rw[hy];simp)) Fr.kE _ _ k0) (r:=fun w=>eZ) (k:=?_);intro e he;refine JG ?_;refine Jn ?_);(refine JT 9 ?_;(refine Jw ?_);refine JG ?_);refine JN 10 ?_;(apply RunT.done;kernel_rfl)
  repeat(refine Fm ?_)
  exact End.dK (Fr.kE,e) (he:=rfl) (hp:=NK he hty)
 rw[if_neg k4]at hty
 by_cases k5:x.k=5
 ·rw[if_pos k5]at hty;obtain⟨y,hy⟩:=one (by omega);have k0:=hx.lF (i:=0) (by rw[hy];simp);rw[show x.kids.getD 0 default=y by rw[hy];rfl]at k0;rw[hy]at hty
  repeat(refine Fm ?_)
  apply aB.draw 11 ([bE cs]) (by kernel_rfl) 11 rfl;refine JN 1 ?_;refine JN 2 ?_;refine JN 3 ?_;refine JN 4 ?_;refine TH 5 ?_;refine TH 6 ?_ (hy:=Still.uH (i:=0) (f:=dU) (l:=x.kids) rfl rfl tk ha rfl rfl rfl rfl (by rw[hy];simp));(refine JT 0 ?_;refine aA.aZ (spec:=tJ) (r:=fun w=>eZ) (k:=?_);intro u hu;refine JG ?_;refine Jn ?_);(refine JT 7 ?_;refine aA.aZ (spec:=tJ) (r:=fun w=>eZ) (k:=?_);intro v hv;refine JG ?_;refine Jn ?_);(refine JT 8 ?_;refine aA.aZ (spec:=rX cs s y (hE y (by rw[hy];simp)) Fr.gJ _ _ k0) (r:=fun w=>eZ) (k:=?_);intro e he;refine JG ?_;refine Jn ?_);(refine JT 9 ?_;(refine Jw ?_);refine JG ?_);refine JN 10 ?_;(apply RunT.done;kernel_rfl)
  repeat(refine Fm ?_)
  exact End.dK (Fr.gJ,e) (he:=rfl) (hp:=NK he hty)
 rw[if_neg k5]at hty
 by_cases k11:x.k=11∨x.k=12
 ·rw[if_pos k11]at hty;obtain⟨u,v,hy⟩:=two (by omega);have hb:∀e:Int,(e=0↔zA s x.kids=true)→(e=0∧Fr.b5 s.P s.D s.B x.ex=some Fr.gJ)∨(e≠0∧Fr.b5 s.P s.D s.B x.ex=none):=fun e he=>by
   rw[hy,S5]at he;rw[hty,hy,NP];generalize Fr.b5 s.P s.D s.B u.ex=a at he⊢;generalize Fr.b5 s.P s.D s.B v.ex=b at he⊢;rcases a with _|a
   ·exact .inr ⟨fun h=>absurd (he.1 h) (by simp),rfl⟩
   rcases b with _|b
   ·exact .inr ⟨fun h=>absurd (he.1 h) (by simp),rfl⟩
   by_cases hc:a=b∧Fr.cS a=true
   ·exact .inl ⟨he.2 (by simpa using hc),if_pos hc⟩
   ·exact .inr ⟨fun h=>hc (by simpa using he.1 h),if_neg hc⟩
  rcases k11 with k11|k11
  all_goals
   repeat(refine Fm ?_)
   refine FQ (aFE cs s x u v hy hE xb o hx) ?_;intro r hr;refine Jn ?_
   repeat(refine Fm ?_;try intro b)
   refine FQ (tJ) ?_;intro w hw;refine Jn ?_
   repeat(refine Fm ?_)
   exact End.dK (Fr.gJ,r.2) (he:=rfl) (hp:=hb _ hr)
 rw[if_neg k11]at hty
 by_cases k19:x.k=19
 ·rw[if_pos k19]at hty
  repeat(refine Fm ?_)
  refine FQ (VC cs s ok.toOk x h6 hE 2 xb o hx) ?_;intro r hr;refine Jn ?_;obtain⟨r,e⟩:=r;rcases hr with⟨h1,i,h2,hi,hf,ht⟩|⟨h1,ht⟩
  ·dsimp only at h1 h2;subst h1 h2;have hd:=(ok.jX.at hi).has
   repeat(refine Fm ?_)
   refine FQ (zN (s.x.l.getD i default).type) ?_;intro u hu;refine Jn ?_
   repeat(refine Fm ?_)
   refine End.dK (Fr.bare (s.x.l.getD i default).type,0) (he:=rfl) (hp:= .inl ⟨rfl,?_⟩);rw[hty,hf,aU];show(Fr.eD s.P s.D s.B ((s.x.l.getD i default).params.map (·.type)) (EL.bT x.kids)).map _=_;rw[ht];rfl
  ·have h1':decide (e=0)=false:=decide_eq_false h1
   repeat(refine Fm ?_)
   refine FQ (rV) ?_;intro u hu;refine Jn ?_
   repeat(refine Fm ?_)
   refine End.dK (Fr.kE,e) (he:=rfl) (hp:= .inr ⟨h1,?_⟩);rw[hty]
   cases hf:Fr.jY s.P 2 x.s with
   |none=>rfl
   |some d=>rw[hf,aU]at ht;rw[aU,ht];rfl
 rw[if_neg k19]at hty
 by_cases k20:x.k=20
 ·rw[if_pos k20]at hty;have F:=FW s.p s.mb cs s.x ok.jX s.ns ok.lt 1 x.s;obtain⟨r,hr⟩:∃r,r=bC s.ns x.s:=⟨_,rfl⟩;obtain⟨kb,hkb⟩:∃b,b=isKind s.x 1 r:=⟨_,rfl⟩;rw[←hr,←hkb]at F
  repeat(refine Fm ?_)
  apply aB.draw 14 ([bE cs,aD s.q [ptr s.p,eJ s.x s.di, .slice s.o s.bs.length s.c] 316]) (by kernel_rfl) 14 rfl;refine JN 0 ?_;refine JN 1 ?_;refine JN 2 ?_;refine JN 3 ?_;refine JN 4 ?_;refine JN 5 ?_;refine JN 6 ?_;refine TH 7 ?_;(refine JT 8 ?_;refine aA.aZ (spec:=F) (r:=fun w=>eZ) (k:=?_);intro u hu;refine JG ?_;refine Jn ?_);refine JN 9 ?_;refine JN 10 ?_;refine JN 11 ?_;refine JN 12 ?_;refine JN 13 ?_;(apply RunT.done;kernel_rfl)
  cases kb with
  |false=>
   repeat(refine Fm ?_)
   refine FQ (rV) ?_;intro u hu;refine Jn ?_
   repeat(refine Fm ?_)
   exact End.dK (Fr.kE,7) (he:=rfl) (hp:= .inr ⟨show(7:Int)≠0 by decide,by rw[hty,ok.DY (k:=1) (by rw[←hr,←hkb])];rfl⟩)
  |true=>
   obtain⟨i,e1,hi,ek,ef⟩:=ok.DZ (k:=1) (n:=x.s) (by rw[←hr,←hkb]);obtain rfl:r=some i:=hr.trans e1;have hd:=(ok.jX.at hi).has
   repeat(refine Fm ?_)
   refine FQ (zN (s.x.l.getD i default).type) ?_;intro u hu;refine Jn ?_
   repeat(refine Fm ?_)
   exact End.dK (Fr.bare (s.x.l.getD i default).type,0) (he:=rfl) (hp:= .inl ⟨rfl,by rw[hty,ef];rfl⟩)
 rw[if_neg k20]at hty
 by_cases k21:x.k=21
 ·rw[if_pos k21]at hty;have hd:=(ok.jX.at ok.di).has;obtain⟨y,hy⟩:=one (by omega);have k0:=hx.lF (i:=0) (by rw[hy];simp);rw[show x.kids.getD 0 default=y by rw[hy];rfl]at k0
  by_cases hk:(s.x.l.getD s.di default).kind=3
  ·repeat(refine Fm ?_)
   apply aB.draw 24 ([bE cs,aD s.q [ptr s.p,eJ s.x s.di, .slice s.o s.bs.length s.c] 316]) (by kernel_rfl) 24 rfl;refine JN 0 ?_;refine JN 1 ?_;refine JN 2 ?_;refine JN 3 ?_;refine JN 4 ?_;refine JN 5 ?_;refine TH 6 ?_;refine JN 8 ?_;refine JN 9 ?_;refine JN 10 ?_;refine JN 11 ?_;refine TH 12 ?_;refine TH 13 ?_ (hy:=Still.uH (i:=0) (f:=dU) (l:=x.kids) rfl rfl tk ha rfl rfl rfl rfl (by rw[hy];simp));refine JN 14 ?_;refine JN 15 ?_;refine JN 16 ?_;refine JN 17 ?_;refine JN 18 ?_;refine JN 19 ?_;refine TH 20 ?_;(refine JT 7 ?_;refine aA.aZ (spec:=zN (s.x.l.getD s.di default).aS) (r:=fun w=>eZ) (k:=?_);intro u hu;refine JG ?_;refine Jn ?_);(refine JT 21 ?_;refine aA.aZ (spec:=rX cs s y (hE y (by rw[hy];simp)) (s.x.l.getD s.di default).type _ _ k0) (r:=fun w=>eZ) (k:=?_);intro e he;refine JG ?_;refine Jn ?_);(refine JT 22 ?_;(refine Jw ?_);refine JG ?_);refine JN 23 ?_;(apply RunT.done;kernel_rfl)
   repeat(refine Fm ?_)
   exact End.dK (Fr.bare (s.x.l.getD s.di default).aS,e) (he:=rfl) (hp:=NK he (hty.trans (by rw[if_pos (show s.D.kind=3 from hk),hy];rfl)))
  ·repeat(refine Fm ?_)
   refine FQ (rV) ?_;intro u hu;refine Jn ?_
   repeat(refine Fm ?_)
   exact End.dK (Fr.kE,8) (he:=rfl) (hp:= .inr ⟨show(8:Int)≠0 by decide,by rw[hty];exact if_neg hk⟩)
 rw[if_neg k21]at hty
 by_cases k22:x.k=22
 ·rw[if_pos k22]at hty
  repeat(refine Fm ?_)
  refine FQ (VC cs s ok.toOk x h6 hE 3 xb o hx) ?_;intro r hr;refine Jn ?_
  repeat(refine Fm ?_)
  refine End.dK (⟨3,x.s⟩,r.2) (he:=rfl) (hp:=?_);rcases hr with⟨h1,i,h2,hi,hf,ht⟩|⟨h1,ht⟩
  ·refine .inl ⟨h1,?_⟩;rw[hty,hf,aU];show(Fr.eD s.P s.D s.B ((s.x.l.getD i default).params.map (·.type)) (EL.bT x.kids)).map _=_;rw[ht];rfl
  ·refine .inr ⟨h1,?_⟩;rw[hty]
   cases hf:Fr.jY s.P 3 x.s with
   |none=>rfl
   |some d=>rw[hf,aU]at ht;rw[aU,ht];rfl
 rw[if_neg k22]at hty
 by_cases k23:x.k=23
 ·rw[if_pos k23]at hty;obtain⟨u,v,hy⟩:=two (by omega);have k0:=hx.lF (i:=0) (by rw[hy];simp);have k1':=hx.lF (i:=1) (by rw[hy];simp);rw[show x.kids.getD 0 default=u by rw[hy];rfl]at k0;rw[show x.kids.getD 1 default=v by rw[hy];rfl]at k1';have eu:=hE u (by rw[hy];simp);have ev':=hE v (by rw[hy];simp);rw[hy,NP]at hty
  repeat(refine Fm ?_)
  apply aE.op (by exact rfl);refine aA.b8 (h:=Still.uH (i:=0) (f:=dU) (l:=x.kids) rfl rfl tk ha rfl rfl rfl rfl (by rw[hy];simp)) (k:=?_)
  repeat(refine Fm ?_)
  refine FQ (VD cs s ok.toOk u eu _ _ k0) ?_;intro r hr;refine Jn ?_;obtain⟨r,e⟩:=r;rcases hr with⟨h1,t,h2,h3,h4⟩|⟨h1,h2⟩
  rotate_left
  ·have h1':decide (e=0)=false:=decide_eq_false h1
   repeat(refine Fm ?_)
   refine FQ (rV) ?_;intro w hw;refine Jn ?_
   repeat(refine Fm ?_)
   refine End.dK (Fr.kE,e) (he:=rfl) (hp:= .inr ⟨h1,?_⟩);rw[hty]
   cases h5:Fr.b5 s.P s.D s.B u.ex with
   |none=>rfl
   |some t=>
    cases Fr.b5 s.P s.D s.B v.ex with
    |none=>rfl
    |some b=>exact if_pos (h2 t h5)
  dsimp only at h1 h4;subst h1;obtain⟨d,hg⟩:=Fr.FD (ok.b7 h2) h3;obtain⟨g1,g2⟩:=Fr.qO hg;obtain⟨i,hi⟩:∃i,bC s.ns t.gen=some i:=by
   cases h:bC s.ns t.gen with
   |none=>rw[ok.SU h]at g1;cases g1
   |some i=>exact⟨i,rfl⟩
  obtain rfl:r=some i:=h4.trans hi;have hil:=ok.lt _ i hi;have hd:=(ok.jX.at hil).has;rw[ok.EC hi]at g1
  cases g1
  rw[h2,aU]at hty
  repeat(refine Fm ?_)
  apply aB.draw 18 ([bE cs]) (by kernel_rfl) 18 rfl;refine JN 0 ?_;refine JN 1 ?_;refine JN 2 ?_;refine TH 3 ?_;refine JN 5 ?_;refine JN 6 ?_;refine JN 7 ?_;refine JN 8 ?_;refine TH 9 ?_;refine TH 10 ?_ (hy:=Still.uH (i:=1) (f:=dU) (l:=x.kids) rfl rfl tk ha rfl rfl rfl rfl (by rw[hy];simp));refine JN 11 ?_;refine JN 12 ?_;refine JN 13 ?_;refine TH 14 ?_;(refine JT 4 ?_;refine aA.aZ (spec:=zN (s.x.l.getD i default).type) (r:=fun w=>eZ) (k:=?_);intro w hw;refine JG ?_;refine Jn ?_);(refine JT 15 ?_;refine aA.aZ (spec:=rX cs s v ev' (s.x.l.getD i default).aS _ _ k1') (r:=fun w=>eZ) (k:=?_);intro e he;refine JG ?_;refine Jn ?_);(refine JT 16 ?_;(refine Jw ?_);refine JG ?_);refine JN 17 ?_;(apply RunT.done;kernel_rfl)
  repeat(refine Fm ?_)
  refine End.dK (Fr.bare (s.x.l.getD i default).type,e) (he:=rfl) (hp:=?_);have hty':Fr.b5 s.P s.D s.B x.ex=(Fr.same (Fr.b5 s.P s.D s.B v.ex) (s.x.l.getD i default).aS).map fun _=>Fr.bare (s.x.l.getD i default).type:=by
   rw[hty]
   cases Fr.b5 s.P s.D s.B v.ex with
   |none=>rfl
   |some b=>
    refine(if_neg (by rw[h3];simp)).trans ?_;rw[ok.EC hi,aU,Fr.same,aU]
    by_cases hb:b=Fr.bare (s.x.l.getD i default).aS
    ·rw[if_pos hb,if_pos (show b=Fr.bare (s.x.l.getD i default).df.aS from hb)];rfl
    ·rw[if_neg hb,if_neg (show¬b=Fr.bare (s.x.l.getD i default).df.aS from hb)];rfl
  cases hs:Fr.same (Fr.b5 s.P s.D s.B v.ex) (s.x.l.getD i default).aS with
  |none=>rw[hs]at he hty';exact .inr ⟨fun h=>absurd (he.1 h) (by simp),hty'⟩
  |some _=>rw[hs]at he hty';exact .inl ⟨he.2 rfl,hty'⟩
 rw[if_neg k23]at hty
 by_cases k24:x.k=24
 ·rw[if_pos k24]at hty;obtain⟨u,hy⟩:=one (by omega);have k0:=hx.lF (i:=0) (by rw[hy];simp);rw[show x.kids.getD 0 default=u by rw[hy];rfl]at k0;rw[hy,aHB]at hty
  repeat(refine Fm ?_)
  apply aE.op (by exact rfl);refine aA.b8 (h:=Still.uH (i:=0) (f:=dU) (l:=x.kids) rfl rfl tk ha rfl rfl rfl rfl (by rw[hy];simp)) (k:=?_)
  repeat(refine Fm ?_)
  refine FQ (VD cs s ok.toOk u (hE u (by rw[hy];simp)) _ _ k0) ?_;intro r hr;refine Jn ?_
  repeat(refine Fm ?_)
  refine FQ (tJ) ?_;intro w hw;refine Jn ?_
  repeat(refine Fm ?_)
  refine End.dK (Fr.gJ,r.2) (he:=rfl) (hp:=?_);rcases hr with⟨h1,t,h2,h3,h4⟩|⟨h1,h2⟩
  ·exact .inl ⟨h1,by rw[hty,h2];exact if_neg (by rw[h3];simp)⟩
  ·refine .inr ⟨h1,?_⟩;rw[hty]
   cases h5:Fr.b5 s.P s.D s.B u.ex with
   |none=>rfl
   |some t=>exact if_pos (h2 t h5)
 rw[if_neg k24]at hty
 repeat(refine Fm ?_)
 refine FQ (rV) ?_;intro u hu;refine Jn ?_
 repeat(refine Fm ?_)
 refine FQ (rV) ?_;intro v hv;refine Jn ?_
 repeat(refine Fm ?_;try intro b)
 obtain⟨ob',rfl⟩:∃x,x=b:=⟨_,rfl⟩;obtain⟨wb,rfl⟩:∃x,x=b:=⟨_,rfl⟩;obtain⟨T,hT⟩:∃T,T=if 13≤x.k then Fr.gJ else Fr.kE:=⟨_,rfl⟩;obtain⟨W,hW⟩:∃W,W=if 17≤x.k then Fr.gJ else Fr.kE:=⟨_,rfl⟩;rw[←hT,←hW]at hty;refine A8 (σ:=Unit) (fun _=>True) (fun _=>[(0,ptr s.q),(1, .pointer (some ⟨xb,o,none⟩)),(4,ptr rb),(5, .int .i64 0),(20,ptr wb),(21,ptr ob')]) (fun _=>aI w S::bE cs::bN::aD rb [.int .i64 0,sv []] 141::aD wb [.int .i64 W.kind,sv W.gen] 141::aD ob' [.int .i64 T.kind,sv T.gen] 141::s.m) ?_ ?_
 ·intro _ _;refine Jn ?_
  repeat(refine Fm ?_)
  refine aB.only ((fun j=>aI w S::bE cs::bN::aD rb [.int .i64 0,sv []] 141::aD wb [.int .i64 W.kind,sv W.gen] 141::aD ob' [.int .i64 T.kind,sv T.gen] 141::s.m) 0) (aK) ?_;apply aB.loop (σ:=Nat) (fun j=>j≤x.kids.length∧Fr.eD s.P s.D s.B ((EL.bT x.kids).map fun _=>W) (EL.bT x.kids)=Fr.eD s.P s.D s.B ((EL.bT (x.kids.drop j)).map fun _=>W) (EL.bT (x.kids.drop j))) (fun j=>[(0,ptr s.q),(1, .pointer (some ⟨xb,o,none⟩)),(4,ptr rb),(5, .int .i64 0),(20,ptr wb),(21,ptr ob'),(234, .int .i64 (x.kids.length:Int)),(235, .int .i64 (j:Int))]) (fun j=>aI w S::bE cs::bN::aD rb [.int .i64 0,sv []] 141::aD wb [.int .i64 W.kind,sv W.gen] 141::aD ob' [.int .i64 T.kind,sv T.gen] 141::s.m) (fun j=>x.kids.length-j) 0
  rotate_left
  exact sb;exact aK;intro j hj K hK;(refine Jn ?_)
  rotate_left
  ·exact⟨bP _,rfl⟩
  obtain⟨hj,hR⟩:=hj
  by_cases hlt:j<x.kids.length
  ·have hE1:=hE _ (dQ hlt);have hk1:=hx.lF hlt;rw[aGy W hlt]at hR
   repeat(refine Fm ?_)
   refine FQ (rX cs s _ hE1 W _ _ hk1) ?_;intro e he;refine Jn ?_
   by_cases h0:e=0
   ·subst h0
    repeat(refine Fm ?_)
    exact End.bK hK (j+1) ⟨hlt,by rw[hR,KG (he.1 rfl)];rfl⟩ (by omega)
   ·have h0':decide (e=0)=false:=decide_eq_false h0
    repeat(refine Fm ?_)
    exact End.dK (T,e) (he:=rfl) (hp:= .inr ⟨h0,by
     rw[hty,hR]
     cases hs:Fr.same (Fr.b5 s.P s.D s.B (x.kids.getD j default).ex) W with
     |none=>rfl
     |some _=>exact absurd (he.2 (by rw[hs];rfl)) h0⟩)
  ·have hje:j=x.kids.length:=by omega
   repeat(refine Fm ?_)
   exact End.dK (T,0) (he:=rfl) (hp:= .inl ⟨rfl,by rw[hty,hR,lD (by omega)];rfl⟩)
 ·intro K' hK
  by_cases h17:17≤x.k
  ·rw[if_pos (by omega)]at hT;rw[if_pos h17]at hW;subst hT hW
   repeat(refine Fm ?_)
   refine FQ (tJ) ?_;intro u hu;refine Jn ?_
   repeat(refine Fm ?_)
   refine FQ (tJ) ?_;intro v hv;refine Jn ?_
   repeat(refine Fm ?_)
   refine End.some_ hK () ?_;trivial
  rw[if_neg h17]at hW
  by_cases h13:13≤x.k
  ·rw[if_pos h13]at hT;subst hT hW
   repeat(refine Fm ?_)
   refine FQ (tJ) ?_;intro u hu;refine Jn ?_
   repeat(refine Fm ?_)
   refine End.some_ hK () ?_;trivial
  ·rw[if_neg h13]at hT;subst hT hW
   repeat(refine Fm ?_)
   refine End.some_ hK () ?_;trivial
end Vw
end Go.Proofs.YtofckcabpchcmaaGreatDoor
