/- Package sema, walked: expressions. -/
import Derived.Test.YtofckcabpchcmaaGreatDoorM34
set_option linter.unusedVariables false
set_option linter.unusedSimpArgs false
set_option linter.unusedSectionVars false
set_option maxRecDepth 100000
namespace Go.Proofs.YtofckcabpchcmaaGreatDoor
namespace Vw
open Go.RowKit Img
attribute [local irreducible] aE aG End aB Still aN aU RunT Fn aS
theorem X5(P:List Fr.Df)(D:Fr.Df)(B:Fr.Scope)(x:EL):Fr.b9 P D B x.ex=(
  if x.k=1 then some Fr.kJ
  else if x.k=2 then some Fr.gM
  else if x.k=3 then Fr.eN B x.s
  else if x.k=4 then(Fr.eD P D B [Fr.kJ] (EL.bW x.kids)).map fun _=>Fr.kJ
  else if x.k=5 then(Fr.eD P D B [Fr.gM] (EL.bW x.kids)).map fun _=>Fr.gM
  else if x.k=11∨x.k=12 then(Fr.fF P D B (EL.bW x.kids)).bind fun ts=>match ts with
   |[a,b]=>if a=b∧Fr.cV a=true then some Fr.gM else none
   |_=>none
  else if x.k=19 then(Fr.kR P 2 x.s).bind fun d=>(Fr.eD P D B (d.params.map (·.type)) (EL.bW x.kids)).map fun _=>Fr.bare d.type
  else if x.k=20 then(Fr.kR P 1 x.s).map fun d=>Fr.bare d.type
  else if x.k=21 then(if D.kind=3 then(Fr.eD P D B [D.type] (EL.bW x.kids)).map fun _=>Fr.bare D.aP else none)
  else if x.k=22 then(Fr.kR P 3 x.s).bind fun d=>(Fr.eD P D B (d.params.map (·.type)) (EL.bW x.kids)).map fun _=>⟨3,x.s⟩
  else if x.k=23 then(Fr.fF P D B (EL.bW x.kids)).bind fun ts=>match ts with
   |[h,v]=>if Fr.cV h=true then none else(Fr.dG P h.gen).bind fun d=>if v=Fr.bare d.aP then some (Fr.bare d.type)else none
   |_=>none
  else if x.k=24 then(Fr.fF P D B (EL.bW x.kids)).bind fun ts=>match ts with
   |[h]=>if Fr.cV h=true then none else some Fr.gM
   |_=>none
  else(Fr.eD P D B ((EL.bW x.kids).map fun _=>if 17≤x.k then Fr.gM else Fr.kJ) (EL.bW x.kids)).map fun _=>if 13≤x.k then Fr.gM else Fr.kJ):=by
 cases x;rw[EL.ex,Fr.b9];rfl
theorem TB{α:Type}{l:List α}(h:l.length=2):∃u v,l=[u,v]:=by
 match l,h with
 |[u,v],_=>exact⟨u,v,rfl⟩
section
variable{P:List Fr.Df}{D:Fr.Df}{B:Fr.Scope}
theorem N4{y:EL}{t T:Fr.Ty}{e:Int}{ρ:Option Fr.Ty}(he:e=0↔(Fr.same (Fr.b9 P D B y.ex) t).isSome=true)(hρ:ρ=(Fr.eD P D B [t] (EL.bW [y])).map fun _=>T):(e=0∧ρ=some T)∨(e≠0∧ρ=none):=by
 rw[EL.bW,EL.bW,Fr.eD,Fr.eD]at hρ
 cases hs:Fr.same (Fr.b9 P D B y.ex) t with
 |none=>rw[hs]at hρ he;exact .inr ⟨fun h=>absurd (he.1 h) aK,hρ⟩
 |some _=>rw[hs]at hρ he;exact .inl ⟨he.2 rfl,hρ⟩
theorem N9(u v:EL):Fr.fF P D B (EL.bW [u,v])=(Fr.b9 P D B u.ex).bind fun a=>(Fr.b9 P D B v.ex).map fun b=>[a,b]:=by
 rw[EL.bW,EL.bW,EL.bW,Fr.fF,Fr.fF,Fr.fF]
 cases Fr.b9 P D B u.ex<;>cases Fr.b9 P D B v.ex<;>rfl
theorem aHi(u:EL):Fr.fF P D B (EL.bW [u])=(Fr.b9 P D B u.ex).map fun a=>[a]:=by
 rw[EL.bW,EL.bW,Fr.fF,Fr.fF]
 cases Fr.b9 P D B u.ex<;>rfl
theorem aHe{l:List EL}{j:Nat}(w:Fr.Ty)(h:j<l.length):Fr.eD P D B ((EL.bW (l.drop j)).map fun _=>w) (EL.bW (l.drop j))=(Fr.same (Fr.b9 P D B (l.getD j default).ex) w).bind fun _=>Fr.eD P D B ((EL.bW (l.drop (j+1))).map fun _=>w) (EL.bW (l.drop (j+1))):=by
 rw[oN h,EL.bW,fI,Fr.eD]
end
set_option maxHeartbeats 8000000 in
theorem yF(cs:List Chunk)(s:SE)(ok:SE.Kn cs s)(x:EL):x.fO→wV cs s x:=by
 refine EL.ind (p:=fun x=>x.fO→wV cs s x) (fun x ih hS xb o hx=>?_) x;have hE:∀y∈x.kids,wV cs s y:=fun y hy=>ih y hy (hS.kids y hy);have hX:=hx.has;have ha:=hx.arr;obtain⟨kl,kh,hlen,h6⟩:=hS.len;have hty:=X5 s.P s.D s.B x;have one:(x.k=4∨x.k=5∨x.k=21∨x.k=24)→∃y,x.kids=[y]:=fun h=>List.length_eq_one_iff.1 (by
  have:Fr.eW x.k=1:=by
   unfold Fr.eW
   repeat' split
   all_goals omega
  omega)
 have two:(6≤x.k∧x.k≤18∨x.k=23)→∃u v,x.kids=[u,v]:=fun h=>TB (by
  have:Fr.eW x.k=2:=by
   unfold Fr.eW
   repeat' split
   all_goals omega
  omega)
 clear hlen ih;refine JE [ptr s.q, .pointer (some ⟨xb,o,none⟩)] Tryz.func196 Tryz.ntmps196 fun w S=>?_;refine Jn ?_
 repeat(refine Fm ?_;try intro b)
 obtain⟨rb,rfl⟩:=a7 b
 by_cases k1:x.k=1
 ·rw[if_pos k1]at hty;refine aI ?_;refine dD (sU) fun u hu=>?_;exact End.gI (Fr.kJ,0) (he:=rfl) (hp:= .inl ⟨rfl,hty⟩)
 rw[if_neg k1]at hty
 by_cases k2:x.k=2
 ·rw[if_pos k2]at hty;refine aI ?_;refine dD (uN) fun u hu=>?_;exact End.gI (Fr.gM,0) (he:=rfl) (hp:= .inl ⟨rfl,hty⟩)
 rw[if_neg k2]at hty
 by_cases k3:x.k=3
 ·rw[if_pos k3]at hty;refine aI ?_;refine bU (M3 s.q s.sc ok.eL x.s) fun u hu=>?_
  cases hl:Fr.eN (jA s.sc.bs) x.s with
  |some t=>
   repeat(refine Fm ?_;try intro b)
   exact End.gI (t,0) (he:=rfl) (hp:= .inl ⟨rfl,hty.trans hl⟩)
  |none=>
   repeat(refine Fm ?_;try intro b)
   refine dD (sU) fun u hu=>?_;exact End.gI (Fr.kJ,7) (he:=rfl) (hp:= .inr ⟨show(7:Int)≠0 by decide,hty.trans hl⟩)
 rw[if_neg k3]at hty
 by_cases k4:x.k=4
 ·rw[if_pos k4]at hty;obtain⟨y,hy⟩:=one aA;have k0:=hx.mF (i:=0) (by rw[hy];simp);rw[show x.kids.getD 0 default=y by rw[hy];rfl]at k0;rw[hy]at hty;refine aI ?_;refine b8 11 [bX cs] 11 ?_;refine iU [1,2,3,4] ?_;refine TH 5 ?_;refine TH 6 ?_ (hy:=Still.vB (i:=0) (f:=eK) (l:=x.kids) rfl rfl tk ha rfl rfl rfl rfl (by rw[hy];simp));refine jF 0 (sU) fun u hu=>?_;refine jF 7 (sU) fun v hv=>?_;refine jF 8 (sV cs s y (hE y (by rw[hy];simp)) Fr.kJ _ _ k0) fun e he=>?_;refine gWl [9] ?_;refine JN 10 ?_;refine b6 ?_;refine aI ?_;exact End.gI (Fr.kJ,e) (he:=rfl) (hp:=N4 he hty)
 rw[if_neg k4]at hty
 by_cases k5:x.k=5
 ·rw[if_pos k5]at hty;obtain⟨y,hy⟩:=one aA;have k0:=hx.mF (i:=0) (by rw[hy];simp);rw[show x.kids.getD 0 default=y by rw[hy];rfl]at k0;rw[hy]at hty;refine aI ?_;refine b8 11 [bX cs] 11 ?_;refine iU [1,2,3,4] ?_;refine TH 5 ?_;refine TH 6 ?_ (hy:=Still.vB (i:=0) (f:=eK) (l:=x.kids) rfl rfl tk ha rfl rfl rfl rfl (by rw[hy];simp));refine jF 0 (uN) fun u hu=>?_;refine jF 7 (uN) fun v hv=>?_;refine jF 8 (sV cs s y (hE y (by rw[hy];simp)) Fr.gM _ _ k0) fun e he=>?_;refine gWl [9] ?_;refine JN 10 ?_;refine b6 ?_;refine aI ?_;exact End.gI (Fr.gM,e) (he:=rfl) (hp:=N4 he hty)
 rw[if_neg k5]at hty
 by_cases k11:x.k=11∨x.k=12
 ·rw[if_pos k11]at hty;obtain⟨u,v,hy⟩:=two aA;have hb:∀e:Int,(e=0↔AO s x.kids=true)→(e=0∧Fr.b9 s.P s.D s.B x.ex=some Fr.gM)∨(e≠0∧Fr.b9 s.P s.D s.B x.ex=none):=fun e he=>by
   rw[hy,UK]at he;rw[hty,hy,N9];generalize Fr.b9 s.P s.D s.B u.ex=a at he⊢;generalize Fr.b9 s.P s.D s.B v.ex=b at he⊢;rcases a with _|a
   ·exact .inr ⟨fun h=>absurd (he.1 h) aW,rfl⟩
   rcases b with _|b
   ·exact .inr ⟨fun h=>absurd (he.1 h) aW,rfl⟩
   by_cases hc:a=b∧Fr.cV a=true
   ·exact .inl ⟨he.2 (by simpa using hc),if_pos hc⟩
   ·exact .inr ⟨fun h=>hc (by simpa using he.1 h),if_neg hc⟩
  rcases k11 with k11|k11
  all_goals
   refine aI ?_;refine bU (aF7 cs s x u v hy hE xb o hx) fun r hr=>?_
   repeat(refine Fm ?_;try intro b)
   refine dD (uN) fun w hw=>?_;exact End.gI (Fr.gM,r.2) (he:=rfl) (hp:=hb _ hr)
 rw[if_neg k11]at hty
 by_cases k19:x.k=19
 ·rw[if_pos k19]at hty;refine aI ?_;refine bU (WO cs s ok.toOk x h6 hE 2 xb o hx) fun r hr=>?_;obtain⟨r,e⟩:=r;rcases hr with⟨h1,i,h2,hi,hf,ht⟩|⟨h1,ht⟩
  ·dsimp only at h1 h2;subst h1 h2;have hd:=(ok.kQ.at hi).has;refine aI ?_;refine dD (A1 (s.x.l.getD i default).type) fun u hu=>?_;refine End.gI (Fr.bare (s.x.l.getD i default).type,0) (he:=rfl) (hp:= .inl ⟨rfl,?_⟩);rw[hty,hf,eR];show(Fr.eD s.P s.D s.B ((s.x.l.getD i default).params.map (·.type)) (EL.bW x.kids)).map _=_;rw[ht];rfl
  ·have h1':decide (e=0)=false:=decide_eq_false h1;refine aI ?_;refine dD (sU) fun u hu=>?_;refine End.gI (Fr.kJ,e) (he:=rfl) (hp:= .inr ⟨h1,?_⟩);rw[hty]
   cases hf:Fr.kR s.P 2 x.s with
   |none=>rfl
   |some d=>rw[hf,eR]at ht;rw[eR,ht];rfl
 rw[if_neg k19]at hty
 by_cases k20:x.k=20
 ·rw[if_pos k20]at hty;have F:=GV s.p s.mb cs s.x ok.kQ s.ns ok.lt 1 x.s;obtain⟨r,hr⟩:∃r,r=bG s.ns x.s:=⟨_,rfl⟩;obtain⟨kb,hkb⟩:∃b,b=isKind s.x 1 r:=⟨_,rfl⟩;rw[←hr,←hkb]at F;refine aI ?_;refine b8 14 [bX cs,aF s.q [ptr s.p,fD s.x s.di, .slice s.o s.bs.length s.c] 316] 14 ?_;refine iU [0,1,2,3,4,5,6] ?_;refine TH 7 ?_;refine jF 8 (F) fun u hu=>?_;refine iU [9,10,11,12,13] ?_;refine b6 ?_
  cases kb with
  |false=>
   refine aI ?_;refine dD (sU) fun u hu=>?_;exact End.gI (Fr.kJ,7) (he:=rfl) (hp:= .inr ⟨show(7:Int)≠0 by decide,by rw[hty,ok.E3 (k:=1) (by rw[←hr,←hkb])];rfl⟩)
  |true=>
   obtain⟨i,e1,hi,ek,ef⟩:=ok.E4 (k:=1) (n:=x.s) (by rw[←hr,←hkb]);obtain rfl:r=some i:=hr.trans e1;have hd:=(ok.kQ.at hi).has;refine aI ?_;refine dD (A1 (s.x.l.getD i default).type) fun u hu=>?_;exact End.gI (Fr.bare (s.x.l.getD i default).type,0) (he:=rfl) (hp:= .inl ⟨rfl,by rw[hty,ef];rfl⟩)
 rw[if_neg k20]at hty
 by_cases k21:x.k=21
 ·rw[if_pos k21]at hty;have hd:=(ok.kQ.at ok.di).has;obtain⟨y,hy⟩:=one aA;have k0:=hx.mF (i:=0) (by rw[hy];simp);rw[show x.kids.getD 0 default=y by rw[hy];rfl]at k0
  by_cases hk:(s.x.l.getD s.di default).kind=3
  ·refine aI ?_;refine b8 24 [bX cs,aF s.q [ptr s.p,fD s.x s.di, .slice s.o s.bs.length s.c] 316] 24 ?_;refine iU [0,1,2,3,4,5] ?_;refine TH 6 ?_;refine iU [8,9,10,11] ?_;refine TH 12 ?_;refine TH 13 ?_ (hy:=Still.vB (i:=0) (f:=eK) (l:=x.kids) rfl rfl tk ha rfl rfl rfl rfl (by rw[hy];simp));refine iU [14,15,16,17,18,19] ?_;refine TH 20 ?_;refine jF 7 (A1 (s.x.l.getD s.di default).aP) fun u hu=>?_;refine jF 21 (sV cs s y (hE y (by rw[hy];simp)) (s.x.l.getD s.di default).type _ _ k0) fun e he=>?_;refine gWl [22] ?_;refine JN 23 ?_;refine b6 ?_;refine aI ?_;exact End.gI (Fr.bare (s.x.l.getD s.di default).aP,e) (he:=rfl) (hp:=N4 he (hty.trans (by rw[if_pos (show s.D.kind=3 from hk),hy];rfl)))
  ·refine aI ?_;refine dD (sU) fun u hu=>?_;exact End.gI (Fr.kJ,8) (he:=rfl) (hp:= .inr ⟨show(8:Int)≠0 by decide,by rw[hty];exact if_neg hk⟩)
 rw[if_neg k21]at hty
 by_cases k22:x.k=22
 ·rw[if_pos k22]at hty;refine aI ?_;refine dD (WO cs s ok.toOk x h6 hE 3 xb o hx) fun r hr=>?_;refine End.gI (⟨3,x.s⟩,r.2) (he:=rfl) (hp:=?_);rcases hr with⟨h1,i,h2,hi,hf,ht⟩|⟨h1,ht⟩
  ·refine .inl ⟨h1,?_⟩;rw[hty,hf,eR];show(Fr.eD s.P s.D s.B ((s.x.l.getD i default).params.map (·.type)) (EL.bW x.kids)).map _=_;rw[ht];rfl
  ·refine .inr ⟨h1,?_⟩;rw[hty]
   cases hf:Fr.kR s.P 3 x.s with
   |none=>rfl
   |some d=>rw[hf,eR]at ht;rw[eR,ht];rfl
 rw[if_neg k22]at hty
 by_cases k23:x.k=23
 ·rw[if_pos k23]at hty;obtain⟨u,v,hy⟩:=two aA;have k0:=hx.mF (i:=0) (by rw[hy];simp);have k1':=hx.mF (i:=1) (by rw[hy];simp);rw[show x.kids.getD 0 default=u by rw[hy];rfl]at k0;rw[show x.kids.getD 1 default=v by rw[hy];rfl]at k1';have eu:=hE u (by rw[hy];simp);have ev':=hE v (by rw[hy];simp);rw[hy,N9]at hty;refine aI ?_;apply aE.op aV;refine aB.bP (h:=Still.vB (i:=0) (f:=eK) (l:=x.kids) rfl rfl tk ha rfl rfl rfl rfl (by rw[hy];simp)) (k:=?_);refine aI ?_;refine bU (WQ cs s ok.toOk u eu _ _ k0) fun r hr=>?_;obtain⟨r,e⟩:=r;rcases hr with⟨h1,t,h2,h3,h4⟩|⟨h1,h2⟩
  rotate_left
  ·have h1':decide (e=0)=false:=decide_eq_false h1;refine aI ?_;refine dD (sU) fun w hw=>?_;refine End.gI (Fr.kJ,e) (he:=rfl) (hp:= .inr ⟨h1,?_⟩);rw[hty]
   cases h5:Fr.b9 s.P s.D s.B u.ex with
   |none=>rfl
   |some t=>
    cases Fr.b9 s.P s.D s.B v.ex with
    |none=>rfl
    |some b=>exact if_pos (h2 t h5)
  dsimp only at h1 h4;subst h1;obtain⟨d,hg⟩:=Fr.x9 (ok.cI h2) h3;obtain⟨g1,g2⟩:=Fr.lD hg;obtain⟨i,hi⟩:∃i,bG s.ns t.gen=some i:=by
   cases h:bG s.ns t.gen with
   |none=>rw[ok.T7 h]at g1;cases g1
   |some i=>exact⟨i,rfl⟩
  obtain rfl:r=some i:=h4.trans hi;have hil:=ok.lt _ i hi;have hd:=(ok.kQ.at hil).has;rw[ok.FJ hi]at g1
  cases g1
  rw[h2,eR]at hty;refine aI ?_;refine b8 18 [bX cs] 18 ?_;refine iU [0,1,2] ?_;refine TH 3 ?_;refine iU [5,6,7,8] ?_;refine TH 9 ?_;refine TH 10 ?_ (hy:=Still.vB (i:=1) (f:=eK) (l:=x.kids) rfl rfl tk ha rfl rfl rfl rfl (by rw[hy];simp));refine iU [11,12,13] ?_;refine TH 14 ?_;refine jF 4 (A1 (s.x.l.getD i default).type) fun w hw=>?_;refine jF 15 (sV cs s v ev' (s.x.l.getD i default).aP _ _ k1') fun e he=>?_;refine gWl [16] ?_;refine JN 17 ?_;refine b6 ?_;refine aI ?_;refine End.gI (Fr.bare (s.x.l.getD i default).type,e) (he:=rfl) (hp:=?_);have hty':Fr.b9 s.P s.D s.B x.ex=(Fr.same (Fr.b9 s.P s.D s.B v.ex) (s.x.l.getD i default).aP).map fun _=>Fr.bare (s.x.l.getD i default).type:=by
   rw[hty]
   cases Fr.b9 s.P s.D s.B v.ex with
   |none=>rfl
   |some b=>
    refine(if_neg (by rw[h3];simp)).trans ?_;rw[ok.FJ hi,eR,Fr.same,eR]
    by_cases hb:b=Fr.bare (s.x.l.getD i default).aP
    ·rw[if_pos hb,if_pos (show b=Fr.bare (s.x.l.getD i default).df.aP from hb)];rfl
    ·rw[if_neg hb,if_neg (show¬b=Fr.bare (s.x.l.getD i default).df.aP from hb)];rfl
  cases hs:Fr.same (Fr.b9 s.P s.D s.B v.ex) (s.x.l.getD i default).aP with
  |none=>rw[hs]at he hty';exact .inr ⟨fun h=>absurd (he.1 h) aW,hty'⟩
  |some _=>rw[hs]at he hty';exact .inl ⟨he.2 rfl,hty'⟩
 rw[if_neg k23]at hty
 by_cases k24:x.k=24
 ·rw[if_pos k24]at hty;obtain⟨u,hy⟩:=one aA;have k0:=hx.mF (i:=0) (by rw[hy];simp);rw[show x.kids.getD 0 default=u by rw[hy];rfl]at k0;rw[hy,aHi]at hty;refine aI ?_;apply aE.op aV;refine aB.bP (h:=Still.vB (i:=0) (f:=eK) (l:=x.kids) rfl rfl tk ha rfl rfl rfl rfl (by rw[hy];simp)) (k:=?_);refine aI ?_;refine dD (WQ cs s ok.toOk u (hE u (by rw[hy];simp)) _ _ k0) fun r hr=>?_;refine dD (uN) fun w hw=>?_;refine End.gI (Fr.gM,r.2) (he:=rfl) (hp:=?_);rcases hr with⟨h1,t,h2,h3,h4⟩|⟨h1,h2⟩
  ·exact .inl ⟨h1,by rw[hty,h2];exact if_neg (by rw[h3];simp)⟩
  ·refine .inr ⟨h1,?_⟩;rw[hty]
   cases h5:Fr.b9 s.P s.D s.B u.ex with
   |none=>rfl
   |some t=>exact if_pos (h2 t h5)
 rw[if_neg k24]at hty;refine aI ?_;refine dD (sU) fun u hu=>?_;refine bU (sU) fun v hv=>?_
 repeat(refine Fm ?_;try intro b)
 obtain⟨ob',rfl⟩:∃x,x=b:=⟨_,rfl⟩;obtain⟨wb,rfl⟩:=a7 b;obtain⟨T,hT⟩:∃T,T=if 13≤x.k then Fr.gM else Fr.kJ:=⟨_,rfl⟩;obtain⟨W,hW⟩:∃W,W=if 17≤x.k then Fr.gM else Fr.kJ:=⟨_,rfl⟩;rw[←hT,←hW]at hty;refine EP (σ:=Unit) (fun _=>True) (fun _=>[(0,ptr s.q),(1, .pointer (some ⟨xb,o,none⟩)),(4,ptr rb),(5, .int .i64 0),(20,ptr wb),(21,ptr ob')]) (fun _=>aO w S::bX cs::cF::aF rb [.int .i64 0,sv []] 141::aF wb [.int .i64 W.kind,sv W.gen] 141::aF ob' [.int .i64 T.kind,sv T.gen] 141::s.m) ?_ ?_
 ·intro _ _;refine aI ?_;refine cK (σ:=Nat) (fun j=>j≤x.kids.length∧Fr.eD s.P s.D s.B ((EL.bW x.kids).map fun _=>W) (EL.bW x.kids)=Fr.eD s.P s.D s.B ((EL.bW (x.kids.drop j)).map fun _=>W) (EL.bW (x.kids.drop j))) (fun j=>[(0,ptr s.q),(1, .pointer (some ⟨xb,o,none⟩)),(4,ptr rb),(5, .int .i64 0),(20,ptr wb),(21,ptr ob'),(234, .int .i64 x.kids.length),(235, .int .i64 j)]) (fun j=>aO w S::bX cs::cF::aF rb [.int .i64 0,sv []] 141::aF wb [.int .i64 W.kind,sv W.gen] 141::aF ob' [.int .i64 T.kind,sv T.gen] 141::s.m) (fun j=>x.kids.length-j) 0 ?_ fun j hj K hK=>?_
  ·exact⟨bQ _,rfl⟩
  refine Jn ?_;obtain⟨hj,hR⟩:=hj
  by_cases hlt:j<x.kids.length
  ·have hE1:=hE _ (dW hlt);have hk1:=hx.mF hlt;rw[aHe W hlt]at hR;refine aI ?_;refine bU (sV cs s _ hE1 W _ _ hk1) fun e he=>?_
   by_cases h0:e=0
   ·subst h0;refine aI ?_;exact End.bK hK (j+1) ⟨hlt,by rw[hR,K8 (he.1 rfl)];rfl⟩ aA
   ·have h0':decide (e=0)=false:=decide_eq_false h0;refine aI ?_;exact End.gI (T,e) (he:=rfl) (hp:= .inr ⟨h0,by
     rw[hty,hR]
     cases hs:Fr.same (Fr.b9 s.P s.D s.B (x.kids.getD j default).ex) W with
     |none=>rfl
     |some _=>exact absurd (he.2 (by rw[hs];rfl)) h0⟩)
  ·have hje:j=x.kids.length:=aA;refine aI ?_;exact End.gI (T,0) (he:=rfl) (hp:= .inl ⟨rfl,by rw[hty,hR,iS aA];rfl⟩)
 ·intro K' hK
  by_cases h17:17≤x.k
  ·rw[if_pos aA]at hT;rw[if_pos h17]at hW;subst hT hW;refine aI ?_;refine dD (uN) fun u hu=>?_;refine dD (uN) fun v hv=>?_;refine End.some_ hK () ?_;trivial
  rw[if_neg h17]at hW
  by_cases h13:13≤x.k
  ·rw[if_pos h13]at hT;subst hT hW;refine aI ?_;refine dD (uN) fun u hu=>?_;refine End.some_ hK () ?_;trivial
  ·rw[if_neg h13]at hT;subst hT hW;refine aI ?_;refine End.some_ hK () ?_;trivial
end Vw
end Go.Proofs.YtofckcabpchcmaaGreatDoor
