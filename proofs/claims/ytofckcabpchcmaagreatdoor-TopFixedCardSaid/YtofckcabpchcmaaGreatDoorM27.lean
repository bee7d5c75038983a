/- Package gen, walked: expressions. -/
import Derived.Test.YtofckcabpchcmaaGreatDoorM26
set_option linter.unusedVariables false
set_option linter.unusedSimpArgs false
set_option linter.unusedSectionVars false
set_option maxRecDepth 100000
namespace Go.Proofs.YtofckcabpchcmaaGreatDoor
namespace Vw
open Go.RowKit Img
attribute [local irreducible] aE aB End aA Still aM aP RunT Fn aO
abbrev WM.cd(z:WM)(a:Option Addr×Nat)(c:List ImgM.aY):WM:={z with co:=a.1,cc:=a.2,code:=c}
theorem QE(x:EL):x.ex= .mk x.k x.n x.s (EL.bT x.kids):=by cases x;rfl
structure GT.Ok(cs:List Chunk)(g:GT)(D:Fr.Df)(tv:Int):Prop where
 jX:nL cs g.x.o g.x.c g.x.l
 dY:g.x.l.length≤30
 gen:Fr.C9 g.P D tv
theorem YI(z:WM)(a:Option Addr×Nat)(w:Fr.Wr)(h1:w.locals=z.loc)(h2:w.blocks=eU z.gb):(z.cd a w.code).wr=w:=by
 obtain⟨l,c,b⟩:=w;dsimp only at h1 h2;subst h1 h2;rfl
abbrev N7(cs:List Chunk)(g:GT)(D:Fr.Df)(tv:Int)(x:EL):Prop:=∀(wb b o:Nat) (z:WM) (B:Fr.Scope) (d c c':Nat) (t:Fr.Ty),z.tk=tv→Fr.cQ g.P z.loc B (eU z.gb)→Fr.kX g.P B→mQ cs b o x→Fr.iD d x.ex c=some c'→Fr.b5 g.P D B x.ex=some t→z.tS→z.code.length+Fr.oX x.ex≤90000→
 Fn Tryz.prog 164 #[ptr wb, .pointer (some ⟨b,o,none⟩)] (g.R cs) (g.m ++wM wb g.tb z) (σ:=Option Addr×Nat) (fun _=>True) (fun _=> .int .i64 (Fr.cJ g.P tv x.ex z.wr).2) (fun a=>g.m ++wM wb g.tb (z.cd a (Fr.cJ g.P tv x.ex z.wr).1.code))
structure GY where
 j:Nat
 a:Option Addr×Nat
 c:List ImgM.aY
 to:Option Addr
 tc:Nat
 ts:List Int
theorem LN:∀{l:List EL} {d c c':Nat},Fr.iW d (EL.bT l) c=some c'→∀j,j<l.length→∃c1 c2,Fr.iD d (l.getD j default).ex c1=some c2
 |[],_,_,_,_,j,hj=>by simp at hj
 |x::l,d,c,c',h,j,hj=>by
  rw[EL.bT,Fr.iW]at h;obtain⟨c1,h1,h⟩:=bO.1 h
  cases j with
  |zero=>exact⟨_,_,h1⟩
  |succ j=>simpa using LN h j (by simpa using hj)
set_option maxHeartbeats 8000000 in
theorem IX(cs:List Chunk)(g:GT)(D:Fr.Df)(tv:Int)(ok:GT.Ok cs g D tv)(x:EL):N7 cs g D tv x:=by
 refine EL.ind (p:=N7 cs g D tv) (fun x ih wb xb o z B d c c' t hz hc hB hx hsh hty hf hl=>?_) x;have hX:=hx.has;have ha:=hx.arr;rw[QE]at hsh hty hl⊢;have hwt:=Fr.GQ ok.gen hB (.mk x.k x.n x.s (EL.bT x.kids)) z.wr d c c' t hc hsh hty;have hxs:=Fr.GR g.P tv (EL.bT x.kids) z.wr;obtain⟨r,hr⟩:∃r,r=Fr.dN g.P tv (EL.bT x.kids) z.wr:=⟨_,rfl⟩;rw[Fr.iD]at hsh;obtain⟨c1, -,hsh⟩:=bO.1 hsh;have hhd:Fr.m8 x.k x.n x.s (EL.bT x.kids).length=true:=by
  by_cases hh:Fr.m8 x.k x.n x.s (EL.bT x.kids).length=true
  ·exact hh
  ·rw[if_neg hh]at hsh;cases hsh
 rw[if_pos hhd]at hsh;obtain⟨hkt,hcal,hvar,hbox⟩:=Fr.WU hhd hty;rw[Fr.YD]at hwt⊢;rw[←hr]at hwt hxs⊢;rw[Fr.oX]at hl;have hhd':Fr.m8 x.k x.n x.s x.kids.length=true:=by rw[sW,Jf]at hhd;exact hhd
 obtain⟨nm, -, -,hq⟩:=I7 x.k x.n x.s x.kids.length;have hq:=hq.1 hhd';have h6:x.kids.length≤6:=by
  have h1:Fr.gA x.k≤2:=by
   unfold Fr.gA
   repeat' split
   all_goals omega
  have h4:=hq.2.2.2.2.2.1;have h5:=hq.2.2.2.2.2.2;omega
 have hlo:=hf.lo;refine JE [ptr wb, .pointer (some ⟨xb,o,none⟩)] Tryz.func164 Tryz.ntmps164 fun w S=>?_;refine Jn ?_
 apply aB.imp (fun w hm=>hm.bY 3 aT)
 repeat(refine Fm ?_)
 refine aB.only ((fun y:GY=>aI w S::(g.R cs ++(arr y.to y.ts.length y.tc 3 aT y.ts::(g.m ++wM wb g.tb (z.cd y.a y.c))))) ⟨0,(z.co,z.cc),z.code,none,0,[]⟩) (aK) ?_;apply aB.loop (σ:=GY) (fun y=>y.j≤x.kids.length∧y.ts.length=y.j∧r=((Fr.dN g.P tv (EL.bT (x.kids.drop y.j)) (z.cd y.a y.c).wr).1,y.ts ++(Fr.dN g.P tv (EL.bT (x.kids.drop y.j)) (z.cd y.a y.c).wr).2)∧y.c.length+Fr.oY (EL.bT (x.kids.drop y.j))=z.code.length+Fr.oY (EL.bT x.kids)) (fun y=>[(0,ptr wb),(1, .pointer (some ⟨xb,o,none⟩)),(4, .int .i64 0),(5, .slice y.to y.ts.length y.tc),(14, .int .i64 (x.kids.length:Int)),(15, .int .i64 (y.j:Int))]) (fun y:GY=>aI w S::(g.R cs ++(arr y.to y.ts.length y.tc 3 aT y.ts::(g.m ++wM wb g.tb (z.cd y.a y.c))))) (fun y=>x.kids.length-y.j) ⟨0,(z.co,z.cc),z.code,none,0,[]⟩
 rotate_left
 exact sb;exact aK;intro y hy K hK;(refine Jn ?_)
 rotate_left
 ·exact⟨bP _,rfl,hr.trans rfl,rfl⟩
 obtain⟨j,a,cj,to,tc,ts⟩:=y;obtain⟨hj,htl,hrj,hcn⟩:=hy;dsimp only at hj htl hrj hcn⊢
 by_cases hlt:j<x.kids.length
 ·obtain⟨e1,e2,he⟩:=LN hsh j hlt;obtain⟨t',ht'⟩:=hkt (x.kids.getD j default).ex (by rw[sW];exact lO (dQ hlt));rw[nR hlt,EL.bT,Fr.oY]at hcn;rw[nR hlt,EL.bT,Fr.YF]at hrj;have hke:=Fr.CZ g.P tv (x.kids.getD j default).ex (z.cd a cj).wr
  repeat(refine Fm ?_)
  refine FQ (ih _ (dQ hlt) wb _ _ (z.cd a cj) B _ e1 e2 t' hz hc hB (hx.lF hlt) he ht' ⟨hf.lo,by show cj.length≤_;omega,hf.gb⟩ (by show cj.length+_≤_;omega)) ?_;intro a2 ha2;refine Jn ?_
  repeat(refine Fm ?_;try first|intro ao cap|intro b)
  rw[show ts.length+1=(ts ++[(Fr.cJ g.P tv (x.kids.getD j default).ex (z.cd a cj).wr).2]).length by simp];refine End.bK hK ⟨j+1,a2,(Fr.cJ g.P tv (x.kids.getD j default).ex (z.cd a cj).wr).1.code,ao,cap,ts ++[(Fr.cJ g.P tv (x.kids.getD j default).ex (z.cd a cj).wr).2]⟩ ⟨hlt,by simp[htl],?_,?_⟩ (by show x.kids.length-(j+1)<x.kids.length-j;omega)
  ·dsimp only;rw[YI z a2 _ hke.1 hke.2.1,hrj,Jt];rfl
  ·dsimp only;rw[hke.2.2];show cj.length+_+_=_;omega
 obtain rfl:j=x.kids.length:=by omega
 rw[List.drop_length,EL.bT,Fr.dN]at hrj;rw[eH]at hrj;rw[List.drop_length,EL.bT,Fr.oY]at hcn;clear hK;have hP:∀s,(bC (dL g.x g.x.l.length) s).map (iR g.x)=Fr.kP g.P s:=fun s=>by
  have:=LH g.x s g.x.l.length (cG _);rw[l4]at this;exact this
 have hdm:∀{s:aF} {e:Fr.Df},Fr.kP g.P s=some e→∃i,bC (dL g.x g.x.l.length) s=some i∧i<g.x.l.length∧iR g.x i=e:=fun{s e} h=>by
  have h1:=hP s;rw[h]at h1;obtain⟨i,hi,he⟩:=dG.1 h1;exact⟨i,hi,FB g.x s _ _ hi,he⟩
 subst hrj;dsimp only at hwt hxs⊢;have hf1:(z.cd a cj).tS:=⟨hf.lo,by show cj.length≤_;omega,hf.gb⟩
 by_cases k1:x.k=1
 ·rw[if_pos k1]
  repeat(refine Fm ?_)
  refine FQ (gO (z.cd a cj) hf1 1 0 x.n) ?_;intro a2 ha2;refine Jn ?_
  repeat(refine Fm ?_)
  exact End.aH a2 (he:=rfl) (hp:=trivial)
 rw[if_neg k1]at hwt⊢
 by_cases k2:x.k=2
 ·rw[if_pos k2]
  repeat(refine Fm ?_)
  refine FQ (gO (z.cd a cj) hf1 2 x.n 0) ?_;intro a2 ha2;refine Jn ?_
  repeat(refine Fm ?_)
  exact End.aH a2 (he:=rfl) (hp:=trivial)
 rw[if_neg k2]at hwt⊢
 by_cases k3:x.k=3
 ·rw[if_pos k3];obtain⟨u,hu⟩:=hvar k3;obtain⟨q,q1,q2,q3⟩:=hc.look hu;have hlk:(z.cd a cj).wr.look x.s=q:=by unfold Fr.Wr.look;show(Fr.eL (eU z.gb) x.s).getD 0=q;rw[q1];rfl
  repeat(refine Fm ?_)
  refine FQ (Q0 (z.cd a cj) hf1 x.s) ?_;intro u hu;refine Jn ?_;rw[hlk]
  repeat(refine Fm ?_)
  refine FQ (gO (z.cd a cj) hf1 3 q 0) ?_;intro a2 ha2;refine Jn ?_
  repeat(refine Fm ?_)
  exact End.aH a2 (he:=rfl) (hp:=trivial)
 rw[if_neg k3]at hwt⊢
 by_cases k4:x.k=4
 ·rw[if_pos k4]
  repeat(refine Fm ?_)
  refine FQ (gO (z.cd a cj) hf1 6 0 0) ?_;intro a2 ha2;refine Jn ?_
  repeat(refine Fm ?_)
  exact End.aH a2 (he:=rfl) (hp:=trivial)
 rw[if_neg k4]at hwt⊢
 by_cases k5:x.k=5
 ·rw[if_pos k5]
  repeat(refine Fm ?_)
  refine FQ (gO (z.cd a cj) hf1 7 0 0) ?_;intro a2 ha2;refine Jn ?_
  repeat(refine Fm ?_)
  exact End.aH a2 (he:=rfl) (hp:=trivial)
 rw[if_neg k5]at hwt⊢
 by_cases k618:6≤x.k∧x.k≤18
 ·rw[if_pos k618];obtain⟨k6,k18⟩:=k618
  repeat(refine Fm ?_)
  refine FQ (gO (z.cd a cj) hf1 (8+x.k-6) 0 0) ?_;intro a2 ha2;refine Jn ?_
  by_cases k10:x.k≤10
  ·rw[if_pos k10]
   repeat(refine Fm ?_)
   exact End.aH a2 (he:=rfl) (hp:=trivial)
  ·rw[if_neg k10]
   repeat(refine Fm ?_)
   exact End.aH a2 (he:=rfl) (hp:=trivial)
 rw[if_neg k618]at hwt⊢
 by_cases k19:x.k=19
 ·rw[if_pos k19];obtain⟨e,he,hek⟩:=hcal (.inl k19);obtain⟨i,hi,hil,hie⟩:=hdm he;have hdi:=(ok.jX.at hil).has
  repeat(refine Fm ?_)
  refine aP.b8 (h:=Still.EP (v:=gR (Fr.gC g.P x.s)) rfl rfl rfl rfl rfl tk ⟨rfl,rfl⟩ (by rw[y6,GJ])) (k:=?_)
  repeat(refine Fm ?_)
  refine FQ (gO (z.cd a cj) hf1 23 (Fr.gC g.P x.s) 0) ?_;intro a2 ha2;refine Jn ?_
  repeat(refine Fp ?_)
  refine FQ (yH cs g ok.dY (g.x.l.getD i default).type) ?_;intro u hu;refine Jn ?_
  repeat(refine Fm ?_)
  exact End.aH a2 (he:=congrArg (Value.int .i64) (by unfold Fr.p9;rw[he,←hie];rfl)) (hp:=trivial)
 rw[if_neg k19]at hwt⊢
 by_cases k20:x.k=20
 ·rw[if_pos k20];obtain⟨e,he⟩:=hbox k20;obtain⟨he,hek⟩:=Fr.qO he;obtain⟨i,hi,hil,hie⟩:=hdm he;have hdi:=(ok.jX.at hil).has
  repeat(refine Fm ?_)
  rw[y6,O3];refine FQ (gO (z.cd a cj) hf1 27 (Fr.pQ g.P x.s) 0) ?_;intro a2 ha2;refine Jn ?_
  repeat(refine Fp ?_)
  refine FQ (yH cs g ok.dY (g.x.l.getD i default).type) ?_;intro u hu;refine Jn ?_
  repeat(refine Fm ?_)
  exact End.aH a2 (he:=congrArg (Value.int .i64) (by unfold Fr.p9;rw[he,←hie];rfl)) (hp:=trivial)
 rw[if_neg k20]at hwt⊢
 by_cases k22:x.k=22
 ·rw[if_pos k22];obtain⟨e,he,hek⟩:=hcal (.inr k22);obtain⟨i,hi,hil,hie⟩:=hdm he;have hdi:=(ok.jX.at hil).has
  repeat(refine Fm ?_)
  refine aP.b8 (h:=Still.EP (v:=gR (Fr.gC g.P x.s)) rfl rfl rfl rfl rfl tk ⟨rfl,rfl⟩ (by rw[y6,GJ])) (k:=?_)
  repeat(refine Fm ?_)
  refine FQ (gO (z.cd a cj) hf1 29 (Fr.gC g.P x.s) 0) ?_;intro a2 ha2;refine Jn ?_
  repeat(refine Fm ?_)
  refine aM.b8 (h:=Still.EP (v:=gR (Fr.gC g.P x.s)) rfl rfl rfl rfl rfl tk ⟨rfl,rfl⟩ (by rw[y6,GJ])) (k:=?_);have hu:Fr.gC g.P x.s≤30:=W3 g.x.l x.s ok.dY
  repeat(refine Fm ?_)
  exact End.aH a2 (he:=rfl) (hp:=trivial)
 rw[if_neg k22]at hwt⊢
 by_cases k21:x.k=21
 ·rw[if_pos k21]
  repeat(refine Fm ?_)
  refine FQ (gO (z.cd a cj) hf1 31 0 0) ?_;intro a2 ha2;refine Jn ?_
  repeat(refine Fm ?_)
  exact End.aH a2 (he:=congrArg (Value.int .i64) hz) (hp:=trivial)
 rw[if_neg k21]at hwt⊢
 by_cases k24:x.k=24
 ·rw[if_pos k24]
  repeat(refine Fm ?_)
  refine FQ (gO (z.cd a cj) hf1 32 0 0) ?_;intro a2 ha2;refine Jn ?_
  repeat(refine Fm ?_)
  exact End.aH a2 (he:=rfl) (hp:=trivial)
 rw[if_neg k24]at hwt⊢;have k23:x.k=23:=by have:=hq.1;have:=hq.2.1;omega
 rw[←QE,WT]at hty;(repeat rw[if_neg (by omega)]at hty);rw[if_pos k23]at hty;obtain⟨u,v,huv⟩:∃u v,x.kids=[u,v]:=RV (by
  have h1:Fr.gA x.k=2:=by
   unfold Fr.gA
   repeat' split
   all_goals omega
  have:=hq.2.2.2.2.2.1;omega)
 rw[huv,NP]at hty;rw[huv]at hr hsh;obtain⟨tu,htu⟩:∃tu,Fr.b5 g.P D B u.ex=some tu:=by
  cases h:Fr.b5 g.P D B u.ex with
  |none=>rw[h]at hty;cases hty
  |some tu=>exact⟨tu,rfl⟩
 obtain⟨tw,htw⟩:∃tw,Fr.b5 g.P D B v.ex=some tw:=by
  cases h:Fr.b5 g.P D B v.ex with
  |none=>rw[h,htu]at hty;cases hty
  |some tw=>exact⟨tw,rfl⟩
 rw[htu,htw]at hty;have hpl:Fr.cS tu=false:=by
  cases h:Fr.cS tu with
  |false=>rfl
  |true=>exfalso;have:(if Fr.cS tu=true then none else _)=some t:=hty;rw[if_pos h]at this;cases this
 obtain⟨e,he⟩:=Fr.FD (Fr.CS ok.gen.nS ok.gen.mem hB u.ex tu htu) hpl;obtain⟨he,hek⟩:=Fr.qO he;obtain⟨i,hi,hil,hie⟩:=hdm he;have hdi:=(ok.jX.at hil).has;obtain⟨qZ,xM⟩:=Fr.W4 ok.gen.nd he (by omega);obtain⟨u0,hu0⟩:∃u0,u0=Fr.gC g.P tu.gen:=⟨_,rfl⟩;rw[←hu0]at qZ xM;obtain⟨e1,e2,he12⟩:=LN hsh 0 (by simp);have hts:ts.headD 0=10+(u0:Int):=by
  have h1:ts=(Fr.dN g.P tv (EL.bT [u,v]) z.wr).2:=congrArg Prod.snd hr;rw[h1,EL.bT,Fr.YF];show(Fr.cJ g.P tv u.ex z.wr).2=_;rw[Fr.GQ ok.gen hB u.ex z.wr _ _ _ tu hc he12 htu,Fr.WV hpl,hu0]
 have hu0l:u0<(eT g.x.l).length:=by
  obtain⟨h1, -⟩:=DA.1 xM;rw[xV,Jf]at h1;unfold eT;rw[List.length_zipIdx,Jf];exact h1
 have hun:∀(i:Nat) (p:aF×Nat),(eT g.x.l)[i]?=some p→p.2=i:=fun i p hp=>by
  unfold eT at hp;rw[List.getElem?_zipIdx]at hp;obtain⟨n,hn,rfl⟩:=dG.1 hp;simp
 have hun0:∀p,(eT g.x.l)[u0]?=some p→p.1=tu.gen:=fun p hp=>by
  unfold eT at hp;rw[List.getElem?_zipIdx,JU]at hp;obtain⟨n,hn,rfl⟩:=dG.1 hp;obtain⟨d',hd',rfl⟩:=dG.1 hn;rw[xV,JU]at qZ;obtain⟨d2,hd2,hde⟩:=dG.1 qZ;have:d'=d2:=uB (hd'.symm.trans hd2);rw[this,←(Fr.yC he).2,←hde];rfl
 rw[hts,show((10+(u0:Int)-10).toNat)=u0 by omega,qZ];dsimp only
 repeat(refine Fm ?_)
 refine FQ (gO (z.cd a cj) hf1 30 0 0) ?_;intro a2 ha2;refine Jn ?_
 repeat(refine Fm ?_)
 apply aE.op (by exact rfl);refine aA.range (g:=gR) rfl rfl tk rfl fun rb=>?_
 refine Jn ?_
 repeat(refine Fm ?_)
 have hlu:(eT g.x.l).length≤30:=by
  unfold eT;rw[List.length_zipIdx,Jf];exact dO (pG _ _) ok.dY
 refine aB.only ((fun vis=>aI w S::(g.R cs ++(arr to ts.length tc 3 aT ts::nU rb g.um g.bs g.ck vis::(g.m ++wM wb g.tb (z.cd a2 (cj ++[⟨30,0,0⟩])))))) []) (aK) ?_;apply aB.loop (σ:=List Nat) (fun vis=>vis.Nodup∧∀j∈vis,j<(eT g.x.l).length∧j≠u0) (fun vis=>[(0,ptr wb),(4, .int .i64 0),(5, .slice to ts.length tc),(262,ptr rb)]) (fun vis=>aI w S::(g.R cs ++(arr to ts.length tc 3 aT ts::nU rb g.um g.bs g.ck vis::(g.m ++wM wb g.tb (z.cd a2 (cj ++[⟨30,0,0⟩])))))) (fun vis=>(eT g.x.l).length-vis.length) []
 rotate_left
 exact sb;exact aK;intro vis hv K hK;(refine Jn ?_)
 rotate_left
 ·exact⟨by simp,by simp⟩
 obtain⟨hvn,hvs⟩:=hv
 repeat(refine Fm ?_)
 apply aE.op (by exact rfl);refine aA.next (g:=gR) (vis:=vis) rfl tk tk (fun j hj=>(hvs j hj).1) rfl (fun hall=>?_) (fun i' p hp hni=>?_)
 ·exact absurd rfl (hvs u0 (hall u0 hu0l)).2
 have hpi:=hun i' p hp;obtain⟨pn,pi'⟩:=p;dsimp only at hpi;subst hpi;have hil':pi'<(eT g.x.l).length:=(tT.1 hp).1;refine Jn ?_
 repeat(refine Fm ?_)
 apply aE.op (by exact rfl);refine aA.b8 (h:=Still.entry (g:=gR) rfl tk tk hp) (k:=?_)
 repeat(refine Fm ?_)
 have htp:0<ts.length:=by rw[htl,huv];simp
 have hts0:ts.getD 0 default=10+(u0:Int):=by rw[←hts];cases ts<;>rfl
 have hul:u0≤30:=by omega
 (apply aE.op;exact rfl;refine aA.b8 (h:=by(apply Still.at_;exact rfl;exact rfl;exact Jr;exact rfl;exact rfl;exact rfl;exact BN;omega)) (k:=?_));apply aE.op (by exact rfl);refine aA.b8 (k:=?_);rw[hts0]
 by_cases hpu:pi'=u0
 ·subst hpu;obtain rfl:pn=tu.gen:=hun0 _ hp
  repeat(refine Fp ?_)
  refine FQ (yH cs g ok.dY (g.x.l.getD i default).type) ?_;intro uu huu;refine Jn ?_
  repeat(refine Fm ?_)
  exact End.aH a2 (he:=by rw[←hie];rfl) (hp:=trivial)
 ·repeat(refine Fm ?_)
  have hpl2:∀l:List Nat,l.Nodup→(∀j∈l,j<(eT g.x.l).length)→l.length≤(eT g.x.l).length:=fun l h1 h2=>by
   have:=LF (m:=List.range (eT g.x.l).length) h1 (fun j hj=>nN.2 (h2 j hj));simpa using this
  have hnd2:(vis ++[pi']).Nodup:=rH.2 ⟨hvn,by simp,fun a ha b hb=>by rw[gD]at hb;exact fun h'=>hni (by rw[←hb,←h'];exact ha)⟩;have hmem:∀j∈vis ++[pi'],j<(eT g.x.l).length∧j≠u0:=fun j hj=>by
   rcases dH.1 hj with hj|hj
   ·exact hvs j hj
   ·rw[gD.1 hj];exact⟨hil',hpu⟩
  have h1:=hpl2 _ hnd2 (fun j hj=>(hmem j hj).1);simp only[Jl,jA]at h1;exact End.bK hK (vis ++[pi']) ⟨hnd2,hmem⟩ (by simp only[Jl,jA];omega)
end Vw
end Go.Proofs.YtofckcabpchcmaaGreatDoor
