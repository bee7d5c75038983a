/- Package gen, walked: expressions. -/
import Derived.Test.YtofckcabpchcmaaGreatDoorM40
set_option linter.unusedVariables false
set_option linter.unusedSimpArgs false
set_option linter.unusedSectionVars false
set_option maxRecDepth 100000
namespace Go.Proofs.YtofckcabpchcmaaGreatDoor
namespace Vw
open Go.RowKit Img
attribute [local irreducible] aE aG End aB Still aN aU RunT Fn aS
abbrev WM.cd(z:WM)(a:Option Addr×Nat)(c:List ImgM.aT):WM:={z with co:=a.1,cc:=a.2,code:=c}
theorem RO(x:EL):x.ex= .mk x.k x.n x.s (EL.bW x.kids):=by cases x;rfl
structure GT.Ok(cs:List Chunk)(g:GT)(D:Fr.Df)(tv:Int):Prop where
 kQ:oH cs g.x.o g.x.c g.x.l
 eL:g.x.l.length≤30
 gen:Fr.wX g.P D tv
theorem ZP(z:WM)(a:Option Addr×Nat)(w:Fr.Wr)(h1:w.locals=z.loc)(h2:w.blocks=fE z.gb):(z.cd a w.code).wr=w:=by
 obtain⟨l,c,b⟩:=w;dsimp only at h1 h2;subst h1 h2;rfl
abbrev OV(cs:List Chunk)(g:GT)(D:Fr.Df)(tv:Int)(x:EL):Prop:=∀(wb b o:Nat) (z:WM) (B:Fr.Scope) (d c c':Nat) (t:Fr.Ty),z.tk=tv→Fr.cX g.P z.loc B (fE z.gb)→Fr.gV g.P B→nQ cs b o x→Fr.iG d x.ex c=some c'→Fr.b9 g.P D B x.ex=some t→z.uW→z.code.length+Fr.pR x.ex≤90000→
 Fn Tryz.prog 164 #[ptr wb, .pointer (some ⟨b,o,none⟩)] (g.R cs) (g.m ++wM wb g.tb z) (σ:=Option Addr×Nat) (fun _=>True) (fun _=> .int .i64 (Fr.bD g.P tv x.ex z.wr).2) (fun a=>g.m ++wM wb g.tb (z.cd a (Fr.bD g.P tv x.ex z.wr).1.code))
structure OY where
 j:Nat
 a:Option Addr×Nat
 c:List ImgM.aT
 to:Option Addr
 tc:Nat
 ts:List Int
theorem MB:∀{l:List EL} {d c c':Nat},Fr.iX d (EL.bW l) c=some c'→∀j,j<l.length→∃c1 c2,Fr.iG d (l.getD j default).ex c1=some c2
 |[],_,_,_,_,j,hj=>by simp at hj
 |x::l,d,c,c',h,j,hj=>by
  rw[EL.bW,Fr.iX]at h;obtain⟨c1,h1,h⟩:=bF.1 h
  cases j with
  |zero=>exact⟨_,_,h1⟩
  |succ j=>simpa using MB h j (by simpa using hj)
set_option maxHeartbeats 8000000 in
theorem KK(cs:List Chunk)(g:GT)(D:Fr.Df)(tv:Int)(ok:GT.Ok cs g D tv)(x:EL):OV cs g D tv x:=by
 refine EL.ind (p:=OV cs g D tv) (fun x ih wb xb o z B d c c' t hz hc hB hx hsh hty hf hl=>?_) x;have hX:=hx.has;have ha:=hx.arr;rw[RO]at hsh hty hl⊢;have hwt:=Fr.DX ok.gen hB (.mk x.k x.n x.s (EL.bW x.kids)) z.wr d c c' t hc hsh hty;have hxs:=Fr.DY g.P tv (EL.bW x.kids) z.wr;obtain⟨r,hr⟩:∃r,r=Fr.dS g.P tv (EL.bW x.kids) z.wr:=⟨_,rfl⟩;rw[Fr.iG]at hsh;obtain⟨c1, -,hsh⟩:=bF.1 hsh;have hhd:Fr.lO x.k x.n x.s (EL.bW x.kids).length=true:=by
  by_cases hh:Fr.lO x.k x.n x.s (EL.bW x.kids).length=true
  ·exact hh
  ·rw[if_neg hh]at hsh;cases hsh
 rw[if_pos hhd]at hsh;obtain⟨hkt,hcal,hvar,hbox⟩:=Fr.X6 hhd hty;rw[Fr.ON]at hwt⊢;rw[←hr]at hwt hxs⊢;rw[Fr.pR]at hl;have hhd':Fr.lO x.k x.n x.s x.kids.length=true:=by rw[tP,Jf]at hhd;exact hhd
 obtain⟨nm, -, -,hq⟩:=KW x.k x.n x.s x.kids.length;have hq:=hq.1 hhd';have h6:x.kids.length≤6:=by
  have h1:Fr.eW x.k≤2:=by
   unfold Fr.eW
   repeat' split
   all_goals omega
  have h4:=hq.2.2.2.2.2.1;have h5:=hq.2.2.2.2.2.2;omega
 have hlo:=hf.lo;refine JE [ptr wb, .pointer (some ⟨xb,o,none⟩)] Tryz.func164 Tryz.ntmps164 fun w S=>?_;refine Jn ?_;apply aG.imp (fun w hm=>hm.cU 3 aY);refine aI ?_;refine cK (σ:=OY) (fun y=>y.j≤x.kids.length∧y.ts.length=y.j∧r=((Fr.dS g.P tv (EL.bW (x.kids.drop y.j)) (z.cd y.a y.c).wr).1,y.ts ++(Fr.dS g.P tv (EL.bW (x.kids.drop y.j)) (z.cd y.a y.c).wr).2)∧y.c.length+Fr.pS (EL.bW (x.kids.drop y.j))=z.code.length+Fr.pS (EL.bW x.kids)) (fun y=>[(0,ptr wb),(1, .pointer (some ⟨xb,o,none⟩)),(4, .int .i64 0),(5, .slice y.to y.ts.length y.tc),(14, .int .i64 x.kids.length),(15, .int .i64 y.j)]) (fun y:OY=>aO w S::(g.R cs ++(arr y.to y.ts.length y.tc 3 aY y.ts::(g.m ++wM wb g.tb (z.cd y.a y.c))))) (fun y=>x.kids.length-y.j) ⟨0,(z.co,z.cc),z.code,none,0,[]⟩ ?_ fun y hy K hK=>?_
 ·exact⟨bQ _,rfl,hr.trans rfl,rfl⟩
 refine Jn ?_;obtain⟨j,a,cj,to,tc,ts⟩:=y;obtain⟨hj,htl,hrj,hcn⟩:=hy;dsimp only at hj htl hrj hcn⊢
 by_cases hlt:j<x.kids.length
 ·obtain⟨e1,e2,he⟩:=MB hsh j hlt;obtain⟨t',ht'⟩:=hkt (x.kids.getD j default).ex (by rw[tP];exact mR (dW hlt));rw[oN hlt,EL.bW,Fr.pS]at hcn;rw[oN hlt,EL.bW,Fr.OO]at hrj;have hke:=Fr.wR g.P tv (x.kids.getD j default).ex (z.cd a cj).wr;refine aI ?_;refine bU (ih _ (dW hlt) wb _ _ (z.cd a cj) B _ e1 e2 t' hz hc hB (hx.mF hlt) he ht' ⟨hf.lo,by show cj.length≤_;omega,hf.gb⟩ (by show cj.length+_≤_;omega)) fun a2 ha2=>?_
  repeat(refine Fm ?_;try first|intro ao cap|intro b)
  rw[show ts.length+1=(ts ++[(Fr.bD g.P tv (x.kids.getD j default).ex (z.cd a cj).wr).2]).length by simp];refine End.bK hK ⟨j+1,a2,(Fr.bD g.P tv (x.kids.getD j default).ex (z.cd a cj).wr).1.code,ao,cap,ts ++[(Fr.bD g.P tv (x.kids.getD j default).ex (z.cd a cj).wr).2]⟩ ⟨hlt,by simp[htl],?_,?_⟩ (by show x.kids.length-(j+1)<x.kids.length-j;omega)
  ·dsimp only;rw[ZP z a2 _ hke.1 hke.2.1,hrj,Jt];rfl
  ·dsimp only;rw[hke.2.2];show cj.length+_+_=_;omega
 obtain rfl:j=x.kids.length:=aA;rw[List.drop_length,EL.bW,Fr.dS]at hrj;rw[eS]at hrj;rw[List.drop_length,EL.bW,Fr.pS]at hcn;clear hK;have hP:∀s,(bG (fK g.x g.x.l.length) s).map (jQ g.x)=Fr.dG g.P s:=fun s=>by
  have:=LZ g.x s g.x.l.length (bS _);rw[pF]at this;exact this
 have hdm:∀{s:aH} {e:Fr.Df},Fr.dG g.P s=some e→∃i,bG (fK g.x g.x.l.length) s=some i∧i<g.x.l.length∧jQ g.x i=e:=fun{s e} h=>by
  have h1:=hP s;rw[h]at h1;obtain⟨i,hi,he⟩:=cQ.1 h1;exact⟨i,hi,GI g.x s _ _ hi,he⟩
 subst hrj;dsimp only at hwt hxs⊢;have hf1:(z.cd a cj).uW:=⟨hf.lo,by show cj.length≤_;omega,hf.gb⟩
 by_cases k1:x.k=1
 ·rw[if_pos k1];refine aI ?_;refine dD (iE (z.cd a cj) hf1 1 0 x.n) fun a2 ha2=>?_;exact End.aX a2 (he:=rfl) (hp:=trivial)
 rw[if_neg k1]at hwt⊢
 by_cases k2:x.k=2
 ·rw[if_pos k2];refine aI ?_;refine dD (iE (z.cd a cj) hf1 2 x.n 0) fun a2 ha2=>?_;exact End.aX a2 (he:=rfl) (hp:=trivial)
 rw[if_neg k2]at hwt⊢
 by_cases k3:x.k=3
 ·rw[if_pos k3];obtain⟨u,hu⟩:=hvar k3;obtain⟨q,q1,q2,q3⟩:=hc.look hu;have hlk:(z.cd a cj).wr.look x.s=q:=by unfold Fr.Wr.look;show(Fr.eN (fE z.gb) x.s).getD 0=q;rw[q1];rfl
  refine aI ?_;refine bU (SA (z.cd a cj) hf1 x.s) fun u hu=>?_;rw[hlk];refine aI ?_;refine dD (iE (z.cd a cj) hf1 3 q 0) fun a2 ha2=>?_;exact End.aX a2 (he:=rfl) (hp:=trivial)
 rw[if_neg k3]at hwt⊢
 by_cases k4:x.k=4
 ·rw[if_pos k4];refine aI ?_;refine dD (iE (z.cd a cj) hf1 6 0 0) fun a2 ha2=>?_;exact End.aX a2 (he:=rfl) (hp:=trivial)
 rw[if_neg k4]at hwt⊢
 by_cases k5:x.k=5
 ·rw[if_pos k5];refine aI ?_;refine dD (iE (z.cd a cj) hf1 7 0 0) fun a2 ha2=>?_;exact End.aX a2 (he:=rfl) (hp:=trivial)
 rw[if_neg k5]at hwt⊢
 by_cases k618:6≤x.k∧x.k≤18
 ·rw[if_pos k618];obtain⟨k6,k18⟩:=k618;refine aI ?_;refine bU (iE (z.cd a cj) hf1 (8+x.k-6) 0 0) fun a2 ha2=>?_
  by_cases k10:x.k≤10
  ·rw[if_pos k10];refine aI ?_;exact End.aX a2 (he:=rfl) (hp:=trivial)
  ·rw[if_neg k10];refine aI ?_;exact End.aX a2 (he:=rfl) (hp:=trivial)
 rw[if_neg k618]at hwt⊢
 by_cases k19:x.k=19
 ·rw[if_pos k19];obtain⟨e,he,hek⟩:=hcal (.inl k19);obtain⟨i,hi,hil,hie⟩:=hdm he;have hdi:=(ok.kQ.at hil).has;refine aI ?_;refine aU.bP (h:=Still.F1 (v:=iW (Fr.dE g.P x.s)) rfl rfl rfl rfl rfl tk ⟨rfl,rfl⟩ (by rw[AK,HH])) (k:=?_);refine aI ?_;refine bU (iE (z.cd a cj) hf1 23 (Fr.dE g.P x.s) 0) fun a2 ha2=>?_;refine n7 ?_;refine dD (zS cs g ok.eL (g.x.l.getD i default).type) fun u hu=>?_;exact End.aX a2 (he:=congrArg (Value.int .i64) (by unfold Fr.q0;rw[he,←hie];rfl)) (hp:=trivial)
 rw[if_neg k19]at hwt⊢
 by_cases k20:x.k=20
 ·rw[if_pos k20];obtain⟨e,he⟩:=hbox k20;obtain⟨he,hek⟩:=Fr.lD he;obtain⟨i,hi,hil,hie⟩:=hdm he;have hdi:=(ok.kQ.at hil).has;refine aI ?_;rw[AK,QJ];refine bU (iE (z.cd a cj) hf1 27 (Fr.iC g.P x.s) 0) fun a2 ha2=>?_;refine n7 ?_;refine dD (zS cs g ok.eL (g.x.l.getD i default).type) fun u hu=>?_;exact End.aX a2 (he:=congrArg (Value.int .i64) (by unfold Fr.q0;rw[he,←hie];rfl)) (hp:=trivial)
 rw[if_neg k20]at hwt⊢
 by_cases k22:x.k=22
 ·rw[if_pos k22];obtain⟨e,he,hek⟩:=hcal (.inr k22);obtain⟨i,hi,hil,hie⟩:=hdm he;have hdi:=(ok.kQ.at hil).has;refine aI ?_;refine aU.bP (h:=Still.F1 (v:=iW (Fr.dE g.P x.s)) rfl rfl rfl rfl rfl tk ⟨rfl,rfl⟩ (by rw[AK,HH])) (k:=?_);refine aI ?_;refine dD (iE (z.cd a cj) hf1 29 (Fr.dE g.P x.s) 0) fun a2 ha2=>?_;refine aN.bP (h:=Still.F1 (v:=iW (Fr.dE g.P x.s)) rfl rfl rfl rfl rfl tk ⟨rfl,rfl⟩ (by rw[AK,HH])) (k:=?_);have hu:Fr.dE g.P x.s≤30:=YB g.x.l x.s ok.eL;refine aI ?_;exact End.aX a2 (he:=rfl) (hp:=trivial)
 rw[if_neg k22]at hwt⊢
 by_cases k21:x.k=21
 ·rw[if_pos k21];refine aI ?_;refine dD (iE (z.cd a cj) hf1 31 0 0) fun a2 ha2=>?_;exact End.aX a2 (he:=congrArg (Value.int .i64) hz) (hp:=trivial)
 rw[if_neg k21]at hwt⊢
 by_cases k24:x.k=24
 ·rw[if_pos k24];refine aI ?_;refine dD (iE (z.cd a cj) hf1 32 0 0) fun a2 ha2=>?_;exact End.aX a2 (he:=rfl) (hp:=trivial)
 rw[if_neg k24]at hwt⊢;have k23:x.k=23:=by have:=hq.1;have:=hq.2.1;omega
 rw[←RO,X5]at hty;(repeat rw[if_neg aA]at hty);rw[if_pos k23]at hty;obtain⟨u,v,huv⟩:∃u v,x.kids=[u,v]:=TB (by
  have h1:Fr.eW x.k=2:=by
   unfold Fr.eW
   repeat' split
   all_goals omega
  have:=hq.2.2.2.2.2.1;omega)
 rw[huv,N9]at hty;rw[huv]at hr hsh;obtain⟨tu,htu⟩:∃tu,Fr.b9 g.P D B u.ex=some tu:=by
  cases h:Fr.b9 g.P D B u.ex with
  |none=>rw[h]at hty;cases hty
  |some tu=>exact⟨tu,rfl⟩
 obtain⟨tw,htw⟩:∃tw,Fr.b9 g.P D B v.ex=some tw:=by
  cases h:Fr.b9 g.P D B v.ex with
  |none=>rw[h,htu]at hty;cases hty
  |some tw=>exact⟨tw,rfl⟩
 rw[htu,htw]at hty;have hpl:Fr.cV tu=false:=by
  cases h:Fr.cV tu with
  |false=>rfl
  |true=>exfalso;have:(if Fr.cV tu=true then none else _)=some t:=hty;rw[if_pos h]at this;cases this
 obtain⟨e,he⟩:=Fr.x9 (Fr.yP ok.gen.gS ok.gen.mem hB u.ex tu htu) hpl;obtain⟨he,hek⟩:=Fr.lD he;obtain⟨i,hi,hil,hie⟩:=hdm he;have hdi:=(ok.kQ.at hil).has;obtain⟨rX,yQ⟩:=Fr.HI ok.gen.nd he aA;obtain⟨u0,hu0⟩:∃u0,u0=Fr.dE g.P tu.gen:=⟨_,rfl⟩;rw[←hu0]at rX yQ;obtain⟨e1,e2,he12⟩:=MB hsh 0 aW;have hts:ts.headD 0=10+(u0:Int):=by
  have h1:ts=(Fr.dS g.P tv (EL.bW [u,v]) z.wr).2:=congrArg Prod.snd hr;rw[h1,EL.bW,Fr.OO];show(Fr.bD g.P tv u.ex z.wr).2=_;rw[Fr.DX ok.gen hB u.ex z.wr _ _ _ tu hc he12 htu,Fr.DQ hpl,hu0]
 have hu0l:u0<(fG g.x.l).length:=by
  obtain⟨h1, -⟩:=D7.1 yQ;rw[xD,Jf]at h1;unfold fG;rw[List.length_zipIdx,Jf];exact h1
 have hun:∀(i:Nat) (p:aH×Nat),(fG g.x.l)[i]?=some p→p.2=i:=fun i p hp=>by
  unfold fG at hp;rw[List.getElem?_zipIdx]at hp;obtain⟨n,hn,rfl⟩:=cQ.1 hp;simp
 have hun0:∀p,(fG g.x.l)[u0]?=some p→p.1=tu.gen:=fun p hp=>by
  unfold fG at hp;rw[List.getElem?_zipIdx,JU]at hp;obtain⟨n,hn,rfl⟩:=cQ.1 hp;obtain⟨d',hd',rfl⟩:=cQ.1 hn;rw[xD,JU]at rX;obtain⟨d2,hd2,hde⟩:=cQ.1 rX;have:d'=d2:=sB (hd'.symm.trans hd2);rw[this,←(Fr.pI he).2,←hde];rfl
 rw[hts,show((10+(u0:Int)-10).toNat)=u0 by omega,rX];dsimp only;refine aI ?_;refine dD (iE (z.cd a cj) hf1 30 0 0) fun a2 ha2=>?_;apply aE.op aV;refine aB.range (g:=iW) rfl rfl tk rfl fun rb=>?_;refine aI ?_;have hlu:(fG g.x.l).length≤30:=by
  unfold fG;rw[List.length_zipIdx,Jf];exact dP (nS _ _) ok.eL
 refine cK (σ:=List Nat) (fun vis=>vis.Nodup∧∀j∈vis,j<(fG g.x.l).length∧j≠u0) (fun vis=>[(0,ptr wb),(4, .int .i64 0),(5, .slice to ts.length tc),(262,ptr rb)]) (fun vis=>aO w S::(g.R cs ++(arr to ts.length tc 3 aY ts::qP rb g.um g.bs g.ck vis::(g.m ++wM wb g.tb (z.cd a2 (cj ++[⟨30,0,0⟩])))))) (fun vis=>(fG g.x.l).length-vis.length) [] ?_ fun vis hv K hK=>?_
 ·exact⟨aW,aW⟩
 refine Jn ?_;obtain⟨hvn,hvs⟩:=hv;refine aI ?_;apply aE.op aV;refine aB.next (g:=iW) (vis:=vis) rfl tk tk (fun j hj=>(hvs j hj).1) rfl (fun hall=>?_) (fun i' p hp hni=>?_)
 ·exact absurd rfl (hvs u0 (hall u0 hu0l)).2
 have hpi:=hun i' p hp;obtain⟨pn,pi'⟩:=p;dsimp only at hpi;subst hpi;have hil':pi'<(fG g.x.l).length:=(rE.1 hp).1;refine aI ?_;apply aE.op aV;refine aB.bP (h:=Still.entry (g:=iW) rfl tk tk hp) (k:=?_);refine aI ?_;have htp:0<ts.length:=by rw[htl,huv];simp
 have hts0:ts.getD 0 default=10+(u0:Int):=by rw[←hts];cases ts<;>rfl
 have hul:u0≤30:=aA;(apply aE.op;exact rfl;refine aB.bP (h:=by(apply Still.at_;exact rfl;exact rfl;exact Jr;exact rfl;exact rfl;exact rfl;exact zY;omega)) (k:=?_));apply aE.op aV;refine aB.bP (k:=?_);rw[hts0]
 by_cases hpu:pi'=u0
 ·subst hpu;obtain rfl:pn=tu.gen:=hun0 _ hp;refine n7 ?_;refine dD (zS cs g ok.eL (g.x.l.getD i default).type) fun uu huu=>?_;exact End.aX a2 (he:=by rw[←hie];rfl) (hp:=trivial)
 ·refine aI ?_;have hpl2:∀l:List Nat,l.Nodup→(∀j∈l,j<(fG g.x.l).length)→l.length≤(fG g.x.l).length:=fun l h1 h2=>by
   have:=LY (m:=List.range (fG g.x.l).length) h1 (fun j hj=>sC.2 (h2 j hj));simpa using this
  have hnd2:(vis ++[pi']).Nodup:=r9.2 ⟨hvn,aW,fun a ha b hb=>by rw[dY]at hb;exact fun h'=>hni (by rw[←hb,←h'];exact ha)⟩;have hmem:∀j∈vis ++[pi'],j<(fG g.x.l).length∧j≠u0:=fun j hj=>by
   rcases dF.1 hj with hj|hj
   ·exact hvs j hj
   ·rw[dY.1 hj];exact⟨hil',hpu⟩
  have h1:=hpl2 _ hnd2 (fun j hj=>(hmem j hj).1);simp only[Jl,gE]at h1;exact End.bK hK (vis ++[pi']) ⟨hnd2,hmem⟩ (by simp only[Jl,gE];omega)
end Vw
end Go.Proofs.YtofckcabpchcmaaGreatDoor
