/- Package gen, walked: bodies. -/
import Derived.Test.YtofckcabpchcmaaGreatDoorM41
set_option linter.unusedVariables false
set_option linter.unusedSimpArgs false
set_option linter.unusedSectionVars false
set_option maxRecDepth 100000
namespace Go.Proofs.YtofckcabpchcmaaGreatDoor
namespace Fr
open ImgM
theorem EJ{P:List Df}{D:Df}{tv:Int}(G:wX P D tv){B:Scope}(hB:gV P B){l:List St}{w:Wr}{d c c':Nat}(ho:eH d l c=some c')(hs:(fC P D ([]::B) l).isSome=true)(hc:cX P w.locals B w.blocks):
  cX P (bZ P tv l w.open_).close.locals B (bZ P tv l w.open_).close.blocks∧Grow w (bZ P tv l w.open_).close (kU l):=by
 obtain⟨B2,hB2⟩:=lK.1 hs;obtain⟨i1,i2⟩:=DZ G l w.open_ ([]::B) B2 _ _ _ (sR hB) ⟨trivial,hc⟩ ho hB2;obtain⟨t1, -, -⟩:=N8 G.gS G.mem (sR hB) hB2;refine⟨?_,i2⟩;have:=i1.tail;rw[t1]at this;exact this
theorem aEA{k:Int}{s:aH}{x:Ex}{b e:List St}{d c c':Nat}(h:jT d (.mk k s x b e) c=some c'):d≤40∧sP k s=true∧(k≠6→∃c1 c2,iG (d+1) x c1=some c2)∧(k=3∨k=4→b.length≤50∧∃c1 c2,eH (d+1) b c1=some c2)∧(k=3→e.length≤50∧∃c1 c2,eH (d+1) e c1=some c2):=by
 rw[jT]at h;obtain⟨c1,h1,h⟩:=bF.1 h;have hd:d≤40:=by
  unfold nd at h1
  by_cases h2:2000<c+1∨40<d
  ·rw[if_pos h2]at h1;cases h1
  ·omega
 split at h
 ·next hh=>
  refine⟨hd,hh,?_⟩
  by_cases h6:k=6
  ·exact⟨fun h=>absurd h6 h,fun h=>aA,fun h=>aA⟩
  ·rw[if_neg h6]at h;obtain⟨c2,h2,h⟩:=bF.1 h;obtain⟨c3,h3,h⟩:=bF.1 h;refine⟨fun _=>⟨_,_,h2⟩,fun h34=>?_,fun h33=>?_⟩
   ·rw[if_pos h34]at h3
    split at h3
    ·cases h3
    ·exact⟨aA,_,_,h3⟩
   ·rw[if_pos h33]at h
    split at h
    ·cases h
    ·exact⟨aA,_,_,h⟩
 ·cases h
end Fr
namespace Vw
open Go.RowKit Img
section
attribute [local irreducible] aE aG End aB Still aN aU RunT Fn aS
def WM.Is(z v:WM)(w:Fr.Wr):Prop:=v.kd=z.kd∧v.pr=z.pr∧v.rs=z.rs∧v.tk=z.tk∧v.wr=w
abbrev HW(cs:List Chunk)(g:GT)(D:Fr.Df)(tv:Int)(x:aM):Prop:=∀(wb b o:Nat) (z:WM) (B B':Fr.Scope) (d c c':Nat),z.tk=tv→Fr.cX g.P z.loc B (fE z.gb)→Fr.gV g.P B→sH cs b o x→Fr.jT d x.st c=some c'→Fr.lV g.P D B x.st=some B'→0<z.gb.length→z.gb.length≤d→z.code.length+2*Fr.vN x.st≤90000→z.loc.length+Fr.vN x.st≤90000→
 Fn Tryz.prog 139 #[ptr wb, .pointer (some ⟨b,o,none⟩)] (g.R cs) (g.m ++wM wb g.tb z) (σ:=WM) (fun v=>z.Is v (Fr.kL g.P tv x.st z.wr)) (fun _=> .tuple #[]) (fun v=>g.m ++wM wb g.tb v)
theorem xX{z:WM}{B:Fr.Scope}{P:List Fr.Df}{lo:List Int}(h:Fr.cX P lo B (fE z.gb)):z.gb.length=B.length:=by
 rw[h.len];simp[fE]
set_option maxHeartbeats 1000000 in
theorem E9(cs:List Chunk)(g:GT)(D:Fr.Df)(tv:Int)(ok:GT.Ok cs g D tv)(l:List aM)(ih:∀y∈l,HW cs g D tv y)(wb:Nat)(a:Option Addr)(ca:Nat)(z:WM)(B:Fr.Scope)(d c c':Nat)(hz:z.tk=tv)(hc:Fr.cX g.P z.loc B (fE z.gb))(hB:Fr.gV g.P B)(hl:tI cs a ca l)(ho:Fr.eH (d+1) (aM.bV l) c=some c')(hty:(Fr.fC g.P D ([]::B) (aM.bV l)).isSome=true)
  (h50:l.length≤50) (hd:d≤40) (hgd:z.gb.length≤d) (h1:z.code.length+2*Fr.kU (aM.bV l)≤90000) (h2:z.loc.length+Fr.kU (aM.bV l)≤90000):
  Fn Tryz.prog 99 #[ptr wb, .slice a l.length ca] (g.R cs) (g.m ++wM wb g.tb z) (σ:=WM) (fun v=>z.Is v (Fr.bZ g.P tv (aM.bV l) z.wr.open_).close) (fun _=> .tuple #[]) (fun v=>g.m ++wM wb g.tb v):=by
 have ha:=hl.arr;obtain⟨B2,hB2⟩:=lK.1 hty;refine JE [ptr wb, .slice a l.length ca] Tryz.func99 Tryz.ntmps99 fun w S=>?_;refine aI ?_;apply aE.op aV;refine aB.pO (κ:=aH) iW aV fun mb=>?_;refine Jn ?_
 repeat(refine Fm ?_;try intro b)
 (apply aE.op;exact rfl;refine aB.jN (a:=(⟨mb,[]⟩:Gb)) (k:=?_);intro ao cap;refine Jn ?_);refine aE.imp (fun w hm=>hm.nC (cs:=(z.gb ++[(⟨mb,[]⟩:Gb)]).map kT) (ds:=[kT ⟨mb,[]⟩]) (es:=z.gb.map kT) tk (.cons tk .nil) (by rw[Jq];exact pB) (by simp[kT,gU])) ?_;rw[show z.gb.length+1=(z.gb ++[(⟨mb,[]⟩:Gb)]).length by simp];refine aI ?_;obtain⟨z0,hz0⟩:∃z0:WM,z0={z with bo:=ao,bc:=cap,gb:=z.gb ++[(⟨mb,[]⟩:Gb)]}:=⟨_,rfl⟩;have hw0:z0.wr=z.wr.open_:=by rw[hz0];show Fr.Wr.mk _ _ (fE (z.gb ++[(⟨mb,[]⟩:Gb)]))=_;rw[CH];rfl
 refine cK (σ:=Nat×WM) (fun y=>y.1≤l.length∧(y.2.kd=z.kd∧y.2.pr=z.pr∧y.2.rs=z.rs∧y.2.tk=z.tk)∧Fr.bZ g.P tv (aM.bV l) z.wr.open_=Fr.bZ g.P tv (aM.bV (l.drop y.1)) y.2.wr∧y.2.gb.length=z.gb.length+1∧y.2.code.length+2*Fr.kU (aM.bV (l.drop y.1))≤90000∧y.2.loc.length+Fr.kU (aM.bV (l.drop y.1))≤90000∧∃B1 c1,Fr.cX g.P y.2.loc B1 (fE y.2.gb)∧Fr.gV g.P B1∧Fr.fC g.P D B1 (aM.bV (l.drop y.1))=some B2∧Fr.eH (d+1) (aM.bV (l.drop y.1)) c1=some c') (fun y=>[(0,ptr wb),(1, .slice a l.length ca),(16, .int .i64 l.length),(17, .int .i64 y.1)]) (fun y:Nat×WM=>aO w S::(g.R cs ++(g.m ++wM wb g.tb y.2))) (fun y=>l.length-y.1) (0,{z with bo:=ao,bc:=cap,gb:=z.gb ++[(⟨mb,[]⟩:Gb)]}) ?_ fun y hy K hK=>?_
 ·rw[←hz0];refine⟨bQ _,⟨by rw[hz0],by rw[hz0],by rw[hz0],by rw[hz0]⟩,by rw[hw0];rfl,by rw[hz0];simp,by rw[hz0];exact h1,by rw[hz0];exact h2,[]::B,c,?_,Fr.sR hB,hB2,ho⟩;rw[hz0];show Fr.cX g.P z.loc ([]::B) (fE (z.gb ++[(⟨mb,[]⟩:Gb)]));rw[CH];exact⟨trivial,hc⟩
 refine Jn ?_;obtain⟨j,v⟩:=y;obtain⟨hj,hfl,hw,hgl,hb1,hb2,B1,c1,hcor,hsc,hts,hos⟩:=hy;dsimp only at hj hfl hw hgl hb1 hb2 hcor hts hos⊢
 by_cases hlt:j<l.length
 ·rw[oN hlt,aM.bV]at hw hb1 hb2 hts hos;rw[Fr.bZ]at hw;rw[Fr.kU]at hb1 hb2;rw[Fr.fC]at hts;rw[Fr.eH]at hos;obtain⟨B3,ht3,hts⟩:=bF.1 hts;obtain⟨c3,ho3,hos⟩:=bF.1 hos;obtain⟨g1,g2⟩:=Fr.HS ok.gen (l.getD j default).st v.wr B1 B3 _ _ _ hsc hcor ho3 ht3;refine aI ?_;refine bU (ih _ (dW hlt) wb _ _ v B1 B3 _ _ _ (hfl.2.2.2.trans hz) hcor hsc (hl.mF hlt) ho3 ht3 aA aA aA aA) fun v2 hv2=>?_;obtain⟨q1,q2,q3,q4,q5⟩:=hv2;refine aI ?_;have hll:v2.loc=(Fr.kL g.P tv (l.getD j default).st v.wr).locals:=congrArg Fr.Wr.locals q5;have hlc:v2.code=(Fr.kL g.P tv (l.getD j default).st v.wr).code:=congrArg Fr.Wr.code q5;have hlb:fE v2.gb=(Fr.kL g.P tv (l.getD j default).st v.wr).blocks:=congrArg Fr.Wr.blocks q5;obtain⟨⟨u,u1,u2⟩,u3,u4⟩:=g2;have hcor2:Fr.cX g.P v2.loc B3 (fE v2.gb):=by rw[hll,hlb];exact g1
  refine End.bK hK (j+1,v2) ⟨hlt,⟨q1.trans hfl.1,q2.trans hfl.2.1,q3.trans hfl.2.2.1,q4.trans hfl.2.2.2⟩,by rw[hw,←q5],?_,?_,?_,B3,c3,hcor2,Fr.DR ok.gen.gS ok.gen.mem hsc ht3,hts,hos⟩ (by dsimp only;omega)
  ·rw[xX hcor2,(Fr.N7 ht3).2,←xX hcor];exact hgl
  ·dsimp only;rw[hlc];have:v.wr.code.length=v.code.length:=rfl;omega
  ·dsimp only;rw[hll,u1,Jl];have:v.wr.locals.length=v.loc.length:=rfl;omega
 ·obtain rfl:j=l.length:=aA;rw[List.drop_length,aM.bV,Fr.bZ]at hw;have hi:((v.gb.length:Int)-1).toNat=v.gb.length-1:=aA;have hgp:v.gb.length≤100000:=aA;have hg0:0<v.gb.length:=aA;refine aI ?_;refine b8 14 [aF wb [ptr g.tb, .int .i64 v.kd, .int .i64 v.pr, .slice v.lo v.loc.length v.lc, .int .i64 v.rs, .int .i64 v.tk, .slice v.co v.code.length v.cc, .slice v.bo v.gb.length v.bc] 225] 15 ?_;refine gP [0,1,2,3,4,5,6,7,8,9,10] ?_;(refine JT 11 ?_;(refine Ja ?_;intro ao cap);refine JG ?_);refine gP [12,13] ?_;refine gWl [14] ?_;refine b6 ?_;obtain⟨t,ht⟩:∃t,t=v.gb.take (v.gb.length-1):=⟨_,rfl⟩;have hlt':v.gb.length-1=t.length:=by rw[ht,jM];omega
  obtain⟨y,hy⟩:∃y,v.gb=t ++[y]:=⟨v.gb.getLast (List.ne_nil_of_length_pos hg0),by rw[ht,←List.dropLast_eq_take,List.dropLast_concat_getLast]⟩;rw[hi,←ht,hlt'];apply End.imp (fun w hm=>hm.pH (ds:=[kT y]) (es:=t.map kT) tk (by rw[hy,Jq];exact pB));refine aI ?_;refine End.dL ({v with bo:=ao,bc:=cap,gb:=t}:WM) (hp:=⟨hfl.1,hfl.2.1,hfl.2.2.1,hfl.2.2.2,?_⟩);rw[hw];show Fr.Wr.mk v.loc v.code (fE t)=Fr.Wr.mk v.loc v.code (fE v.gb).tail;rw[hy,CH];rfl
theorem aGc(x:aM):x.st= .mk x.k x.s x.x.ex (aM.bV x.body) (aM.bV x.fJ):=by cases x;rfl
theorem WM.Is.parts{z v:WM}{w:Fr.Wr}(h:z.Is v w):v.loc=w.locals∧v.code=w.code∧fE v.gb=w.blocks:=⟨congrArg Fr.Wr.locals h.2.2.2.2,congrArg Fr.Wr.code h.2.2.2.2,congrArg Fr.Wr.blocks h.2.2.2.2⟩
set_option maxHeartbeats 8000000 in
theorem aBz(cs:List Chunk)(g:GT)(D:Fr.Df)(tv:Int)(ok:GT.Ok cs g D tv)(x:aM):HW cs g D tv x:=by
 refine aM.ind (p:=HW cs g D tv) (fun x ihb ihe wb sb' o z B B' d c c' hz hc hB hx hsh hty hg0 hgd hl1 hl2=>?_) x;have hX:=hx.has;have hE:=hx.ex;have hgr:=Fr.HS ok.gen x.st z.wr B B' d c c' hB hc hsh hty;rw[aGc]at hsh hty hl1 hl2 hgr⊢;obtain⟨p1,p2,p3⟩:=Fr.N6 hty;obtain⟨hB1,hBn⟩:=Fr.DS hty;obtain⟨h40,hhd,q1,q2,q3⟩:=Fr.aEA hsh;rw[yK,Jf,←yK]at q2 q3;obtain⟨nm, -, -,hh⟩:=FG x.k x.s;obtain⟨l1,l9, -⟩:=hh.1 hhd;clear hh hhd nm;rw[Fr.vN]at hl1 hl2 hgr;have hnp:=Fr.GH x.x.ex;obtain⟨ke1,ke2,ke3⟩:=Fr.wR g.P tv x.x.ex z.wr;have hzc:z.wr.code.length=z.code.length:=rfl;have hzl:z.wr.locals.length=z.loc.length:=rfl;rw[Fr.HR]at hgr⊢;obtain⟨we,hwe⟩:∃we,we=Fr.bD g.P tv x.x.ex z.wr:=⟨_,rfl⟩;rw[←hwe]at hgr ke1 ke2 ke3⊢;have hfz:z.code.length≤90000→z.loc.length≤90000→z.uW:=fun h1 h2=>⟨aA,aA,aA⟩;have hfz:=hfz aA aA;have wcd:∀a,(z.cd a we.1.code).wr=we.1:=fun a=>ZP z a we.1 ke1 ke2;refine JE [ptr wb, .pointer (some ⟨sb',o,none⟩)] Tryz.func139 Tryz.ntmps139 fun w S=>?_;refine aI ?_
 by_cases k3:x.k=3
 ·rw[if_pos k3]at hgr⊢;rw[if_neg (show¬x.k=6 by omega),if_pos (show x.k=3∨x.k=4 by omega),if_pos k3]at hl1 hl2;obtain⟨t,ht⟩:=p1 aA;obtain⟨c1,c2,ho1⟩:=q1 aA;obtain⟨hb50,b1,b2,ho2⟩:=q2 aA;obtain⟨he50,e1,e2,ho3⟩:=q3 k3;refine aI ?_;refine bU (KK cs g D tv ok x.x wb _ _ z B _ c1 c2 t hz hc hB hE ho1 ht hfz aA) fun a1 ha1=>?_;rw[←hwe];refine aI ?_;refine bU (iE (z.cd a1 we.1.code) ⟨hfz.lo,by show we.1.code.length≤_;omega,hfz.gb⟩ 22 0 0) fun a2 ha2=>?_;have hz2:((z.cd a1 we.1.code).j4 ⟨22,0,0⟩ a2).wr=we.1.put 22 0 0:=by
   show Fr.Wr.mk z.loc (we.1.code ++[_]) (fE z.gb)=Fr.Wr.mk we.1.locals (we.1.code ++[_]) we.1.blocks;rw[ke1,ke2]
  have hz2l:((z.cd a1 we.1.code).j4 ⟨22,0,0⟩ a2).code.length=we.1.code.length+1:=by show(we.1.code ++[_]).length=_;simp
  obtain⟨f1,⟨u1,f2,f3⟩,f4,f5⟩:=Fr.EJ ok.gen hB ho2 (p2 aA) (show Fr.cX g.P ((z.cd a1 we.1.code).j4 ⟨22,0,0⟩ a2).wr.locals B ((z.cd a1 we.1.code).j4 ⟨22,0,0⟩ a2).wr.blocks from hc);refine aI ?_;refine bU (E9 cs g D tv ok x.body ihb wb _ _ ((z.cd a1 we.1.code).j4 ⟨22,0,0⟩ a2) B d b1 b2 hz hc hB hx.body ho2 (p2 aA) hb50 h40 hgd aA (by show z.loc.length+_≤_;omega)) fun v3 hv3=>?_;rw[hz2]at hv3 f1 f2 f4 f5;obtain⟨m1,m2,m3⟩:=hv3.parts;have m2l:=congrArg List.length m2;have m1l:=congrArg List.length m1;rw[f2,Jl,show(we.1.put 22 0 0).locals.length=z.loc.length by show we.1.locals.length=_;rw[ke1]]at m1l;rw[show(we.1.put 22 0 0).code.length=we.1.code.length+1 by simp[Fr.Wr.put]]at f4 f5;have hc3:Fr.cX g.P v3.loc B (fE v3.gb):=by rw[m1,m3];exact f1
  have hg3:v3.gb.length=z.gb.length:=by rw[xX hc3,xX hc]
  refine aI ?_;refine bU (iE v3 ⟨aA,aA,aA⟩ 21 0 0) fun a4 ha4=>?_;obtain⟨v4,hv4⟩:∃v4,v4=v3.j4 ⟨21,0,0⟩ a4:=⟨_,rfl⟩;have hv4l:v4.code.length=v3.code.length+1:=by rw[hv4];show(v3.code ++[_]).length=_;simp
  have hno:(z.cd a1 we.1.code).code.length<v4.code.length:=by show we.1.code.length<_;omega
  have hv4w:v4.wr=(Fr.bZ g.P tv (aM.bV x.body) (we.1.put 22 0 0).open_).close.put 21 0 0:=by rw[hv4,←hv3.2.2.2.2];rfl
  have hv4o:v4.loc=v3.loc∧v4.gb=v3.gb∧v4.kd=v3.kd∧v4.pr=v3.pr∧v4.rs=v3.rs∧v4.tk=v3.tk:=by rw[hv4];exact⟨rfl,rfl,rfl,rfl,rfl,rfl⟩
  refine aI ?_;refine aG.only (aO w S::(g.R cs ++(g.m ++wM wb g.tb v4))) (by rw[hv4];exact cA) ?_;refine Jn ?_;refine b8 10 [aF wb [ptr g.tb, .int .i64 v4.kd, .int .i64 v4.pr, .slice v4.lo v4.loc.length v4.lc, .int .i64 v4.rs, .int .i64 v4.tk, .slice v4.co v4.code.length v4.cc, .slice v4.bo v4.gb.length v4.bc] 225,arr v4.co v4.code.length v4.cc 113 dB v4.code] 11 ?_;refine gP [0,1,2,3,4,5,6] ?_;refine jF 7 (FA v4) fun u hu=>?_;refine gP [8,9] ?_;refine JT 10 ?_;refine aB.j5 (f:=dB) (l:=v4.code) (i:=we.1.code.length) (off:=0+1) (vs:=[.int .i64 v4.code.length]) (a':=⟨(v4.code.getD we.1.code.length default).op,(v4.code.length:Int),(v4.code.getD we.1.code.length default).n⟩) (hp:=(show Put (dB (v4.code.getD we.1.code.length default)) 1 _ _ by(repeat(first|exact Put.done|apply Put.take|apply Put.skip)))) (k:=?_);refine JG ?_;refine Jn ?_;refine b6 ?_;obtain⟨C5,hC5⟩:∃C5,C5=v4.code.set we.1.code.length ⟨(v4.code.getD we.1.code.length default).op,(v4.code.length:Int),(v4.code.getD we.1.code.length default).n⟩:=⟨_,rfl⟩;have lC5:v4.code.length=C5.length:=by rw[hC5,Ji]
  have wC5:(v4.cd (v4.co,v4.cc) C5).wr=v4.wr.patch we.1.code.length v4.code.length:=by rw[hC5];rfl
  rw[←hC5,lC5];obtain⟨v5,hv5⟩:∃v5,v5=v4.cd (v4.co,v4.cc) C5:=⟨_,rfl⟩;rw[←hv5]at wC5;have lv5:v5.code.length=v4.code.length:=by rw[hv5];exact lC5.symm
  have hno2:v3.code.length<v4.code.length:=aA;apply End.kH;refine aG.only (aO w S::(g.R cs ++(g.m ++wM wb g.tb v5))) (by rw[hv5];exact cA) ?_;refine Jn ?_;have hv5o:v5.loc=v3.loc∧v5.gb=v3.gb∧v5.kd=v3.kd∧v5.pr=v3.pr∧v5.rs=v3.rs∧v5.tk=v3.tk:=by rw[hv5];exact hv4o
  have hc5:Fr.cX g.P v5.loc B (fE v5.gb):=by rw[hv5o.1,hv5o.2.1];exact hc3
  obtain⟨i1,⟨u2,i2,i3⟩,i4,i5⟩:=Fr.EJ ok.gen hB ho3 (p3 k3) (show Fr.cX g.P v5.wr.locals B v5.wr.blocks from hc5);have l5:v5.loc.length=v3.loc.length:=by rw[hv5o.1]
  have g5:v5.gb.length=v3.gb.length:=by rw[hv5o.2.1]
  have c5:v5.wr.code.length=v5.code.length:=rfl;refine aI ?_;refine bU (E9 cs g D tv ok x.fJ ihe wb _ _ v5 B d e1 e2 (hv5o.2.2.2.2.2.trans (hv3.2.2.2.1.trans hz)) hc5 hB hx.fJ ho3 (p3 k3) he50 h40 aA aA aA) fun v6 hv6=>?_;obtain⟨n1,n2,n3⟩:=hv6.parts;have n2l:=congrArg List.length n2;have n1l:=congrArg List.length n1;have hno3:v3.code.length<v6.code.length:=aA;have hc6:Fr.cX g.P v6.loc B (fE v6.gb):=by rw[n1,n3];exact i1
  refine aI ?_;refine b8 10 [aF wb [ptr g.tb, .int .i64 v6.kd, .int .i64 v6.pr, .slice v6.lo v6.loc.length v6.lc, .int .i64 v6.rs, .int .i64 v6.tk, .slice v6.co v6.code.length v6.cc, .slice v6.bo v6.gb.length v6.bc] 225,arr v6.co v6.code.length v6.cc 113 dB v6.code] 11 ?_;refine gP [0,1,2,3,4,5,6] ?_;refine jF 7 (FA v6) fun u hu=>?_;refine gP [8,9] ?_;refine JT 10 ?_;refine aB.j5 (f:=dB) (l:=v6.code) (i:=v3.code.length) (off:=0+1) (vs:=[.int .i64 v6.code.length]) (a':=⟨(v6.code.getD v3.code.length default).op,(v6.code.length:Int),(v6.code.getD v3.code.length default).n⟩) (hp:=(show Put (dB (v6.code.getD v3.code.length default)) 1 _ _ by(repeat(first|exact Put.done|apply Put.take|apply Put.skip)))) (k:=?_);refine JG ?_;refine Jn ?_;refine b6 ?_;obtain⟨C7,hC7⟩:∃C7,C7=v6.code.set v3.code.length ⟨(v6.code.getD v3.code.length default).op,(v6.code.length:Int),(v6.code.getD v3.code.length default).n⟩:=⟨_,rfl⟩;have lC7:v6.code.length=C7.length:=by rw[hC7,Ji]
  have wC7:(v6.cd (v6.co,v6.cc) C7).wr=v6.wr.patch v3.code.length v6.code.length:=by rw[hC7];rfl
  rw[←hC7,lC7];obtain⟨v7,hv7⟩:∃v7,v7=v6.cd (v6.co,v6.cc) C7:=⟨_,rfl⟩;rw[←hv7]at wC7;have lv7:v7.code.length=v6.code.length:=by rw[hv7];exact lC7.symm
  refine aI ?_;refine End.pJ v7 (ht:=by rw[hv7];exact cA) (hp:=?_);rw[hv7];refine⟨hv6.1.trans (hv5o.2.2.1.trans hv3.1),hv6.2.1.trans (hv5o.2.2.2.1.trans hv3.2.1),hv6.2.2.1.trans (hv5o.2.2.2.2.1.trans hv3.2.2.1),hv6.2.2.2.1.trans (hv5o.2.2.2.2.2.trans hv3.2.2.2.1),?_⟩;rw[←hv7]
  (try dsimp only)
  rw[←hv4w,show v4.wr.patch we.1.code.length v4.wr.code.length=v5.wr from wC5.symm,←hv6.2.2.2.2,wC7];show v6.wr.patch v3.code.length v6.code.length=v6.wr.patch (v4.code.length-1) v6.code.length;rw[hv4l,Nat.add_sub_cancel]
 rw[if_neg k3]at hgr⊢
 by_cases k4:x.k=4
 ·rw[if_pos k4]at hgr⊢;rw[if_neg (show¬x.k=6 by omega),if_pos (show x.k=3∨x.k=4 by omega),if_neg k3]at hl1 hl2;obtain⟨t,ht⟩:=p1 aA;obtain⟨c1,c2,ho1⟩:=q1 aA;obtain⟨hb50,b1,b2,ho2⟩:=q2 aA;refine aI ?_;refine dD (FA z) fun u hu=>?_;refine bU (KK cs g D tv ok x.x wb _ _ z B _ c1 c2 t hz hc hB hE ho1 ht hfz aA) fun a1 ha1=>?_;rw[←hwe];refine aI ?_;refine bU (iE (z.cd a1 we.1.code) ⟨hfz.lo,by show we.1.code.length≤_;omega,hfz.gb⟩ 22 0 0) fun a2 ha2=>?_;have hz2:((z.cd a1 we.1.code).j4 ⟨22,0,0⟩ a2).wr=we.1.put 22 0 0:=by
   show Fr.Wr.mk z.loc (we.1.code ++[_]) (fE z.gb)=Fr.Wr.mk we.1.locals (we.1.code ++[_]) we.1.blocks;rw[ke1,ke2]
  have hz2l:((z.cd a1 we.1.code).j4 ⟨22,0,0⟩ a2).code.length=we.1.code.length+1:=by show(we.1.code ++[_]).length=_;simp
  obtain⟨f1,⟨u1,f2,f3⟩,f4,f5⟩:=Fr.EJ ok.gen hB ho2 (p2 aA) (show Fr.cX g.P ((z.cd a1 we.1.code).j4 ⟨22,0,0⟩ a2).wr.locals B ((z.cd a1 we.1.code).j4 ⟨22,0,0⟩ a2).wr.blocks from hc);refine aI ?_;refine bU (E9 cs g D tv ok x.body ihb wb _ _ ((z.cd a1 we.1.code).j4 ⟨22,0,0⟩ a2) B d b1 b2 hz hc hB hx.body ho2 (p2 aA) hb50 h40 hgd aA (by show z.loc.length+_≤_;omega)) fun v3 hv3=>?_;rw[hz2]at hv3 f1 f2 f4 f5;obtain⟨m1,m2,m3⟩:=hv3.parts;have m2l:=congrArg List.length m2;have m1l:=congrArg List.length m1;rw[f2,Jl,show(we.1.put 22 0 0).locals.length=z.loc.length by show we.1.locals.length=_;rw[ke1]]at m1l;rw[show(we.1.put 22 0 0).code.length=we.1.code.length+1 by simp[Fr.Wr.put]]at f4 f5;have hc3:Fr.cX g.P v3.loc B (fE v3.gb):=by rw[m1,m3];exact f1
  have hg3:v3.gb.length=z.gb.length:=by rw[xX hc3,xX hc]
  refine aI ?_;refine bU (iE v3 ⟨aA,aA,aA⟩ 21 (z.code.length:Int) 0) fun a4 ha4=>?_;obtain⟨v4,hv4⟩:∃v4,v4=v3.j4 ⟨21,(z.code.length:Int),0⟩ a4:=⟨_,rfl⟩;have hv4l:v4.code.length=v3.code.length+1:=by rw[hv4];show(v3.code ++[_]).length=_;simp
  have hno:(z.cd a1 we.1.code).code.length<v4.code.length:=by show we.1.code.length<_;omega
  have hv4w:v4.wr=(Fr.bZ g.P tv (aM.bV x.body) (we.1.put 22 0 0).open_).close.put 21 z.wr.code.length 0:=by rw[hv4,←hv3.2.2.2.2];rfl
  have hv4o:v4.kd=v3.kd∧v4.pr=v3.pr∧v4.rs=v3.rs∧v4.tk=v3.tk:=by rw[hv4];exact⟨rfl,rfl,rfl,rfl⟩
  refine aI ?_;refine aG.only (aO w S::(g.R cs ++(g.m ++wM wb g.tb v4))) (by rw[hv4];exact cA) ?_;refine Jn ?_;refine b8 10 [aF wb [ptr g.tb, .int .i64 v4.kd, .int .i64 v4.pr, .slice v4.lo v4.loc.length v4.lc, .int .i64 v4.rs, .int .i64 v4.tk, .slice v4.co v4.code.length v4.cc, .slice v4.bo v4.gb.length v4.bc] 225,arr v4.co v4.code.length v4.cc 113 dB v4.code] 11 ?_;refine gP [0,1,2,3,4,5,6] ?_;refine jF 7 (FA v4) fun u hu=>?_;refine gP [8,9] ?_;refine JT 10 ?_;refine aB.j5 (f:=dB) (l:=v4.code) (i:=we.1.code.length) (off:=0+1) (vs:=[.int .i64 v4.code.length]) (a':=⟨(v4.code.getD we.1.code.length default).op,(v4.code.length:Int),(v4.code.getD we.1.code.length default).n⟩) (hp:=(show Put (dB (v4.code.getD we.1.code.length default)) 1 _ _ by(repeat(first|exact Put.done|apply Put.take|apply Put.skip)))) (k:=?_);refine JG ?_;refine Jn ?_;refine b6 ?_;obtain⟨C5,hC5⟩:∃C5,C5=v4.code.set we.1.code.length ⟨(v4.code.getD we.1.code.length default).op,(v4.code.length:Int),(v4.code.getD we.1.code.length default).n⟩:=⟨_,rfl⟩;have lC5:v4.code.length=C5.length:=by rw[hC5,Ji]
  have wC5:(v4.cd (v4.co,v4.cc) C5).wr=v4.wr.patch we.1.code.length v4.code.length:=by rw[hC5];rfl
  rw[←hC5,lC5];obtain⟨v5,hv5⟩:∃v5,v5=v4.cd (v4.co,v4.cc) C5:=⟨_,rfl⟩;rw[←hv5]at wC5;have lv5:v5.code.length=v4.code.length:=by rw[hv5];exact lC5.symm
  refine aI ?_;refine End.pJ v5 (ht:=by rw[hv5];exact cA) (hp:=?_);rw[hv5];refine⟨hv4o.1.trans hv3.1,hv4o.2.1.trans hv3.2.1,hv4o.2.2.1.trans hv3.2.2.1,hv4o.2.2.2.trans hv3.2.2.2.1,?_⟩;rw[←hv5]
  (try dsimp only)
  rw[←hv4w,wC5]
 rw[if_neg k4]at hgr⊢
 by_cases k6:x.k=6
 ·rw[if_pos k6];refine aI ?_;refine dD (iE z hfz 25 0 0) fun a2 ha2=>?_;exact End.pJ (z.j4 ⟨25,0,0⟩ a2) (hp:=⟨rfl,rfl,rfl,rfl,rfl⟩)
 rw[if_neg k6]at hgr hl1 hl2⊢;obtain⟨t,ht⟩:=p1 k6;obtain⟨c1,c2,ho1⟩:=q1 k6;refine aI ?_;refine bU (KK cs g D tv ok x.x wb _ _ z B _ c1 c2 t hz hc hB hE ho1 ht hfz aA) fun a1 ha1=>?_;rw[←hwe];have hf1:(z.cd a1 we.1.code).uW:=⟨hfz.lo,by show we.1.code.length≤_;omega,hfz.gb⟩;have put:∀(op a n:Int) (a2:Option Addr×Nat),((z.cd a1 we.1.code).j4 ⟨op,a,n⟩ a2).wr=we.1.put op a n:=fun op a n a2=>by
  show Fr.Wr.mk z.loc (we.1.code ++[_]) (fE z.gb)=Fr.Wr.mk we.1.locals (we.1.code ++[_]) we.1.blocks;rw[ke1,ke2]
 unfold Fr.nP;refine aI ?_
 by_cases k1:x.k=1
 ·rw[if_pos k1];obtain⟨t',c0,r,ht',hno,hb0, -⟩:=hB1 k1;obtain⟨pre,last,hpl⟩:∃pre last,z.gb=pre ++[last]:=⟨_,_,(List.dropLast_concat_getLast (List.ne_nil_of_length_pos hg0)).symm⟩;have hml:bG last.l x.s=none:=by
   rw[hb0,hpl,CH]at hc;rw[F9];refine(Fr.iJ.EI (s:=x.s) hc.1).2 ?_;rw[hb0,Fr.eN]at hno
   cases ha:Fr.at_ c0 x.s with
   |none=>rfl
   |some _=>rw[ha]at hno;cases hno
  refine aI ?_;refine dD (R9 (z.cd a1 we.1.code) hf1 pre last hpl x.s we.2 hml) fun a2 ha2=>?_;refine dD (iE ((z.cd a1 we.1.code).AB pre last x.s we.2 a2) ⟨by show(z.loc ++[_]).length≤_;rw[Jl,gE];omega,hf1.co,by show(pre ++[_]).length≤_;have:=hf1.gb;rw[show(z.cd a1 we.1.code).gb=z.gb from rfl,hpl]at this;simpa using this⟩ 4 (z.loc.length:Int) 0) fun a3 ha3=>?_;refine End.dL (((z.cd a1 we.1.code).AB pre last x.s we.2 a2).j4 ⟨4,(z.loc.length:Int),0⟩ a3) (hp:=⟨rfl,rfl,rfl,rfl,?_⟩);have h1:=TE (z.cd a1 we.1.code) pre last x.s we.2 a2 hpl;rw[wcd]at h1;rw[show we.1.locals.length=z.loc.length by rw[ke1],←h1];rfl
 rw[if_neg k1]
 by_cases k2:x.k=2
 ·rw[if_pos k2];refine aI ?_;refine bU (SA (z.cd a1 we.1.code) hf1 x.s) fun u hu=>?_;rw[wcd];refine aI ?_;refine dD (iE (z.cd a1 we.1.code) hf1 4 (we.1.look x.s) 0) fun a2 ha2=>?_;exact End.dL ((z.cd a1 we.1.code).j4 ⟨4,(we.1.look x.s:Int),0⟩ a2) (hp:=⟨rfl,rfl,rfl,rfl,put _ _ _ _⟩)
 rw[if_neg k2]
 by_cases k5:x.k=5
 ·rw[if_pos k5];refine aI ?_;refine dD (iE (z.cd a1 we.1.code) hf1 24 0 0) fun a2 ha2=>?_;exact End.dL ((z.cd a1 we.1.code).j4 ⟨24,0,0⟩ a2) (hp:=⟨rfl,rfl,rfl,rfl,put _ _ _ _⟩)
 rw[if_neg k5]
 by_cases k7:x.k=7
 ·rw[if_pos k7];refine aI ?_;rw[AK,QJ];refine dD (iE (z.cd a1 we.1.code) hf1 26 (Fr.iC g.P x.s) 0) fun a2 ha2=>?_;exact End.dL ((z.cd a1 we.1.code).j4 ⟨26,(Fr.iC g.P x.s:Int),0⟩ a2) (hp:=⟨rfl,rfl,rfl,rfl,put _ _ _ _⟩)
 rw[if_neg k7]
 by_cases k8:x.k=8
 ·rw[if_pos k8];refine aI ?_;refine dD (iE (z.cd a1 we.1.code) hf1 28 0 0) fun a2 ha2=>?_;exact End.dL ((z.cd a1 we.1.code).j4 ⟨28,0,0⟩ a2) (hp:=⟨rfl,rfl,rfl,rfl,put _ _ _ _⟩)
 rw[if_neg k8];have k9:x.k=9:=aA;rw[if_pos k9];refine aI ?_;refine dD (iE (z.cd a1 we.1.code) hf1 5 0 0) fun a2 ha2=>?_;exact End.dL ((z.cd a1 we.1.code).j4 ⟨5,0,0⟩ a2) (hp:=⟨rfl,rfl,rfl,rfl,put _ _ _ _⟩)
theorem UL:∀{l:List DL} {c c':Nat},c≤2000→Fr.lS (l.map DL.df) c=some c'→∀d∈l,d.kind≠1→∃c1 c2,Fr.eH 2 (aM.bV d.body) c1=some c2∧Fr.kU (aM.bV d.body)≤2000
 |[],_,_,_,_,d,hd=>by simp at hd
 |x::l,c,c',hc,h,d,hd=>by
  rw[fI,Fr.lS]at h;obtain⟨c1,h1,h⟩:=bF.1 h;have hu:=Fr.YH h1 hc;rcases cY.1 hd with rfl|hd
  ·intro hk;rw[GK]at h1;obtain⟨c2,hn,h1⟩:=bF.1 h1
   split at h1
   ·split at h1
    ·cases h1
    ·exact⟨c2,c1,h1,by have:=Fr.GG _ _ _ _ h1;omega⟩
   ·cases h1
  ·exact UL hu.1 h d hd
structure O9(x:cT):Prop where
 eL:x.l.length≤30
 shp:∀d∈x.l,d.fO
 nd:((x.l.map DL.df).map (·.name)).Nodup
 gS:∀d∈x.l.map DL.df,Fr.gR (x.l.map DL.df) d=true
 aAH:∀d∈x.l.map DL.df,Fr.mC (x.l.map DL.df) d=true
 bV:∀d∈x.l,d.kind≠1→∃c1 c2,Fr.eH 2 (aM.bV d.body) c1=some c2∧Fr.kU (aM.bV d.body)≤2000
theorem aFR{x:cT}(h:nX (x.l.map DL.df)=true):O9 x:=by
 unfold nX at h;simp only[JX]at h;obtain⟨⟨⟨⟨hsh,hnd⟩, -⟩,hh⟩,hb⟩:=h;obtain⟨h30,hS⟩:=GZ hsh;refine⟨h30,hS,of_decide_eq_true hnd,pD.1 hh,pD.1 hb,?_⟩;unfold Fr.shaped at hsh;rw[JX]at hsh;obtain⟨c,hc⟩:=lK.1 hsh.2;exact UL aA hc
abbrev j8(u:UC):List Chunk:=[arr u.lo u.u.locals.length u.lc 3 aY u.u.locals,arr u.co u.u.code.length u.cc 113 dB u.u.code]
set_option maxHeartbeats 4000000 in
theorem aCB(cs:List Chunk)(g:GT)(hdf:oH cs g.x.o g.x.c g.x.l)(hr:O9 g.x)(i:Nat)(hi:i<g.x.l.length)(hk:(g.x.l.getD i default).kind≠1):Fn Tryz.prog 56 #[ptr g.tb,fD g.x i] (g.R cs) g.m (σ:=UC) (fun u=>u.u=Fr.fH g.P (jQ g.x i)) (fun u=> .agg (m6 u).toArray) (fun u=>g.m ++j8 u):=by
 have hin:=hdf.at hi;have hmem:=dW hi;have hS:=hr.shp _ hmem;have hHD:=hr.gS _ (mR hmem);have hBD:=hr.aAH _ (mR hmem);obtain⟨c1,c2,ho,hn2⟩:=hr.bV _ hmem hk;obtain⟨d,de⟩:∃d,g.x.l.getD i default=d:=⟨_,rfl⟩;have hDm:d.df∈g.P:=by rw[←de];exact mR hmem
 rw[show jQ g.x i=d.df by rw[←de]];rw[de]at hin hS hHD hBD ho hk hn2;obtain⟨hk1,hk4⟩:=hS.kind;obtain⟨hb50, -⟩:=hS.body hk;have hD:=hin.has;have hp:=hin.uE;refine JE [ptr g.tb,fD g.x i] Tryz.func56 Tryz.ntmps56 fun w S=>?_;refine Jn ?_
 repeat(refine Fm ?_;try intro b)
 apply aE.op aV;refine aB.pO (κ:=aH) iW aV fun mb=>?_;refine Jn ?_
 repeat(refine Fm ?_;try intro b)
 obtain⟨wb,rfl⟩:=a7 b;obtain⟨sb',rfl⟩:∃x,x=b:=⟨_,rfl⟩;obtain⟨rb,rfl⟩:=a7 b;apply aG.imp (fun w hm=>hm.jB (b:=sb') (f:=xR) tk [⟨mb,[]⟩] (n:=1) (by simp[xR]) rfl (by unfold maxLen;omega));apply aG.imp (fun w hm=>(hm.take (show Take (mp mb iW ([]:List (aH×Nat))) _ _ from tk)).pack (cs:=[kT ⟨mb,[]⟩]) (by simp[kT,gU]));apply aG.imp (fun w hm=>(hm.cU 3 aY).cU 113 dB);refine aG.only (aO w S::(g.R cs ++(aF rb [.int .i64 0, .int .i64 0, .slice none 0 0, .int .i64 0, .int .i64 0, .slice none 0 0] 88::(g.m ++wM wb g.tb ⟨d.kind,0,0,0,none,0,[],none,0,[],some ⟨sb',0,none⟩,1,[⟨mb,[]⟩]⟩)))) cA ?_;refine Jn ?_;have hhp:d.kind≠4→(d.params.map (·.name)).Nodup∧∀p∈d.params,Fr.gA g.P p.type=true:=fun h4=>Fr.FF hHD (by show d.kind=2∨d.kind=3;omega);have ht:(Fr.fC g.P d.df ([]::[j0 d]) (aM.bV d.body)).isSome=true:=by
  unfold Fr.mC at hBD;rw[decide_eq_false (show¬d.df.kind=1 from hk),Bool.false_or]at hBD;exact hBD
 have hB:Fr.gV g.P [j0 d]:=fun b hb p hp=>by
  rw[show b=j0 d from dY.1 hb]at hp;unfold j0 at hp
  split at hp
  ·cases hp
  ·next h4=>
   obtain⟨q,hq,rfl⟩:=eY.1 hp;exact GL ((hhp h4).2 q hq)
 obtain⟨tv,htv⟩:∃tv,tv=if d.kind=3 then Fr.bO g.P d.aP else 0:=⟨_,rfl⟩;have ok:GT.Ok cs g d.df tv:=⟨hdf,hr.eL,hr.nd,hr.gS,hDm,fun h3=>by rw[htv];exact if_pos h3⟩;obtain⟨W0,hW0⟩:∃W0:Fr.Wr,W0=(if d.kind=4 then []else d.params).foldl (fun w p=>w.gK p.name (Fr.bO g.P p.type)) ⟨[],[],[[]]⟩:=⟨_,rfl⟩;refine CA (σ:=WM) (fun z=>z.kd=d.kind∧z.pr=(if d.kind=4 then 0 else(d.params.length:Int))∧z.rs=(if d.kind=4 then 0 else Fr.bO g.P d.type)∧z.tk=0∧z.wr=W0∧z.gb.length=1∧z.loc.length≤6∧z.code=[]∧Fr.cX g.P z.loc [j0 d] (fE z.gb)) (fun _=>[(0,ptr g.tb),(1,fD g.x i),(4,ptr rb),(5,ptr wb)]) (fun z=>aO w S::(g.R cs ++(aF rb [.int .i64 0, .int .i64 0, .slice none 0 0, .int .i64 0, .int .i64 0, .slice none 0 0] 88::(g.m ++wM wb g.tb z)))) ?_ ?_
 ·rintro z ⟨z1,z2,z3,z4,z5,z6,z7,z8,z9⟩;refine aI ?_;refine CA (σ:=Unit) (fun _=>True) (fun _=>[(0,ptr g.tb),(1,fD g.x i),(4,ptr rb),(5,ptr wb)]) (fun _=>aO w S::(g.R cs ++(aF rb [.int .i64 0, .int .i64 0, .slice none 0 0, .int .i64 0, .int .i64 0, .slice none 0 0] 88::(g.m ++wM wb g.tb {z with tk:=tv})))) ?_ ?_
  ·intro _ _;refine Jn ?_;obtain⟨z0,hz0⟩:∃z0:WM,z0={z with tk:=tv}:=⟨_,rfl⟩;have y9:Fr.cX g.P z0.loc [j0 d] (fE z0.gb):=by rw[hz0];exact z9
   have y5:z0.wr=W0:=by rw[hz0];exact z5
   have ycode:z0.code.length=0:=by rw[hz0];show z.code.length=0;rw[z8];rfl
   have yloc:z0.loc.length≤6:=by rw[hz0];exact z7
   have ygb:z0.gb.length=1:=by rw[hz0];exact z6
   have ytk:z0.tk=tv:=by rw[hz0]
   have yo:z0.kd=d.kind∧z0.pr=(if d.kind=4 then 0 else(d.params.length:Int))∧z0.rs=(if d.kind=4 then 0 else Fr.bO g.P d.type):=by rw[hz0];exact⟨z1,z2,z3⟩
   rw[←hz0];clear z1 z2 z3 z4 z5 z6 z7 z8 z9 hz0;obtain⟨f1,⟨u1,f2,f3⟩,f4,f5⟩:=Fr.EJ ok.gen hB ho ht (show Fr.cX g.P z0.wr.locals [j0 d] z0.wr.blocks from y9);have e1:z0.wr.code.length=z0.code.length:=rfl;have e2:z0.wr.locals.length=z0.loc.length:=rfl;refine aI ?_;refine bU (E9 cs g d.df tv ok d.body (fun y _=>aBz cs g d.df tv ok y) wb _ _ z0 [j0 d] 1 c1 c2 ytk y9 hB hin.body ho ht hb50 aA aA aA aA) fun v hv=>?_;obtain⟨m1,m2,m3⟩:=hv.parts;have m2l:=congrArg List.length m2;have m1l:=congrArg List.length m1;rw[f2,Jl]at m1l;have hcv:Fr.cX g.P v.loc [j0 d] (fE v.gb):=by rw[m1,m3];exact f1
   have hgv:v.gb.length=1:=by rw[xX hcv];rfl
   have hfv:v.uW:=⟨aA,aA,aA⟩;have hU:Fr.fH g.P d.df=(let w:=(Fr.bZ g.P tv (aM.bV d.body) z0.wr.open_).close
     let w:=if d.kind=2 then(w.put (if z0.rs=2 then 2 else 1) 0 0).put 24 0 0 else w.put 25 0 0
     (⟨z0.kd,z0.pr,w.locals,z0.rs,z0.tk,w.code⟩:ImgM.bM)):=by
    rw[y5,hW0,ytk,htv,yo.1,yo.2.1,yo.2.2];rfl
   have hvk:v.kd=z0.kd∧v.pr=z0.pr∧v.rs=z0.rs∧v.tk=z0.tk:=⟨hv.1,hv.2.1,hv.2.2.1,hv.2.2.2.1⟩;rw[←hv.2.2.2.2]at hU;dsimp only at hU
   by_cases k2:d.kind=2
   rotate_left
   ·rw[if_neg k2]at hU;refine aI ?_;refine dD (iE v hfv 25 0 0) fun a ha=>?_;refine End.fX (⟨⟨v.kd,v.pr,v.loc,v.rs,v.tk,v.code ++[⟨25,0,0⟩]⟩,v.lo,v.lc,a.1,a.2⟩:UC) (he:=rfl) (hp:=?_);rw[hU,hvk.1,hvk.2.1,hvk.2.2.1,hvk.2.2.2];rfl
   ·rw[if_pos k2]at hU;refine aI ?_
    by_cases h2:v.rs=2
    ·rw[if_pos (hvk.2.2.1▸h2)]at hU;refine aI ?_;refine dD (iE v hfv 2 0 0) fun a ha=>?_;refine dD (iE (v.j4 ⟨2,0,0⟩ a) ⟨hfv.lo,by show(v.code ++[_]).length≤_;rw[Jl,gE];omega,hfv.gb⟩ 24 0 0) fun a2 ha2=>?_;refine End.fX (⟨⟨v.kd,v.pr,v.loc,v.rs,v.tk,v.code ++[⟨2,0,0⟩] ++[⟨24,0,0⟩]⟩,v.lo,v.lc,a2.1,a2.2⟩:UC) (he:=rfl) (hp:=?_);rw[hU,hvk.1,hvk.2.1,hvk.2.2.1,hvk.2.2.2];rfl
    ·rw[if_neg (fun h=>h2 (hvk.2.2.1.trans h))]at hU;refine aI ?_;refine dD (iE v hfv 1 0 0) fun a ha=>?_;refine dD (iE (v.j4 ⟨1,0,0⟩ a) ⟨hfv.lo,by show(v.code ++[_]).length≤_;rw[Jl,gE];omega,hfv.gb⟩ 24 0 0) fun a2 ha2=>?_;refine End.fX (⟨⟨v.kd,v.pr,v.loc,v.rs,v.tk,v.code ++[⟨1,0,0⟩] ++[⟨24,0,0⟩]⟩,v.lo,v.lc,a2.1,a2.2⟩:UC) (he:=rfl) (hp:=?_);rw[hU,hvk.1,hvk.2.1,hvk.2.2.1,hvk.2.2.2];rfl
  ·intro K' hK
   by_cases k3:d.kind=3
   ·rw[if_pos k3]at htv;refine n7 ?_;refine bU (zS cs g hr.eL d.aP) fun u hu=>?_;rw[←htv];refine aI ?_;refine End.some_ hK () ?_;trivial
   ·rw[if_neg k3]at htv;subst htv;rw[show({z with tk:=0}:WM)=z by rw[←z4]]at hK;refine aI ?_;refine End.some_ hK () ?_;trivial
 ·intro K' hK
  by_cases k4:d.kind=4
  ·rw[if_pos k4]at hW0;refine aI ?_;refine End.some_ hK (⟨d.kind,0,0,0,none,0,[],none,0,[],some ⟨sb',0,none⟩,1,[⟨mb,[]⟩]⟩:WM) ?_;refine⟨rfl,(if_pos k4).symm,(if_pos k4).symm,rfl,hW0.symm▸rfl,rfl,bQ _,rfl,?_⟩;rw[show j0 d=[]from if_pos k4];exact⟨trivial,trivial⟩
  ·have h6:=hS.uE aA;obtain⟨hnd,hok⟩:=hhp k4;rw[if_neg k4]at hW0;refine aI ?_;refine b8 21 [bX cs] 21 ?_;refine iU [0,1,2,3,4] ?_;refine TH 5 ?_;refine iU [6,7,8,9,10] ?_;refine TH 11 ?_;refine jF 12 (zS cs g hr.eL d.type) fun u hu=>?_;refine iU [13,14,15] ?_;refine gWl [16] ?_;refine iU [17,18,19] ?_;refine gWl [20] ?_;refine b6 ?_;refine aI ?_;refine cK (σ:=Nat×WM) (fun y=>y.1≤d.params.length∧(y.2.kd=d.kind∧y.2.pr=(d.params.length:Int)∧y.2.rs=Fr.bO g.P d.type∧y.2.tk=0)∧y.2.wr=(d.params.take y.1).foldl (fun w p=>w.gK p.name (Fr.bO g.P p.type)) ⟨[],[],[[]]⟩∧y.2.gb.length=1∧y.2.loc.length=y.1∧y.2.code=[]∧Fr.cX g.P y.2.loc [(d.params.take y.1).map wH] (fE y.2.gb)) (fun y=>[(0,ptr g.tb),(1,fD g.x i),(4,ptr rb),(5,ptr wb),(45, .slice d.po d.params.length d.pc),(46, .int .i64 d.params.length),(47, .int .i64 y.1)]) (fun y:Nat×WM=>aO w S::(g.R cs ++(aF rb [.int .i64 0, .int .i64 0, .slice none 0 0, .int .i64 0, .int .i64 0, .slice none 0 0] 88::(g.m ++wM wb g.tb y.2)))) (fun y=>d.params.length-y.1) (0,⟨d.kind,(d.params.length:Int),Fr.bO g.P d.type,0,none,0,[],none,0,[],some ⟨sb',0,none⟩,1,[⟨mb,[]⟩]⟩) ?_ fun y hy K2 hK2=>?_
   ·exact⟨bQ _,⟨rfl,rfl,rfl,rfl⟩,rfl,rfl,rfl,rfl,trivial,trivial⟩
   refine Jn ?_;obtain⟨j,v⟩:=y;obtain⟨hj,hfl,hw,hg1,hlj,hcd,hcor⟩:=hy;dsimp only at hj hfl hw hg1 hlj hcd hcor⊢
   by_cases hlt:j<d.params.length
   rotate_left
   ·have hje:d.params.take j=d.params:=kN aA;rw[hje]at hw hcor;refine aI ?_;refine End.some_ hK v ?_;exact⟨hfl.1,by rw[if_neg k4];exact hfl.2.1,by rw[if_neg k4];exact hfl.2.2.1,hfl.2.2.2,hw.trans hW0.symm,hg1,aA,hcd,by rw[show j0 d=d.params.map wH from if_neg k4];exact hcor⟩
   have hpj:=Has.elem hp hlt;have htk:=mM hlt;obtain⟨last,hg⟩:∃last,v.gb=[last]:=by
    match hv:v.gb with
    |[]=>rw[hv]at hg1;cases hg1
    |[a]=>exact⟨a,rfl⟩
    |_::_::_=>rw[hv]at hg1;simp at hg1
   have hno:bG last.l (d.params.getD j default).name=none:=by
    rw[hg]at hcor;rw[F9];refine(Fr.iJ.EI (s:=(d.params.getD j default).name) hcor.1).2 ?_;rw[←F8];refine LQ _ _ _ (fun h=>?_);have hn2:=((List.take_sublist (j+1) d.params).map (·.name)).nodup hnd;rw[htk,Jq]at hn2;exact absurd rfl ((r9.1 hn2).2.2 _ h _ aW)
   repeat(refine Fm ?_;try intro b)
   obtain⟨pb,rfl⟩:=a7 b;refine b8 8 [aF pb (oW (d.params.getD j default)) 227] 8 ?_;refine iU [0,1,2,3,4,5] ?_;refine jF 6 (zS cs g hr.eL (d.params.getD j default).type) fun u hu=>?_;refine jF 7 (R9 v ⟨aA,by rw[hcd];simp,aA⟩ [] last hg (d.params.getD j default).name (Fr.bO g.P (d.params.getD j default).type) hno) fun a ha=>?_;refine b6 ?_;refine aI ?_;refine End.bK hK2 (j+1,v.AB [] last (d.params.getD j default).name (Fr.bO g.P (d.params.getD j default).type) a) ⟨hlt,hfl,?_,rfl,by show(v.loc ++[_]).length=_;rw[Jl];simp[hlj],hcd,?_⟩ (by dsimp only;omega)
   ·dsimp only;rw[TE v [] last _ _ a hg,htk,List.foldl_append,←hw];rfl
   ·dsimp only;rw[htk,Jq];rw[hg]at hcor;refine⟨Fr.iJ.snoc aW (by rw[Jd];simp[Fr.m5]) (hcor.1.mono _),trivial⟩
end
end Vw
end Go.Proofs.YtofckcabpchcmaaGreatDoor
