/- Package gen, walked: bodies. -/
import Derived.Test.YtofckcabpchcmaaGreatDoorM27
set_option linter.unusedVariables false
set_option linter.unusedSimpArgs false
set_option linter.unusedSectionVars false
set_option maxRecDepth 100000
namespace Go.Proofs.YtofckcabpchcmaaGreatDoor
namespace Fr
open ImgM
theorem DK{P:List Df}{D:Df}{tv:Int}(G:C9 P D tv){B:Scope}(hB:kX P B){l:List St}{w:Wr}{d c c':Nat}(ho:dZ d l c=some c')(hs:(e8 P D ([]::B) l).isSome=true)(hc:cQ P w.locals B w.blocks):
  cQ P (eA P tv l w.open_).close.locals B (eA P tv l w.open_).close.blocks∧pD w (eA P tv l w.open_).close (j7 l):=by
 obtain⟨B2,hB2⟩:=lN.1 hs;obtain⟨i1,i2⟩:=C2 G l w.open_ ([]::B) B2 _ _ _ (uW hB) ⟨trivial,hc⟩ ho hB2;obtain⟨t1, -, -⟩:=NO G.nS G.mem (uW hB) hB2;refine⟨?_,i2⟩;have:=i1.tail;rw[t1]at this;exact this
theorem aDc{k:Int}{s:aF}{x:Ex}{b e:List St}{d c c':Nat}(h:jO d (.mk k s x b e) c=some c'):d≤40∧s4 k s=true∧(k≠6→∃c1 c2,iD (d+1) x c1=some c2)∧(k=3∨k=4→b.length≤50∧∃c1 c2,dZ (d+1) b c1=some c2)∧(k=3→e.length≤50∧∃c1 c2,dZ (d+1) e c1=some c2):=by
 rw[jO]at h;obtain⟨c1,h1,h⟩:=bO.1 h;have hd:d≤40:=by
  unfold nd at h1
  by_cases h2:2000<c+1∨40<d
  ·rw[if_pos h2]at h1;cases h1
  ·omega
 split at h
 ·next hh=>
  refine⟨hd,hh,?_⟩
  by_cases h6:k=6
  ·exact⟨fun h=>absurd h6 h,fun h=>by omega,fun h=>by omega⟩
  ·rw[if_neg h6]at h;obtain⟨c2,h2,h⟩:=bO.1 h;obtain⟨c3,h3,h⟩:=bO.1 h;refine⟨fun _=>⟨_,_,h2⟩,fun h34=>?_,fun h33=>?_⟩
   ·rw[if_pos h34]at h3
    split at h3
    ·cases h3
    ·exact⟨by omega,_,_,h3⟩
   ·rw[if_pos h33]at h
    split at h
    ·cases h
    ·exact⟨by omega,_,_,h⟩
 ·cases h
end Fr
namespace Vw
open Go.RowKit Img
section
attribute [local irreducible] aE aB End aA Still aM aP RunT Fn aO
def WM.Is(z v:WM)(w:Fr.Wr):Prop:=v.kd=z.kd∧v.pr=z.pr∧v.rs=z.rs∧v.tk=z.tk∧v.wr=w
abbrev G5(cs:List Chunk)(g:GT)(D:Fr.Df)(tv:Int)(x:aJ):Prop:=∀(wb b o:Nat) (z:WM) (B B':Fr.Scope) (d c c':Nat),z.tk=tv→Fr.cQ g.P z.loc B (eU z.gb)→Fr.kX g.P B→rK cs b o x→Fr.jO d x.st c=some c'→Fr.mK g.P D B x.st=some B'→0<z.gb.length→z.gb.length≤d→z.code.length+2*Fr.uU x.st≤90000→z.loc.length+Fr.uU x.st≤90000→
 Fn Tryz.prog 139 #[ptr wb, .pointer (some ⟨b,o,none⟩)] (g.R cs) (g.m ++wM wb g.tb z) (σ:=WM) (fun v=>z.Is v (Fr.pA g.P tv x.st z.wr)) (fun _=> .tuple #[]) (fun v=>g.m ++wM wb g.tb v)
theorem wU{z:WM}{B:Fr.Scope}{P:List Fr.Df}{lo:List Int}(h:Fr.cQ P lo B (eU z.gb)):z.gb.length=B.length:=by
 rw[h.len];simp[eU]
set_option maxHeartbeats 1000000 in
theorem D4(cs:List Chunk)(g:GT)(D:Fr.Df)(tv:Int)(ok:GT.Ok cs g D tv)(l:List aJ)(ih:∀y∈l,G5 cs g D tv y)(wb:Nat)(a:Option Addr)(ca:Nat)(z:WM)(B:Fr.Scope)(d c c':Nat)(hz:z.tk=tv)(hc:Fr.cQ g.P z.loc B (eU z.gb))(hB:Fr.kX g.P B)(hl:sR cs a ca l)(ho:Fr.dZ (d+1) (aJ.bR l) c=some c')(hty:(Fr.e8 g.P D ([]::B) (aJ.bR l)).isSome=true)
  (h50:l.length≤50) (hd:d≤40) (hgd:z.gb.length≤d) (h1:z.code.length+2*Fr.j7 (aJ.bR l)≤90000) (h2:z.loc.length+Fr.j7 (aJ.bR l)≤90000):
  Fn Tryz.prog 99 #[ptr wb, .slice a l.length ca] (g.R cs) (g.m ++wM wb g.tb z) (σ:=WM) (fun v=>z.Is v (Fr.eA g.P tv (aJ.bR l) z.wr.open_).close) (fun _=> .tuple #[]) (fun v=>g.m ++wM wb g.tb v):=by
 have ha:=hl.arr;obtain⟨B2,hB2⟩:=lN.1 hty;refine JE [ptr wb, .slice a l.length ca] Tryz.func99 Tryz.ntmps99 fun w S=>?_;refine Jn ?_
 repeat(refine Fm ?_)
 apply aE.op (by exact rfl);refine aA.oV (κ:=aF) gR (by exact rfl) fun mb=>?_
 refine Jn ?_
 repeat(refine Fm ?_;try intro b)
 (apply aE.op;exact rfl;refine aA.jL (a:=(⟨mb,[]⟩:Gb)) (k:=?_);intro ao cap;(refine Jn ?_));refine aE.imp (fun w hm=>hm.mA (cs:=(z.gb ++[(⟨mb,[]⟩:Gb)]).map jZ) (ds:=[jZ ⟨mb,[]⟩]) (es:=z.gb.map jZ) tk (.cons tk .nil) (by rw[Jq];exact pH) (by simp[jZ,j6])) ?_;rw[show z.gb.length+1=(z.gb ++[(⟨mb,[]⟩:Gb)]).length by simp]
 repeat(refine Fm ?_)
 obtain⟨z0,hz0⟩:∃z0:WM,z0={z with bo:=ao,bc:=cap,gb:=z.gb ++[(⟨mb,[]⟩:Gb)]}:=⟨_,rfl⟩;have hw0:z0.wr=z.wr.open_:=by rw[hz0];show Fr.Wr.mk _ _ (eU (z.gb ++[(⟨mb,[]⟩:Gb)]))=_;rw[BI];rfl
 refine aB.only ((fun y:Nat×WM=>aI w S::(g.R cs ++(g.m ++wM wb g.tb y.2))) (0,{z with bo:=ao,bc:=cap,gb:=z.gb ++[(⟨mb,[]⟩:Gb)]})) (aK) ?_;apply aB.loop (σ:=Nat×WM) (fun y=>y.1≤l.length∧(y.2.kd=z.kd∧y.2.pr=z.pr∧y.2.rs=z.rs∧y.2.tk=z.tk)∧Fr.eA g.P tv (aJ.bR l) z.wr.open_=Fr.eA g.P tv (aJ.bR (l.drop y.1)) y.2.wr∧y.2.gb.length=z.gb.length+1∧y.2.code.length+2*Fr.j7 (aJ.bR (l.drop y.1))≤90000∧y.2.loc.length+Fr.j7 (aJ.bR (l.drop y.1))≤90000∧∃B1 c1,Fr.cQ g.P y.2.loc B1 (eU y.2.gb)∧Fr.kX g.P B1∧Fr.e8 g.P D B1 (aJ.bR (l.drop y.1))=some B2∧Fr.dZ (d+1) (aJ.bR (l.drop y.1)) c1=some c') (fun y=>[(0,ptr wb),(1, .slice a l.length ca),(16, .int .i64 (l.length:Int)),(17, .int .i64 (y.1:Int))]) (fun y:Nat×WM=>aI w S::(g.R cs ++(g.m ++wM wb g.tb y.2))) (fun y=>l.length-y.1) (0,{z with bo:=ao,bc:=cap,gb:=z.gb ++[(⟨mb,[]⟩:Gb)]})
 rotate_left
 exact sb;exact aK;intro y hy K hK;(refine Jn ?_)
 rotate_left
 ·rw[←hz0];refine⟨bP _,⟨by rw[hz0],by rw[hz0],by rw[hz0],by rw[hz0]⟩,by rw[hw0];rfl,by rw[hz0];simp,by rw[hz0];exact h1,by rw[hz0];exact h2,[]::B,c,?_,Fr.uW hB,hB2,ho⟩;rw[hz0];show Fr.cQ g.P z.loc ([]::B) (eU (z.gb ++[(⟨mb,[]⟩:Gb)]));rw[BI];exact⟨trivial,hc⟩
 obtain⟨j,v⟩:=y;obtain⟨hj,hfl,hw,hgl,hb1,hb2,B1,c1,hcor,hsc,hts,hos⟩:=hy;dsimp only at hj hfl hw hgl hb1 hb2 hcor hts hos⊢
 by_cases hlt:j<l.length
 ·rw[nR hlt,aJ.bR]at hw hb1 hb2 hts hos;rw[Fr.eA]at hw;rw[Fr.j7]at hb1 hb2;rw[Fr.e8]at hts;rw[Fr.dZ]at hos;obtain⟨B3,ht3,hts⟩:=bO.1 hts;obtain⟨c3,ho3,hos⟩:=bO.1 hos;obtain⟨g1,g2⟩:=Fr.N3 ok.gen (l.getD j default).st v.wr B1 B3 _ _ _ hsc hcor ho3 ht3
  repeat(refine Fm ?_)
  refine FQ (ih _ (dQ hlt) wb _ _ v B1 B3 _ _ _ (hfl.2.2.2.trans hz) hcor hsc (hl.lF hlt) ho3 ht3 (by omega) (by omega) (by omega) (by omega)) ?_;intro v2 hv2;refine Jn ?_;obtain⟨q1,q2,q3,q4,q5⟩:=hv2
  repeat(refine Fm ?_)
  have hll:v2.loc=(Fr.pA g.P tv (l.getD j default).st v.wr).locals:=congrArg Fr.Wr.locals q5;have hlc:v2.code=(Fr.pA g.P tv (l.getD j default).st v.wr).code:=congrArg Fr.Wr.code q5;have hlb:eU v2.gb=(Fr.pA g.P tv (l.getD j default).st v.wr).blocks:=congrArg Fr.Wr.blocks q5;obtain⟨⟨u,u1,u2⟩,u3,u4⟩:=g2;have hcor2:Fr.cQ g.P v2.loc B3 (eU v2.gb):=by rw[hll,hlb];exact g1
  refine End.bK hK (j+1,v2) ⟨hlt,⟨q1.trans hfl.1,q2.trans hfl.2.1,q3.trans hfl.2.2.1,q4.trans hfl.2.2.2⟩,by rw[hw,←q5],?_,?_,?_,B3,c3,hcor2,Fr.GH ok.gen.nS ok.gen.mem hsc ht3,hts,hos⟩ (by dsimp only;omega)
  ·rw[wU hcor2,(Fr.NN ht3).2,←wU hcor];exact hgl
  ·dsimp only;rw[hlc];have:v.wr.code.length=v.code.length:=rfl;omega
  ·dsimp only;rw[hll,u1,Jl];have:v.wr.locals.length=v.loc.length:=rfl;omega
 ·obtain rfl:j=l.length:=by omega
  rw[List.drop_length,aJ.bR,Fr.eA]at hw;have hi:((v.gb.length:Int)-1).toNat=v.gb.length-1:=by omega
  have hgp:v.gb.length≤100000:=by omega
  have hg0:0<v.gb.length:=by omega
  repeat(refine Fm ?_)
  apply aB.draw 14 ([aD wb [ptr g.tb, .int .i64 v.kd, .int .i64 v.pr, .slice v.lo v.loc.length v.lc, .int .i64 v.rs, .int .i64 v.tk, .slice v.co v.code.length v.cc, .slice v.bo v.gb.length v.bc] 225]) (by kernel_rfl) 15 rfl;refine RunT.a7 0 (hQ:=bA) (h:=?_);refine RunT.a7 1 (hQ:=bA) (h:=?_);refine RunT.a7 2 (hQ:=bA) (h:=?_);refine RunT.a7 3 (hQ:=bA) (h:=?_);refine RunT.a7 4 (hQ:=bA) (h:=?_);refine RunT.a7 5 (hQ:=bA) (h:=?_);refine RunT.a7 6 (hQ:=bA) (h:=?_);refine RunT.a7 7 (hQ:=bA) (h:=?_);refine RunT.a7 8 (hQ:=bA) (h:=?_);refine RunT.a7 9 (hQ:=bA) (h:=?_);refine RunT.a7 10 (hQ:=bA) (h:=?_);(refine JT 11 ?_;(refine Ja ?_;intro ao cap);refine JG ?_);refine RunT.a7 12 (hQ:=bA) (h:=?_);refine RunT.a7 13 (hQ:=bA) (h:=?_);(refine JT 14 ?_;(refine Jw ?_);refine JG ?_);(apply RunT.done;kernel_rfl);obtain⟨t,ht⟩:∃t,t=v.gb.take (v.gb.length-1):=⟨_,rfl⟩;have hlt':v.gb.length-1=t.length:=by rw[ht,lE];omega
  obtain⟨y,hy⟩:∃y,v.gb=t ++[y]:=⟨v.gb.getLast (List.ne_nil_of_length_pos hg0),by rw[ht,←List.dropLast_eq_take,List.dropLast_concat_getLast]⟩;rw[hi,←ht,hlt'];apply End.imp (fun w hm=>hm.nO (ds:=[jZ y]) (es:=t.map jZ) tk (by rw[hy,Jq];exact pH))
  repeat(refine Fm ?_)
  refine End.cY ({v with bo:=ao,bc:=cap,gb:=t}:WM) (hp:=⟨hfl.1,hfl.2.1,hfl.2.2.1,hfl.2.2.2,?_⟩);rw[hw];show Fr.Wr.mk v.loc v.code (eU t)=Fr.Wr.mk v.loc v.code (eU v.gb).tail;rw[hy,BI];rfl
theorem aFy(x:aJ):x.st= .mk x.k x.s x.x.ex (aJ.bR x.body) (aJ.bR x.eY):=by cases x;rfl
theorem WM.Is.parts{z v:WM}{w:Fr.Wr}(h:z.Is v w):v.loc=w.locals∧v.code=w.code∧eU v.gb=w.blocks:=⟨congrArg Fr.Wr.locals h.2.2.2.2,congrArg Fr.Wr.code h.2.2.2.2,congrArg Fr.Wr.blocks h.2.2.2.2⟩
set_option maxHeartbeats 8000000 in
theorem aBX(cs:List Chunk)(g:GT)(D:Fr.Df)(tv:Int)(ok:GT.Ok cs g D tv)(x:aJ):G5 cs g D tv x:=by
 refine aJ.ind (p:=G5 cs g D tv) (fun x ihb ihe wb sb' o z B B' d c c' hz hc hB hx hsh hty hg0 hgd hl1 hl2=>?_) x;have hX:=hx.has;have hE:=hx.ex;have hgr:=Fr.N3 ok.gen x.st z.wr B B' d c c' hB hc hsh hty;rw[aFy]at hsh hty hl1 hl2 hgr⊢;obtain⟨p1,p2,p3⟩:=Fr.NL hty;obtain⟨hB1,hBn⟩:=Fr.NM hty;obtain⟨h40,hhd,q1,q2,q3⟩:=Fr.aDc hsh;rw[xJ,Jf,←xJ]at q2 q3;obtain⟨nm, -, -,hh⟩:=D9 x.k x.s;obtain⟨l1,l9, -⟩:=hh.1 hhd;clear hh hhd nm;rw[Fr.uU]at hl1 hl2 hgr;have hnp:=Fr.FA x.x.ex;obtain⟨ke1,ke2,ke3⟩:=Fr.CZ g.P tv x.x.ex z.wr;have hzc:z.wr.code.length=z.code.length:=rfl;have hzl:z.wr.locals.length=z.loc.length:=rfl;rw[Fr.YH]at hgr⊢;obtain⟨we,hwe⟩:∃we,we=Fr.cJ g.P tv x.x.ex z.wr:=⟨_,rfl⟩;rw[←hwe]at hgr ke1 ke2 ke3⊢;have hfz:z.code.length≤90000→z.loc.length≤90000→z.tS:=fun h1 h2=>⟨by omega,by omega,by omega⟩
 have hfz:=hfz (by omega) (by omega);have wcd:∀a,(z.cd a we.1.code).wr=we.1:=fun a=>YI z a we.1 ke1 ke2
 refine JE [ptr wb, .pointer (some ⟨sb',o,none⟩)] Tryz.func139 Tryz.ntmps139 fun w S=>?_;refine Jn ?_
 repeat(refine Fm ?_)
 by_cases k3:x.k=3
 ·rw[if_pos k3]at hgr⊢;rw[if_neg (show¬x.k=6 by omega),if_pos (show x.k=3∨x.k=4 by omega),if_pos k3]at hl1 hl2;obtain⟨t,ht⟩:=p1 (by omega);obtain⟨c1,c2,ho1⟩:=q1 (by omega);obtain⟨hb50,b1,b2,ho2⟩:=q2 (by omega);obtain⟨he50,e1,e2,ho3⟩:=q3 k3
  repeat(refine Fm ?_)
  refine FQ (IX cs g D tv ok x.x wb _ _ z B _ c1 c2 t hz hc hB hE ho1 ht hfz (by omega)) ?_;intro a1 ha1;refine Jn ?_;rw[←hwe]
  repeat(refine Fm ?_)
  refine FQ (gO (z.cd a1 we.1.code) ⟨hfz.lo,by show we.1.code.length≤_;omega,hfz.gb⟩ 22 0 0) ?_;intro a2 ha2;refine Jn ?_;have hz2:((z.cd a1 we.1.code).jG ⟨22,0,0⟩ a2).wr=we.1.put 22 0 0:=by
   show Fr.Wr.mk z.loc (we.1.code ++[_]) (eU z.gb)=Fr.Wr.mk we.1.locals (we.1.code ++[_]) we.1.blocks;rw[ke1,ke2]
  have hz2l:((z.cd a1 we.1.code).jG ⟨22,0,0⟩ a2).code.length=we.1.code.length+1:=by show(we.1.code ++[_]).length=_;simp
  obtain⟨f1,⟨u1,f2,f3⟩,f4,f5⟩:=Fr.DK ok.gen hB ho2 (p2 (by omega)) (show Fr.cQ g.P ((z.cd a1 we.1.code).jG ⟨22,0,0⟩ a2).wr.locals B ((z.cd a1 we.1.code).jG ⟨22,0,0⟩ a2).wr.blocks from hc)
  repeat(refine Fm ?_)
  refine FQ (D4 cs g D tv ok x.body ihb wb _ _ ((z.cd a1 we.1.code).jG ⟨22,0,0⟩ a2) B d b1 b2 hz hc hB hx.body ho2 (p2 (by omega)) hb50 h40 hgd (by omega) (by show z.loc.length+_≤_;omega)) ?_;intro v3 hv3;refine Jn ?_;rw[hz2]at hv3 f1 f2 f4 f5;obtain⟨m1,m2,m3⟩:=hv3.parts;have m2l:=congrArg List.length m2;have m1l:=congrArg List.length m1;rw[f2,Jl,show(we.1.put 22 0 0).locals.length=z.loc.length by show we.1.locals.length=_;rw[ke1]]at m1l;rw[show(we.1.put 22 0 0).code.length=we.1.code.length+1 by simp[Fr.Wr.put]]at f4 f5;have hc3:Fr.cQ g.P v3.loc B (eU v3.gb):=by rw[m1,m3];exact f1
  have hg3:v3.gb.length=z.gb.length:=by rw[wU hc3,wU hc]
  repeat(refine Fm ?_)
  refine FQ (gO v3 ⟨by omega,by omega,by omega⟩ 21 0 0) ?_;intro a4 ha4;refine Jn ?_;obtain⟨v4,hv4⟩:∃v4,v4=v3.jG ⟨21,0,0⟩ a4:=⟨_,rfl⟩;have hv4l:v4.code.length=v3.code.length+1:=by rw[hv4];show(v3.code ++[_]).length=_;simp
  have hno:(z.cd a1 we.1.code).code.length<v4.code.length:=by show we.1.code.length<_;omega
  have hv4w:v4.wr=(Fr.eA g.P tv (aJ.bR x.body) (we.1.put 22 0 0).open_).close.put 21 0 0:=by rw[hv4,←hv3.2.2.2.2];rfl
  have hv4o:v4.loc=v3.loc∧v4.gb=v3.gb∧v4.kd=v3.kd∧v4.pr=v3.pr∧v4.rs=v3.rs∧v4.tk=v3.tk:=by rw[hv4];exact⟨rfl,rfl,rfl,rfl,rfl,rfl⟩
  repeat(refine Fm ?_)
  refine aB.only (aI w S::(g.R cs ++(g.m ++wM wb g.tb v4))) (by rw[hv4];exact aK) ?_;refine Jn ?_;apply aB.draw 10 ([aD wb [ptr g.tb, .int .i64 v4.kd, .int .i64 v4.pr, .slice v4.lo v4.loc.length v4.lc, .int .i64 v4.rs, .int .i64 v4.tk, .slice v4.co v4.code.length v4.cc, .slice v4.bo v4.gb.length v4.bc] 225,arr v4.co v4.code.length v4.cc 113 dV v4.code]) (by kernel_rfl) 11 rfl;refine RunT.a7 0 (hQ:=bA) (h:=?_);refine RunT.a7 1 (hQ:=bA) (h:=?_);refine RunT.a7 2 (hQ:=bA) (h:=?_);refine RunT.a7 3 (hQ:=bA) (h:=?_);refine RunT.a7 4 (hQ:=bA) (h:=?_);refine RunT.a7 5 (hQ:=bA) (h:=?_);refine RunT.a7 6 (hQ:=bA) (h:=?_);(refine JT 7 ?_;refine aA.aZ (spec:=D5 v4) (r:=fun w=>eZ) (k:=?_);intro u hu;refine JG ?_;refine Jn ?_);refine RunT.a7 8 (hQ:=bA) (h:=?_);refine RunT.a7 9 (hQ:=bA) (h:=?_);refine JT 10 ?_;refine aA.iG (f:=dV) (l:=v4.code) (i:=we.1.code.length) (off:=0+1) (vs:=[.int .i64 (v4.code.length:Int)]) (a':=⟨(v4.code.getD we.1.code.length default).op,(v4.code.length:Int),(v4.code.getD we.1.code.length default).n⟩) (hp:=(show Put (dV (v4.code.getD we.1.code.length default)) 1 _ _ by(repeat(first|exact Put.done|apply Put.take|apply Put.skip)))) (k:=?_);refine JG ?_;refine Jn ?_;(apply RunT.done;kernel_rfl);obtain⟨C5,hC5⟩:∃C5,C5=v4.code.set we.1.code.length ⟨(v4.code.getD we.1.code.length default).op,(v4.code.length:Int),(v4.code.getD we.1.code.length default).n⟩:=⟨_,rfl⟩;have lC5:v4.code.length=C5.length:=by rw[hC5,Ji]
  have wC5:(v4.cd (v4.co,v4.cc) C5).wr=v4.wr.patch we.1.code.length v4.code.length:=by rw[hC5];rfl
  rw[←hC5,lC5];obtain⟨v5,hv5⟩:∃v5,v5=v4.cd (v4.co,v4.cc) C5:=⟨_,rfl⟩;rw[←hv5]at wC5;have lv5:v5.code.length=v4.code.length:=by rw[hv5];exact lC5.symm
  have hno2:v3.code.length<v4.code.length:=by omega
  apply End.jQ;refine aB.only (aI w S::(g.R cs ++(g.m ++wM wb g.tb v5))) (by rw[hv5];exact aK) ?_;refine Jn ?_;have hv5o:v5.loc=v3.loc∧v5.gb=v3.gb∧v5.kd=v3.kd∧v5.pr=v3.pr∧v5.rs=v3.rs∧v5.tk=v3.tk:=by rw[hv5];exact hv4o
  have hc5:Fr.cQ g.P v5.loc B (eU v5.gb):=by rw[hv5o.1,hv5o.2.1];exact hc3
  obtain⟨i1,⟨u2,i2,i3⟩,i4,i5⟩:=Fr.DK ok.gen hB ho3 (p3 k3) (show Fr.cQ g.P v5.wr.locals B v5.wr.blocks from hc5);have l5:v5.loc.length=v3.loc.length:=by rw[hv5o.1]
  have g5:v5.gb.length=v3.gb.length:=by rw[hv5o.2.1]
  have c5:v5.wr.code.length=v5.code.length:=rfl
  repeat(refine Fm ?_)
  refine FQ (D4 cs g D tv ok x.eY ihe wb _ _ v5 B d e1 e2 (hv5o.2.2.2.2.2.trans (hv3.2.2.2.1.trans hz)) hc5 hB hx.eY ho3 (p3 k3) he50 h40 (by omega) (by omega) (by omega)) ?_;intro v6 hv6;refine Jn ?_;obtain⟨n1,n2,n3⟩:=hv6.parts;have n2l:=congrArg List.length n2;have n1l:=congrArg List.length n1;have hno3:v3.code.length<v6.code.length:=by omega
  have hc6:Fr.cQ g.P v6.loc B (eU v6.gb):=by rw[n1,n3];exact i1
  repeat(refine Fm ?_)
  apply aB.draw 10 ([aD wb [ptr g.tb, .int .i64 v6.kd, .int .i64 v6.pr, .slice v6.lo v6.loc.length v6.lc, .int .i64 v6.rs, .int .i64 v6.tk, .slice v6.co v6.code.length v6.cc, .slice v6.bo v6.gb.length v6.bc] 225,arr v6.co v6.code.length v6.cc 113 dV v6.code]) (by kernel_rfl) 11 rfl;refine RunT.a7 0 (hQ:=bA) (h:=?_);refine RunT.a7 1 (hQ:=bA) (h:=?_);refine RunT.a7 2 (hQ:=bA) (h:=?_);refine RunT.a7 3 (hQ:=bA) (h:=?_);refine RunT.a7 4 (hQ:=bA) (h:=?_);refine RunT.a7 5 (hQ:=bA) (h:=?_);refine RunT.a7 6 (hQ:=bA) (h:=?_);(refine JT 7 ?_;refine aA.aZ (spec:=D5 v6) (r:=fun w=>eZ) (k:=?_);intro u hu;refine JG ?_;refine Jn ?_);refine RunT.a7 8 (hQ:=bA) (h:=?_);refine RunT.a7 9 (hQ:=bA) (h:=?_);refine JT 10 ?_;refine aA.iG (f:=dV) (l:=v6.code) (i:=v3.code.length) (off:=0+1) (vs:=[.int .i64 (v6.code.length:Int)]) (a':=⟨(v6.code.getD v3.code.length default).op,(v6.code.length:Int),(v6.code.getD v3.code.length default).n⟩) (hp:=(show Put (dV (v6.code.getD v3.code.length default)) 1 _ _ by(repeat(first|exact Put.done|apply Put.take|apply Put.skip)))) (k:=?_);refine JG ?_;refine Jn ?_;(apply RunT.done;kernel_rfl);obtain⟨C7,hC7⟩:∃C7,C7=v6.code.set v3.code.length ⟨(v6.code.getD v3.code.length default).op,(v6.code.length:Int),(v6.code.getD v3.code.length default).n⟩:=⟨_,rfl⟩;have lC7:v6.code.length=C7.length:=by rw[hC7,Ji]
  have wC7:(v6.cd (v6.co,v6.cc) C7).wr=v6.wr.patch v3.code.length v6.code.length:=by rw[hC7];rfl
  rw[←hC7,lC7];obtain⟨v7,hv7⟩:∃v7,v7=v6.cd (v6.co,v6.cc) C7:=⟨_,rfl⟩;rw[←hv7]at wC7;have lv7:v7.code.length=v6.code.length:=by rw[hv7];exact lC7.symm
  repeat(refine Fm ?_)
  refine End.oN v7 (ht:=by rw[hv7];exact aK) (hp:=?_);rw[hv7];refine⟨hv6.1.trans (hv5o.2.2.1.trans hv3.1),hv6.2.1.trans (hv5o.2.2.2.1.trans hv3.2.1),hv6.2.2.1.trans (hv5o.2.2.2.2.1.trans hv3.2.2.1),hv6.2.2.2.1.trans (hv5o.2.2.2.2.2.trans hv3.2.2.2.1),?_⟩;rw[←hv7]
  (try dsimp only)
  rw[←hv4w,show v4.wr.patch we.1.code.length v4.wr.code.length=v5.wr from wC5.symm,←hv6.2.2.2.2,wC7];show v6.wr.patch v3.code.length v6.code.length=v6.wr.patch (v4.code.length-1) v6.code.length;rw[hv4l,Nat.add_sub_cancel]
 rw[if_neg k3]at hgr⊢
 by_cases k4:x.k=4
 ·rw[if_pos k4]at hgr⊢;rw[if_neg (show¬x.k=6 by omega),if_pos (show x.k=3∨x.k=4 by omega),if_neg k3]at hl1 hl2;obtain⟨t,ht⟩:=p1 (by omega);obtain⟨c1,c2,ho1⟩:=q1 (by omega);obtain⟨hb50,b1,b2,ho2⟩:=q2 (by omega)
  repeat(refine Fm ?_)
  refine FQ (D5 z) ?_;intro u hu;refine Jn ?_
  repeat(refine Fm ?_)
  refine FQ (IX cs g D tv ok x.x wb _ _ z B _ c1 c2 t hz hc hB hE ho1 ht hfz (by omega)) ?_;intro a1 ha1;refine Jn ?_;rw[←hwe]
  repeat(refine Fm ?_)
  refine FQ (gO (z.cd a1 we.1.code) ⟨hfz.lo,by show we.1.code.length≤_;omega,hfz.gb⟩ 22 0 0) ?_;intro a2 ha2;refine Jn ?_;have hz2:((z.cd a1 we.1.code).jG ⟨22,0,0⟩ a2).wr=we.1.put 22 0 0:=by
   show Fr.Wr.mk z.loc (we.1.code ++[_]) (eU z.gb)=Fr.Wr.mk we.1.locals (we.1.code ++[_]) we.1.blocks;rw[ke1,ke2]
  have hz2l:((z.cd a1 we.1.code).jG ⟨22,0,0⟩ a2).code.length=we.1.code.length+1:=by show(we.1.code ++[_]).length=_;simp
  obtain⟨f1,⟨u1,f2,f3⟩,f4,f5⟩:=Fr.DK ok.gen hB ho2 (p2 (by omega)) (show Fr.cQ g.P ((z.cd a1 we.1.code).jG ⟨22,0,0⟩ a2).wr.locals B ((z.cd a1 we.1.code).jG ⟨22,0,0⟩ a2).wr.blocks from hc)
  repeat(refine Fm ?_)
  refine FQ (D4 cs g D tv ok x.body ihb wb _ _ ((z.cd a1 we.1.code).jG ⟨22,0,0⟩ a2) B d b1 b2 hz hc hB hx.body ho2 (p2 (by omega)) hb50 h40 hgd (by omega) (by show z.loc.length+_≤_;omega)) ?_;intro v3 hv3;refine Jn ?_;rw[hz2]at hv3 f1 f2 f4 f5;obtain⟨m1,m2,m3⟩:=hv3.parts;have m2l:=congrArg List.length m2;have m1l:=congrArg List.length m1;rw[f2,Jl,show(we.1.put 22 0 0).locals.length=z.loc.length by show we.1.locals.length=_;rw[ke1]]at m1l;rw[show(we.1.put 22 0 0).code.length=we.1.code.length+1 by simp[Fr.Wr.put]]at f4 f5;have hc3:Fr.cQ g.P v3.loc B (eU v3.gb):=by rw[m1,m3];exact f1
  have hg3:v3.gb.length=z.gb.length:=by rw[wU hc3,wU hc]
  repeat(refine Fm ?_)
  refine FQ (gO v3 ⟨by omega,by omega,by omega⟩ 21 (z.code.length:Int) 0) ?_;intro a4 ha4;refine Jn ?_;obtain⟨v4,hv4⟩:∃v4,v4=v3.jG ⟨21,(z.code.length:Int),0⟩ a4:=⟨_,rfl⟩;have hv4l:v4.code.length=v3.code.length+1:=by rw[hv4];show(v3.code ++[_]).length=_;simp
  have hno:(z.cd a1 we.1.code).code.length<v4.code.length:=by show we.1.code.length<_;omega
  have hv4w:v4.wr=(Fr.eA g.P tv (aJ.bR x.body) (we.1.put 22 0 0).open_).close.put 21 z.wr.code.length 0:=by rw[hv4,←hv3.2.2.2.2];rfl
  have hv4o:v4.kd=v3.kd∧v4.pr=v3.pr∧v4.rs=v3.rs∧v4.tk=v3.tk:=by rw[hv4];exact⟨rfl,rfl,rfl,rfl⟩
  repeat(refine Fm ?_)
  refine aB.only (aI w S::(g.R cs ++(g.m ++wM wb g.tb v4))) (by rw[hv4];exact aK) ?_;refine Jn ?_;apply aB.draw 10 ([aD wb [ptr g.tb, .int .i64 v4.kd, .int .i64 v4.pr, .slice v4.lo v4.loc.length v4.lc, .int .i64 v4.rs, .int .i64 v4.tk, .slice v4.co v4.code.length v4.cc, .slice v4.bo v4.gb.length v4.bc] 225,arr v4.co v4.code.length v4.cc 113 dV v4.code]) (by kernel_rfl) 11 rfl;refine RunT.a7 0 (hQ:=bA) (h:=?_);refine RunT.a7 1 (hQ:=bA) (h:=?_);refine RunT.a7 2 (hQ:=bA) (h:=?_);refine RunT.a7 3 (hQ:=bA) (h:=?_);refine RunT.a7 4 (hQ:=bA) (h:=?_);refine RunT.a7 5 (hQ:=bA) (h:=?_);refine RunT.a7 6 (hQ:=bA) (h:=?_);(refine JT 7 ?_;refine aA.aZ (spec:=D5 v4) (r:=fun w=>eZ) (k:=?_);intro u hu;refine JG ?_;refine Jn ?_);refine RunT.a7 8 (hQ:=bA) (h:=?_);refine RunT.a7 9 (hQ:=bA) (h:=?_);refine JT 10 ?_;refine aA.iG (f:=dV) (l:=v4.code) (i:=we.1.code.length) (off:=0+1) (vs:=[.int .i64 (v4.code.length:Int)]) (a':=⟨(v4.code.getD we.1.code.length default).op,(v4.code.length:Int),(v4.code.getD we.1.code.length default).n⟩) (hp:=(show Put (dV (v4.code.getD we.1.code.length default)) 1 _ _ by(repeat(first|exact Put.done|apply Put.take|apply Put.skip)))) (k:=?_);refine JG ?_;refine Jn ?_;(apply RunT.done;kernel_rfl);obtain⟨C5,hC5⟩:∃C5,C5=v4.code.set we.1.code.length ⟨(v4.code.getD we.1.code.length default).op,(v4.code.length:Int),(v4.code.getD we.1.code.length default).n⟩:=⟨_,rfl⟩;have lC5:v4.code.length=C5.length:=by rw[hC5,Ji]
  have wC5:(v4.cd (v4.co,v4.cc) C5).wr=v4.wr.patch we.1.code.length v4.code.length:=by rw[hC5];rfl
  rw[←hC5,lC5];obtain⟨v5,hv5⟩:∃v5,v5=v4.cd (v4.co,v4.cc) C5:=⟨_,rfl⟩;rw[←hv5]at wC5;have lv5:v5.code.length=v4.code.length:=by rw[hv5];exact lC5.symm
  repeat(refine Fm ?_)
  refine End.oN v5 (ht:=by rw[hv5];exact aK) (hp:=?_);rw[hv5];refine⟨hv4o.1.trans hv3.1,hv4o.2.1.trans hv3.2.1,hv4o.2.2.1.trans hv3.2.2.1,hv4o.2.2.2.trans hv3.2.2.2.1,?_⟩;rw[←hv5]
  (try dsimp only)
  rw[←hv4w,wC5]
 rw[if_neg k4]at hgr⊢
 by_cases k6:x.k=6
 ·rw[if_pos k6]
  repeat(refine Fm ?_)
  refine FQ (gO z hfz 25 0 0) ?_;intro a2 ha2;refine Jn ?_
  repeat(refine Fm ?_)
  exact End.oN (z.jG ⟨25,0,0⟩ a2) (hp:=⟨rfl,rfl,rfl,rfl,rfl⟩)
 rw[if_neg k6]at hgr hl1 hl2⊢;obtain⟨t,ht⟩:=p1 k6;obtain⟨c1,c2,ho1⟩:=q1 k6
 repeat(refine Fm ?_)
 refine FQ (IX cs g D tv ok x.x wb _ _ z B _ c1 c2 t hz hc hB hE ho1 ht hfz (by omega)) ?_;intro a1 ha1;refine Jn ?_;rw[←hwe];have hf1:(z.cd a1 we.1.code).tS:=⟨hfz.lo,by show we.1.code.length≤_;omega,hfz.gb⟩;have put:∀(op a n:Int) (a2:Option Addr×Nat),((z.cd a1 we.1.code).jG ⟨op,a,n⟩ a2).wr=we.1.put op a n:=fun op a n a2=>by
  show Fr.Wr.mk z.loc (we.1.code ++[_]) (eU z.gb)=Fr.Wr.mk we.1.locals (we.1.code ++[_]) we.1.blocks;rw[ke1,ke2]
 unfold Fr.GP
 repeat(refine Fm ?_)
 by_cases k1:x.k=1
 ·rw[if_pos k1];obtain⟨t',c0,r,ht',hno,hb0, -⟩:=hB1 k1;obtain⟨pre,last,hpl⟩:∃pre last,z.gb=pre ++[last]:=⟨_,_,(List.dropLast_concat_getLast (List.ne_nil_of_length_pos hg0)).symm⟩;have hml:bC last.l x.s=none:=by
   rw[hb0,hpl,BI]at hc;rw[EZ];refine(Fr.kM.DJ (s:=x.s) hc.1).2 ?_;rw[hb0,Fr.eL]at hno
   cases ha:Fr.at_ c0 x.s with
   |none=>rfl
   |some _=>rw[ha]at hno;cases hno
  repeat(refine Fm ?_)
  refine FQ (QZ (z.cd a1 we.1.code) hf1 pre last hpl x.s we.2 hml) ?_;intro a2 ha2;refine Jn ?_
  repeat(refine Fm ?_)
  refine FQ (gO ((z.cd a1 we.1.code).yS pre last x.s we.2 a2) ⟨by show(z.loc ++[_]).length≤_;rw[Jl,jA];omega,hf1.co,by show(pre ++[_]).length≤_;have:=hf1.gb;rw[show(z.cd a1 we.1.code).gb=z.gb from rfl,hpl]at this;simpa using this⟩ 4 (z.loc.length:Int) 0) ?_;intro a3 ha3;refine Jn ?_
  repeat(refine Fm ?_)
  refine End.cY (((z.cd a1 we.1.code).yS pre last x.s we.2 a2).jG ⟨4,(z.loc.length:Int),0⟩ a3) (hp:=⟨rfl,rfl,rfl,rfl,?_⟩);have h1:=RZ (z.cd a1 we.1.code) pre last x.s we.2 a2 hpl;rw[wcd]at h1;rw[show we.1.locals.length=z.loc.length by rw[ke1],←h1];rfl
 rw[if_neg k1]
 by_cases k2:x.k=2
 ·rw[if_pos k2]
  repeat(refine Fm ?_)
  refine FQ (Q0 (z.cd a1 we.1.code) hf1 x.s) ?_;intro u hu;refine Jn ?_;rw[wcd]
  repeat(refine Fm ?_)
  refine FQ (gO (z.cd a1 we.1.code) hf1 4 (we.1.look x.s) 0) ?_;intro a2 ha2;refine Jn ?_
  repeat(refine Fm ?_)
  exact End.cY ((z.cd a1 we.1.code).jG ⟨4,(we.1.look x.s:Int),0⟩ a2) (hp:=⟨rfl,rfl,rfl,rfl,put _ _ _ _⟩)
 rw[if_neg k2]
 by_cases k5:x.k=5
 ·rw[if_pos k5]
  repeat(refine Fm ?_)
  refine FQ (gO (z.cd a1 we.1.code) hf1 24 0 0) ?_;intro a2 ha2;refine Jn ?_
  repeat(refine Fm ?_)
  exact End.cY ((z.cd a1 we.1.code).jG ⟨24,0,0⟩ a2) (hp:=⟨rfl,rfl,rfl,rfl,put _ _ _ _⟩)
 rw[if_neg k5]
 by_cases k7:x.k=7
 ·rw[if_pos k7]
  repeat(refine Fm ?_)
  rw[y6,O3];refine FQ (gO (z.cd a1 we.1.code) hf1 26 (Fr.pQ g.P x.s) 0) ?_;intro a2 ha2;refine Jn ?_
  repeat(refine Fm ?_)
  exact End.cY ((z.cd a1 we.1.code).jG ⟨26,(Fr.pQ g.P x.s:Int),0⟩ a2) (hp:=⟨rfl,rfl,rfl,rfl,put _ _ _ _⟩)
 rw[if_neg k7]
 by_cases k8:x.k=8
 ·rw[if_pos k8]
  repeat(refine Fm ?_)
  refine FQ (gO (z.cd a1 we.1.code) hf1 28 0 0) ?_;intro a2 ha2;refine Jn ?_
  repeat(refine Fm ?_)
  exact End.cY ((z.cd a1 we.1.code).jG ⟨28,0,0⟩ a2) (hp:=⟨rfl,rfl,rfl,rfl,put _ _ _ _⟩)
 rw[if_neg k8];have k9:x.k=9:=by omega
 rw[if_pos k9]
 repeat(refine Fm ?_)
 refine FQ (gO (z.cd a1 we.1.code) hf1 5 0 0) ?_;intro a2 ha2;refine Jn ?_
 repeat(refine Fm ?_)
 exact End.cY ((z.cd a1 we.1.code).jG ⟨5,0,0⟩ a2) (hp:=⟨rfl,rfl,rfl,rfl,put _ _ _ _⟩)
theorem S6:∀{l:List DL} {c c':Nat},c≤2000→Fr.kW (l.map DL.df) c=some c'→∀d∈l,d.kind≠1→∃c1 c2,Fr.dZ 2 (aJ.bR d.body) c1=some c2∧Fr.j7 (aJ.bR d.body)≤2000
 |[],_,_,_,_,d,hd=>by simp at hd
 |x::l,c,c',hc,h,d,hd=>by
  rw[eG,Fr.kW]at h;obtain⟨c1,h1,h⟩:=bO.1 h;have hu:=Fr.XA h1 hc;rcases eB.1 hd with rfl|hd
  ·intro hk;rw[FC]at h1;obtain⟨c2,hn,h1⟩:=bO.1 h1
   split at h1
   ·split at h1
    ·cases h1
    ·exact⟨c2,c1,h1,by have:=Fr.E9 _ _ _ _ h1;omega⟩
   ·cases h1
  ·exact S6 hu.1 h d hd
structure OH(x:cI):Prop where
 dY:x.l.length≤30
 shp:∀d∈x.l,d.fF
 nd:((x.l.map DL.df).map (·.name)).Nodup
 nS:∀d∈x.l.map DL.df,Fr.iT (x.l.map DL.df) d=true
 ZE:∀d∈x.l.map DL.df,Fr.mB (x.l.map DL.df) d=true
 bR:∀d∈x.l,d.kind≠1→∃c1 c2,Fr.dZ 2 (aJ.bR d.body) c1=some c2∧Fr.j7 (aJ.bR d.body)≤2000
theorem aEp{x:cI}(h:mX (x.l.map DL.df)=true):OH x:=by
 unfold mX at h;simp only[JX]at h;obtain⟨⟨⟨⟨hsh,hnd⟩, -⟩,hh⟩,hb⟩:=h;obtain⟨h30,hS⟩:=FX hsh;refine⟨h30,hS,of_decide_eq_true hnd,sL.1 hh,sL.1 hb,?_⟩;unfold Fr.shaped at hsh;rw[JX]at hsh;obtain⟨c,hc⟩:=lN.1 hsh.2;exact S6 (by omega) hc
abbrev mL(u:UC):List Chunk:=[arr u.lo u.u.locals.length u.lc 3 aT u.u.locals,arr u.co u.u.code.length u.cc 113 dV u.u.code]
set_option maxHeartbeats 4000000 in
theorem aBZ(cs:List Chunk)(g:GT)(hdf:nL cs g.x.o g.x.c g.x.l)(hr:OH g.x)(i:Nat)(hi:i<g.x.l.length)(hk:(g.x.l.getD i default).kind≠1):Fn Tryz.prog 56 #[ptr g.tb,eJ g.x i] (g.R cs) g.m (σ:=UC) (fun u=>u.u=Fr.q0 g.P (iR g.x i)) (fun u=> .agg (mM u).toArray) (fun u=>g.m ++mL u):=by
 have hin:=hdf.at hi;have hmem:=dQ hi;have hS:=hr.shp _ hmem;have hHD:=hr.nS _ (lO hmem);have hBD:=hr.ZE _ (lO hmem);obtain⟨c1,c2,ho,hn2⟩:=hr.bR _ hmem hk;obtain⟨d,de⟩:∃d,g.x.l.getD i default=d:=⟨_,rfl⟩;have hDm:d.df∈g.P:=by rw[←de];exact lO hmem
 rw[show iR g.x i=d.df by rw[←de]];rw[de]at hin hS hHD hBD ho hk hn2;obtain⟨hk1,hk4⟩:=hS.kind;obtain⟨hb50, -⟩:=hS.body hk;have hD:=hin.has;have hp:=hin.tD;refine JE [ptr g.tb,eJ g.x i] Tryz.func56 Tryz.ntmps56 fun w S=>?_;refine Jn ?_
 repeat(refine Fm ?_;try intro b)
 apply aE.op (by exact rfl);refine aA.oV (κ:=aF) gR (by exact rfl) fun mb=>?_
 refine Jn ?_
 repeat(refine Fm ?_;try intro b)
 obtain⟨wb,rfl⟩:∃x,x=b:=⟨_,rfl⟩;obtain⟨sb',rfl⟩:∃x,x=b:=⟨_,rfl⟩;obtain⟨rb,rfl⟩:∃x,x=b:=⟨_,rfl⟩;apply aB.imp (fun w hm=>hm.mJ (b:=sb') (f:=wQ) tk [⟨mb,[]⟩] (n:=1) (by simp[wQ]) rfl (by unfold maxLen;omega));apply aB.imp (fun w hm=>(hm.take (show Take (mp mb gR ([]:List (aF×Nat))) _ _ from tk)).pack (cs:=[jZ ⟨mb,[]⟩]) (by simp[jZ,j6]));apply aB.imp (fun w hm=>(hm.bY 3 aT).bY 113 dV);refine aB.only (aI w S::(g.R cs ++(aD rb [.int .i64 0, .int .i64 0, .slice none 0 0, .int .i64 0, .int .i64 0, .slice none 0 0] 88::(g.m ++wM wb g.tb ⟨d.kind,0,0,0,none,0,[],none,0,[],some ⟨sb',0,none⟩,1,[⟨mb,[]⟩]⟩)))) aK ?_;refine Jn ?_;have hhp:d.kind≠4→(d.params.map (·.name)).Nodup∧∀p∈d.params,Fr.iX g.P p.type=true:=fun h4=>Fr.I6 hHD (by show d.kind=2∨d.kind=3;omega)
 have ht:(Fr.e8 g.P d.df ([]::[jF d]) (aJ.bR d.body)).isSome=true:=by
  unfold Fr.mB at hBD;rw[decide_eq_false (show¬d.df.kind=1 from hk),Bool.false_or]at hBD;exact hBD
 have hB:Fr.kX g.P [jF d]:=fun b hb p hp=>by
  rw[show b=jF d from gD.1 hb]at hp;unfold jF at hp
  split at hp
  ·cases hp
  ·next h4=>
   obtain⟨q,hq,rfl⟩:=fD.1 hp;exact S8 ((hhp h4).2 q hq)
 obtain⟨tv,htv⟩:∃tv,tv=if d.kind=3 then Fr.dE g.P d.aS else 0:=⟨_,rfl⟩;have ok:GT.Ok cs g d.df tv:=⟨hdf,hr.dY,hr.nd,hr.nS,hDm,fun h3=>by rw[htv];exact if_pos h3⟩;obtain⟨W0,hW0⟩:∃W0:Fr.Wr,W0=(if d.kind=4 then []else d.params).foldl (fun w p=>w.lU p.name (Fr.dE g.P p.type)) ⟨[],[],[[]]⟩:=⟨_,rfl⟩;refine A9 (σ:=WM) (fun z=>z.kd=d.kind∧z.pr=(if d.kind=4 then 0 else(d.params.length:Int))∧z.rs=(if d.kind=4 then 0 else Fr.dE g.P d.type)∧z.tk=0∧z.wr=W0∧z.gb.length=1∧z.loc.length≤6∧z.code=[]∧Fr.cQ g.P z.loc [jF d] (eU z.gb)) (fun _=>[(0,ptr g.tb),(1,eJ g.x i),(4,ptr rb),(5,ptr wb)]) (fun z=>aI w S::(g.R cs ++(aD rb [.int .i64 0, .int .i64 0, .slice none 0 0, .int .i64 0, .int .i64 0, .slice none 0 0] 88::(g.m ++wM wb g.tb z)))) ?_ ?_
 ·rintro z ⟨z1,z2,z3,z4,z5,z6,z7,z8,z9⟩;refine Jn ?_
  repeat(refine Fm ?_)
  refine A9 (σ:=Unit) (fun _=>True) (fun _=>[(0,ptr g.tb),(1,eJ g.x i),(4,ptr rb),(5,ptr wb)]) (fun _=>aI w S::(g.R cs ++(aD rb [.int .i64 0, .int .i64 0, .slice none 0 0, .int .i64 0, .int .i64 0, .slice none 0 0] 88::(g.m ++wM wb g.tb {z with tk:=tv})))) ?_ ?_
  ·intro _ _;refine Jn ?_;obtain⟨z0,hz0⟩:∃z0:WM,z0={z with tk:=tv}:=⟨_,rfl⟩;have y9:Fr.cQ g.P z0.loc [jF d] (eU z0.gb):=by rw[hz0];exact z9
   have y5:z0.wr=W0:=by rw[hz0];exact z5
   have ycode:z0.code.length=0:=by rw[hz0];show z.code.length=0;rw[z8];rfl
   have yloc:z0.loc.length≤6:=by rw[hz0];exact z7
   have ygb:z0.gb.length=1:=by rw[hz0];exact z6
   have ytk:z0.tk=tv:=by rw[hz0]
   have yo:z0.kd=d.kind∧z0.pr=(if d.kind=4 then 0 else(d.params.length:Int))∧z0.rs=(if d.kind=4 then 0 else Fr.dE g.P d.type):=by rw[hz0];exact⟨z1,z2,z3⟩
   rw[←hz0];clear z1 z2 z3 z4 z5 z6 z7 z8 z9 hz0;obtain⟨f1,⟨u1,f2,f3⟩,f4,f5⟩:=Fr.DK ok.gen hB ho ht (show Fr.cQ g.P z0.wr.locals [jF d] z0.wr.blocks from y9);have e1:z0.wr.code.length=z0.code.length:=rfl;have e2:z0.wr.locals.length=z0.loc.length:=rfl
   repeat(refine Fm ?_)
   refine FQ (D4 cs g d.df tv ok d.body (fun y _=>aBX cs g d.df tv ok y) wb _ _ z0 [jF d] 1 c1 c2 ytk y9 hB hin.body ho ht hb50 (by omega) (by omega) (by omega) (by omega)) ?_;intro v hv;refine Jn ?_;obtain⟨m1,m2,m3⟩:=hv.parts;have m2l:=congrArg List.length m2;have m1l:=congrArg List.length m1;rw[f2,Jl]at m1l;have hcv:Fr.cQ g.P v.loc [jF d] (eU v.gb):=by rw[m1,m3];exact f1
   have hgv:v.gb.length=1:=by rw[wU hcv];rfl
   have hfv:v.tS:=⟨by omega,by omega,by omega⟩;have hU:Fr.q0 g.P d.df=(let w:=(Fr.eA g.P tv (aJ.bR d.body) z0.wr.open_).close
     let w:=if d.kind=2 then(w.put (if z0.rs=2 then 2 else 1) 0 0).put 24 0 0 else w.put 25 0 0
     (⟨z0.kd,z0.pr,w.locals,z0.rs,z0.tk,w.code⟩:ImgM.bS)):=by
    rw[y5,hW0,ytk,htv,yo.1,yo.2.1,yo.2.2];rfl
   have hvk:v.kd=z0.kd∧v.pr=z0.pr∧v.rs=z0.rs∧v.tk=z0.tk:=⟨hv.1,hv.2.1,hv.2.2.1,hv.2.2.2.1⟩;rw[←hv.2.2.2.2]at hU;dsimp only at hU
   by_cases k2:d.kind=2
   rotate_left
   ·rw[if_neg k2]at hU
    repeat(refine Fm ?_)
    refine FQ (gO v hfv 25 0 0) ?_;intro a ha;refine Jn ?_
    repeat(refine Fm ?_)
    refine End.eK (⟨⟨v.kd,v.pr,v.loc,v.rs,v.tk,v.code ++[⟨25,0,0⟩]⟩,v.lo,v.lc,a.1,a.2⟩:UC) (he:=rfl) (hp:=?_);rw[hU,hvk.1,hvk.2.1,hvk.2.2.1,hvk.2.2.2];rfl
   ·rw[if_pos k2]at hU
    repeat(refine Fm ?_)
    by_cases h2:v.rs=2
    ·rw[if_pos (hvk.2.2.1▸h2)]at hU
     repeat(refine Fm ?_)
     refine FQ (gO v hfv 2 0 0) ?_;intro a ha;refine Jn ?_
     repeat(refine Fm ?_)
     refine FQ (gO (v.jG ⟨2,0,0⟩ a) ⟨hfv.lo,by show(v.code ++[_]).length≤_;rw[Jl,jA];omega,hfv.gb⟩ 24 0 0) ?_;intro a2 ha2;refine Jn ?_
     repeat(refine Fm ?_)
     refine End.eK (⟨⟨v.kd,v.pr,v.loc,v.rs,v.tk,v.code ++[⟨2,0,0⟩] ++[⟨24,0,0⟩]⟩,v.lo,v.lc,a2.1,a2.2⟩:UC) (he:=rfl) (hp:=?_);rw[hU,hvk.1,hvk.2.1,hvk.2.2.1,hvk.2.2.2];rfl
    ·rw[if_neg (fun h=>h2 (hvk.2.2.1.trans h))]at hU
     repeat(refine Fm ?_)
     refine FQ (gO v hfv 1 0 0) ?_;intro a ha;refine Jn ?_
     repeat(refine Fm ?_)
     refine FQ (gO (v.jG ⟨1,0,0⟩ a) ⟨hfv.lo,by show(v.code ++[_]).length≤_;rw[Jl,jA];omega,hfv.gb⟩ 24 0 0) ?_;intro a2 ha2;refine Jn ?_
     repeat(refine Fm ?_)
     refine End.eK (⟨⟨v.kd,v.pr,v.loc,v.rs,v.tk,v.code ++[⟨1,0,0⟩] ++[⟨24,0,0⟩]⟩,v.lo,v.lc,a2.1,a2.2⟩:UC) (he:=rfl) (hp:=?_);rw[hU,hvk.1,hvk.2.1,hvk.2.2.1,hvk.2.2.2];rfl
  ·intro K' hK
   by_cases k3:d.kind=3
   ·rw[if_pos k3]at htv
    repeat(refine Fp ?_)
    refine FQ (yH cs g hr.dY d.aS) ?_;intro u hu;refine Jn ?_;rw[←htv]
    repeat(refine Fm ?_)
    refine End.some_ hK () ?_;trivial
   ·rw[if_neg k3]at htv;subst htv;rw[show({z with tk:=0}:WM)=z by rw[←z4]]at hK
    repeat(refine Fm ?_)
    refine End.some_ hK () ?_;trivial
 ·intro K' hK
  by_cases k4:d.kind=4
  ·rw[if_pos k4]at hW0
   repeat(refine Fm ?_)
   refine End.some_ hK (⟨d.kind,0,0,0,none,0,[],none,0,[],some ⟨sb',0,none⟩,1,[⟨mb,[]⟩]⟩:WM) ?_;refine⟨rfl,(if_pos k4).symm,(if_pos k4).symm,rfl,hW0.symm▸rfl,rfl,bP _,rfl,?_⟩;rw[show jF d=[]from if_pos k4];exact⟨trivial,trivial⟩
  ·have h6:=hS.tD (by omega);obtain⟨hnd,hok⟩:=hhp k4;rw[if_neg k4]at hW0
   repeat(refine Fm ?_)
   apply aB.draw 21 ([bE cs]) (by kernel_rfl) 21 rfl;refine JN 0 ?_;refine JN 1 ?_;refine JN 2 ?_;refine JN 3 ?_;refine JN 4 ?_;refine TH 5 ?_;refine JN 6 ?_;refine JN 7 ?_;refine JN 8 ?_;refine JN 9 ?_;refine JN 10 ?_;refine TH 11 ?_;(refine JT 12 ?_;refine aA.aZ (spec:=yH cs g hr.dY d.type) (r:=fun w=>eZ) (k:=?_);intro u hu;refine JG ?_;refine Jn ?_);refine JN 13 ?_;refine JN 14 ?_;refine JN 15 ?_;(refine JT 16 ?_;(refine Jw ?_);refine JG ?_);refine JN 17 ?_;refine JN 18 ?_;refine JN 19 ?_;(refine JT 20 ?_;(refine Jw ?_);refine JG ?_);(apply RunT.done;kernel_rfl)
   repeat(refine Fm ?_)
   refine aB.only ((fun y:Nat×WM=>aI w S::(g.R cs ++(aD rb [.int .i64 0, .int .i64 0, .slice none 0 0, .int .i64 0, .int .i64 0, .slice none 0 0] 88::(g.m ++wM wb g.tb y.2)))) (0,⟨d.kind,(d.params.length:Int),Fr.dE g.P d.type,0,none,0,[],none,0,[],some ⟨sb',0,none⟩,1,[⟨mb,[]⟩]⟩)) (aK) ?_;apply aB.loop (σ:=Nat×WM) (fun y=>y.1≤d.params.length∧(y.2.kd=d.kind∧y.2.pr=(d.params.length:Int)∧y.2.rs=Fr.dE g.P d.type∧y.2.tk=0)∧y.2.wr=(d.params.take y.1).foldl (fun w p=>w.lU p.name (Fr.dE g.P p.type)) ⟨[],[],[[]]⟩∧y.2.gb.length=1∧y.2.loc.length=y.1∧y.2.code=[]∧Fr.cQ g.P y.2.loc [(d.params.take y.1).map tP] (eU y.2.gb)) (fun y=>[(0,ptr g.tb),(1,eJ g.x i),(4,ptr rb),(5,ptr wb),(45, .slice d.po d.params.length d.pc),(46, .int .i64 (d.params.length:Int)),(47, .int .i64 (y.1:Int))]) (fun y:Nat×WM=>aI w S::(g.R cs ++(aD rb [.int .i64 0, .int .i64 0, .slice none 0 0, .int .i64 0, .int .i64 0, .slice none 0 0] 88::(g.m ++wM wb g.tb y.2)))) (fun y=>d.params.length-y.1) (0,⟨d.kind,(d.params.length:Int),Fr.dE g.P d.type,0,none,0,[],none,0,[],some ⟨sb',0,none⟩,1,[⟨mb,[]⟩]⟩)
   rotate_left
   exact sb;exact aK;intro y hy K2 hK2;(refine Jn ?_)
   rotate_left
   ·exact⟨bP _,⟨rfl,rfl,rfl,rfl⟩,rfl,rfl,rfl,rfl,trivial,trivial⟩
   obtain⟨j,v⟩:=y;obtain⟨hj,hfl,hw,hg1,hlj,hcd,hcor⟩:=hy;dsimp only at hj hfl hw hg1 hlj hcd hcor⊢
   by_cases hlt:j<d.params.length
   rotate_left
   ·have hje:d.params.take j=d.params:=pF (by omega);rw[hje]at hw hcor
    repeat(refine Fm ?_)
    refine End.some_ hK v ?_;exact⟨hfl.1,by rw[if_neg k4];exact hfl.2.1,by rw[if_neg k4];exact hfl.2.2.1,hfl.2.2.2,hw.trans hW0.symm,hg1,by omega,hcd,by rw[show jF d=d.params.map tP from if_neg k4];exact hcor⟩
   have hpj:=Has.elem hp hlt;have htk:=mI hlt;obtain⟨last,hg⟩:∃last,v.gb=[last]:=by
    match hv:v.gb with
    |[]=>rw[hv]at hg1;cases hg1
    |[a]=>exact⟨a,rfl⟩
    |_::_::_=>rw[hv]at hg1;simp at hg1
   have hno:bC last.l (d.params.getD j default).name=none:=by
    rw[hg]at hcor;rw[EZ];refine(Fr.kM.DJ (s:=(d.params.getD j default).name) hcor.1).2 ?_;rw[←EY];refine LA _ _ _ (fun h=>?_);have hn2:=((List.take_sublist (j+1) d.params).map (·.name)).nodup hnd;rw[htk,Jq]at hn2;exact absurd rfl ((rH.1 hn2).2.2 _ h _ (by simp))
   repeat(refine Fm ?_;try intro b)
   obtain⟨pb,rfl⟩:∃x,x=b:=⟨_,rfl⟩;apply aB.draw 8 ([aD pb (nB (d.params.getD j default)) 227]) (by kernel_rfl) 8 rfl;refine JN 0 ?_;refine JN 1 ?_;refine JN 2 ?_;refine JN 3 ?_;refine JN 4 ?_;refine JN 5 ?_;(refine JT 6 ?_;refine aA.aZ (spec:=yH cs g hr.dY (d.params.getD j default).type) (r:=fun w=>eZ) (k:=?_);intro u hu;refine JG ?_;refine Jn ?_);(refine JT 7 ?_;refine aA.aZ (spec:=QZ v ⟨by omega,by rw[hcd];simp,by omega⟩ [] last hg (d.params.getD j default).name (Fr.dE g.P (d.params.getD j default).type) hno) (r:=fun w=>eZ) (k:=?_);intro a ha;refine JG ?_;refine Jn ?_);(apply RunT.done;kernel_rfl)
   repeat(refine Fm ?_)
   refine End.bK hK2 (j+1,v.yS [] last (d.params.getD j default).name (Fr.dE g.P (d.params.getD j default).type) a) ⟨hlt,hfl,?_,rfl,by show(v.loc ++[_]).length=_;rw[Jl];simp[hlj],hcd,?_⟩ (by dsimp only;omega)
   ·dsimp only;rw[RZ v [] last _ _ a hg,htk,vZ,←hw];rfl
   ·dsimp only;rw[htk,Jq];rw[hg]at hcor;refine⟨Fr.kM.snoc (by simp) (by rw[Jd];simp[Fr.CT]) (hcor.1.mono _),trivial⟩
end
end Vw
section
open Go Go.RowKit
section
variable{κ:Type}{dκ:DecidableEq κ}{iκ:cA κ}{α:Type}{P:Program} [eP P]{Q:Exit→Act→World→Prop}{N:Nd}{E:Env}{L L':List Chunk}{dst:Option Tmp}{ty:TypeId}{pos:String}{aft:Array Edge}{gu:Option (Nat×Bool)}{t kt et s1 b1 b:Nat}{z1:List Value}{g:α→Value}{l:List (κ×α)}
theorem Still.RU{x:Operand}{t:TypeId}(hx:ev E x=some (.map (some b)))(ht:aW P t=some ⟨.map kt et,s1,b1,z1⟩)(hm:Take (mp b g l) L L'):Still P N ⟨dst, .call ⟨.builtin .len, #[x], #[t]⟩,ty,pos,aft,gu⟩ E L (.int .i64 (l.length:Int)):=fun A w hs hM=>by
 obtain⟨es,ck,h1,h2,h3⟩:=tA.1 (hM.has hm);have hl:es.size=l.length:=by have:=congrArg List.length h2;simpa using this
 simp[execOp,resolve,invoke,builtin,hs.ev hx,Builtin.len_,run_underlying (b7 ht).map,goInt,MapKept.run_getObj_map h1,hl]
theorem aB.yX{c:Code}(t:Take (mp b g l) L L')(h:∀bs ck,aB P Q N c E (mpr b g l bs ck::L')):aB P Q N c E L:=fun a w hs hm=>by
 obtain⟨bs,ck,h2⟩:=hm.yX t;exact h bs ck a w hs h2
end
section
variable{P:Program} [eP P]{N:Nd}{E:Env}{L L' L2 F:List Chunk}{σ:Type}{fn:Func}{post:σ→Prop}{val:σ→Value}{mem:σ→List Chunk}{w0:World}{S:Nat→Prop}
theorem End.DS{t u:Tmp}{ty bt ty2 bt2:TypeId}{b s' b' b2 s2' b2':Nat}{fs fs2:List (Nat×TypeId)}{z' z2' cs cs2:List Value}(x:σ)(hp:post x)(he:val x= .tuple #[.agg cs.toArray, .agg cs2.toArray])(hr:fn.results= #[.cell t ty, .cell u ty2]:=by exact rfl)(hv:look E t=Option.some (.pointer (Option.some ⟨b,0,none⟩)):=by exact rfl)(hu:look E u=Option.some (.pointer (Option.some ⟨b2,0,none⟩)):=by exact rfl)
  (ht:aW P ty=Option.some ⟨.struct fs,s',b',z'⟩:=by exact rfl) (ht2:aW P ty2=Option.some ⟨.struct fs2,s2',b2',z2'⟩:=by exact rfl) (hm:Take (aD b cs bt) L L':=by exact tk) (hm2:Take (aD b2 cs2 bt2) L L2:=by exact tk) (hl:cs.length=s':=by exact rfl) (hl2:cs2.length=s2':=by exact rfl) (hx:∀c∈mem x,c.bB=true:=by exact oQ) (hF:aQ (aI w0 S::mem x) L F:=by exact aK) (hD:N.ds=[]:=by exact rfl):
  End (bodyPost P fn (fZ post val mem w0 S)) N .ret E L:=fun a w hs hM=>by
 have hb:=jU.1 (hM.has hm);have hb2:=jU.1 (hM.has hm2);have h1:=hs.slot t _ hv;have h2:=hs.slot u _ hu;refine bodyPost_ret (v:= .tuple #[.agg cs.toArray, .agg cs2.toArray]) ?_ (hs.defs.trans hD) ⟨x,hp,by rw[he],hx,(hM.aS hF).left⟩;simp[results,hr,h1,h2,asAddr,xD ht hb hl,xD ht2 hb2 hl2]
end
end
namespace Vw
open Go.RowKit Img
section
attribute [local irreducible] aE aB End aA Still aM aP RunT Fn aO
theorem O2(l:List DL)(d:DL):kH (l ++[d])=if d.kind=1 then kH l ++[(d.name,(kH l).length)]else kH l:=by
 unfold kH;rw[oH]
 by_cases h:d.kind=1
 ·rw[if_pos h];simp[h,List.zipIdx_append]
 ·rw[if_neg h];simp[h]
theorem W2(l:List DL)(d:DL):eT (l ++[d])=if d.kind=1 then eT l else eT l ++[(d.name,(eT l).length)]:=by
 unfold eT;rw[oH]
 by_cases h:d.kind=1
 ·rw[if_pos h];simp[h]
 ·rw[if_neg h];simp[h,List.zipIdx_append]
theorem ZN{l:List DL}{s:aF}(h:s∉l.map (·.name)):bC (kH l) s=none:=by
 unfold kH;rw[E1];rw[List.findIdx?_eq_none_iff.2 (fun x hx=>by
  obtain⟨d,hd,rfl⟩:=fD.1 hx;exact decide_eq_false fun e=>h (by rw[←e];exact lO ((lP.1 hd).1)))]
 rfl
theorem aHE{l:List DL}{s:aF}(h:s∉l.map (·.name)):bC (eT l) s=none:=by
 unfold eT;rw[E1];rw[List.findIdx?_eq_none_iff.2 (fun x hx=>by
  obtain⟨d,hd,rfl⟩:=fD.1 hx;exact decide_eq_false fun e=>h (by rw[←e];exact lO ((lP.1 hd).1)))]
 rfl
theorem ZM(l:List DL):(kH l).length≤l.length:=by unfold kH;rw[List.length_zipIdx,Jf];exact pG _ _
theorem aHD(l:List DL):(eT l).length≤l.length:=by unfold eT;rw[List.length_zipIdx,Jf];exact pG _ _
abbrev s9(m:ML):List Chunk:=arr m.bo m.bx.length m.bc 91 mV m.bx::arr m.uo m.us.length m.uc 88 mM m.us::m.us.flatMap mL
abbrev aAE(x:cI)(r:ML×Int×Int):Prop:=(r.2.1=0∧r.2.2=0∧Fr.compile (x.l.map DL.df)=some r.1.aC)∨(r.2.1≠0∧Fr.compile (x.l.map DL.df)=none)
abbrev aAF(r:ML×Int×Int):Value:= .tuple #[r.1.val, .agg #[.int .i64 r.2.1, .int .i64 r.2.2]]
theorem SD(m:ML):∀c∈s9 m,c.bB=true:=fun c hc=>by
 rcases eB.1 hc with rfl|hc
 ·exact dX
 ·rcases eB.1 hc with rfl|hc
  ·exact dX
  ·obtain⟨u, -,hu⟩:=wA.1 hc;simp only[mL,eB,List.not_mem_nil,or_false]at hu;rcases hu with rfl|rfl<;>exact dX
theorem Mem.E8{w:World}{L:List Chunk}(h:Mem w L):Mem w (aR (s9 ⟨[],none,0,[],none,0⟩)::L):=Mem.pack (cs:=s9 ⟨[],none,0,[],none,0⟩) ((h.bY 88 mM).bY 91 mV) (SD _)
abbrev cL(P:List Fr.Df)(d:DL):Int×Int:=(Fr.dE P d.type,d.cap)
def bJ(x:cI)(j:Nat):List (Int×Int):=((x.l.take j).filter fun d=>decide (d.kind=1)).map (cL (x.l.map DL.df))
theorem ZS(x:cI){j:Nat}(hj:j<x.l.length)(h:(x.l.getD j default).kind=1):bJ x (j+1)=bJ x j ++[cL (x.l.map DL.df) (x.l.getD j default)]:=by
 unfold bJ;rw[mI hj,oH,Jq];congr 1;rw[pJ,if_pos (decide_eq_true h)];rfl
theorem ZR(x:cI){j:Nat}(hj:j<x.l.length)(h:¬(x.l.getD j default).kind=1):bJ x (j+1)=bJ x j:=by
 unfold bJ;rw[mI hj,oH,Jq,pJ,if_neg (by rw[decide_eq_false h];simp)];exact eH _
theorem ZQ(x:cI)(j:Nat):(bJ x j).length≤j:=by
 unfold bJ;rw[Jf];have:=pG (fun d:DL=>decide (d.kind=1)) (x.l.take j);rw[lE]at this;omega
theorem Mem.aCu{w:World}{L L1 L2 L3:List Chunk}(m:ML)(h:Mem w L)(t1:Take (arr m.bo m.bx.length m.bc 91 mV m.bx) L L1)(t2:Take (arr m.uo m.us.length m.uc 88 mM m.us) L1 L2)(t3:Take (aR (m.us.flatMap mL)) L2 L3):Mem w (aR (s9 m)::L3):=by
 have h1:Mem w ([arr m.bo m.bx.length m.bc 91 mV m.bx,arr m.uo m.us.length m.uc 88 mM m.us,aR (m.us.flatMap mL)] ++L3):=h.aS (.cons t1 (.cons t2 (.cons t3 .nil)));have h2:Mem w ([arr m.bo m.bx.length m.bc 91 mV m.bx,arr m.uo m.us.length m.uc 88 mM m.us] ++aR (m.us.flatMap mL)::L3):=h1;exact Mem.pack (cs:=s9 m) (by simpa using Mem.AD h2) (SD m)
structure GV where
 k:Nat
 uo:Option Addr
 uc:Nat
 us:List UC
structure GW where
 j:Nat
 bo:Option Addr
 bc:Nat
set_option maxHeartbeats 4000000 in
theorem aAH(cs:List Chunk)(x:cI)(h:nL cs x.o x.c x.l):Fn Tryz.prog 23 #[.slice x.o x.l.length x.c] [bE cs,bN] [] (σ:=ML×Int×Int) (aAE x) aAF (fun r=>[aR (s9 r.1)]):=by
 have ha:=h.arr;refine JE [.slice x.o x.l.length x.c] Tryz.func23 Tryz.ntmps23 fun w S=>?_;refine Jn ?_
 repeat(refine Fm ?_;try intro b)
 obtain⟨fb,rfl⟩:∃x,x=b:=⟨_,rfl⟩;obtain⟨mb,rfl⟩:∃x,x=b:=⟨_,rfl⟩;refine FQ (Z7 cs x h) ?_;intro f hf;refine Jn ?_
 repeat(refine Fm ?_;try intro b)
 obtain⟨eb,rfl⟩:∃x,x=b:=⟨_,rfl⟩;rcases hf with⟨h1,h2,h3⟩|⟨h1,h3⟩
 rotate_left
 ·have h1':decide (f.1=0)=false:=decide_eq_false h1
  repeat(refine Fm ?_)
  apply aB.draw 3 ([aD eb [.int .i64 f.1, .int .i64 f.2] 70]) (by kernel_rfl) 4 rfl;refine RunT.a7 0 (hQ:=bA) (h:=?_);refine RunT.a7 1 (hQ:=bA) (h:=?_);(refine JT 2 ?_;(refine Jw ?_);refine JG ?_);(refine JT 3 ?_;(refine Jw ?_);refine JG ?_);(apply RunT.done;kernel_rfl)
  repeat(refine Fm ?_)
  apply End.imp (fun w hm=>Mem.E8 hm);exact End.DS (⟨[],none,0,[],none,0⟩,f.1,f.2) (.inr ⟨h1,by unfold Fr.compile;rw[h3];rfl⟩) rfl
 have h1':decide (f.1=0)=true:=decide_eq_true h1;rw[HY,JX]at h3;have hr:=aEp h3.1;have hcm:Fr.compile (x.l.map DL.df)=(if(((x.l.map DL.df).filter fun d=>!decide (d.kind=1)).map (Fr.q0 (x.l.map DL.df))).any (fun u=>decide (200<u.locals.length)||decide (4000<u.code.length))=true then none else some ⟨((x.l.map DL.df).filter fun d=>decide (d.kind=1)).map fun d=>(Fr.dE (x.l.map DL.df) d.type,d.cap),((x.l.map DL.df).filter fun d=>!decide (d.kind=1)).map (Fr.q0 (x.l.map DL.df))⟩):=by
  unfold Fr.compile;rw[if_pos (by rw[HY,h3.1,h3.2];rfl)]
 repeat(refine Fm ?_)
 apply aE.op (by exact rfl);refine aA.oV (κ:=aF) gR (by exact rfl) fun bm=>?_
 refine Jn ?_;apply aE.op (by exact rfl);refine aA.oV (κ:=aF) gR (by exact rfl) fun um=>?_
 refine Jn ?_;apply aE.op (by exact rfl);refine aA.oV (κ:=aF) (eJ x) (by exact rfl) fun dm=>?_
 refine Jn ?_
 repeat(refine Fm ?_;try intro b)
 obtain⟨lb,rfl⟩:∃x,x=b:=⟨_,rfl⟩;obtain⟨tb,rfl⟩:∃x,x=b:=⟨_,rfl⟩;have hnd:((List.range x.l.length).map fun i=>(x.l.getD i default).name).Nodup:=by
  have:=hr.nd;rw[uC]at this;rw[zF x.l (·.name)];exact this
 have hheads:=hr.nS;have hfew:=hr.dY;apply aB.imp (fun w hm=>hm.bY 91 mV);refine aB.only ((fun z:GW=>[aI w S,bE cs,aD fb [.int .i64 0, .int .i64 0] 70,aD mb [.slice none 0 0, .slice none 0 0] 26,aD lb [.slice z.bo (bJ x z.j).length z.bc, .slice none 0 0] 26,aD tb [.map (some bm), .map (some um), .map (some dm)] 152,mp dm (eJ x) (dL x z.j),mp um gR (eT (x.l.take z.j)),mp bm gR (kH (x.l.take z.j)),arr z.bo (bJ x z.j).length z.bc 91 mV (bJ x z.j)]) ⟨0,none,0⟩) (aK) ?_;apply aB.loop (σ:=GW) (fun z=>z.j≤x.l.length) (fun z=>[(0, .slice x.o x.l.length x.c),(2,ptr mb),(3,ptr fb),(5,ptr tb),(6,ptr lb),(23, .int .i64 (x.l.length:Int)),(24, .int .i64 (z.j:Int))]) (fun z:GW=>[aI w S,bE cs,aD fb [.int .i64 0, .int .i64 0] 70,aD mb [.slice none 0 0, .slice none 0 0] 26,aD lb [.slice z.bo (bJ x z.j).length z.bc, .slice none 0 0] 26,aD tb [.map (some bm), .map (some um), .map (some dm)] 152,mp dm (eJ x) (dL x z.j),mp um gR (eT (x.l.take z.j)),mp bm gR (kH (x.l.take z.j)),arr z.bo (bJ x z.j).length z.bc 91 mV (bJ x z.j)]) (fun z=>x.l.length-z.j) ⟨0,none,0⟩
 rotate_left
 exact sb;exact aK;intro z hz K hK;(refine Jn ?_)
 rotate_left
 ·exact bP _
 obtain⟨j,bo,bc⟩:=z;dsimp only at hz⊢
 by_cases hlt:j<x.l.length
 ·have hin:=h.at hlt;have hd:=hin.has;have htk:=mI hlt;have hno:(x.l.getD j default).name∉(List.range j).map fun i=>(x.l.getD i default).name:=fun hm=>E6 hnd hlt hm
  have hno2:(x.l.getD j default).name∉(x.l.take j).map (·.name):=fun hm=>hno (by
   rw[←zF (x.l.take j) (·.name)]at hm;obtain⟨i,hi,he⟩:=fD.1 hm;rw[nN,lE]at hi;refine fD.2 ⟨i,nN.2 (by omega),?_⟩;rw[←he,Jd,Jd,List.getElem?_take_of_lt (by omega)])
  have hbl:=ZM (x.l.take j);have hul:=aHD (x.l.take j);rw[lE]at hbl hul
  repeat(refine Fm ?_)
  apply aE.op (by exact rfl);refine aA.qS (g:=eJ x) (a:=j) (k:=?_);rw[oW _ _ _ ((LI x _ j).2 hno),←B0]
  by_cases k1:(x.l.getD j default).kind=1
  ·have hpl:=Fr.D8 (hheads _ (lO (dQ hlt))) (by show(x.l.getD j default).kind≠4;omega);have hbx:kH (x.l.take (j+1))=kH (x.l.take j) ++[((x.l.getD j default).name,(kH (x.l.take j)).length)]:=by rw[htk,O2,if_pos k1]
   have hux:eT (x.l.take (j+1))=eT (x.l.take j):=by rw[htk,W2,if_pos k1]
   have hbs:=ZS x hlt k1
   repeat(refine Fm ?_)
   refine aP.b8 (h:=Still.RU (g:=gR) rfl rfl tk) (k:=?_)
   repeat(refine Fm ?_)
   apply aE.op (by exact rfl);refine aA.qS (g:=gR) (a:=(kH (x.l.take j)).length) (k:=?_);rw[oW _ _ _ (ZN hno2),←hbx];have hbl2:=ZQ x j
   repeat(refine Fm ?_)
   apply aB.draw 18 ([aD lb [.slice bo (bJ x j).length bc, .slice none 0 0] 26,bE cs]) (by kernel_rfl) 19 rfl;refine RunT.a7 0 (hQ:=bA) (h:=?_);refine RunT.a7 1 (hQ:=bA) (h:=?_);refine RunT.a7 2 (hQ:=bA) (h:=?_);refine RunT.a7 3 (hQ:=bA) (h:=?_);refine RunT.a7 4 (hQ:=bA) (h:=?_);refine RunT.a7 5 (hQ:=bA) (hy:=Fh) (h:=?_);refine RunT.a7 6 (hQ:=bA) (h:=?_);refine RunT.a7 7 (hQ:=bA) (hy:=Fh) (h:=?_);refine RunT.a7 9 (hQ:=bA) (h:=?_);refine RunT.a7 10 (hQ:=bA) (h:=?_);refine RunT.a7 11 (hQ:=bA) (hy:=Fh) (h:=?_);refine RunT.a7 12 (hQ:=bA) (h:=?_);refine RunT.a7 13 (hQ:=bA) (hy:=Fh) (h:=?_);(refine JT 8 ?_;refine aA.aZ (spec:=aBY tb (x.l.getD j default).type hpl (x.l.map DL.df)) (r:=fun w=>eZ) (k:=?_);intro u hu;refine JG ?_;refine Jn ?_);refine RunT.a7 14 (hQ:=bA) (h:=?_);(refine JT 15 ?_;(refine Jb ?_;intro b);refine JG ?_);(refine JT 16 ?_;refine aA.jL (a:=cL (x.l.map DL.df) (x.l.getD j default)) (k:=?_);intro ao cap;refine JG ?_;(refine Jn ?_));refine RunT.a7 17 (hQ:=bA) (h:=?_);(refine JT 18 ?_;(refine Jw ?_);refine JG ?_);(apply RunT.done;kernel_rfl)
   repeat(refine Fm ?_)
   rw[←hbs,←hux,show(bJ x j).length+1=(bJ x (j+1)).length by rw[hbs];simp];exact End.bK hK ⟨j+1,ao,cap⟩ hlt (by show x.l.length-(j+1)<x.l.length-j;omega)
  ·have hbx:kH (x.l.take (j+1))=kH (x.l.take j):=by rw[htk,O2,if_neg k1]
   have hux:eT (x.l.take (j+1))=eT (x.l.take j) ++[((x.l.getD j default).name,(eT (x.l.take j)).length)]:=by rw[htk,W2,if_neg k1]
   have hbs:=ZR x hlt k1
   repeat(refine Fm ?_)
   refine aP.b8 (h:=Still.RU (g:=gR) rfl rfl tk) (k:=?_)
   repeat(refine Fm ?_)
   apply aE.op (by exact rfl);refine aA.qS (g:=gR) (a:=(eT (x.l.take j)).length) (k:=?_);rw[oW _ _ _ (aHE hno2),←hux]
   repeat(refine Fm ?_)
   rw[←hbx,←hbs];exact End.bK hK ⟨j+1,bo,bc⟩ hlt (by show x.l.length-(j+1)<x.l.length-j;omega)
 obtain rfl:j=x.l.length:=by omega
 rw[l4];clear hK
 repeat(refine Fm ?_)
 refine aB.yX (b:=um) (g:=gR) (l:=eT x.l) tk fun bs ck=>?_
 obtain⟨g,hg⟩:∃g:GT,g=⟨tb,bm,um,dm,x,bs,ck⟩:=⟨_,rfl⟩;apply aB.imp (fun w hm=>(hm.bY 88 mM).eX);refine aB.only ((fun z:GV=>aI w S::((GT.mk tb bm um dm x bs ck).R cs ++([aD fb [.int .i64 0, .int .i64 0] 70,aD mb [.slice none 0 0, .slice none 0 0] 26,aD lb [.slice bo (bJ x x.l.length).length bc, .slice z.uo z.us.length z.uc] 26,arr bo (bJ x x.l.length).length bc 91 mV (bJ x x.l.length),arr z.uo z.us.length z.uc 88 mM z.us,aR (z.us.flatMap mL)] ++(GT.mk tb bm um dm x bs ck).m))) ⟨0,none,0,[]⟩) (aK) ?_;apply aB.loop (σ:=GV) (fun z=>z.k≤x.l.length∧z.us.map (·.u)=((x.l.take z.k).filter fun d=>!decide (d.kind=1)).map (fun d=>Fr.q0 (x.l.map DL.df) d.df)∧z.us.length≤z.k∧∀u∈z.us,u.u.locals.length≤200∧u.u.code.length≤4000) (fun z=>[(0, .slice x.o x.l.length x.c),(2,ptr mb),(3,ptr fb),(5,ptr tb),(6,ptr lb),(93, .int .i64 (x.l.length:Int)),(94, .int .i64 (z.k:Int))]) (fun z:GV=>aI w S::((GT.mk tb bm um dm x bs ck).R cs ++([aD fb [.int .i64 0, .int .i64 0] 70,aD mb [.slice none 0 0, .slice none 0 0] 26,aD lb [.slice bo (bJ x x.l.length).length bc, .slice z.uo z.us.length z.uc] 26,arr bo (bJ x x.l.length).length bc 91 mV (bJ x x.l.length),arr z.uo z.us.length z.uc 88 mM z.us,aR (z.us.flatMap mL)] ++(GT.mk tb bm um dm x bs ck).m))) (fun z=>x.l.length-z.k) ⟨0,none,0,[]⟩
 rotate_left
 exact sb;exact aK;intro z hz K hK;(refine Jn ?_)
 rotate_left
 ·exact⟨bP _,by simp,cG _,by simp⟩
 obtain⟨k,uo,uc,us⟩:=z;obtain⟨hk,hus,hul,hsm⟩:=hz;dsimp only at hk hus hul hsm⊢
 by_cases hlt:k<x.l.length
 rotate_left
 ·obtain rfl:k=x.l.length:=by omega
  rw[l4]at hus
  repeat(refine Fm ?_)
  have hus2:us.map (·.u)=((x.l.map DL.df).filter fun d=>!decide (d.kind=1)).map (Fr.q0 (x.l.map DL.df)):=by
   rw[hus,xV,uC];rfl
  have hno:(us.map (·.u)).any (fun u=>decide (200<u.locals.length)||decide (4000<u.code.length))=false:=tX.2 fun v hv=>by
   obtain⟨u,hu,rfl⟩:=fD.1 hv;obtain⟨h1,h2⟩:=hsm u hu;rw[decide_eq_false (by omega),decide_eq_false (by omega)];simp
  have hbx:bJ x x.l.length=((x.l.map DL.df).filter fun d=>decide (d.kind=1)).map fun d=>(Fr.dE (x.l.map DL.df) d.type,d.cap):=by
   unfold bJ;rw[l4,xV,uC];rfl
  rw[←hus2,hno,if_neg (by simp),←hbx]at hcm;apply End.imp (fun w hm=>Mem.aCu ⟨bJ x x.l.length,bo,bc,us,uo,uc⟩ hm tk tk tk);exact End.DS (⟨bJ x x.l.length,bo,bc,us,uo,uc⟩,0,0) (.inl ⟨rfl,rfl,hcm⟩) rfl
 have hin:=h.at hlt;have hd:=hin.has;have htk:=mI hlt
 by_cases k1:(x.l.getD k default).kind=1
 ·repeat(refine Fm ?_)
  refine End.bK hK ⟨k+1,uo,uc,us⟩ ⟨hlt,?_,by dsimp only;omega,hsm⟩ (by show x.l.length-(k+1)<x.l.length-k;omega);dsimp only;rw[hus,htk,oH,pJ,if_neg (by rw[decide_eq_true k1];simp)];simp
 repeat(refine Fm ?_)
 refine FQ (aBZ cs (GT.mk tb bm um dm x bs ck) h hr k hlt k1) ?_;intro u hu;refine Jn ?_;have hmu:Fr.q0 (x.l.map DL.df) (iR x k)∈((x.l.map DL.df).filter fun d=>!decide (d.kind=1)).map (Fr.q0 (x.l.map DL.df)):=lO (lP.2 ⟨lO (dQ hlt),by rw[decide_eq_false (show¬(iR x k).kind=1 from k1)];rfl⟩);have hbad:200<u.u.locals.length∨4000<u.u.code.length→Fr.compile (x.l.map DL.df)=none:=fun hb=>by
  rw[hcm,if_pos];refine qD.2 ⟨_,hmu,?_⟩;rw[show Fr.q0 (x.l.map DL.df) (iR x k)=u.u from hu.symm];rcases hb with hb|hb
  ·rw[decide_eq_true hb];rfl
  ·rw[decide_eq_true hb];simp
 repeat(refine Fm ?_;try intro b)
 obtain⟨ub,rfl⟩:∃x,x=b:=⟨_,rfl⟩
 by_cases hl:200<u.u.locals.length
 ·repeat(refine Fm ?_)
  apply End.imp (fun w hm=>Mem.E8 hm);exact End.DS (⟨[],none,0,[],none,0⟩,5,(k:Int)) (.inr ⟨show(5:Int)≠0 by decide,hbad (.inl hl)⟩) rfl
 by_cases hc:4000<u.u.code.length
 ·repeat(refine Fm ?_)
  apply End.imp (fun w hm=>Mem.E8 hm);exact End.DS (⟨[],none,0,[],none,0⟩,5,(k:Int)) (.inr ⟨show(5:Int)≠0 by decide,hbad (.inr hc)⟩) rfl
 repeat(refine Fm ?_;try first|intro ao cap|intro b)
 apply End.imp (fun w hm=>hm.mA (cs:=us.flatMap mL ++mL u) (ds:=mL u) (es:=us.flatMap mL) tk (.cons tk (.cons tk .nil)) pH (by simp[dX]));rw[show us.flatMap mL ++mL u=(us ++[u]).flatMap mL by simp,show us.length+1=(us ++[u]).length by simp];refine End.bK hK ⟨k+1,ao,cap,us ++[u]⟩ ⟨hlt,?_,by dsimp only;rw[Jl,jA];omega,fun v hv=>?_⟩ (by show x.l.length-(k+1)<x.l.length-k;omega)
 ·dsimp only;rw[Jq,hus,htk,oH,Jq,pJ,if_pos (by rw[decide_eq_false k1];rfl)];rw[List.map_singleton,hu];rfl
 ·rcases dH.1 hv with hv|hv
  ·exact hsm v hv
  ·rw[gD.1 hv];omega
attribute [local irreducible] Fr.parse Fr.compile Fr.module
theorem aCx{t:aF}(h:∀p,Fr.parse t=some p→Fr.shaped p=false):Fr.module t=none:=by
 unfold Fr.module
 cases hp:Fr.parse t with
 |none=>rfl
 |some p=>
  rw[aU];unfold Fr.compile;rw[if_neg];unfold Fr.check;rw[h p hp];simp
abbrev aCv(t:aF)(r:ML×Bool):Prop:=(r.2=true∧Fr.module t=some r.1.aC)∨(r.2=false∧Fr.module t=none)
abbrev aCw(r:ML×Bool):Value:= .tuple #[r.1.val, .bool r.2]
set_option maxHeartbeats 1000000 in
theorem SG(t:aF)(hn:t.length≤9223372036854775807):Fn Tryz.prog 7 #[sv t] [bN] [] (σ:=ML×Bool) (aCv t) aCw (fun r=>[aR (s9 r.1)]):=by
 refine JE [sv t] Tryz.func7 Tryz.ntmps7 fun w S=>?_;refine Jn ?_
 repeat(refine Fm ?_;try intro b)
 refine FQ (aEe t hn) ?_;intro x hx;refine Jn ?_
 repeat(refine Fm ?_;try intro b)
 obtain⟨rb,rfl⟩:∃x,x=b:=⟨_,rfl⟩;rcases hx with⟨h1,h2,h3⟩|⟨h1,h3⟩
 rotate_left
 ·have h1':decide (x.2.1=0)=false:=decide_eq_false h1
  repeat(refine Fm ?_)
  apply End.imp (fun w hm=>Mem.E8 hm);exact End.dK (⟨[],none,0,[],none,0⟩,false) (he:=rfl) (hp:= .inr ⟨rfl,aCx h3⟩) (hx:=oQ) (ht:=by exact rfl)
 have h1':decide (x.2.1=0)=true:=decide_eq_true h1
 repeat(refine Fm ?_)
 apply aE.op (by exact rfl);refine aA.aZ (spec:=aAH x.1.sU x.1 ⟨gU,fun d hd e he=>iO _ (wA.2 ⟨d,hd,he⟩)⟩) (r:=fun w=>Reads.bE tk eZ) (k:=?_);intro r hr;refine Jn ?_
 repeat(refine Fm ?_;try intro b)
 obtain⟨mb,rfl⟩:∃x,x=b:=⟨_,rfl⟩;apply aB.draw 5 ([aD mb [.slice r.1.bo r.1.bx.length r.1.bc, .slice r.1.uo r.1.us.length r.1.uc] 26,aD rb [.int .i64 r.2.1, .int .i64 r.2.2] 70]) (by kernel_rfl) 6 rfl;refine RunT.a7 0 (hQ:=bA) (h:=?_);refine RunT.a7 1 (hQ:=bA) (h:=?_);refine RunT.a7 2 (hQ:=bA) (h:=?_);refine RunT.a7 3 (hQ:=bA) (h:=?_);(refine JT 4 ?_;(refine Jw ?_);refine JG ?_);(refine JT 5 ?_;(refine Jw ?_);refine JG ?_);(apply RunT.done;kernel_rfl)
 repeat(refine Fm ?_)
 rcases hr with⟨c1, -,c2⟩|⟨c1,c2⟩
 ·exact End.dK (r.1,true) (he:=by rw[decide_eq_true c1]) (hp:= .inl ⟨rfl,by unfold Fr.module;rw[h2];exact c2⟩) (hx:=oQ) (ht:=by exact rfl)
 ·exact End.dK (r.1,false) (he:=by rw[decide_eq_false c1]) (hp:= .inr ⟨rfl,by unfold Fr.module;rw[h2];exact c2⟩) (hx:=oQ) (ht:=by exact rfl)
end
end Vw
end Go.Proofs.YtofckcabpchcmaaGreatDoor
