/- A step's operations, walked. -/
import Derived.Test.YtofckcabpchcmaaGreatDoorM21
set_option linter.unusedVariables false
set_option linter.unusedSimpArgs false
set_option linter.unusedSectionVars false
set_option maxRecDepth 100000
namespace Go.Proofs.YtofckcabpchcmaaGreatDoor
namespace Vw
open Go.RowKit Img
section
attribute [local irreducible] aE aG End aB Still aN aU RunT Fn aS
section
variable{E:dK}
abbrev SL.at_(z:SL E)(n:Nat):SL E:={z with cur:={z.cur with fr:=z.cur.fr.set (z.cur.fr.length-1) ⟨z.f.unit,n,z.f.base⟩}}
theorem SL.Wf.setAt{z:SL E}(hz:z.Wf)(n:Nat):(z.at_ n).Wf∧(z.at_ n).tk=Vm.gX n z.tk:=by
 refine⟨hz.setCur rfl rfl rfl hz.dR,?_⟩;unfold Vm.gX Vm.A2;rw[hz.gY,hz.cur];exact SL.uQ z _
set_option maxHeartbeats 2000000 in
theorem aGl(p:Pl)(z:SL E)(hz:z.Wf)(hs:mS p.m z)(h1:(z.look p.m).st=1)(hpc:z.f.pc≤100000)(hc:oG p.m (z.bN p.m) (bJ p.m z))(ha:qA p.m (z.bN p.m) (bJ p.m z))(hop:(bJ p.m z).op=21):
  Fn Tryz.prog 32 #[ptr p.tb] [md p.m,E.rc] (TM p z) (σ:=SL E) (jL z (Vm.step E.V p.m.aC z.two).2) (fun _=> .bool (Vm.step E.V p.m.aC z.two).1) (fun z'=>TM p z'):=by
 obtain⟨g1,g2,g3,g4,g5⟩:=id hs;have hl:0<z.cur.fr.length:=JP.2 g1;have w1:IntKind.i64.wrap ((z.cur.fr.length:Int)-1)=((z.cur.fr.length-1:Nat):Int):=by rw[dX aA];omega
 have w2:IntKind.i64.wrap ((z.f.pc:Int)+1)=((z.f.pc+1:Nat):Int):=by rw[dX aA];omega
 refine JE [ptr p.tb] Tryz.func32 Tryz.ntmps32 fun w S=>?_;refine aD ?_;(refine Jc ?_;refine aB.bA (spec:=fR p z hz (fun _=>hs)) (r:=fun w=>Jm) (k:=?_);intro s hs;refine Jn ?_);refine aD ?_;refine b8 21 [jV p (z.look p.m),lR p,gO z.cur,md p.m] 22 ?_;refine bR [0,1,2,3,4,5,6,7,8,9,10,11,12,13,14,15,16,17,18,19] ?_;refine iF 20 fun b=>?_;refine gWl [21] ?_;refine b6 ?_;refine aD ?_;(apply aE.op;exact rfl;refine aB.j5 (f:=dH) (l:=z.cur.fr) (i:=z.cur.fr.length-1) (off:=1) (vs:=[.int .i64 ((z.f.pc+1:Nat):Int)]) (a':=(⟨z.f.unit,z.f.pc+1,z.f.base⟩:Vm.Fr)) (k:=?_));apply aE.nil;apply End.kH;obtain⟨ib,rfl⟩:=a7 b;refine aG.sub [(0,ptr p.tb),(2, .bool false),(3, .pointer (place (sz dH) z.cur.fo (z.cur.fr.length-1) 0)),(4,ptr ib)] (Ju) ?_;have hln:z.cur.fr.length=(z.cur.fr.set (z.cur.fr.length-1) (⟨z.f.unit,z.f.pc+1,z.f.base⟩:Vm.Fr)).length:=by rw[Ji]
 refine aG.only (aO w S::md p.m::E.rc::aF ib (dB (bJ p.m z)) 113::TM p (z.bN p.m)) (Jx) ?_;have hpl:place (sz dH) z.cur.fo (z.cur.fr.length-1) 0=place (sz dH) (z.bN p.m).cur.fo ((z.bN p.m).cur.fr.length-1) 0:=by rw[show(z.bN p.m).cur.fr.length=z.cur.fr.length from Ji]
 rw[hpl];have hstep:=hz.rT p.m h1;rw[hstep];have hz1:=hz.bN p.m;obtain⟨i,hi⟩:∃i,i=bJ p.m z:=⟨_,rfl⟩;obtain⟨z1,hz1e⟩:∃z1,z1=z.bN p.m:=⟨_,rfl⟩;rw[←hi,←hz1e]at hc ha⊢;rw[←hz1e]at hz1;rw[←hi]at hop;have a0:=hc.jump (.inl hop);obtain⟨n,hn⟩:=JI a0;have hn':i.a=(n:Int):=hn;have hfl:z1.cur.fr.length=z.cur.fr.length:=by rw[hz1e];exact Ji
 refine aD ?_;rw[hn'];(apply aE.op;exact rfl;refine aB.j5 (f:=dH) (l:=z1.cur.fr) (i:=z1.cur.fr.length-1) (off:=1) (vs:=[.int .i64 n]) (a':=(⟨z1.f.unit,n,z1.f.base⟩:Vm.Fr)) (k:=?_));refine aD ?_;obtain⟨t1,t2⟩:=hz1.setAt n;refine aE.UP (aO w S::md p.m::E.rc::TM p (z1.at_ n)) (Jx) ?_;have t3:(z1.at_ n).two=Vm.exec E.V p.m.aC i z1.two:=by
  have e:i.a.toNat=n:=by rw[hn'];rfl
  unfold Vm.exec;simp[hop,e];exact congrArg (fun t=>(t,E.abs z1.e)) t2
 refine aD ?_;(refine kD (fR p (z1.at_ n) t1 (ha (z1.at_ n) t1 t3)) fun s hs=>?_);refine cL (SL.look (z1.at_ n) p.m) ?_;exact⟨t1.look p.m,(t1.iV p.m).trans (by rw[t3])⟩
end
section
variable{E:dK}
set_option maxHeartbeats 2000000 in
theorem aGm(p:Pl)(z:SL E)(hz:z.Wf)(hs:mS p.m z)(h1:(z.look p.m).st=1)(hpc:z.f.pc≤100000)(hc:oG p.m (z.bN p.m) (bJ p.m z))(ha:qA p.m (z.bN p.m) (bJ p.m z))(hop:(bJ p.m z).op=22):
  Fn Tryz.prog 32 #[ptr p.tb] [md p.m,E.rc] (TM p z) (σ:=SL E) (jL z (Vm.step E.V p.m.aC z.two).2) (fun _=> .bool (Vm.step E.V p.m.aC z.two).1) (fun z'=>TM p z'):=by
 obtain⟨g1,g2,g3,g4,g5⟩:=id hs;have hl:0<z.cur.fr.length:=JP.2 g1;have w1:IntKind.i64.wrap ((z.cur.fr.length:Int)-1)=((z.cur.fr.length-1:Nat):Int):=by rw[dX aA];omega
 have w2:IntKind.i64.wrap ((z.f.pc:Int)+1)=((z.f.pc+1:Nat):Int):=by rw[dX aA];omega
 refine JE [ptr p.tb] Tryz.func32 Tryz.ntmps32 fun w S=>?_;refine aD ?_;(refine Jc ?_;refine aB.bA (spec:=fR p z hz (fun _=>hs)) (r:=fun w=>Jm) (k:=?_);intro s hs;refine Jn ?_);refine aD ?_;refine b8 21 [jV p (z.look p.m),lR p,gO z.cur,md p.m] 22 ?_;refine bR [0,1,2,3,4,5,6,7,8,9,10,11,12,13,14,15,16,17,18,19] ?_;refine iF 20 fun b=>?_;refine gWl [21] ?_;refine b6 ?_;refine aD ?_;(apply aE.op;exact rfl;refine aB.j5 (f:=dH) (l:=z.cur.fr) (i:=z.cur.fr.length-1) (off:=1) (vs:=[.int .i64 ((z.f.pc+1:Nat):Int)]) (a':=(⟨z.f.unit,z.f.pc+1,z.f.base⟩:Vm.Fr)) (k:=?_));apply aE.nil;apply End.kH;obtain⟨ib,rfl⟩:=a7 b;refine aG.sub [(0,ptr p.tb),(2, .bool false),(3, .pointer (place (sz dH) z.cur.fo (z.cur.fr.length-1) 0)),(4,ptr ib)] (Ju) ?_;have hln:z.cur.fr.length=(z.cur.fr.set (z.cur.fr.length-1) (⟨z.f.unit,z.f.pc+1,z.f.base⟩:Vm.Fr)).length:=by rw[Ji]
 refine aG.only (aO w S::md p.m::E.rc::aF ib (dB (bJ p.m z)) 113::TM p (z.bN p.m)) (Jx) ?_;have hpl:place (sz dH) z.cur.fo (z.cur.fr.length-1) 0=place (sz dH) (z.bN p.m).cur.fo ((z.bN p.m).cur.fr.length-1) 0:=by rw[show(z.bN p.m).cur.fr.length=z.cur.fr.length from Ji]
 rw[hpl];have hstep:=hz.rT p.m h1;rw[hstep];have hz1:=hz.bN p.m;obtain⟨i,hi⟩:∃i,i=bJ p.m z:=⟨_,rfl⟩;obtain⟨z1,hz1e⟩:∃z1,z1=z.bN p.m:=⟨_,rfl⟩;rw[←hi,←hz1e]at hc ha⊢;rw[←hz1e]at hz1;rw[←hi]at hop;have a0:=hc.jump (.inr hop);have c1:=hc.some aA;obtain⟨n,hn⟩:=JI a0;have hn':i.a=(n:Int):=hn;have hfl:z1.cur.fr.length=z.cur.fr.length:=by rw[hz1e];exact Ji
 have e:i.a.toNat=n:=by rw[hn'];rfl
 refine aD ?_;(refine dV (n9 (z1.F p) z1.st z1.tr (z1.cur.st:Int) (e8 z1.cur.upb) (.slice z1.cur.fo z1.cur.fr.length z1.cur.fc) E.kE (j6 E.told) z1.cur.sk hz1.dR c1) fun s hs=>?_);obtain⟨k1,rfl⟩:=a7 s;obtain⟨p1,p2⟩:=nK hz1 hs;have hla:Vm.last z1.tk=z1.top 1:=hz1.last
 by_cases h0:z1.cur.sk.ws.getD (z1.cur.sk.live-1) 0=0
 ·refine aD ?_;rw[hn'];(apply aE.op;exact rfl;refine aB.j5 (f:=dH) (l:=z1.cur.fr) (i:=z1.cur.fr.length-1) (off:=1) (vs:=[.int .i64 n]) (a':=(⟨z1.f.unit,n,z1.f.base⟩:Vm.Fr)) (k:=?_));refine aD ?_;obtain⟨t1,t2⟩:=p1.setAt n;refine aE.UP (aO w S::md p.m::E.rc::TM p ((z1.sk k1).at_ n)) (Jx) ?_;have t3:((z1.sk k1).at_ n).two=Vm.exec E.V p.m.aC i z1.two:=by
   have hl0:Vm.last z1.two.1=0:=hz1.last.trans h0;unfold Vm.exec;simp[hop,e,hl0];exact congrArg (fun t=>(t,E.abs z1.e)) (t2.trans (by rw[p2];rfl))
  refine aD ?_;(refine kD (fR p ((z1.sk k1).at_ n) t1 (ha ((z1.sk k1).at_ n) t1 t3)) fun s hs=>?_);refine cL (SL.look ((z1.sk k1).at_ n) p.m) ?_;exact⟨t1.look p.m,(t1.iV p.m).trans (by rw[t3])⟩
 ·refine aD ?_;have t3:(z1.sk k1).two=Vm.exec E.V p.m.aC i z1.two:=by
   have hl0:Vm.last z1.two.1≠0:=fun h=>h0 (hz1.last.symm.trans h);unfold Vm.exec;simp[hop,hl0];exact congrArg (fun t=>(t,E.abs z1.e)) p2
  refine aD ?_;(refine kD (fR p (z1.sk k1) p1 (ha (z1.sk k1) p1 t3)) fun s hs=>?_);refine cL (SL.look (z1.sk k1) p.m) ?_;exact⟨p1.look p.m,(p1.iV p.m).trans (by rw[t3])⟩
set_option maxHeartbeats 2000000 in
theorem aGn(p:Pl)(z:SL E)(hz:z.Wf)(hs:mS p.m z)(h1:(z.look p.m).st=1)(hpc:z.f.pc≤100000)(hc:oG p.m (z.bN p.m) (bJ p.m z))(ha:qA p.m (z.bN p.m) (bJ p.m z))(hop:(bJ p.m z).op=28):
  Fn Tryz.prog 32 #[ptr p.tb] [md p.m,E.rc] (TM p z) (σ:=SL E) (jL z (Vm.step E.V p.m.aC z.two).2) (fun _=> .bool (Vm.step E.V p.m.aC z.two).1) (fun z'=>TM p z'):=by
 obtain⟨g1,g2,g3,g4,g5⟩:=id hs;have hl:0<z.cur.fr.length:=JP.2 g1;have w1:IntKind.i64.wrap ((z.cur.fr.length:Int)-1)=((z.cur.fr.length-1:Nat):Int):=by rw[dX aA];omega
 have w2:IntKind.i64.wrap ((z.f.pc:Int)+1)=((z.f.pc+1:Nat):Int):=by rw[dX aA];omega
 refine JE [ptr p.tb] Tryz.func32 Tryz.ntmps32 fun w S=>?_;refine aD ?_;(refine Jc ?_;refine aB.bA (spec:=fR p z hz (fun _=>hs)) (r:=fun w=>Jm) (k:=?_);intro s hs;refine Jn ?_);refine aD ?_;refine b8 21 [jV p (z.look p.m),lR p,gO z.cur,md p.m] 22 ?_;refine bR [0,1,2,3,4,5,6,7,8,9,10,11,12,13,14,15,16,17,18,19] ?_;refine iF 20 fun b=>?_;refine gWl [21] ?_;refine b6 ?_;refine aD ?_;(apply aE.op;exact rfl;refine aB.j5 (f:=dH) (l:=z.cur.fr) (i:=z.cur.fr.length-1) (off:=1) (vs:=[.int .i64 ((z.f.pc+1:Nat):Int)]) (a':=(⟨z.f.unit,z.f.pc+1,z.f.base⟩:Vm.Fr)) (k:=?_));apply aE.nil;apply End.kH;obtain⟨ib,rfl⟩:=a7 b;refine aG.sub [(0,ptr p.tb),(2, .bool false),(3, .pointer (place (sz dH) z.cur.fo (z.cur.fr.length-1) 0)),(4,ptr ib)] (Ju) ?_;have hln:z.cur.fr.length=(z.cur.fr.set (z.cur.fr.length-1) (⟨z.f.unit,z.f.pc+1,z.f.base⟩:Vm.Fr)).length:=by rw[Ji]
 refine aG.only (aO w S::md p.m::E.rc::aF ib (dB (bJ p.m z)) 113::TM p (z.bN p.m)) (Jx) ?_;have hpl:place (sz dH) z.cur.fo (z.cur.fr.length-1) 0=place (sz dH) (z.bN p.m).cur.fo ((z.bN p.m).cur.fr.length-1) 0:=by rw[show(z.bN p.m).cur.fr.length=z.cur.fr.length from Ji]
 rw[hpl];have hstep:=hz.rT p.m h1;rw[hstep];have hz1:=hz.bN p.m;obtain⟨i,hi⟩:∃i,i=bJ p.m z:=⟨_,rfl⟩;obtain⟨z1,hz1e⟩:∃z1,z1=z.bN p.m:=⟨_,rfl⟩;rw[←hi,←hz1e]at hc ha⊢;rw[←hz1e]at hz1;rw[←hi]at hop;have c1:=hc.some aA;refine aD ?_;(refine dV (n9 (z1.F p) z1.st z1.tr (z1.cur.st:Int) (e8 z1.cur.upb) (.slice z1.cur.fo z1.cur.fr.length z1.cur.fc) E.kE (j6 E.told) z1.cur.sk hz1.dR c1) fun s hs=>?_);obtain⟨k1,rfl⟩:=a7 s;obtain⟨p1,p2⟩:=nK hz1 hs;have c2:=hc.outs hop
 repeat(refine Jy ?_;try first|intro ao cap|intro b)
 have hoL:(z1.out ++[z1.top 1]).length=z1.out.length+1:=aW;have hla:Vm.last z1.tk=z1.top 1:=hz1.last;(refine Jc ?_;refine aB.bA (spec:=A8 E ⟨p.tb,p.mb, .slice z1.co z1.bs.length z1.ccap,z1.cur.cb,z1.bx, .slice ao (z1.out.length+1) cap⟩ z1.st z1.tr z1.e (hc.iY hz1) 1 0 (z1.top 1)) (r:=fun w=>Reads.any (tk) E.eC .nil) (k:=?_);intro s hs;refine Jn ?_);obtain⟨e2,rfl⟩:=a7 s;have t1:({z1.sk k1 with oo:=ao,oc:=cap,out:=z1.out ++[z1.top 1],e:=e2}:SL E).Wf:=⟨p1.now,p1.len,p1.eL,p1.at_,p1.up,p1.mN,p1.sk,hs.1⟩;have t3:({z1.sk k1 with oo:=ao,oc:=cap,out:=z1.out ++[z1.top 1],e:=e2}:SL E).two=Vm.exec E.V p.m.aC i z1.two:=by
  have hla':Vm.last z1.two.1=z1.top 1:=hz1.last;unfold Vm.exec;simp only[hop,hla'];refine Prod.ext ?_ hs.2;show SL.tk {z1.sk k1 with oo:=ao,oc:=cap,out:=z1.out ++[z1.top 1],e:=e2}={Vm.drop 1 z1.tk with out:=(Vm.drop 1 z1.tk).out ++[z1.top 1]};rw[←p2];rfl
 rw[←hoL];refine aD ?_;(refine kD (fR p ({z1.sk k1 with oo:=ao,oc:=cap,out:=z1.out ++[z1.top 1],e:=e2}) t1 (ha ({z1.sk k1 with oo:=ao,oc:=cap,out:=z1.out ++[z1.top 1],e:=e2}) t1 t3)) fun s hs=>?_);refine cL (SL.look ({z1.sk k1 with oo:=ao,oc:=cap,out:=z1.out ++[z1.top 1],e:=e2}) p.m) ?_;exact⟨t1.look p.m,(t1.iV p.m).trans (by rw[t3])⟩
end
section
variable{E:dK}
set_option maxHeartbeats 2000000 in
theorem aGo(p:Pl)(z:SL E)(hz:z.Wf)(hs:mS p.m z)(h1:(z.look p.m).st=1)(hpc:z.f.pc≤100000)(hc:oG p.m (z.bN p.m) (bJ p.m z))(ha:qA p.m (z.bN p.m) (bJ p.m z))(hop:(bJ p.m z).op=26):
  Fn Tryz.prog 32 #[ptr p.tb] [md p.m,E.rc] (TM p z) (σ:=SL E) (jL z (Vm.step E.V p.m.aC z.two).2) (fun _=> .bool (Vm.step E.V p.m.aC z.two).1) (fun z'=>TM p z'):=by
 obtain⟨g1,g2,g3,g4,g5⟩:=id hs;have hl:0<z.cur.fr.length:=JP.2 g1;have w1:IntKind.i64.wrap ((z.cur.fr.length:Int)-1)=((z.cur.fr.length-1:Nat):Int):=by rw[dX aA];omega
 have w2:IntKind.i64.wrap ((z.f.pc:Int)+1)=((z.f.pc+1:Nat):Int):=by rw[dX aA];omega
 refine JE [ptr p.tb] Tryz.func32 Tryz.ntmps32 fun w S=>?_;refine aD ?_;(refine Jc ?_;refine aB.bA (spec:=fR p z hz (fun _=>hs)) (r:=fun w=>Jm) (k:=?_);intro s hs;refine Jn ?_);refine aD ?_;refine b8 21 [jV p (z.look p.m),lR p,gO z.cur,md p.m] 22 ?_;refine bR [0,1,2,3,4,5,6,7,8,9,10,11,12,13,14,15,16,17,18,19] ?_;refine iF 20 fun b=>?_;refine gWl [21] ?_;refine b6 ?_;refine aD ?_;(apply aE.op;exact rfl;refine aB.j5 (f:=dH) (l:=z.cur.fr) (i:=z.cur.fr.length-1) (off:=1) (vs:=[.int .i64 ((z.f.pc+1:Nat):Int)]) (a':=(⟨z.f.unit,z.f.pc+1,z.f.base⟩:Vm.Fr)) (k:=?_));apply aE.nil;apply End.kH;obtain⟨ib,rfl⟩:=a7 b;refine aG.sub [(0,ptr p.tb),(2, .bool false),(3, .pointer (place (sz dH) z.cur.fo (z.cur.fr.length-1) 0)),(4,ptr ib)] (Ju) ?_;have hln:z.cur.fr.length=(z.cur.fr.set (z.cur.fr.length-1) (⟨z.f.unit,z.f.pc+1,z.f.base⟩:Vm.Fr)).length:=by rw[Ji]
 refine aG.only (aO w S::md p.m::E.rc::aF ib (dB (bJ p.m z)) 113::TM p (z.bN p.m)) (Jx) ?_;have hpl:place (sz dH) z.cur.fo (z.cur.fr.length-1) 0=place (sz dH) (z.bN p.m).cur.fo ((z.bN p.m).cur.fr.length-1) 0:=by rw[show(z.bN p.m).cur.fr.length=z.cur.fr.length from Ji]
 rw[hpl];have hstep:=hz.rT p.m h1;rw[hstep];have hz1:=hz.bN p.m;obtain⟨i,hi⟩:∃i,i=bJ p.m z:=⟨_,rfl⟩;obtain⟨z1,hz1e⟩:∃z1,z1=z.bN p.m:=⟨_,rfl⟩;rw[←hi,←hz1e]at hc ha⊢;rw[←hz1e]at hz1;rw[←hi]at hop;have c1:=hc.some aA;obtain⟨s1,s2,s3⟩:=hc.send hop;have hput:=E.put z1.e i.a.toNat (z1.top 1) hz1.env s2 s3 (by have:=hc.size;omega);rw[oJ s1]at hput;refine aD ?_;(refine dV (n9 (z1.F p) z1.st z1.tr (z1.cur.st:Int) (e8 z1.cur.upb) (.slice z1.cur.fo z1.cur.fr.length z1.cur.fc) E.kE (j6 E.told) z1.cur.sk hz1.dR c1) fun s hs=>?_);obtain⟨k1,rfl⟩:=a7 s;obtain⟨p1,p2⟩:=nK hz1 hs;refine aD ?_;(refine Jc ?_;refine aB.EN (E.TP) (E.PW) (hput) (r:=fun w=>Reads.any (tk) E.eC .nil) (k:=?_);intro s hs;refine Jn ?_);obtain⟨e1,rfl⟩:=a7 s;obtain⟨q1,q2⟩:=hs;refine aD ?_;(refine Jc ?_;refine aB.bA (spec:=A8 E (z1.F p) z1.st z1.tr e1 ⟨q1,by rw[q2];have h5:=E.vX (E.abs z1.e) i.a.toNat (z1.top 1);have h6:=hc.size;omega⟩ 2 i.a (z1.top 1)) (r:=fun w=>Reads.any (tk) E.eC .nil) (k:=?_);intro s hs;refine Jn ?_);obtain⟨e2,rfl⟩:=a7 s;have t1:({z1.sk k1 with e:=e2}:SL E).Wf:=⟨p1.now,p1.len,p1.eL,p1.at_,p1.up,p1.mN,p1.sk,hs.1⟩;have t3:({z1.sk k1 with e:=e2}:SL E).two=Vm.exec E.V p.m.aC i z1.two:=by
  have hla':Vm.last z1.two.1=z1.top 1:=hz1.last;unfold Vm.exec;simp only[hop,hla'];refine Prod.ext ?_ (hs.2.trans (by rw[q2];rfl));exact p2
 refine aD ?_;(refine kD (fR p ({z1.sk k1 with e:=e2}) t1 (ha ({z1.sk k1 with e:=e2}) t1 t3)) fun s hs=>?_);refine cL (SL.look ({z1.sk k1 with e:=e2}) p.m) ?_;exact⟨t1.look p.m,(t1.iV p.m).trans (by rw[t3])⟩
set_option maxHeartbeats 2000000 in
theorem aGp(p:Pl)(z:SL E)(hz:z.Wf)(hs:mS p.m z)(h1:(z.look p.m).st=1)(hpc:z.f.pc≤100000)(hc:oG p.m (z.bN p.m) (bJ p.m z))(ha:qA p.m (z.bN p.m) (bJ p.m z))(hop:(bJ p.m z).op=27):
  Fn Tryz.prog 32 #[ptr p.tb] [md p.m,E.rc] (TM p z) (σ:=SL E) (jL z (Vm.step E.V p.m.aC z.two).2) (fun _=> .bool (Vm.step E.V p.m.aC z.two).1) (fun z'=>TM p z'):=by
 obtain⟨g1,g2,g3,g4,g5⟩:=id hs;have hl:0<z.cur.fr.length:=JP.2 g1;have w1:IntKind.i64.wrap ((z.cur.fr.length:Int)-1)=((z.cur.fr.length-1:Nat):Int):=by rw[dX aA];omega
 have w2:IntKind.i64.wrap ((z.f.pc:Int)+1)=((z.f.pc+1:Nat):Int):=by rw[dX aA];omega
 refine JE [ptr p.tb] Tryz.func32 Tryz.ntmps32 fun w S=>?_;refine aD ?_;(refine Jc ?_;refine aB.bA (spec:=fR p z hz (fun _=>hs)) (r:=fun w=>Jm) (k:=?_);intro s hs;refine Jn ?_);refine aD ?_;refine b8 21 [jV p (z.look p.m),lR p,gO z.cur,md p.m] 22 ?_;refine bR [0,1,2,3,4,5,6,7,8,9,10,11,12,13,14,15,16,17,18,19] ?_;refine iF 20 fun b=>?_;refine gWl [21] ?_;refine b6 ?_;refine aD ?_;(apply aE.op;exact rfl;refine aB.j5 (f:=dH) (l:=z.cur.fr) (i:=z.cur.fr.length-1) (off:=1) (vs:=[.int .i64 ((z.f.pc+1:Nat):Int)]) (a':=(⟨z.f.unit,z.f.pc+1,z.f.base⟩:Vm.Fr)) (k:=?_));apply aE.nil;apply End.kH;obtain⟨ib,rfl⟩:=a7 b;refine aG.sub [(0,ptr p.tb),(2, .bool false),(3, .pointer (place (sz dH) z.cur.fo (z.cur.fr.length-1) 0)),(4,ptr ib)] (Ju) ?_;have hln:z.cur.fr.length=(z.cur.fr.set (z.cur.fr.length-1) (⟨z.f.unit,z.f.pc+1,z.f.base⟩:Vm.Fr)).length:=by rw[Ji]
 refine aG.only (aO w S::md p.m::E.rc::aF ib (dB (bJ p.m z)) 113::TM p (z.bN p.m)) (Jx) ?_;have hpl:place (sz dH) z.cur.fo (z.cur.fr.length-1) 0=place (sz dH) (z.bN p.m).cur.fo ((z.bN p.m).cur.fr.length-1) 0:=by rw[show(z.bN p.m).cur.fr.length=z.cur.fr.length from Ji]
 rw[hpl];have hstep:=hz.rT p.m h1;rw[hstep];have hz1:=hz.bN p.m;obtain⟨i,hi⟩:∃i,i=bJ p.m z:=⟨_,rfl⟩;obtain⟨z1,hz1e⟩:∃z1,z1=z.bN p.m:=⟨_,rfl⟩;rw[←hi,←hz1e]at hc ha⊢;rw[←hz1e]at hz1;rw[←hi]at hop;obtain⟨s1,s2,s3⟩:=hc.recv hop;have htk:=E.take z1.e i.a.toNat hz1.env s2 s3;rw[oJ s1]at htk;refine aD ?_;(refine Jc ?_;refine aB.EN (E.TQ) (E.PY) (htk) (r:=fun w=>Reads.any (tk) E.eC .nil) (k:=?_);intro s hs;refine Jn ?_);obtain⟨e1,rfl⟩:=a7 s;obtain⟨q1,q2⟩:=hs;refine aD ?_;(refine Jc ?_;refine aB.bA (spec:=A8 E (z1.F p) z1.st z1.tr e1 ⟨q1,by rw[q2];have h5:=E.uO (E.abs z1.e) i.a.toNat;have h6:=hc.size;omega⟩ 3 i.a (E.V.take (E.abs z1.e) i.a.toNat).1) (r:=fun w=>Reads.any (tk) E.eC .nil) (k:=?_);intro s hs;refine Jn ?_);obtain⟨e2,rfl⟩:=a7 s;have p1:({z1 with e:=e2}:SL E).Wf:=⟨hz1.now,hz1.len,hz1.eL,hz1.at_,hz1.up,hz1.mN,hz1.sk,hs.1⟩;have hs2:=hs;refine aD ?_;(refine Jc ?_;refine aB.bA (spec:=mK E (z1.F p) z1.st z1.tr e2 ⟨hs.1,by rw[hs.2,q2];have h5:=E.uO (E.abs z1.e) i.a.toNat;have h6:=E.qX (E.V.take (E.abs z1.e) i.a.toNat).2 (3,i.a,(E.V.take (E.abs z1.e) i.a.toNat).1);have h7:=hc.size;omega⟩ (z1.cur.st:Int) (e8 z1.cur.upb) (.slice z1.cur.fo z1.cur.fr.length z1.cur.fc) z1.cur.sk hz1.dR (E.V.take (E.abs z1.e) i.a.toNat).1) (r:=fun w=>Reads.any (tk) E.eC .nil) (k:=?_);intro s hs;refine Jn ?_);obtain⟨q,rfl⟩:=a7 s;obtain⟨t1,t2⟩:=mL p1 hs;have t3:(({z1 with e:=e2}:SL E).put q).two=Vm.exec E.V p.m.aC i z1.two:=by
  rw[t2];unfold Vm.exec;simp only[hop];show Vm.push E.V _ (z1.tk,E.abs e2)=_;rw[hs2.2,q2];rfl
 refine aD ?_;(refine kD (fR p (({z1 with e:=e2}:SL E).put q) t1 (ha (({z1 with e:=e2}:SL E).put q) t1 t3)) fun s hs=>?_);refine cL (SL.look (({z1 with e:=e2}:SL E).put q) p.m) ?_;exact⟨t1.look p.m,(t1.iV p.m).trans (by rw[t3])⟩
end
variable{E:dK}
set_option maxHeartbeats 2000000 in
theorem aGq(p:Pl)(z:SL E)(hz:z.Wf)(hs:mS p.m z)(h1:(z.look p.m).st=1)(hpc:z.f.pc≤100000)(hc:oG p.m (z.bN p.m) (bJ p.m z))(ha:qA p.m (z.bN p.m) (bJ p.m z))(hop:(bJ p.m z).op=3):
  Fn Tryz.prog 32 #[ptr p.tb] [md p.m,E.rc] (TM p z) (σ:=SL E) (jL z (Vm.step E.V p.m.aC z.two).2) (fun _=> .bool (Vm.step E.V p.m.aC z.two).1) (fun z'=>TM p z'):=by
 obtain⟨g1,g2,g3,g4,g5⟩:=id hs;have hl:0<z.cur.fr.length:=JP.2 g1;have w1:IntKind.i64.wrap ((z.cur.fr.length:Int)-1)=((z.cur.fr.length-1:Nat):Int):=by rw[dX aA];omega
 have w2:IntKind.i64.wrap ((z.f.pc:Int)+1)=((z.f.pc+1:Nat):Int):=by rw[dX aA];omega
 refine JE [ptr p.tb] Tryz.func32 Tryz.ntmps32 fun w S=>?_;refine aD ?_;(refine Jc ?_;refine aB.bA (spec:=fR p z hz (fun _=>hs)) (r:=fun w=>Jm) (k:=?_);intro s hs;refine Jn ?_);refine aD ?_;refine b8 21 [jV p (z.look p.m),lR p,gO z.cur,md p.m] 22 ?_;refine bR [0,1,2,3,4,5,6,7,8,9,10,11,12,13,14,15,16,17,18,19] ?_;refine iF 20 fun b=>?_;refine gWl [21] ?_;refine b6 ?_;refine aD ?_;(apply aE.op;exact rfl;refine aB.j5 (f:=dH) (l:=z.cur.fr) (i:=z.cur.fr.length-1) (off:=1) (vs:=[.int .i64 ((z.f.pc+1:Nat):Int)]) (a':=(⟨z.f.unit,z.f.pc+1,z.f.base⟩:Vm.Fr)) (k:=?_));apply aE.nil;apply End.kH;obtain⟨ib,rfl⟩:=a7 b;refine aG.sub [(0,ptr p.tb),(2, .bool false),(3, .pointer (place (sz dH) z.cur.fo (z.cur.fr.length-1) 0)),(4,ptr ib)] (Ju) ?_;have hln:z.cur.fr.length=(z.cur.fr.set (z.cur.fr.length-1) (⟨z.f.unit,z.f.pc+1,z.f.base⟩:Vm.Fr)).length:=by rw[Ji]
 refine aG.only (aO w S::md p.m::E.rc::aF ib (dB (bJ p.m z)) 113::TM p (z.bN p.m)) (Jx) ?_;have hpl:place (sz dH) z.cur.fo (z.cur.fr.length-1) 0=place (sz dH) (z.bN p.m).cur.fo ((z.bN p.m).cur.fr.length-1) 0:=by rw[show(z.bN p.m).cur.fr.length=z.cur.fr.length from Ji]
 rw[hpl];have hstep:=hz.rT p.m h1;rw[hstep];have hz1:=hz.bN p.m;obtain⟨i,hi⟩:∃i,i=bJ p.m z:=⟨_,rfl⟩;obtain⟨z1,hz1e⟩:∃z1,z1=z.bN p.m:=⟨_,rfl⟩;rw[←hi,←hz1e]at hc ha⊢;rw[←hz1e]at hz1;rw[←hi]at hop;obtain⟨s1,s2⟩:=hc.load hop;have hk:=hz1.dR;obtain⟨n,hn⟩:=JI s1;have hn':i.a=(n:Int):=hn;have hnn:i.a.toNat=n:=by rw[hn'];rfl
 rw[hnn]at s2;have g6:=hk.live;have g7:=hk.hi;have hfl:z1.cur.fr.length=z.cur.fr.length:=by rw[hz1e];exact Ji
 have w3:IntKind.i64.wrap ((z1.f.base:Int)+i.a)=((z1.f.base+n:Nat):Int):=by rw[hn',dX aA];omega
 refine aD ?_;refine b8 18 [jV p z1,jP z1.cur,gO z1.cur,aF ib (dB i) 113] 19 ?_;refine bR [0,1,2,3,4,5,6,7,8,9,10,11,12,13,14] ?_;refine lN 15 (H7 z1.cur.sk (z1.f.base+n) aA g7) fun s hs=>?_;refine gWl [16,17] ?_;have hv:z1.cur.sk.l.getD (z1.f.base+n) default=z1.cur.sk.ws.getD (z1.f.base+n) 0:=by
  rw[Jd,Jd,BW,if_pos aA];rfl
 rw[hv];(refine JT 18 ?_;refine aB.bA (spec:=mK E (z1.F p) z1.st z1.tr z1.e (hc.iY hz1) (z1.cur.st:Int) (e8 z1.cur.upb) (.slice z1.cur.fo z1.cur.fr.length z1.cur.fc) z1.cur.sk hz1.dR (z1.cur.sk.ws.getD (z1.f.base+n) 0)) (r:=fun w=>Reads.any (tk) E.eC .nil) (k:=?_);intro s hs;refine JG ?_;refine Jn ?_);refine b6 ?_;obtain⟨q,rfl⟩:=a7 s;obtain⟨t1,t2⟩:=mL hz1 hs;have t3:(z1.put q).two=Vm.exec E.V p.m.aC i z1.two:=by
  rw[t2];unfold Vm.exec;simp only[hop,hnn];show _=Vm.push E.V ((Vm.cur z1.tk).ws.getD ((Vm.gY (Vm.cur z1.tk)).base+n) 0) z1.two;rw[hz1.gY,hz1.cur];rfl
 refine aD ?_;(refine kD (fR p (z1.put q) t1 (ha (z1.put q) t1 t3)) fun s hs=>?_);refine cL (SL.look (z1.put q) p.m) ?_;exact⟨t1.look p.m,(t1.iV p.m).trans (by rw[t3])⟩
set_option maxHeartbeats 2000000 in
theorem aGg(p:Pl)(z:SL E)(hz:z.Wf)(hs:mS p.m z)(h1:(z.look p.m).st=1)(hpc:z.f.pc≤100000)(hc:oG p.m (z.bN p.m) (bJ p.m z))(ha:qA p.m (z.bN p.m) (bJ p.m z))(hop:(bJ p.m z).op=4):
  Fn Tryz.prog 32 #[ptr p.tb] [md p.m,E.rc] (TM p z) (σ:=SL E) (jL z (Vm.step E.V p.m.aC z.two).2) (fun _=> .bool (Vm.step E.V p.m.aC z.two).1) (fun z'=>TM p z'):=by
 obtain⟨g1,g2,g3,g4,g5⟩:=id hs;have hl:0<z.cur.fr.length:=JP.2 g1;have w1:IntKind.i64.wrap ((z.cur.fr.length:Int)-1)=((z.cur.fr.length-1:Nat):Int):=by rw[dX aA];omega
 have w2:IntKind.i64.wrap ((z.f.pc:Int)+1)=((z.f.pc+1:Nat):Int):=by rw[dX aA];omega
 refine JE [ptr p.tb] Tryz.func32 Tryz.ntmps32 fun w S=>?_;refine aD ?_;(refine Jc ?_;refine aB.bA (spec:=fR p z hz (fun _=>hs)) (r:=fun w=>Jm) (k:=?_);intro s hs;refine Jn ?_);refine aD ?_;refine b8 21 [jV p (z.look p.m),lR p,gO z.cur,md p.m] 22 ?_;refine bR [0,1,2,3,4,5,6,7,8,9,10,11,12,13,14,15,16,17,18,19] ?_;refine iF 20 fun b=>?_;refine gWl [21] ?_;refine b6 ?_;refine aD ?_;(apply aE.op;exact rfl;refine aB.j5 (f:=dH) (l:=z.cur.fr) (i:=z.cur.fr.length-1) (off:=1) (vs:=[.int .i64 ((z.f.pc+1:Nat):Int)]) (a':=(⟨z.f.unit,z.f.pc+1,z.f.base⟩:Vm.Fr)) (k:=?_));apply aE.nil;apply End.kH;obtain⟨ib,rfl⟩:=a7 b;refine aG.sub [(0,ptr p.tb),(2, .bool false),(3, .pointer (place (sz dH) z.cur.fo (z.cur.fr.length-1) 0)),(4,ptr ib)] (Ju) ?_;have hln:z.cur.fr.length=(z.cur.fr.set (z.cur.fr.length-1) (⟨z.f.unit,z.f.pc+1,z.f.base⟩:Vm.Fr)).length:=by rw[Ji]
 refine aG.only (aO w S::md p.m::E.rc::aF ib (dB (bJ p.m z)) 113::TM p (z.bN p.m)) (Jx) ?_;have hpl:place (sz dH) z.cur.fo (z.cur.fr.length-1) 0=place (sz dH) (z.bN p.m).cur.fo ((z.bN p.m).cur.fr.length-1) 0:=by rw[show(z.bN p.m).cur.fr.length=z.cur.fr.length from Ji]
 rw[hpl];have hstep:=hz.rT p.m h1;rw[hstep];have hz1:=hz.bN p.m;obtain⟨i,hi⟩:∃i,i=bJ p.m z:=⟨_,rfl⟩;obtain⟨z1,hz1e⟩:∃z1,z1=z.bN p.m:=⟨_,rfl⟩;rw[←hi,←hz1e]at hc ha⊢;rw[←hz1e]at hz1;rw[←hi]at hop;have c1:=hc.some aA;obtain⟨s1,s2⟩:=hc.store hop;obtain⟨n,hn⟩:=JI s1;have hn':i.a=(n:Int):=hn;have hnn:i.a.toNat=n:=by rw[hn'];rfl
 rw[hnn]at s2;have hfl:z1.cur.fr.length=z.cur.fr.length:=by rw[hz1e];exact Ji
 have g6:=hz1.dR.live;have g7:=hz1.dR.hi;have w3:IntKind.i64.wrap ((z1.f.base:Int)+i.a)=((z1.f.base+n:Nat):Int):=by rw[hn',dX aA];omega
 refine aD ?_;(refine dV (n9 (z1.F p) z1.st z1.tr (z1.cur.st:Int) (e8 z1.cur.upb) (.slice z1.cur.fo z1.cur.fr.length z1.cur.fc) E.kE (j6 E.told) z1.cur.sk hz1.dR c1) fun s hs=>?_);obtain⟨k1,rfl⟩:=a7 s;have ht:=hs;obtain⟨p1,p2⟩:=nK hz1 hs;have hlv:k1.live=z1.cur.sk.live-1:=by have h:=ht.live;have h2:=Sk.len hz1.dR;rw[jM]at h;omega
 have g8:k1.live≤k1.l.length:=p1.dR.live;have g9:k1.l.length≤400:=p1.dR.hi;have g10:8≤k1.l.length:=p1.dR.lo;refine aD ?_;refine b8 17 [jV p (z1.sk k1),jP (z1.sk k1).cur,gO z1.cur,aF ib (dB i) 113] 18 ?_;refine bR [0,1,2,3,4,5,6,7,8,9,10,11,12,13,15] ?_;refine lN 14 (H7 k1 (z1.f.base+n) aA g9) fun s hs=>?_;refine gWl [16] ?_;(refine JT 17 ?_;refine aB.j5 (f:=aY) (l:=k1.l) (i:=z1.f.base+n) (off:=0) (vs:=[.int .i64 (z1.top 1)]) (a':=z1.top 1) (k:=?_);refine JG ?_);refine b6 ?_;have hsl:(k1.l.set (z1.f.base+n) (z1.top 1)).length=k1.l.length:=Ji;obtain⟨k2,hk2e⟩:∃k2:Sk,k2=⟨k1.sb,k1.lb,k1.l.set (z1.f.base+n) (z1.top 1),k1.live⟩:=⟨_,rfl⟩;have hk2:k2.Ok:=by rw[hk2e];exact⟨by rw[hsl];exact g8,by rw[hsl];exact g10,by rw[hsl];exact g9⟩
 have q1:k1.sb=k2.sb:=by rw[hk2e]
 have q2:nN k1=nN k2:=by rw[hk2e];simp
 have q3:arr (some ⟨k1.lb,0,none⟩) k1.l.length k1.l.length 2 aY (k1.l.set (z1.f.base+n) (z1.top 1))=arr (some ⟨k2.lb,0,none⟩) k2.l.length k2.l.length 2 aY k2.l:=by rw[hk2e];simp
 rw[q2,q3,q1];have t1:((z1.sk k1).sk k2).Wf:=p1.setCur rfl rfl rfl hk2;have t3:((z1.sk k1).sk k2).two=Vm.exec E.V p.m.aC i z1.two:=by
  have hla':Vm.last z1.two.1=z1.top 1:=hz1.last;unfold Vm.exec;simp only[hop,hla',hnn];refine Prod.ext ?_ rfl;show SL.tk _=Vm.setCur (Vm.drop 1 z1.tk) {Vm.cur (Vm.drop 1 z1.tk)with ws:=(Vm.cur (Vm.drop 1 z1.tk)).ws.set ((Vm.gY (Vm.cur (Vm.drop 1 z1.tk))).base+n) (z1.top 1)};rw[←p2,p1.gY,p1.cur,SL.uQ,hk2e];congr 1;show(⟨_,_,_,(k1.l.set (z1.f.base+n) (z1.top 1)).take k1.live⟩:Vm.Co)=⟨_,_,_,(k1.l.take k1.live).set (z1.f.base+n) (z1.top 1)⟩;rw[List.take_set];rfl
 refine aD ?_;(refine kD (fR p ((z1.sk k1).sk k2) t1 (ha ((z1.sk k1).sk k2) t1 t3)) fun s hs=>?_);refine cL (SL.look ((z1.sk k1).sk k2) p.m) ?_;exact⟨t1.look p.m,(t1.iV p.m).trans (by rw[t3])⟩
set_option maxHeartbeats 2000000 in
theorem aGh(p:Pl)(z:SL E)(hz:z.Wf)(hs:mS p.m z)(h1:(z.look p.m).st=1)(hpc:z.f.pc≤100000)(hc:oG p.m (z.bN p.m) (bJ p.m z))(ha:qA p.m (z.bN p.m) (bJ p.m z))(hop:(bJ p.m z).op=23∨(bJ p.m z).op=24∨(bJ p.m z).op=25∨(29≤(bJ p.m z).op∧(bJ p.m z).op≤32)):
  Fn Tryz.prog 32 #[ptr p.tb] [md p.m,E.rc] (TM p z) (σ:=SL E) (jL z (Vm.step E.V p.m.aC z.two).2) (fun _=> .bool (Vm.step E.V p.m.aC z.two).1) (fun z'=>TM p z'):=by
 obtain⟨g1,g2,g3,g4,g5⟩:=id hs;have hl:0<z.cur.fr.length:=JP.2 g1;have w1:IntKind.i64.wrap ((z.cur.fr.length:Int)-1)=((z.cur.fr.length-1:Nat):Int):=by rw[dX aA];omega
 have w2:IntKind.i64.wrap ((z.f.pc:Int)+1)=((z.f.pc+1:Nat):Int):=by rw[dX aA];omega
 refine JE [ptr p.tb] Tryz.func32 Tryz.ntmps32 fun w S=>?_;refine aD ?_;(refine Jc ?_;refine aB.bA (spec:=fR p z hz (fun _=>hs)) (r:=fun w=>Jm) (k:=?_);intro s hs;refine Jn ?_);refine aD ?_;refine b8 21 [jV p (z.look p.m),lR p,gO z.cur,md p.m] 22 ?_;refine bR [0,1,2,3,4,5,6,7,8,9,10,11,12,13,14,15,16,17,18,19] ?_;refine iF 20 fun b=>?_;refine gWl [21] ?_;refine b6 ?_;refine aD ?_;(apply aE.op;exact rfl;refine aB.j5 (f:=dH) (l:=z.cur.fr) (i:=z.cur.fr.length-1) (off:=1) (vs:=[.int .i64 ((z.f.pc+1:Nat):Int)]) (a':=(⟨z.f.unit,z.f.pc+1,z.f.base⟩:Vm.Fr)) (k:=?_));apply aE.nil;apply End.kH;obtain⟨ib,rfl⟩:=a7 b;refine aG.sub [(0,ptr p.tb),(2, .bool false),(3, .pointer (place (sz dH) z.cur.fo (z.cur.fr.length-1) 0)),(4,ptr ib)] (Ju) ?_;have hln:z.cur.fr.length=(z.cur.fr.set (z.cur.fr.length-1) (⟨z.f.unit,z.f.pc+1,z.f.base⟩:Vm.Fr)).length:=by rw[Ji]
 refine aG.only (aO w S::md p.m::E.rc::aF ib (dB (bJ p.m z)) 113::TM p (z.bN p.m)) (Jx) ?_;have hpl:place (sz dH) z.cur.fo (z.cur.fr.length-1) 0=place (sz dH) (z.bN p.m).cur.fo ((z.bN p.m).cur.fr.length-1) 0:=by rw[show(z.bN p.m).cur.fr.length=z.cur.fr.length from Ji]
 rw[hpl];have hstep:=hz.rT p.m h1;rw[hstep];have hz1:=hz.bN p.m;obtain⟨i,hi⟩:∃i,i=bJ p.m z:=⟨_,rfl⟩;obtain⟨z1,hz1e⟩:∃z1,z1=z.bN p.m:=⟨_,rfl⟩;rw[←hi,←hz1e]at hc ha⊢;rw[←hz1e]at hz1;rw[←hi]at hop
 by_cases h20:i.op≤20
 ·omega
 refine aD ?_;(refine KL (aHv p z1 hz1 i hc.aJ hop) fun s hs=>?_);obtain⟨z2,rfl⟩:=a7 s;have t1:=hs.wf;have t3:=hs.two;refine aD ?_;(refine kD (fR p (z2) t1 (ha (z2) t1 t3)) fun s hs=>?_);refine cL (SL.look (z2) p.m) ?_;exact⟨t1.look p.m,(t1.iV p.m).trans (by rw[t3])⟩
end
section
variable{E:dK}{z:SL E}{m:ML}{T:Nat→Int→Option Ver.Shape}{ch:List Nat}
theorem LL(m:ML):m.aC.aJ.length=m.us.length:=Jf _
theorem HK(m:ML)(k:Nat):Vm.bL m.aC k=(m.us.getD k default).u:=m.jK k
theorem aBw{l fs0:List Vm.Fr}{f:Vm.Fr}(h:l=fs0 ++[f]):l≠[]:=by rw[h];simp
theorem NG(hC:Vm.gN m.aC T)(hz:z.Wf)(hok:Vm.Ok m.aC T z.tk ch)(hb:E.boxes=m.bx.length):mS m z:=by
 obtain⟨fs0,ws0,q,p,st,hh,loc,op,a⟩:=hok.at_;obtain⟨st',h',hr⟩:=a.here hC;have hfr:z.cur.fr=fs0 ++[⟨q,p,ws0.length⟩]:=by have:=a.fr;rw[hz.cur]at this;exact this
 have hf:z.f=⟨q,p,ws0.length⟩:=hz.gY.symm.trans a.top;have hln:=(hok.lens _ hok.jS).2;rw[←Vm.kP,hz.cur]at hln;have hq:q<m.us.length:=by rw[←LL];exact a.hq
 have hi:Vm.cO m.aC z.tk=bJ m z:=hz.ins m;refine⟨aBw hfr,hln,by rw[hf];exact hq,?_,fun h=>?_⟩
 ·rw[hf,←HK];exact hr.lt
 ·rw[←hi]at h⊢;have:=hr.ok.box h;have e:(m.aC.boxes.length:Int)=(m.bx.length:Int):=rfl;omega
theorem aA4{q:Int}{k:Int}(hC:Vm.gN m.aC T)(h:Ver.isUnit m.aC q k=true):0≤q∧q.toNat<m.us.length∧0≤(m.us.getD q.toNat default).u.params∧(m.us.getD q.toNat default).u.params.toNat≤(m.us.getD q.toNat default).u.locals.length∧(m.us.getD q.toNat default).u.locals.length≤200:=by
 unfold Ver.isUnit at h;simp only[JX,JV]at h;obtain⟨⟨h1,h2⟩, -⟩:=h;rw[LL]at h2;have hlt:q.toNat<m.us.length:=aA;have hh:=Vm.wJ hC (k:=q.toNat) (by rw[LL];exact hlt);have hf:=Vm.zV hh;rw[HK]at hh hf;have hp:0≤(m.us.getD q.toNat default).u.params:=by
  unfold Ver.head at hh
  split at hh
  ·cases hh
  split at hh
  ·cases hh
  omega
 exact⟨h1,hlt,hp,hf.1,hf.2.1⟩
theorem W8{a b c:List Int}{v:Int}{n:Nat}(hn:(a ++(b ++(c ++[v]))).length=n):(a ++(b ++(c ++[v]))).getD (n-1) 0=v:=by
 subst hn;have e:a ++(b ++(c ++[v]))=(a ++(b ++c)) ++[v]:=aW;rw[e];exact Vm.XA _ _
theorem W9{a b c:List Int}{x y:Int}{n:Nat}(hn:(a ++(b ++(c ++[x,y]))).length=n):(a ++(b ++(c ++[x,y]))).getD (n-2) 0=x:=by
 subst hn;have e:a ++(b ++(c ++[x,y]))=(a ++(b ++c)) ++[x,y]:=aW;rw[e,Jd,rD (by simp;omega)];have e2:(a ++(b ++c) ++[x,y]).length-2-(a ++(b ++c)).length=0:=by simp only[Jl,JW,kZ];omega
 rw[e2];rfl
theorem aA3(hC:Vm.gN m.aC T)(hz:z.Wf)(hok:Vm.Ok m.aC T z.tk ch)(hb:E.boxes=m.bx.length)(ho:z.out.length≤1000000)(hsz:E.size (E.abs z.e)≤1000000)
  (hw:((bJ m z).op=26→E.V.full (E.abs z.e) (bJ m z).a.toNat=false)∧((bJ m z).op=27→E.V.empty (E.abs z.e) (bJ m z).a.toNat=false)):oG m (z.bN m) (bJ m z)∧z.f.pc≤100000:=by
 obtain⟨fs0,ws0,q,p,st,hh,loc,op,a⟩:=hok.at_;obtain⟨st',h',hr⟩:=a.here hC;have hn:=hok.jS;have hfr:z.cur.fr=fs0 ++[⟨q,p,ws0.length⟩]:=by have:=a.fr;rw[hz.cur]at this;exact this
 have hws:z.cur.sk.ws=ws0 ++(loc ++op):=by have:=a.ws;rw[hz.cur]at this;exact this
 have hf:z.f=⟨q,p,ws0.length⟩:=hz.gY.symm.trans a.top;have hf1:(z.bN m).f=⟨q,p+1,ws0.length⟩:=by
  show(z.cur.fr.set (z.cur.fr.length-1) _).getD ((z.cur.fr.set (z.cur.fr.length-1) _).length-1) default=_;rw[hf,hfr,Vm.G0];exact Vm.NA _ _
 have hln:=(hok.lens _ hn).2;rw[←Vm.kP,hz.cur]at hln;have hln:z.cur.fr.length≤40:=hln;have hi:Vm.cO m.aC z.tk=bJ m z:=hz.ins m;rw[hi]at hr;generalize bJ m z=i at *;have hlive:ws0.length+(loc.length+op.length)=z.cur.sk.live:=by
  have:=Sk.len hz.dR;rw[hws]at this;simpa using this
 have hll:=a.loc.len;have hol:=a.op.len;have hio:=hr.ok;have hfl:(z.bN m).cur.fr.length=z.cur.fr.length:=Ji;have hne:(z.bN m).cur.fr≠[]:=by
  intro h;have h2:(z.bN m).cur.fr.length=0:=by rw[h];rfl
  rw[hfl,hfr]at h2;simp at h2
 have hcs:z.tk.cs.length=z.oth.length:=by show(z.all.map cN.abs).length=_;rw[Jf,z.vA]
 have hsn:z.tk.now=z.now:=rfl;have hk1:(z.bN m).top 1=(ws0 ++(loc ++op)).getD (z.cur.sk.live-1) 0:=by show z.cur.sk.ws.getD _ _=_;rw[hws]
 have hk2:(z.bN m).top 2=(ws0 ++(loc ++op)).getD (z.cur.sk.live-2) 0:=by show z.cur.sk.ws.getD _ _=_;rw[hws]
 have hlen:(ws0 ++(loc ++op)).length=z.cur.sk.live:=by simpa using hlive
 have hchain:=hok.chain 0 z.now hok.now;have hcur0:Vm.co z.tk z.now=z.cur.abs:=by rw[←hz.cur];rfl
 rw[hcur0]at hchain;have hup:z.cur.up=ch[1]?:=hchain;refine⟨⟨fun h=>?_,fun h=>?_,fun h=>?_,fun h=>?_,fun h=>(hio.jump h).1,fun h=>?_,fun h=>?_,hsz,fun _=>ho,⟨fun h=>?_,fun h=>?_,fun h=>?_,fun h=>?_,fun h=>?_,hsz,fun h=>?_⟩,hio.op,hr.mE.2⟩,?_⟩
 ·show 0<z.cur.sk.live;have:0<op.length:=by
   rw[←hol]
   cases hr.iD with
   |_=>first|(exfalso;omega)|(simp;done)
  omega
 ·show 2≤z.cur.sk.live∧_∧_;have hk:∃s1 t1 t2,st=s1 ++[t1,t2]:=by
   cases hr.iD with
   |arith s1 _ _=>exact⟨s1,1,1,rfl⟩
   |eq s1 _ ty _ _=>exact⟨s1,ty,ty,rfl⟩
   |cmp s1 _ _=>exact⟨s1,1,1,rfl⟩
   |LD s1 _ _=>exact⟨s1,2,2,rfl⟩
   |_=>exfalso;omega
  obtain⟨s1,t1,t2,e⟩:=hk;have ht:=a.op;rw[e]at ht;obtain⟨op1,y,e1,g1,g2⟩:=ht.split;obtain⟨x,y,rfl,hx,hy⟩:=g2.yQ;subst e1;refine⟨by simp at hlive;omega,?_,?_⟩
  ·rw[hk1];have:=W8 (a:=ws0) (b:=loc) (c:=op1 ++[x]) (v:=y) (n:=z.cur.sk.live) (by simpa using hlive);rw[Jt]at this;rw[show [x] ++[y]=[x,y]from rfl]at this;rw[this];exact hy.1
  ·rw[hk2,W9 hlen];exact hx.1
 ·have h1:=hio.loc (.inl h);rw[hf1];refine⟨h1.1,?_⟩;show ws0.length+i.a.toNat<z.cur.sk.live;omega
 ·have h1:=hio.loc (.inr h);rw[hf1];refine⟨h1.1,?_⟩;show ws0.length+i.a.toNat<z.cur.sk.live-1;have:0<op.length:=by
   rw[←hol]
   cases hr.iD with
   |store _ _ _=>simp
   |_=>exfalso;omega
  omega
 ·have h1:=hio.box (.inl h);have e:(m.aC.boxes.length:Int)=(m.bx.length:Int):=rfl;exact⟨h1.1,aA,hw.1 h⟩
 ·have h1:=hio.box (.inr h);have e:(m.aC.boxes.length:Int)=(m.bx.length:Int):=rfl;exact⟨h1.1,aA,hw.2 h⟩
 ·have hk:∃k,Ver.isUnit m.aC i.a k=true:=by
   rcases h with h|h
   ·exact⟨_,hio.call h⟩
   ·exact⟨_,hio.start h⟩
  obtain⟨k,hk⟩:=hk;obtain⟨c1,c2,c3,c4,c5⟩:=aA4 hC hk;refine⟨c1,c2,c3,?_,c4,c5,by rw[hfl];exact hln⟩;show _≤z.cur.sk.live;have hp:(Vm.bL m.aC i.a.toNat).params.toNat≤op.length:=by
   have hle:(Vm.bL m.aC i.a.toNat).params.toNat≤(Vm.bL m.aC i.a.toNat).locals.length:=by rw[HK];exact c4
   have key:∀(s:List Int) (u:ImgM.bM),u.params.toNat≤u.locals.length→u.params.toNat≤(s ++u.locals.take u.params.toNat).length:=fun s u h=>by
    rw[Jl,jM];omega
   rw[←hol]
   cases hr.iD with
   |call _ _ _=>exact key _ _ hle
   |start _ _ _=>exact key _ _ hle
   |_=>exfalso;omega
  rw[HK]at hp;omega
 ·have h1:op.length=1:=by
   rw[←hol]
   cases hr.iD with
   |ret _ _ _=>rfl
   |_=>exfalso;omega
  refine⟨?_,hne,by rw[hfl];exact hln,?_⟩
  ·show 0<z.cur.sk.live;omega
  ·rw[hf1];show ws0.length≤z.cur.sk.live-1;omega
 ·intro j hj;have hj':z.cur.up=some j:=hj;rw[hup]at hj';exact hok.CV hj'
 ·have hk:∃s1 g t,st=s1 ++[10+g,t]∧Ver.handle m.aC (10+g)=true:=by
   cases hr.iD with
   |resume s1 _ g _ hg=>exact⟨s1,g,_,rfl,hg⟩
   |_=>exfalso;omega
  obtain⟨s1,g,t2,e,hg⟩:=hk;have ht:=a.op;rw[e]at ht;obtain⟨op1,y,e1,g1,g2⟩:=ht.split;obtain⟨x,y,rfl,hx,hy⟩:=g2.yQ;subst e1;have hg0:10≤10+g:=by
   unfold Ver.handle at hg;rw[JX,JV]at hg;exact hg.1
  obtain⟨k,rfl,hk,hgk,hk0⟩:=hx.2.2 hg0;rw[Vm.zT,hcs]at hk;have e2:(z.bN m).top 2=(k:Int):=by rw[hk2,W9 hlen]
  rw[e2];refine⟨by show 2≤z.cur.sk.live;simp at hlive;omega,aA,by rw[Jj];exact hk,?_,?_⟩
  ·have hin:z.tk.now∈ch:=kO hok.now;have:=(hok.going _ hn).2 hin;rw[hsn,hcur0]at this;exact this
  ·rw[Jj]
   by_cases hkn:z.now=k
   ·right;exact hkn.symm
   ·left
    have h3:=hok.bV k (by rw[hcs];exact hk);have e3:Vm.co z.tk k=(z.oth.getD k default).abs:=by
     rw[←hz.oth hkn];exact KS _ _ (by rw[z.vA];exact hk)
    rw[e3]at h3;exact h3
 ·have hk:∃s1 t,st=s1 ++[t]∧(Vm.bL m.aC q).kind=3:=by
   cases hr.iD with
   |yield s1 _ _ hk=>exact⟨s1,_,rfl,hk⟩
   |_=>exfalso;omega
  obtain⟨s1,t,e,hk3⟩:=hk;have hb0:=hok.kinds _ hn;rw[←Vm.kP]at hb0;have hbot:=Vm.H4 hok a aA;have hn0:z.tk.now≠0:=fun e=>by rw[hbot,if_pos e,hk3]at hb0;omega
  refine⟨?_,?_⟩
  ·show 0<z.cur.sk.live;rw[e]at hol;simp at hol;omega
  ·cases hj:ch[1]? with
   |none=>exact absurd (hok.root 0 z.tk.now hok.now hj) hn0
   |some j=>exact⟨j,by show z.cur.up=_;rw[hup,hj],hok.CV hj⟩
 ·have hk:∃s1 g,st=s1 ++[10+g]∧Ver.handle m.aC (10+g)=true:=by
   cases hr.iD with
   |alive s1 _ g _ hg=>exact⟨s1,g,rfl,hg⟩
   |_=>exfalso;omega
  obtain⟨s1,g,e,hg⟩:=hk;have ht:=a.op;rw[e]at ht;obtain⟨op1,y,e1,g1,g2⟩:=ht.split;obtain⟨x,rfl,hx⟩:=g2.rX;subst e1;have hg0:10≤10+g:=by
   unfold Ver.handle at hg;rw[JX,JV]at hg;exact hg.1
  obtain⟨k,rfl,hk,hgk,hk0⟩:=hx.2.2 hg0;rw[Vm.zT,hcs]at hk;have e2:(z.bN m).top 1=(k:Int):=by rw[hk1,W8 hlen]
  rw[e2];exact⟨by show 0<z.cur.sk.live;simp at hlive;omega,aA,by rw[Jj];exact hk⟩
 ·rw[hf];show p≤100000;have hh:=Vm.wJ hC a.hq;have hlt:=hr.lt;unfold Ver.head at hh
  split at hh
  ·cases hh
  split at hh
  ·cases hh
  split at hh
  ·cases hh
  omega
end
section
attribute [local irreducible] aE aG End aB Still aN aU RunT Fn aS
section
variable{E:dK}{m:ML}{T:Nat→Int→Option Ver.Shape}{K:E.ν→Prop}
theorem SX{z:SL E}(hC:Vm.gN m.aC T)(hz:z.Wf)(hb:E.boxes=m.bx.length)(hg:Vm.Good m.aC T K z.two)(h3:z.st≤3):mS m z:=by
 rcases hg.1 with h|h|h
 ·exact absurd (show z.st=5 from h) aA
 ·exact absurd (show z.st=4 from h) aA
 ·obtain⟨ch,hok⟩:=h.2;exact NG hC hz hok hb
theorem LG(p:Pl)(z:SL E)(hC:Vm.gN p.m.aC T)(hz:z.Wf)(hb:E.boxes=p.m.bx.length)(hg:Vm.Good p.m.aC T K z.two):
  Fn Tryz.prog 31 #[ptr p.tb] [md p.m,E.rc] [jV p z,lR p,jP z.cur,gO z.cur,E.mem z.e] (σ:=Unit) (fun _=>True) (fun _=> .tuple #[]) (fun _=>[jV p (z.look p.m),lR p,jP z.cur,gO z.cur,E.mem z.e]):=
 fR p z hz (SX hC hz hb hg)
theorem aHG(p:Pl)(z:SL E)(hC:Vm.gN p.m.aC T)(hV:Vm.o9 E.V p.m.aC K)(hz:z.Wf)(hb:E.boxes=p.m.bx.length)(hg:Vm.Good p.m.aC T K z.two)(ho:z.out.length≤1000000)(hsz:E.size (E.abs z.e)≤1000000):
  Fn Tryz.prog 32 #[ptr p.tb] [md p.m,E.rc] (TM p z) (σ:=SL E) (jL z (Vm.step E.V p.m.aC z.two).2) (fun _=> .bool (Vm.step E.V p.m.aC z.two).1) (fun z'=>TM p z'):=by
 by_cases h1:(z.look p.m).st=1
 ·have h3:z.st≤3:=by
   refine Int.not_lt.1 fun h=>?_;have h1':(if z.st≤3 then lZ E (bJ p.m z) (E.abs z.e)else z.st)=1:=h1;rw[if_neg aA]at h1';omega
  have h1':lZ E (bJ p.m z) (E.abs z.e)=1:=by
   have h1':(if z.st≤3 then lZ E (bJ p.m z) (E.abs z.e)else z.st)=1:=h1;rwa [if_pos h3]at h1'
  have hw:((bJ p.m z).op=26→E.V.full (E.abs z.e) (bJ p.m z).a.toNat=false)∧((bJ p.m z).op=27→E.V.empty (E.abs z.e) (bJ p.m z).a.toNat=false):=by
   unfold lZ at h1';refine⟨fun ho=>?_,fun ho=>?_⟩
   ·cases hx:E.V.full (E.abs z.e) (bJ p.m z).a.toNat with
    |false=>rfl
    |true=>rw[if_pos ⟨ho,hx⟩]at h1';cases h1'
   ·rw[if_neg aA]at h1'
    cases hx:E.V.empty (E.abs z.e) (bJ p.m z).a.toNat with
    |false=>rfl
    |true=>rw[if_pos ⟨ho,hx⟩]at h1';cases h1'
  obtain⟨ch,hok⟩:∃ch,Vm.Ok p.m.aC T z.tk ch:=by
   rcases hg.1 with h|h|h
   ·exact absurd (show z.st=5 from h) aA
   ·exact absurd (show z.st=4 from h) aA
   ·exact h.2
  obtain⟨hc,hpc⟩:=aA3 hC hz hok hb ho hsz hw;have hs:=NG hC hz hok hb;have hlook:(z.look p.m).two=((z.look p.m).tk,E.abs z.e):=rfl;have hokl:Vm.Ok p.m.aC T (z.look p.m).tk ch:=hok.st _ _;have hi:Vm.cO p.m.aC (z.look p.m).tk=bJ p.m z:=(hz.look p.m).ins p.m;have hres:=Vm.RP hC hV hokl (s:=E.abs z.e) hg.2 (by rw[hi];exact hw);rw[hi,←hz.T0]at hres;have ha:qA p.m (z.bN p.m) (bJ p.m z):=fun z2 hz2 e h3=>by
   rw[←e]at hres;rcases hres.1 with h|h|⟨ch',h⟩
   ·exact absurd (show z2.st=5 from h) aA
   ·exact absurd (show z2.st=4 from h) aA
   ·exact NG hC hz2 h hb
  have ho:=hc.op
  by_cases c1:(bJ p.m z).op=1∨(bJ p.m z).op=2
  ·exact aGi p z hz hs h1 hpc hc ha c1
  by_cases c2:(bJ p.m z).op=5∨(bJ p.m z).op=6∨(bJ p.m z).op=7
  ·exact aGj p z hz hs h1 hpc hc ha c2
  by_cases c3:8≤(bJ p.m z).op∧(bJ p.m z).op≤20
  ·exact aGk p z hz hs h1 hpc hc ha c3
  by_cases c4:(bJ p.m z).op=21
  ·exact aGl p z hz hs h1 hpc hc ha c4
  by_cases c5:(bJ p.m z).op=22
  ·exact aGm p z hz hs h1 hpc hc ha c5
  by_cases c6:(bJ p.m z).op=28
  ·exact aGn p z hz hs h1 hpc hc ha c6
  by_cases c7:(bJ p.m z).op=26
  ·exact aGo p z hz hs h1 hpc hc ha c7
  by_cases c8:(bJ p.m z).op=27
  ·exact aGp p z hz hs h1 hpc hc ha c8
  by_cases c9:(bJ p.m z).op=3
  ·exact aGq p z hz hs h1 hpc hc ha c9
  by_cases c10:(bJ p.m z).op=4
  ·exact aGg p z hz hs h1 hpc hc ha c10
  exact aGh p z hz hs h1 hpc hc ha aA
 ·exact aGf p z hz (SX hC hz hb hg) h1
end
structure m7(u n:Nat)(c:cN):Prop where
 st:c.st=2
 up:c.up=none
 upb:c.upb=none
 fr:c.fr=[⟨u,0,0⟩]
 ok:c.sk.Ok
 ws:c.sk.ws=List.replicate n 0
theorem aDh(mb:Nat)(m:ML)(u:Nat)(hu:u<m.us.length)(t:TypeId)(rv:Value)(hl:(m.us.getD u default).u.locals.length≤200):
  Fn Tryz.prog 30 #[ptr mb, .int .i64 u, .iface t rv] [md m] [aF mb (lQ m) 26] (σ:=Nat×Nat×cN)
   (fun s=>m7 u (m.us.getD u default).u.locals.length s.2.2) (fun s=>ptr s.1) (fun s=>[aF s.1 (rV mb (.iface t rv) (.slice (some ⟨s.2.1,0,none⟩) 1 1) s.2.2.cb 1 0 0 (.slice none 0 0) .nilFunc) 103,aF mb (lQ m) 26,arr (some ⟨s.2.1,0,none⟩) 1 1 100 jI [s.2.2.cb],arr none 0 0 2 aY ([]:List Int),lL [],jP s.2.2,gO s.2.2,aF s.2.2.sk.sb (nN s.2.2.sk) 236,arr (some ⟨s.2.2.sk.lb,0,none⟩) s.2.2.sk.l.length s.2.2.sk.l.length 2 aY s.2.2.sk.l]):=by
 refine JE [ptr mb, .int .i64 u, .iface t rv] Tryz.func30 Tryz.ntmps30 fun w S=>?_;refine Jn ?_
 repeat(refine Jy ?_;try intro b)
 obtain⟨tb,rfl⟩:=a7 b;apply aE.imp' (fun w hm=>hm.cU 2 aY);(apply aE.op;exact rfl;refine aB.bA (spec:=P7 tb mb m _ u hu none 0 [] hl aW) (k:=?_);intro s hs;refine Jn ?_);obtain⟨c,rfl⟩:=a7 s;have hst:=hs.st
 repeat(refine Jy ?_;try intro b)
 obtain⟨ob,rfl⟩:=a7 b;apply End.imp (fun w hm=>Mem.jB (b:=ob) (e:=100) (f:=jI) (n:=1) hm (tk) [c.cb] rfl rfl (by unfold maxLen;simp));apply End.imp (fun w hm=>hm.gH);refine End.aX ((tb,ob,{c with st:=2}):Nat×Nat×cN) (he:=by rfl) (hp:=⟨rfl,hs.up,hs.upb,hs.fr,hs.ok,hs.ws.trans ?_⟩);refine pE aW fun i h1 h2=>?_
 simp
end
end Vw
namespace Vm
open ImgM Ver Opt
structure Ls where
 qZ:List Nat
 oZ:List (List Int)
deriving DecidableEq
def lists(F:List (List Int)):Env Ls where
 full _ _:=false
 empty s b:=decide (s.qZ.getD b 0=(F.getD b []).length)
 put s b v:={s with oZ:=s.oZ.set b (s.oZ.getD b [] ++[v])}
 take s b:=((F.getD b []).getD (s.qZ.getD b 0) 0,{s with qZ:=s.qZ.set b (s.qZ.getD b 0+1)})
 tell s _:=s
def Ls.new(n:Nat):Ls:=⟨List.replicate n 0,List.replicate n []⟩
def goN{ν:Type}(V:Env ν)(M:aL):Nat→Tk×ν→Nat×(Tk×ν)
 |0,s=>(0,s)
 |n+1,s=>if(step V M s).1 then((goN V M n (step V M s).2).1+1,(goN V M n (step V M s).2).2)else(0,(step V M s).2)
def tasks(M:aL):List Nat:=(List.range M.aJ.length).filter fun k=>decide ((M.aJ.getD k default).kind=4)
end Vm
namespace Vw
open Go.RowKit Img
abbrev SL.born(E:dK)(ob:Nat)(c:cN)(e:E.μ):SL E:=⟨some ⟨ob,0,none⟩,1,[c.cb],[c],0,c,1,0,0,none,0,[],e⟩
theorem aHU{m:ML}{k:Nat}(h:k<(Vm.tasks m.aC).length):(Vm.tasks m.aC).getD k 0<m.us.length∧(m.X9 ((Vm.tasks m.aC).getD k 0)).u.kind=4:=by
 have hm:(Vm.tasks m.aC).getD k 0∈Vm.tasks m.aC:=by
  rw[Jd,Je h];exact hZ h
 generalize(Vm.tasks m.aC).getD k 0=u at *;unfold Vm.tasks at hm;rw[mA,sC,JV,ML.jK]at hm;exact⟨by simpa using hm.1,hm.2⟩
end Vw
end Go.Proofs.YtofckcabpchcmaaGreatDoor
