/- A step's operations, walked: loading and storing, and what has to do with other units. -/
import Derived.Test.YtofckcabpchcmaaGreatDoorM30
set_option linter.unusedVariables false
set_option linter.unusedSimpArgs false
set_option linter.unusedSectionVars false
set_option maxRecDepth 100000
namespace Go.Proofs.YtofckcabpchcmaaGreatDoor
namespace Vw
open Go.RowKit Img
section
attribute [local irreducible] aE aB End aA Still aM aP RunT Fn aO
variable{E:cN}
set_option maxHeartbeats 2000000 in
theorem aGL(p:Pl)(z:SL E)(hz:z.Wf)(hs:lQ p.m z)(h1:(z.look p.m).st=1)(hpc:z.f.pc≤100000)(hc:nK p.m (z.bL p.m) (bH p.m z))(ha:pB p.m (z.bL p.m) (bH p.m z))(hop:(bH p.m z).op=3):
  Fn Tryz.prog 32 #[ptr p.tb] [md p.m,E.rc] (TM p z) (σ:=SL E) (iN z (Vm.step E.V p.m.aC z.two).2) (fun _=> .bool (Vm.step E.V p.m.aC z.two).1) (fun z'=>TM p z'):=by
 obtain⟨g1,g2,g3,g4,g5⟩:=id hs;have hl:0<z.cur.fr.length:=JP.2 g1;have w1:IntKind.i64.wrap ((z.cur.fr.length:Int)-1)=((z.cur.fr.length-1:Nat):Int):=by rw[dA (by omega)];omega
 have w2:IntKind.i64.wrap ((z.f.pc:Int)+1)=((z.f.pc+1:Nat):Int):=by rw[dA (by omega)];omega
 refine JE [ptr p.tb] Tryz.func32 Tryz.ntmps32 fun w S=>?_
 (refine Jn ?_)
 repeat(refine Jy ?_)
 (refine Jc ?_;refine aA.aZ (spec:=fI p z hz (fun _=>hs)) (r:=fun w=>Jm) (k:=?_);intro s hs;(refine Jn ?_))
 repeat(refine Jy ?_)
 apply aB.draw 21 ([iZ p (z.look p.m),kU p,gF z.cur,md p.m]) (by kernel_rfl) 22 rfl;refine JR 0 ?_;refine JR 1 ?_;refine JR 2 ?_;refine JR 3 ?_;refine JR 4 ?_;refine JR 5 ?_;refine JR 6 ?_;refine JR 7 ?_;refine JR 8 ?_;refine JR 9 ?_;refine JR 10 ?_;refine JR 11 ?_;refine JR 12 ?_;refine JR 13 ?_;refine JR 14 ?_;refine JR 15 ?_;refine JR 16 ?_;refine JR 17 ?_;refine JR 18 ?_;refine JR 19 ?_;(refine JT 20 ?_;(refine Jb ?_;intro b);refine JG ?_);(refine JT 21 ?_;(refine Jw ?_);refine JG ?_);(apply RunT.done;kernel_rfl)
 repeat(refine Jy ?_)
 (apply aE.op;exact rfl;refine aA.iG (f:=cP) (l:=z.cur.fr) (i:=z.cur.fr.length-1) (off:=1) (vs:=[.int .i64 ((z.f.pc+1:Nat):Int)]) (a':=(⟨z.f.unit,z.f.pc+1,z.f.base⟩:Vm.Fr)) (k:=?_));apply aE.nil;apply End.jQ;obtain⟨ib,rfl⟩:∃x,x=b:=⟨_,rfl⟩;refine aB.sub [(0,ptr p.tb),(2, .bool false),(3, .pointer (place (sz cP) z.cur.fo (z.cur.fr.length-1) 0)),(4,ptr ib)] (Ju) ?_;have hln:z.cur.fr.length=(z.cur.fr.set (z.cur.fr.length-1) (⟨z.f.unit,z.f.pc+1,z.f.base⟩:Vm.Fr)).length:=by rw[Ji]
 refine aB.only (aI w S::md p.m::E.rc::aD ib (dV (bH p.m z)) 113::TM p (z.bL p.m)) (Jx) ?_;have hpl:place (sz cP) z.cur.fo (z.cur.fr.length-1) 0=place (sz cP) (z.bL p.m).cur.fo ((z.bL p.m).cur.fr.length-1) 0:=by rw[show(z.bL p.m).cur.fr.length=z.cur.fr.length from Ji]
 rw[hpl];have hstep:=hz.qX p.m h1;rw[hstep];have hz1:=hz.bL p.m;obtain⟨i,hi⟩:∃i,i=bH p.m z:=⟨_,rfl⟩;obtain⟨z1,hz1e⟩:∃z1,z1=z.bL p.m:=⟨_,rfl⟩;rw[←hi,←hz1e]at hc ha⊢;rw[←hz1e]at hz1;rw[←hi]at hop;obtain⟨s1,s2⟩:=hc.load hop;have hk:=hz1.cX;obtain⟨n,hn⟩:=JI s1;have hn':i.a=(n:Int):=hn;have hnn:i.a.toNat=n:=by rw[hn'];rfl
 rw[hnn]at s2;have g6:=hk.live;have g7:=hk.hi;have hfl:z1.cur.fr.length=z.cur.fr.length:=by rw[hz1e];exact Ji
 have w3:IntKind.i64.wrap ((z1.f.base:Int)+i.a)=((z1.f.base+n:Nat):Int):=by rw[hn',dA (by omega)];omega
 repeat(refine Jy ?_)
 apply aB.draw 18 ([iZ p z1,iQ z1.cur,gF z1.cur,aD ib (dV i) 113]) (by kernel_rfl) 19 rfl;refine JR 0 ?_;refine JR 1 ?_;refine JR 2 ?_;refine JR 3 ?_;refine JR 4 ?_;refine JR 5 ?_;refine JR 6 ?_;refine JR 7 ?_;refine JR 8 ?_;refine JR 9 ?_;refine JR 10 ?_;refine JR 11 ?_;refine JR 12 ?_;refine JR 13 ?_;refine JR 14 ?_;(refine JT 15 ?_;refine JK (HG z1.cur.sk (z1.f.base+n) (by omega) g7) ?_;intro s hs;refine JG ?_;(refine Jn ?_));(refine JT 16 ?_;(refine Jw ?_);refine JG ?_);(refine JT 17 ?_;(refine Jw ?_);refine JG ?_);have hv:z1.cur.sk.l.getD (z1.f.base+n) default=z1.cur.sk.ws.getD (z1.f.base+n) 0:=by
  rw[Jd,Jd,AW,if_pos (by omega)];rfl
 rw[hv];(refine JT 18 ?_;refine aA.aZ (spec:=lH E (z1.F p) z1.st z1.tr z1.e (hc.iE hz1) (z1.cur.st:Int) (eM z1.cur.upb) (.slice z1.cur.fo z1.cur.fr.length z1.cur.fc) z1.cur.sk hz1.cX (z1.cur.sk.ws.getD (z1.f.base+n) 0)) (r:=fun w=>Reads.any (tk) E.dJ .nil) (k:=?_);intro s hs;refine JG ?_;(refine Jn ?_));(apply RunT.done;kernel_rfl);obtain⟨q,rfl⟩:∃x,x=s:=⟨_,rfl⟩;obtain⟨t1,t2⟩:=lI hz1 hs;have t3:(z1.put q).two=Vm.exec E.V p.m.aC i z1.two:=by
  rw[t2];unfold Vm.exec;simp only[hop,hnn];show _=Vm.push E.V ((Vm.cur z1.tk).ws.getD ((Vm.fK (Vm.cur z1.tk)).base+n) 0) z1.two;rw[hz1.fK,hz1.cur];rfl
 repeat(refine Jy ?_)
 (refine JM (fI p (z1.put q) t1 (ha (z1.put q) t1 t3)) ?_;intro s hs;(refine Jn ?_))
 repeat(refine Jy ?_)
 (refine End.aH ((SL.look (z1.put q) p.m)) (he:=Jv) (hp:=?_));exact⟨t1.look p.m,(t1.gQ p.m).trans (by rw[t3])⟩
set_option maxHeartbeats 2000000 in
theorem aGB(p:Pl)(z:SL E)(hz:z.Wf)(hs:lQ p.m z)(h1:(z.look p.m).st=1)(hpc:z.f.pc≤100000)(hc:nK p.m (z.bL p.m) (bH p.m z))(ha:pB p.m (z.bL p.m) (bH p.m z))(hop:(bH p.m z).op=4):
  Fn Tryz.prog 32 #[ptr p.tb] [md p.m,E.rc] (TM p z) (σ:=SL E) (iN z (Vm.step E.V p.m.aC z.two).2) (fun _=> .bool (Vm.step E.V p.m.aC z.two).1) (fun z'=>TM p z'):=by
 obtain⟨g1,g2,g3,g4,g5⟩:=id hs;have hl:0<z.cur.fr.length:=JP.2 g1;have w1:IntKind.i64.wrap ((z.cur.fr.length:Int)-1)=((z.cur.fr.length-1:Nat):Int):=by rw[dA (by omega)];omega
 have w2:IntKind.i64.wrap ((z.f.pc:Int)+1)=((z.f.pc+1:Nat):Int):=by rw[dA (by omega)];omega
 refine JE [ptr p.tb] Tryz.func32 Tryz.ntmps32 fun w S=>?_
 (refine Jn ?_)
 repeat(refine Jy ?_)
 (refine Jc ?_;refine aA.aZ (spec:=fI p z hz (fun _=>hs)) (r:=fun w=>Jm) (k:=?_);intro s hs;(refine Jn ?_))
 repeat(refine Jy ?_)
 apply aB.draw 21 ([iZ p (z.look p.m),kU p,gF z.cur,md p.m]) (by kernel_rfl) 22 rfl;refine JR 0 ?_;refine JR 1 ?_;refine JR 2 ?_;refine JR 3 ?_;refine JR 4 ?_;refine JR 5 ?_;refine JR 6 ?_;refine JR 7 ?_;refine JR 8 ?_;refine JR 9 ?_;refine JR 10 ?_;refine JR 11 ?_;refine JR 12 ?_;refine JR 13 ?_;refine JR 14 ?_;refine JR 15 ?_;refine JR 16 ?_;refine JR 17 ?_;refine JR 18 ?_;refine JR 19 ?_;(refine JT 20 ?_;(refine Jb ?_;intro b);refine JG ?_);(refine JT 21 ?_;(refine Jw ?_);refine JG ?_);(apply RunT.done;kernel_rfl)
 repeat(refine Jy ?_)
 (apply aE.op;exact rfl;refine aA.iG (f:=cP) (l:=z.cur.fr) (i:=z.cur.fr.length-1) (off:=1) (vs:=[.int .i64 ((z.f.pc+1:Nat):Int)]) (a':=(⟨z.f.unit,z.f.pc+1,z.f.base⟩:Vm.Fr)) (k:=?_));apply aE.nil;apply End.jQ;obtain⟨ib,rfl⟩:∃x,x=b:=⟨_,rfl⟩;refine aB.sub [(0,ptr p.tb),(2, .bool false),(3, .pointer (place (sz cP) z.cur.fo (z.cur.fr.length-1) 0)),(4,ptr ib)] (Ju) ?_;have hln:z.cur.fr.length=(z.cur.fr.set (z.cur.fr.length-1) (⟨z.f.unit,z.f.pc+1,z.f.base⟩:Vm.Fr)).length:=by rw[Ji]
 refine aB.only (aI w S::md p.m::E.rc::aD ib (dV (bH p.m z)) 113::TM p (z.bL p.m)) (Jx) ?_;have hpl:place (sz cP) z.cur.fo (z.cur.fr.length-1) 0=place (sz cP) (z.bL p.m).cur.fo ((z.bL p.m).cur.fr.length-1) 0:=by rw[show(z.bL p.m).cur.fr.length=z.cur.fr.length from Ji]
 rw[hpl];have hstep:=hz.qX p.m h1;rw[hstep];have hz1:=hz.bL p.m;obtain⟨i,hi⟩:∃i,i=bH p.m z:=⟨_,rfl⟩;obtain⟨z1,hz1e⟩:∃z1,z1=z.bL p.m:=⟨_,rfl⟩;rw[←hi,←hz1e]at hc ha⊢;rw[←hz1e]at hz1;rw[←hi]at hop;have c1:=hc.some (by omega);obtain⟨s1,s2⟩:=hc.store hop;obtain⟨n,hn⟩:=JI s1;have hn':i.a=(n:Int):=hn;have hnn:i.a.toNat=n:=by rw[hn'];rfl
 rw[hnn]at s2;have hfl:z1.cur.fr.length=z.cur.fr.length:=by rw[hz1e];exact Ji
 have g6:=hz1.cX.live;have g7:=hz1.cX.hi;have w3:IntKind.i64.wrap ((z1.f.base:Int)+i.a)=((z1.f.base+n:Nat):Int):=by rw[hn',dA (by omega)];omega
 repeat(refine Jy ?_)
 (refine JQ (nC (z1.F p) z1.st z1.tr (z1.cur.st:Int) (eM z1.cur.upb) (.slice z1.cur.fo z1.cur.fr.length z1.cur.fc) E.jN (jH E.told) z1.cur.sk hz1.cX c1) ?_;intro s hs;(refine Jn ?_));obtain⟨k1,rfl⟩:∃x,x=s:=⟨_,rfl⟩;have ht:=hs;obtain⟨p1,p2⟩:=mD hz1 hs;have hlv:k1.live=z1.cur.sk.live-1:=by have h:=ht.live;have h2:=Sk.len hz1.cX;rw[lE]at h;omega
 have g8:k1.live≤k1.l.length:=p1.cX.live;have g9:k1.l.length≤400:=p1.cX.hi;have g10:8≤k1.l.length:=p1.cX.lo
 repeat(refine Jy ?_)
 apply aB.draw 17 ([iZ p (z1.sk k1),iQ (z1.sk k1).cur,gF z1.cur,aD ib (dV i) 113]) (by kernel_rfl) 18 rfl;refine JR 0 ?_;refine JR 1 ?_;refine JR 2 ?_;refine JR 3 ?_;refine JR 4 ?_;refine JR 5 ?_;refine JR 6 ?_;refine JR 7 ?_;refine JR 8 ?_;refine JR 9 ?_;refine JR 10 ?_;refine JR 11 ?_;refine JR 12 ?_;refine JR 13 ?_;refine JR 15 ?_;(refine JT 14 ?_;refine JK (HG k1 (z1.f.base+n) (by omega) g9) ?_;intro s hs;refine JG ?_;(refine Jn ?_));(refine JT 16 ?_;(refine Jw ?_);refine JG ?_);(refine JT 17 ?_;refine aA.iG (f:=aT) (l:=k1.l) (i:=z1.f.base+n) (off:=0) (vs:=[.int .i64 (z1.top 1)]) (a':=z1.top 1) (k:=?_);refine JG ?_);(apply RunT.done;kernel_rfl);have hsl:(k1.l.set (z1.f.base+n) (z1.top 1)).length=k1.l.length:=Ji;obtain⟨k2,hk2e⟩:∃k2:Sk,k2=⟨k1.sb,k1.lb,k1.l.set (z1.f.base+n) (z1.top 1),k1.live⟩:=⟨_,rfl⟩;have hk2:k2.Ok:=by rw[hk2e];exact⟨by rw[hsl];exact g8,by rw[hsl];exact g10,by rw[hsl];exact g9⟩
 have q1:k1.sb=k2.sb:=by rw[hk2e]
 have q2:mG k1=mG k2:=by rw[hk2e];simp
 have q3:arr (some ⟨k1.lb,0,none⟩) k1.l.length k1.l.length 2 aT (k1.l.set (z1.f.base+n) (z1.top 1))=arr (some ⟨k2.lb,0,none⟩) k2.l.length k2.l.length 2 aT k2.l:=by rw[hk2e];simp
 rw[q2,q3,q1];have t1:((z1.sk k1).sk k2).Wf:=p1.setCur rfl rfl rfl hk2;have t3:((z1.sk k1).sk k2).two=Vm.exec E.V p.m.aC i z1.two:=by
  have hla':Vm.last z1.two.1=z1.top 1:=hz1.last;unfold Vm.exec;simp only[hop,hla',hnn];refine oK ?_ rfl;show SL.tk _=Vm.setCur (Vm.drop 1 z1.tk) {Vm.cur (Vm.drop 1 z1.tk)with ws:=(Vm.cur (Vm.drop 1 z1.tk)).ws.set ((Vm.fK (Vm.cur (Vm.drop 1 z1.tk))).base+n) (z1.top 1)};rw[←p2,p1.fK,p1.cur,SL.tM,hk2e];congr 1;show(⟨_,_,_,(k1.l.set (z1.f.base+n) (z1.top 1)).take k1.live⟩:Vm.Co)=⟨_,_,_,(k1.l.take k1.live).set (z1.f.base+n) (z1.top 1)⟩;rw[List.take_set];rfl
 repeat(refine Jy ?_)
 (refine JM (fI p ((z1.sk k1).sk k2) t1 (ha ((z1.sk k1).sk k2) t1 t3)) ?_;intro s hs;(refine Jn ?_))
 repeat(refine Jy ?_)
 (refine End.aH ((SL.look ((z1.sk k1).sk k2) p.m)) (he:=Jv) (hp:=?_));exact⟨t1.look p.m,(t1.gQ p.m).trans (by rw[t3])⟩
set_option maxHeartbeats 2000000 in
theorem aGC(p:Pl)(z:SL E)(hz:z.Wf)(hs:lQ p.m z)(h1:(z.look p.m).st=1)(hpc:z.f.pc≤100000)(hc:nK p.m (z.bL p.m) (bH p.m z))(ha:pB p.m (z.bL p.m) (bH p.m z))(hop:(bH p.m z).op=23∨(bH p.m z).op=24∨(bH p.m z).op=25∨(29≤(bH p.m z).op∧(bH p.m z).op≤32)):
  Fn Tryz.prog 32 #[ptr p.tb] [md p.m,E.rc] (TM p z) (σ:=SL E) (iN z (Vm.step E.V p.m.aC z.two).2) (fun _=> .bool (Vm.step E.V p.m.aC z.two).1) (fun z'=>TM p z'):=by
 obtain⟨g1,g2,g3,g4,g5⟩:=id hs;have hl:0<z.cur.fr.length:=JP.2 g1;have w1:IntKind.i64.wrap ((z.cur.fr.length:Int)-1)=((z.cur.fr.length-1:Nat):Int):=by rw[dA (by omega)];omega
 have w2:IntKind.i64.wrap ((z.f.pc:Int)+1)=((z.f.pc+1:Nat):Int):=by rw[dA (by omega)];omega
 refine JE [ptr p.tb] Tryz.func32 Tryz.ntmps32 fun w S=>?_
 (refine Jn ?_)
 repeat(refine Jy ?_)
 (refine Jc ?_;refine aA.aZ (spec:=fI p z hz (fun _=>hs)) (r:=fun w=>Jm) (k:=?_);intro s hs;(refine Jn ?_))
 repeat(refine Jy ?_)
 apply aB.draw 21 ([iZ p (z.look p.m),kU p,gF z.cur,md p.m]) (by kernel_rfl) 22 rfl;refine JR 0 ?_;refine JR 1 ?_;refine JR 2 ?_;refine JR 3 ?_;refine JR 4 ?_;refine JR 5 ?_;refine JR 6 ?_;refine JR 7 ?_;refine JR 8 ?_;refine JR 9 ?_;refine JR 10 ?_;refine JR 11 ?_;refine JR 12 ?_;refine JR 13 ?_;refine JR 14 ?_;refine JR 15 ?_;refine JR 16 ?_;refine JR 17 ?_;refine JR 18 ?_;refine JR 19 ?_;(refine JT 20 ?_;(refine Jb ?_;intro b);refine JG ?_);(refine JT 21 ?_;(refine Jw ?_);refine JG ?_);(apply RunT.done;kernel_rfl)
 repeat(refine Jy ?_)
 (apply aE.op;exact rfl;refine aA.iG (f:=cP) (l:=z.cur.fr) (i:=z.cur.fr.length-1) (off:=1) (vs:=[.int .i64 ((z.f.pc+1:Nat):Int)]) (a':=(⟨z.f.unit,z.f.pc+1,z.f.base⟩:Vm.Fr)) (k:=?_));apply aE.nil;apply End.jQ;obtain⟨ib,rfl⟩:∃x,x=b:=⟨_,rfl⟩;refine aB.sub [(0,ptr p.tb),(2, .bool false),(3, .pointer (place (sz cP) z.cur.fo (z.cur.fr.length-1) 0)),(4,ptr ib)] (Ju) ?_;have hln:z.cur.fr.length=(z.cur.fr.set (z.cur.fr.length-1) (⟨z.f.unit,z.f.pc+1,z.f.base⟩:Vm.Fr)).length:=by rw[Ji]
 refine aB.only (aI w S::md p.m::E.rc::aD ib (dV (bH p.m z)) 113::TM p (z.bL p.m)) (Jx) ?_;have hpl:place (sz cP) z.cur.fo (z.cur.fr.length-1) 0=place (sz cP) (z.bL p.m).cur.fo ((z.bL p.m).cur.fr.length-1) 0:=by rw[show(z.bL p.m).cur.fr.length=z.cur.fr.length from Ji]
 rw[hpl];have hstep:=hz.qX p.m h1;rw[hstep];have hz1:=hz.bL p.m;obtain⟨i,hi⟩:∃i,i=bH p.m z:=⟨_,rfl⟩;obtain⟨z1,hz1e⟩:∃z1,z1=z.bL p.m:=⟨_,rfl⟩;rw[←hi,←hz1e]at hc ha⊢;rw[←hz1e]at hz1;rw[←hi]at hop
 by_cases h20:i.op≤20
 ·omega
 repeat(refine Jy ?_)
 (refine JM (aHM p z1 hz1 i hc.aL hop) ?_;intro s hs;(refine Jn ?_));obtain⟨z2,rfl⟩:∃x,x=s:=⟨_,rfl⟩;have t1:=hs.wf;have t3:=hs.two
 repeat(refine Jy ?_)
 (refine JM (fI p (z2) t1 (ha (z2) t1 t3)) ?_;intro s hs;(refine Jn ?_))
 repeat(refine Jy ?_)
 (refine End.aH ((SL.look (z2) p.m)) (he:=Jv) (hp:=?_));exact⟨t1.look p.m,(t1.gQ p.m).trans (by rw[t3])⟩
end
section
variable{E:cN}{z:SL E}{m:ML}{T:Nat→Int→Option Ver.Shape}{ch:List Nat}
theorem KY(m:ML):m.aC.aL.length=m.us.length:=Jf _
theorem GK(m:ML)(k:Nat):Vm.bD m.aC k=(m.us.getD k default).u:=m.jI k
theorem aBU{l fs0:List Vm.Fr}{f:Vm.Fr}(h:l=fs0 ++[f]):l≠[]:=by rw[h];simp
theorem MX(hC:Vm.dF m.aC T)(hz:z.Wf)(hok:Vm.Ok m.aC T z.tk ch)(hb:E.boxes=m.bx.length):lQ m z:=by
 obtain⟨fs0,ws0,q,p,st,hh,loc,op,a⟩:=hok.at_;obtain⟨st',h',hr⟩:=a.here hC;have hfr:z.cur.fr=fs0 ++[⟨q,p,ws0.length⟩]:=by have:=a.fr;rw[hz.cur]at this;exact this
 have hf:z.f=⟨q,p,ws0.length⟩:=hz.fK.symm.trans a.top;have hln:=(hok.lens _ hok.iV).2;rw[←Vm.jV,hz.cur]at hln;have hq:q<m.us.length:=by rw[←KY];exact a.hq
 have hi:Vm.aV m.aC z.tk=bH m z:=hz.ins m;refine⟨aBU hfr,hln,by rw[hf];exact hq,?_,fun h=>?_⟩
 ·rw[hf,←GK];exact hr.lt
 ·rw[←hi]at h⊢;have:=hr.ok.box h;have e:(m.aC.boxes.length:Int)=(m.bx.length:Int):=rfl;omega
theorem Z0{q:Int}{k:Int}(hC:Vm.dF m.aC T)(h:Ver.isUnit m.aC q k=true):0≤q∧q.toNat<m.us.length∧0≤(m.us.getD q.toNat default).u.params∧(m.us.getD q.toNat default).u.params.toNat≤(m.us.getD q.toNat default).u.locals.length∧(m.us.getD q.toNat default).u.locals.length≤200:=by
 unfold Ver.isUnit at h;simp only[JX,JV]at h;obtain⟨⟨h1,h2⟩, -⟩:=h;rw[KY]at h2;have hlt:q.toNat<m.us.length:=by omega
 have hh:=Vm.vL hC (k:=q.toNat) (by rw[KY];exact hlt);have hf:=Vm.yK hh;rw[GK]at hh hf;have hp:0≤(m.us.getD q.toNat default).u.params:=by
  unfold Ver.head at hh
  split at hh
  ·cases hh
  split at hh
  ·cases hh
  omega
 exact⟨h1,hlt,hp,hf.1,hf.2.1⟩
theorem VS{a b c:List Int}{v:Int}{n:Nat}(hn:(a ++(b ++(c ++[v]))).length=n):(a ++(b ++(c ++[v]))).getD (n-1) 0=v:=by
 subst hn;have e:a ++(b ++(c ++[v]))=(a ++(b ++c)) ++[v]:=by simp
 rw[e];exact Vm.VU _ _
theorem VT{a b c:List Int}{x y:Int}{n:Nat}(hn:(a ++(b ++(c ++[x,y]))).length=n):(a ++(b ++(c ++[x,y]))).getD (n-2) 0=x:=by
 subst hn;have e:a ++(b ++(c ++[x,y]))=(a ++(b ++c)) ++[x,y]:=by simp
 rw[e,Jd,xR (by simp;omega)];have e2:(a ++(b ++c) ++[x,y]).length-2-(a ++(b ++c)).length=0:=by simp only[Jl,JW,oI];omega
 rw[e2];rfl
theorem ZZ(hC:Vm.dF m.aC T)(hz:z.Wf)(hok:Vm.Ok m.aC T z.tk ch)(hb:E.boxes=m.bx.length)(ho:z.out.length≤1000000)(hsz:E.size (E.abs z.e)≤1000000)
  (hw:((bH m z).op=26→E.V.full (E.abs z.e) (bH m z).a.toNat=false)∧((bH m z).op=27→E.V.empty (E.abs z.e) (bH m z).a.toNat=false)):nK m (z.bL m) (bH m z)∧z.f.pc≤100000:=by
 obtain⟨fs0,ws0,q,p,st,hh,loc,op,a⟩:=hok.at_;obtain⟨st',h',hr⟩:=a.here hC;have hn:=hok.iV;have hfr:z.cur.fr=fs0 ++[⟨q,p,ws0.length⟩]:=by have:=a.fr;rw[hz.cur]at this;exact this
 have hws:z.cur.sk.ws=ws0 ++(loc ++op):=by have:=a.ws;rw[hz.cur]at this;exact this
 have hf:z.f=⟨q,p,ws0.length⟩:=hz.fK.symm.trans a.top;have hf1:(z.bL m).f=⟨q,p+1,ws0.length⟩:=by
  show(z.cur.fr.set (z.cur.fr.length-1) _).getD ((z.cur.fr.set (z.cur.fr.length-1) _).length-1) default=_;rw[hf,hfr,Vm.FY];exact Vm.MR _ _
 have hln:=(hok.lens _ hn).2;rw[←Vm.jV,hz.cur]at hln;have hln:z.cur.fr.length≤40:=hln;have hi:Vm.aV m.aC z.tk=bH m z:=hz.ins m;rw[hi]at hr;generalize bH m z=i at *;have hlive:ws0.length+(loc.length+op.length)=z.cur.sk.live:=by
  have:=Sk.len hz.cX;rw[hws]at this;simpa using this
 have hll:=a.loc.len;have hol:=a.op.len;have hio:=hr.ok;have hfl:(z.bL m).cur.fr.length=z.cur.fr.length:=Ji;have hne:(z.bL m).cur.fr≠[]:=by
  intro h;have h2:(z.bL m).cur.fr.length=0:=by rw[h];rfl
  rw[hfl,hfr]at h2;simp at h2
 have hcs:z.tk.cs.length=z.oth.length:=by show(z.all.map b9.abs).length=_;rw[Jf,z.uG]
 have hsn:z.tk.now=z.now:=rfl;have hk1:(z.bL m).top 1=(ws0 ++(loc ++op)).getD (z.cur.sk.live-1) 0:=by show z.cur.sk.ws.getD _ _=_;rw[hws]
 have hk2:(z.bL m).top 2=(ws0 ++(loc ++op)).getD (z.cur.sk.live-2) 0:=by show z.cur.sk.ws.getD _ _=_;rw[hws]
 have hlen:(ws0 ++(loc ++op)).length=z.cur.sk.live:=by simpa using hlive
 have hchain:=hok.chain 0 z.now hok.now;have hcur0:Vm.co z.tk z.now=z.cur.abs:=by rw[←hz.cur];rfl
 rw[hcur0]at hchain;have hup:z.cur.up=ch[1]?:=hchain;refine⟨⟨fun h=>?_,fun h=>?_,fun h=>?_,fun h=>?_,fun h=>(hio.jump h).1,fun h=>?_,fun h=>?_,hsz,fun _=>ho,⟨fun h=>?_,fun h=>?_,fun h=>?_,fun h=>?_,fun h=>?_,hsz,fun h=>?_⟩,hio.op,hr.iJ.2⟩,?_⟩
 ·show 0<z.cur.sk.live;have:0<op.length:=by
   rw[←hol]
   cases hr.gN with
   |_=>first|(exfalso;omega)|(simp;done)
  omega
 ·show 2≤z.cur.sk.live∧_∧_;have hk:∃s1 t1 t2,st=s1 ++[t1,t2]:=by
   cases hr.gN with
   |arith s1 _ _=>exact⟨s1,1,1,rfl⟩
   |eq s1 _ ty _ _=>exact⟨s1,ty,ty,rfl⟩
   |cmp s1 _ _=>exact⟨s1,1,1,rfl⟩
   |KO s1 _ _=>exact⟨s1,2,2,rfl⟩
   |_=>exfalso;omega
  obtain⟨s1,t1,t2,e⟩:=hk;have ht:=a.op;rw[e]at ht;obtain⟨op1,y,e1,g1,g2⟩:=ht.split;obtain⟨x,y,rfl,hx,hy⟩:=g2.xM;subst e1;refine⟨by simp at hlive;omega,?_,?_⟩
  ·rw[hk1];have:=VS (a:=ws0) (b:=loc) (c:=op1 ++[x]) (v:=y) (n:=z.cur.sk.live) (by simpa using hlive);rw[Jt]at this;rw[show [x] ++[y]=[x,y]from rfl]at this;rw[this];exact hy.1
  ·rw[hk2,VT hlen];exact hx.1
 ·have h1:=hio.loc (.inl h);rw[hf1];refine⟨h1.1,?_⟩;show ws0.length+i.a.toNat<z.cur.sk.live;omega
 ·have h1:=hio.loc (.inr h);rw[hf1];refine⟨h1.1,?_⟩;show ws0.length+i.a.toNat<z.cur.sk.live-1;have:0<op.length:=by
   rw[←hol]
   cases hr.gN with
   |store _ _ _=>simp
   |_=>exfalso;omega
  omega
 ·have h1:=hio.box (.inl h);have e:(m.aC.boxes.length:Int)=(m.bx.length:Int):=rfl;exact⟨h1.1,by omega,hw.1 h⟩
 ·have h1:=hio.box (.inr h);have e:(m.aC.boxes.length:Int)=(m.bx.length:Int):=rfl;exact⟨h1.1,by omega,hw.2 h⟩
 ·have hk:∃k,Ver.isUnit m.aC i.a k=true:=by
   rcases h with h|h
   ·exact⟨_,hio.call h⟩
   ·exact⟨_,hio.start h⟩
  obtain⟨k,hk⟩:=hk;obtain⟨c1,c2,c3,c4,c5⟩:=Z0 hC hk;refine⟨c1,c2,c3,?_,c4,c5,by rw[hfl];exact hln⟩;show _≤z.cur.sk.live;have hp:(Vm.bD m.aC i.a.toNat).params.toNat≤op.length:=by
   have hle:(Vm.bD m.aC i.a.toNat).params.toNat≤(Vm.bD m.aC i.a.toNat).locals.length:=by rw[GK];exact c4
   have key:∀(s:List Int) (u:ImgM.bS),u.params.toNat≤u.locals.length→u.params.toNat≤(s ++u.locals.take u.params.toNat).length:=fun s u h=>by
    rw[Jl,lE];omega
   rw[←hol]
   cases hr.gN with
   |call _ _ _=>exact key _ _ hle
   |start _ _ _=>exact key _ _ hle
   |_=>exfalso;omega
  rw[GK]at hp;omega
 ·have h1:op.length=1:=by
   rw[←hol]
   cases hr.gN with
   |ret _ _ _=>rfl
   |_=>exfalso;omega
  refine⟨?_,hne,by rw[hfl];exact hln,?_⟩
  ·show 0<z.cur.sk.live;omega
  ·rw[hf1];show ws0.length≤z.cur.sk.live-1;omega
 ·intro j hj;have hj':z.cur.up=some j:=hj;rw[hup]at hj';exact hok.BW hj'
 ·have hk:∃s1 g t,st=s1 ++[10+g,t]∧Ver.handle m.aC (10+g)=true:=by
   cases hr.gN with
   |resume s1 _ g _ hg=>exact⟨s1,g,_,rfl,hg⟩
   |_=>exfalso;omega
  obtain⟨s1,g,t2,e,hg⟩:=hk;have ht:=a.op;rw[e]at ht;obtain⟨op1,y,e1,g1,g2⟩:=ht.split;obtain⟨x,y,rfl,hx,hy⟩:=g2.xM;subst e1;have hg0:10≤10+g:=by
   unfold Ver.handle at hg;rw[JX,JV]at hg;exact hg.1
  obtain⟨k,rfl,hk,hgk,hk0⟩:=hx.2.2 hg0;rw[Vm.yI,hcs]at hk;have e2:(z.bL m).top 2=(k:Int):=by rw[hk2,VT hlen]
  rw[e2];refine⟨by show 2≤z.cur.sk.live;simp at hlive;omega,by omega,by rw[Jj];exact hk,?_,?_⟩
  ·have hin:z.tk.now∈ch:=jB hok.now;have:=(hok.going _ hn).2 hin;rw[hsn,hcur0]at this;exact this
  ·rw[Jj]
   by_cases hkn:z.now=k
   ·right;exact hkn.symm
   ·left
    have h3:=hok.bR k (by rw[hcs];exact hk);have e3:Vm.co z.tk k=(z.oth.getD k default).abs:=by
     rw[←hz.oth hkn];exact I0 _ _ (by rw[z.uG];exact hk)
    rw[e3]at h3;exact h3
 ·have hk:∃s1 t,st=s1 ++[t]∧(Vm.bD m.aC q).kind=3:=by
   cases hr.gN with
   |yield s1 _ _ hk=>exact⟨s1,_,rfl,hk⟩
   |_=>exfalso;omega
  obtain⟨s1,t,e,hk3⟩:=hk;have hb0:=hok.kinds _ hn;rw[←Vm.jV]at hb0;have hbot:=Vm.HD hok a (by omega);have hn0:z.tk.now≠0:=fun e=>by rw[hbot,if_pos e,hk3]at hb0;omega
  refine⟨?_,?_⟩
  ·show 0<z.cur.sk.live;rw[e]at hol;simp at hol;omega
  ·cases hj:ch[1]? with
   |none=>exact absurd (hok.root 0 z.tk.now hok.now hj) hn0
   |some j=>exact⟨j,by show z.cur.up=_;rw[hup,hj],hok.BW hj⟩
 ·have hk:∃s1 g,st=s1 ++[10+g]∧Ver.handle m.aC (10+g)=true:=by
   cases hr.gN with
   |alive s1 _ g _ hg=>exact⟨s1,g,rfl,hg⟩
   |_=>exfalso;omega
  obtain⟨s1,g,e,hg⟩:=hk;have ht:=a.op;rw[e]at ht;obtain⟨op1,y,e1,g1,g2⟩:=ht.split;obtain⟨x,rfl,hx⟩:=g2.qZ;subst e1;have hg0:10≤10+g:=by
   unfold Ver.handle at hg;rw[JX,JV]at hg;exact hg.1
  obtain⟨k,rfl,hk,hgk,hk0⟩:=hx.2.2 hg0;rw[Vm.yI,hcs]at hk;have e2:(z.bL m).top 1=(k:Int):=by rw[hk1,VS hlen]
  rw[e2];exact⟨by show 0<z.cur.sk.live;simp at hlive;omega,by omega,by rw[Jj];exact hk⟩
 ·rw[hf];show p≤100000;have hh:=Vm.vL hC a.hq;have hlt:=hr.lt;unfold Ver.head at hh
  split at hh
  ·cases hh
  split at hh
  ·cases hh
  split at hh
  ·cases hh
  omega
end
section
attribute [local irreducible] aE aB End aA Still aM aP RunT Fn aO
section
variable{E:cN}{m:ML}{T:Nat→Int→Option Ver.Shape}{K:E.ν→Prop}
theorem RF{z:SL E}(hC:Vm.dF m.aC T)(hz:z.Wf)(hb:E.boxes=m.bx.length)(hg:Vm.Good m.aC T K z.two)(h3:z.st≤3):lQ m z:=by
 rcases hg.1 with h|h|h
 ·exact absurd (show z.st=5 from h) (by omega)
 ·exact absurd (show z.st=4 from h) (by omega)
 ·obtain⟨ch,hok⟩:=h.2;exact MX hC hz hok hb
theorem EN(p:Pl)(z:SL E)(hC:Vm.dF p.m.aC T)(hz:z.Wf)(hb:E.boxes=p.m.bx.length)(hg:Vm.Good p.m.aC T K z.two):
  Fn Tryz.prog 31 #[ptr p.tb] [md p.m,E.rc] [iZ p z,kU p,iQ z.cur,gF z.cur,E.mem z.e] (σ:=Unit) (fun _=>True) (fun _=> .tuple #[]) (fun _=>[iZ p (z.look p.m),kU p,iQ z.cur,gF z.cur,E.mem z.e]):=
 fI p z hz (RF hC hz hb hg)
theorem V5(p:Pl)(z:SL E)(hC:Vm.dF p.m.aC T)(hV:Vm.mP E.V p.m.aC K)(hz:z.Wf)(hb:E.boxes=p.m.bx.length)(hg:Vm.Good p.m.aC T K z.two)(ho:z.out.length≤1000000)(hsz:E.size (E.abs z.e)≤1000000):
  Fn Tryz.prog 32 #[ptr p.tb] [md p.m,E.rc] (TM p z) (σ:=SL E) (iN z (Vm.step E.V p.m.aC z.two).2) (fun _=> .bool (Vm.step E.V p.m.aC z.two).1) (fun z'=>TM p z'):=by
 by_cases h1:(z.look p.m).st=1
 ·have h3:z.st≤3:=by
   refine Int.not_lt.1 fun h=>?_
   have h1':(if z.st≤3 then lB E (bH p.m z) (E.abs z.e)else z.st)=1:=h1;rw[if_neg (by omega)]at h1';omega
  have h1':lB E (bH p.m z) (E.abs z.e)=1:=by
   have h1':(if z.st≤3 then lB E (bH p.m z) (E.abs z.e)else z.st)=1:=h1;rwa [if_pos h3]at h1'
  have hw:((bH p.m z).op=26→E.V.full (E.abs z.e) (bH p.m z).a.toNat=false)∧((bH p.m z).op=27→E.V.empty (E.abs z.e) (bH p.m z).a.toNat=false):=by
   unfold lB at h1';refine⟨fun ho=>?_,fun ho=>?_⟩
   ·cases hx:E.V.full (E.abs z.e) (bH p.m z).a.toNat with
    |false=>rfl
    |true=>rw[if_pos ⟨ho,hx⟩]at h1';cases h1'
   ·rw[if_neg (by omega)]at h1'
    cases hx:E.V.empty (E.abs z.e) (bH p.m z).a.toNat with
    |false=>rfl
    |true=>rw[if_pos ⟨ho,hx⟩]at h1';cases h1'
  obtain⟨ch,hok⟩:∃ch,Vm.Ok p.m.aC T z.tk ch:=by
   rcases hg.1 with h|h|h
   ·exact absurd (show z.st=5 from h) (by omega)
   ·exact absurd (show z.st=4 from h) (by omega)
   ·exact h.2
  obtain⟨hc,hpc⟩:=ZZ hC hz hok hb ho hsz hw;have hs:=MX hC hz hok hb;have hlook:(z.look p.m).two=((z.look p.m).tk,E.abs z.e):=rfl;have hokl:Vm.Ok p.m.aC T (z.look p.m).tk ch:=hok.st _ _;have hi:Vm.aV p.m.aC (z.look p.m).tk=bH p.m z:=(hz.look p.m).ins p.m;have hres:=Vm.II hC hV hokl (s:=E.abs z.e) hg.2 (by rw[hi];exact hw);rw[hi,←hz.SK]at hres;have ha:pB p.m (z.bL p.m) (bH p.m z):=fun z2 hz2 e h3=>by
   rw[←e]at hres;rcases hres.1 with h|h|⟨ch',h⟩
   ·exact absurd (show z2.st=5 from h) (by omega)
   ·exact absurd (show z2.st=4 from h) (by omega)
   ·exact MX hC hz2 h hb
  have ho:=hc.op
  by_cases c1:(bH p.m z).op=1∨(bH p.m z).op=2
  ·exact aGD p z hz hs h1 hpc hc ha c1
  by_cases c2:(bH p.m z).op=5∨(bH p.m z).op=6∨(bH p.m z).op=7
  ·exact aGE p z hz hs h1 hpc hc ha c2
  by_cases c3:8≤(bH p.m z).op∧(bH p.m z).op≤20
  ·exact aGF p z hz hs h1 hpc hc ha c3
  by_cases c4:(bH p.m z).op=21
  ·exact aGG p z hz hs h1 hpc hc ha c4
  by_cases c5:(bH p.m z).op=22
  ·exact aGH p z hz hs h1 hpc hc ha c5
  by_cases c6:(bH p.m z).op=28
  ·exact aGI p z hz hs h1 hpc hc ha c6
  by_cases c7:(bH p.m z).op=26
  ·exact aGJ p z hz hs h1 hpc hc ha c7
  by_cases c8:(bH p.m z).op=27
  ·exact aGK p z hz hs h1 hpc hc ha c8
  by_cases c9:(bH p.m z).op=3
  ·exact aGL p z hz hs h1 hpc hc ha c9
  by_cases c10:(bH p.m z).op=4
  ·exact aGB p z hz hs h1 hpc hc ha c10
  exact aGC p z hz hs h1 hpc hc ha (by omega)
 ·exact aGA p z hz (RF hC hz hb hg) h1
end
structure lC(u n:Nat)(c:b9):Prop where
 st:c.st=2
 up:c.up=none
 upb:c.upb=none
 fr:c.fr=[⟨u,0,0⟩]
 ok:c.sk.Ok
 ws:c.sk.ws=List.replicate n 0
theorem SR(mb:Nat)(m:ML)(u:Nat)(hu:u<m.us.length)(t:TypeId)(rv:Value)(hl:(m.us.getD u default).u.locals.length≤200):
  Fn Tryz.prog 30 #[ptr mb, .int .i64 (u:Int), .iface t rv] [md m] [aD mb (fN m) 26] (σ:=Nat×Nat×b9)
   (fun s=>lC u (m.us.getD u default).u.locals.length s.2.2) (fun s=>ptr s.1) (fun s=>[aD s.1 (qY mb (.iface t rv) (.slice (some ⟨s.2.1,0,none⟩) 1 1) s.2.2.cb 1 0 0 (.slice none 0 0) .nilFunc) 103,aD mb (fN m) 26,arr (some ⟨s.2.1,0,none⟩) 1 1 100 gH [s.2.2.cb],arr none 0 0 2 aT ([]:List Int),kO [],iQ s.2.2,gF s.2.2,aD s.2.2.sk.sb (mG s.2.2.sk) 236,arr (some ⟨s.2.2.sk.lb,0,none⟩) s.2.2.sk.l.length s.2.2.sk.l.length 2 aT s.2.2.sk.l]):=by
 refine JE [ptr mb, .int .i64 (u:Int), .iface t rv] Tryz.func30 Tryz.ntmps30 fun w S=>?_
 (refine Jn ?_)
 repeat(refine Jy ?_;try intro b)
 obtain⟨tb,rfl⟩:∃x,x=b:=⟨_,rfl⟩;apply aE.imp' (fun w hm=>hm.bY 2 aT);(apply aE.op;exact rfl;refine aA.aZ (spec:=OS tb mb m _ u hu none 0 [] hl (by simp)) (k:=?_);intro s hs;(refine Jn ?_));obtain⟨c,rfl⟩:∃x,x=s:=⟨_,rfl⟩;have hst:=hs.st
 repeat(refine Jy ?_;try intro b)
 obtain⟨ob,rfl⟩:∃x,x=b:=⟨_,rfl⟩;apply End.imp (fun w hm=>Mem.mJ (b:=ob) (e:=100) (f:=gH) (n:=1) hm (tk) [c.cb] rfl rfl (by unfold maxLen;simp));apply End.imp (fun w hm=>hm.eX);refine End.aH ((tb,ob,{c with st:=2}):Nat×Nat×b9) (he:=by rfl) (hp:=⟨rfl,hs.up,hs.upb,hs.fr,hs.ok,hs.ws.trans ?_⟩);refine mT (by simp) fun i h1 h2=>?_
 simp
end
abbrev SL.born(E:cN)(ob:Nat)(c:b9)(e:E.μ):SL E:=⟨some ⟨ob,0,none⟩,1,[c.cb],[c],0,c,1,0,0,none,0,[],e⟩
theorem ZH{E:cN}{u n:Nat}{c:b9}(h:lC u n c)(ob:Nat)(e:E.μ)(he:E.ok e):(SL.born E ob c e).Wf:=by
 have hall:(SL.born E ob c e).all=[c]:=rfl;refine⟨Nat.zero_lt_one,rfl,by simp,fun i hi=>?_,fun d hd=>?_,fun d hd j hj=>?_,fun d hd=>?_,he⟩
 ·have:i=0:=by simpa using hi
  subst this;rfl
 ·rw[hall]at hd;simp at hd;subst hd;rw[h.up,h.upb];rfl
 ·rw[hall]at hd;simp at hd;subst hd;rw[h.up]at hj;cases hj
 ·rw[hall]at hd;simp at hd;subst hd;exact h.ok
theorem ZG{E:cN}{m:ML}{u:Nat}{c:b9}(h:lC u (m.us.getD u default).u.locals.length c)(ob:Nat)(e:E.μ):(SL.born E ob c e).two=(Vm.new m.aC u,E.abs e):=by
 have hall:(SL.born E ob c e).all=[c]:=rfl;unfold SL.two SL.tk Vm.new;rw[hall];simp only[eG,qE];congr 3;unfold b9.abs Vm.begin;rw[h.st,h.up,h.fr,h.ws];have e1:(Vm.bD m.aC u).locals.length=(m.us.getD u default).u.locals.length:=by unfold Vm.bD;rw[ML.jI]
 simp only[Vm.Co.mk.injEq,xU,and_true,true_and];rw[e1];refine mT (by simp) fun i h1 h2=>?_
 simp
theorem aDQ{m:ML}{T:Nat→Int→Option Ver.Shape}{ν:Type}{K:ν→Prop}(hC:Vm.dF m.aC T){u:Nat}(hu:u<m.us.length)(hk:(m.us.getD u default).u.kind=4){s:ν}(hs:K s):Vm.Good m.aC T K (Vm.new m.aC u,s):=
 ⟨.inr (.inr ⟨show(1:Int)≤3 by decide,[0],Vm.E7 hC (by simpa using hu) (by unfold Vm.bD;rw[ML.jI];exact hk)⟩),hs⟩
theorem WD{m:ML}{k:Nat}(h:k<(Vm.tasks m.aC).length):(Vm.tasks m.aC).getD k 0<m.us.length∧(m.W1 ((Vm.tasks m.aC).getD k 0)).u.kind=4:=by
 have hm:(Vm.tasks m.aC).getD k 0∈Vm.tasks m.aC:=by
  rw[Jd,Je h];exact fB h
 generalize(Vm.tasks m.aC).getD k 0=u at *;unfold Vm.tasks at hm;rw[lP,nN,JV,ML.jI]at hm;exact⟨by simpa using hm.1,hm.2⟩
end Vw
namespace Vm
open ImgM Ver Opt
abbrev Ev:=Int×Int×Int
def rec(x:Int):Env (List Ev) where
 full _ _:=false
 empty _ _:=false
 put s _ _:=s
 take s _:=(x,s)
 tell s e:=s ++[e]
section
variable{ν:Type}(V:Env ν)(M:aG)
def gB(s:ν)(e:Ev):ν:=if e.1=2 then V.tell (V.put s e.2.1.toNat e.2.2) e else if e.1=3 then V.tell (V.take s e.2.1.toNat).2 e else V.tell s e
def loc(x:Int)(i:aY)(t:Tk):Tk×List Ev:=exec (rec x) M i (t,[])
abbrev pl(s:ν)(r:Tk×List Ev):Tk×ν:=(r.1,r.2.foldl (gB V) s)
variable(x:Int)(s:ν)
theorem T7(t:Tk)(l:List Ev)(e:Ev)(h2:e.1≠2)(h3:e.1≠3):pl V s (t,l ++[e])=(t,V.tell (l.foldl (gB V) s) e):=by
 unfold pl;simp only[vZ,List.foldl_cons,List.foldl_nil];rw[show gB V (l.foldl (gB V) s) e=V.tell (l.foldl (gB V) s) e by unfold gB;rw[if_neg h2,if_neg h3]]
theorem zZ(n:Int)(r:Tk×List Ev):dS V n (pl V s r)=pl V s (dS (rec x) n r):=by
 obtain⟨t,l⟩:=r;unfold dS
 by_cases h:t.st=5
 ·rw[if_pos (show(pl V s (t,l)).1.st=5 from h),if_pos (show(t,l).1.st=5 from h)]
 ·rw[if_neg (show¬(pl V s (t,l)).1.st=5 from h),if_neg (show¬(t,l).1.st=5 from h)];exact(T7 V s _ l (5,0,n) (by simp) (by simp)).symm
theorem n6(v:Int)(r:Tk×List Ev):push V v (pl V s r)=pl V s (push (rec x) v r):=by
 unfold push
 by_cases h:(cur r.1).ws.length=400
 ·rw[if_pos (show(cur (pl V s r).1).ws.length=400 from h),if_pos h];exact zZ V x s 4 r
 ·rw[if_neg (show¬(cur (pl V s r).1).ws.length=400 from h),if_neg h]
theorem UH:∀(n:Nat) (r:Tk×List Ev),eV V n (pl V s r)=pl V s (eV (rec x) n r)
 |0,r=>rfl
 |n+1,r=>by
  unfold eV;rw[n6 V x s 0 r];exact UH n _
theorem iM{c:Prop} [Decidable c]{a b:Tk×ν}{a' b':Tk×List Ev}(h1:a=pl V s a')(h2:b=pl V s b'):(if c then a else b)=pl V s (if c then a' else b'):=by
 split
 ·exact h1
 ·exact h2
theorem QF(i:aY)(t:Tk)(hx:i.op=27→x=(V.take s i.a.toNat).1):exec V M i (t,s)=pl V s (loc M x i t):=by
 have e0:∀t:Tk,(t,s)=pl V s (t,[]):=fun _=>rfl
 have tl:∀(t:Tk) (e:Ev),e.1≠2→e.1≠3→(t,V.tell s e)=pl V s (t,[e]):=fun t e h2 h3=>(T7 V s t [] e h2 h3).symm
 unfold loc exec;dsimp only;refine iM V s (n6 V x s _ (_,[])) ?_;refine iM V s (n6 V x s _ (_,[])) ?_;refine iM V s (n6 V x s _ (_,[])) ?_;refine iM V s rfl ?_;refine iM V s rfl ?_;refine iM V s (n6 V x s _ (_,[])) ?_;refine iM V s (n6 V x s _ (_,[])) ?_;refine iM V s (iM V s (zZ V x s _ (_,[])) (n6 V x s _ (_,[]))) ?_;refine iM V s rfl ?_;refine iM V s rfl ?_;refine iM V s rfl ?_
 by_cases h27:i.op=27
 ·rw[if_pos h27,if_pos h27];have hx:=hx h27;have e:((t,V.tell (V.take s i.a.toNat).2 (3,i.a,(V.take s i.a.toNat).1)):Tk×ν)=pl V s (t,[] ++[(3,i.a,x)]):=by
   rw[←hx];rfl
  rw[e,←hx];exact n6 V x s _ (t,[] ++[(3,i.a,x)])
 rw[if_neg h27,if_neg h27];refine iM V s (tl _ _ (by simp) (by simp)) ?_;refine iM V s ?_ ?_
 ·unfold rN;refine iM V s (zZ V x s _ (_,[])) (UH V x s _ (_,[]))
 refine iM V s ?_ ?_
 ·exact n6 V x s _ (_,[])
 refine iM V s ?_ ?_
 ·unfold qM;dsimp only
  cases(cur t).up with
  |none=>exact tl _ _ (by simp) (by simp)
  |some j=>exact n6 V x s _ (_,[])
 refine iM V s ?_ ?_
 ·unfold r0;dsimp only;refine iM V s (zZ V x s _ (_,[])) ?_;rw[tl _ _ (by simp) (by simp)];exact n6 V x s _ (_,[_])
 refine iM V s ?_ ?_
 ·unfold tI;dsimp only;refine iM V s (zZ V x s _ (_,[])) ?_;refine iM V s (zZ V x s _ (_,[])) ?_;exact iM V s rfl (n6 V x s _ (_,[]))
 refine iM V s ?_ ?_
 ·exact n6 V x s _ (_,[])
 exact iM V s (n6 V x s _ (_,[])) rfl
end
def outs(l:List Ev):List Int:=l.filterMap fun e=>if e.1=1 then some e.2.2 else none
theorem aDg(a b:List Ev):outs (a ++b)=outs a ++outs b:=List.filterMap_append ..
def A1(t:Tk)(l:List Ev)(r:Tk×List Ev):Prop:=
 (r.2=l∧r.1.st=t.st∧r.1.tr=t.tr∧r.1.out=t.out)∨(r.2=l ++[(5,0,r.1.tr)]∧r.1.st=5∧r.1.out=t.out)
section
variable{x:Int}
theorem WR(n:Int)(r:Tk×List Ev)(h:r.1.st≠5):A1 r.1 r.2 (dS (rec x) n r):=by
 unfold dS;rw[if_neg h];exact .inr ⟨rfl,rfl,rfl⟩
theorem FK(v:Int)(r:Tk×List Ev)(h:r.1.st≠5):A1 r.1 r.2 (push (rec x) v r):=by
 unfold push
 split
 ·exact WR _ r h
 ·exact .inl ⟨rfl,rfl,rfl,rfl⟩
theorem aEZ{v:Int}{r:Tk×List Ev}(h:r.1.st=5):(push (rec x) v r).2=r.2∧(push (rec x) v r).1.st=5∧(push (rec x) v r).1.tr=r.1.tr∧(push (rec x) v r).1.out=r.1.out:=by
 unfold push
 split
 ·unfold dS;rw[if_pos h];exact⟨rfl,h,rfl,rfl⟩
 ·exact⟨rfl,h,rfl,rfl⟩
theorem UM:∀(n:Nat) {r:Tk×List Ev},r.1.st=5→(eV (rec x) n r).2=r.2∧(eV (rec x) n r).1.st=5∧(eV (rec x) n r).1.tr=r.1.tr∧(eV (rec x) n r).1.out=r.1.out
 |0,r,h=>⟨rfl,h,rfl,rfl⟩
 |n+1,r,h=>by
  unfold eV;obtain⟨h1,h2,h3,h4⟩:=aEZ (x:=x) (v:=0) h;obtain⟨g1,g2,g3,g4⟩:=UM n h2;exact⟨g1.trans h1,g2,g3.trans h3,g4.trans h4⟩
theorem UI:∀(n:Nat) (r:Tk×List Ev),r.1.st≠5→A1 r.1 r.2 (eV (rec x) n r)
 |0,r,h=> .inl ⟨rfl,rfl,rfl,rfl⟩
 |n+1,r,h=>by
  unfold eV;rcases FK (x:=x) 0 r h with⟨h1,h2,h3,h4⟩|⟨h1,h2,h3⟩
  ·rcases UI n (push (rec x) 0 r) (by rw[h2];exact h)with⟨g1,g2,g3,g4⟩|⟨g1,g2,g3⟩
   ·exact .inl ⟨g1.trans h1,g2.trans h2,g3.trans h3,g4.trans h4⟩
   ·exact .inr ⟨by rw[g1,h1],g2,g3.trans h4⟩
  ·obtain⟨g1,g2,g3,g4⟩:=UM (x:=x) n h2;exact .inr ⟨by rw[g1,h1,g3],g2,g4.trans h3⟩
structure l3(i:aY)(x:Int)(t:Tk)(r:Tk×List Ev):Prop where
 ex:(∃t1 l1,A1 t1 l1 r∧t1.st=t.st∧t1.tr=t.tr∧t1.out=t.out ++outs l1∧(l1=[]∧i.op≠26∧i.op≠27∨i.op=26∧l1=[(2,i.a,last t)]∨i.op=27∧l1=[(3,i.a,x)]∨i.op=28∧l1=[(1,0,last t)]∨i.op=29∧l1=[(6,0,(i.a.toNat:Int))]))∨(i.op=25∧r.2=[(4,0,0)]∧r.1.st=4∧r.1.tr=t.tr∧r.1.out=t.out)
theorem aCR(M:aG)(x:Int)(i:aY)(t:Tk)(h5:t.st≠5):l3 i x t (loc M x i t):=by
 have nil:∀{r:Tk×List Ev} {t1:Tk},A1 t1 [] r→t1.st=t.st→t1.tr=t.tr→t1.out=t.out→i.op≠26→i.op≠27→l3 i x t r:=fun{r t1} h1 h2 h3 h4 h6 h7=>
  ⟨.inl ⟨t1,[],h1,h2,h3,by rw[h4];simp[outs], .inl ⟨rfl,h6,h7⟩⟩⟩
 have pn:∀(v:Int) (t1:Tk),t1.st=t.st→t1.tr=t.tr→t1.out=t.out→i.op≠26→i.op≠27→l3 i x t (push (rec x) v (t1,[])):=fun v t1 h2 h3 h4 h6 h7=>
  nil (FK v (t1,[]) (by show t1.st≠5;rw[h2];exact h5)) h2 h3 h4 h6 h7
 have tn:∀(n:Int) (t1:Tk),t1.st=t.st→t1.tr=t.tr→t1.out=t.out→i.op≠26→i.op≠27→l3 i x t (dS (rec x) n (t1,[])):=fun v t1 h2 h3 h4 h6 h7=>
  nil (WR v (t1,[]) (by show t1.st≠5;rw[h2];exact h5)) h2 h3 h4 h6 h7
 have sn:∀(t1:Tk),t1.st=t.st→t1.tr=t.tr→t1.out=t.out→i.op≠26→i.op≠27→l3 i x t (t1,[]):=fun t1 h2 h3 h4 h6 h7=>
  nil (.inl ⟨rfl,rfl,rfl,rfl⟩) h2 h3 h4 h6 h7
 unfold loc exec;dsimp only
 by_cases h1:i.op=1
 ·rw[if_pos h1];exact pn _ _ rfl rfl rfl (by omega) (by omega)
 rw[if_neg h1]
 by_cases h1:i.op=2
 ·rw[if_pos h1];exact pn _ _ rfl rfl rfl (by omega) (by omega)
 rw[if_neg h1]
 by_cases h1:i.op=3
 ·rw[if_pos h1];exact pn _ _ rfl rfl rfl (by omega) (by omega)
 rw[if_neg h1]
 by_cases h1:i.op=4
 ·rw[if_pos h1];exact sn _ rfl rfl rfl (by omega) (by omega)
 rw[if_neg h1]
 by_cases h1:i.op=5
 ·rw[if_pos h1];exact sn _ rfl rfl rfl (by omega) (by omega)
 rw[if_neg h1]
 by_cases h1:i.op=6
 ·rw[if_pos h1];exact pn _ _ rfl rfl rfl (by omega) (by omega)
 rw[if_neg h1]
 by_cases h1:i.op=7
 ·rw[if_pos h1];exact pn _ _ rfl rfl rfl (by omega) (by omega)
 rw[if_neg h1]
 by_cases h1:8≤i.op∧i.op≤20
 ·rw[if_pos h1]
  split
  ·exact tn _ _ rfl rfl rfl (by omega) (by omega)
  ·exact pn _ _ rfl rfl rfl (by omega) (by omega)
 rw[if_neg h1]
 by_cases h1:i.op=21
 ·rw[if_pos h1];exact sn _ rfl rfl rfl (by omega) (by omega)
 rw[if_neg h1]
 by_cases h1:i.op=22
 ·rw[if_pos h1]
  split
  ·exact sn _ rfl rfl rfl (by omega) (by omega)
  ·exact sn _ rfl rfl rfl (by omega) (by omega)
 rw[if_neg h1]
 by_cases h1:i.op=26
 ·rw[if_pos h1];exact⟨.inl ⟨drop 1 t,[(2,i.a,last t)], .inl ⟨rfl,rfl,rfl,rfl⟩,rfl,rfl,by simp[outs,drop,setCur,dM], .inr (.inl ⟨h1,rfl⟩)⟩⟩
 rw[if_neg h1]
 by_cases h1:i.op=27
 ·rw[if_pos h1];exact⟨.inl ⟨t,[(3,i.a,x)],FK x (t,[(3,i.a,x)]) h5,rfl,rfl,by simp[outs], .inr (.inr (.inl ⟨h1,rfl⟩))⟩⟩
 rw[if_neg h1]
 by_cases h1:i.op=28
 ·rw[if_pos h1];exact⟨.inl ⟨{drop 1 t with out:=(drop 1 t).out ++[last t]},[(1,0,last t)], .inl ⟨rfl,rfl,rfl,rfl⟩,rfl,rfl,by simp[outs,drop,setCur,dM], .inr (.inr (.inr (.inl ⟨h1,rfl⟩)))⟩⟩
 rw[if_neg h1]
 by_cases h1:i.op=23
 ·rw[if_pos h1];unfold rN
  split
  ·exact tn _ _ rfl rfl rfl (by omega) (by omega)
  ·refine nil (UI _ (_,[]) ?_) rfl rfl rfl (by omega) (by omega);exact h5
 rw[if_neg h1]
 by_cases h1:i.op=24
 ·rw[if_pos h1];exact pn _ _ rfl rfl rfl (by omega) (by omega)
 rw[if_neg h1]
 by_cases h1:i.op=25
 ·rw[if_pos h1];unfold qM;dsimp only
  cases(cur t).up with
  |none=>exact⟨.inr ⟨h1,rfl,rfl,rfl,rfl⟩⟩
  |some j=>exact pn _ _ rfl rfl rfl (by omega) (by omega)
 rw[if_neg h1]
 by_cases h1:i.op=29
 ·rw[if_pos h1];unfold r0;dsimp only
  split
  ·exact tn _ _ rfl rfl rfl (by omega) (by omega)
  ·exact⟨.inl ⟨{drop (bD M i.a.toNat).params.toNat t with cs:=(drop (bD M i.a.toNat).params.toNat t).cs ++[begin M i.a.toNat ((cur t).ws.drop ((cur t).ws.length-(bD M i.a.toNat).params.toNat))]},[(6,0,(i.a.toNat:Int))],FK _ (_,[(6,0,(i.a.toNat:Int))]) h5,rfl,rfl,by simp[outs,drop,setCur,dM], .inr (.inr (.inr (.inr ⟨h1,rfl⟩)))⟩⟩
 rw[if_neg h1]
 by_cases h1:i.op=30
 ·rw[if_pos h1];unfold tI;dsimp only
  split
  ·exact tn _ _ rfl rfl rfl (by omega) (by omega)
  split
  ·exact tn _ _ rfl rfl rfl (by omega) (by omega)
  split
  ·exact sn _ rfl rfl rfl (by omega) (by omega)
  ·exact pn _ _ rfl rfl rfl (by omega) (by omega)
 rw[if_neg h1]
 by_cases h1:i.op=31
 ·rw[if_pos h1];exact pn _ _ rfl rfl rfl (by omega) (by omega)
 rw[if_neg h1]
 by_cases h1':i.op=32
 ·rw[if_pos h1'];exact pn _ _ rfl rfl rfl (by omega) (by omega)
 rw[if_neg h1'];exact sn _ rfl rfl rfl (by assumption) (by assumption)
end
def E5(t:Tk):Tk:=eR ((fK (cur t)).pc+1) t
def kJ(M:aG)(x:Int)(t:Tk):Tk×List Ev:=loc M x (aV M t) (E5 t)
section
variable{ν:Type}(V:Env ν)(M:aG)
def nT(r:Tk×ν):Int:=if(aV M r.1).op=27 then(V.take r.2 (aV M r.1).a.toNat).1 else 0
theorem kT(r:Tk×ν):(look V M r).2=r.2:=by
 unfold look waits
 split
 ·split
  ·rfl
  split<;>rfl
 ·rfl
theorem R2(r:Tk×ν):∃a b,(look V M r).1={r.1 with st:=a,bx:=b}:=by
 unfold look waits
 split
 ·split
  ·exact⟨_,_,rfl⟩
  split<;>exact⟨_,_,rfl⟩
 ·exact⟨r.1.st,r.1.bx,rfl⟩
theorem aCX(r:Tk×ν):aV M (look V M r).1=aV M r.1:=by
 obtain⟨a,b,h⟩:=R2 V M r;rw[h];rfl
theorem uR(r:Tk×ν):(look V M r).1.out=r.1.out∧(look V M r).1.tr=r.1.tr:=by
 obtain⟨a,b,h⟩:=R2 V M r;rw[h];exact⟨rfl,rfl⟩
theorem BR(r:Tk×ν):look V M (look V M r)=look V M r:=by
 by_cases h:r.1.st≤3
 ·have e:∀(a b:Int),a≤3→look V M ({r.1 with st:=a,bx:=b},r.2)=look V M r:=fun a b ha=>by
   unfold look;rw[if_pos (show({r.1 with st:=a,bx:=b}:Tk).st≤3 from ha),if_pos h];rfl
  have h2:∃a b,a≤3∧look V M r=({r.1 with st:=a,bx:=b},r.2):=by
   unfold look waits;rw[if_pos h]
   split
   ·exact⟨2,_,by omega,rfl⟩
   split
   ·exact⟨3,_,by omega,rfl⟩
   ·exact⟨1,_,by omega,rfl⟩
  obtain⟨a,b,ha,hl⟩:=h2;rw[hl,e a b ha,hl]
 ·have:look V M r=r:=by unfold look;rw[if_neg h]
  rw[this,this]
theorem zQ{r:Tk×ν}(h:(look V M r).1.st≠1):step V M r=(false,look V M r):=by unfold step;exact if_pos h
theorem vB{r:Tk×ν}(h:(look V M r).1.st=1):step V M r=(true,look V M (pl V r.2 (kJ M (nT V M r) (look V M r).1))):=by
 unfold step;dsimp only;rw[if_neg (fun h'=>h' h)];unfold kJ;rw[aCX];have e:((eR ((fK (cur (look V M r).1)).pc+1) (look V M r).1,(look V M r).2):Tk×ν)=(E5 (look V M r).1,r.2):=by rw[kT];rfl
 rw[e,QF V M (nT V M r) r.2 (aV M r.1) _ (fun h=>by unfold nT;rw[if_pos h])]
def mZ(r:Tk×ν):List Ev:=if(look V M r).1.st=1 then(kJ M (nT V M r) (look V M r).1).2 else []
theorem wW{x:Int}{t:Tk}(h:t.st≠5):l3 (aV M t) x (E5 t) (kJ M x t):=aCR M x _ _ h
end
section
variable{i:aY}{x:Int}{t:Tk}{r:Tk×List Ev}
theorem TG{k a v:Int}(h:k≠1):outs [(k,a,v)]=[]:=by unfold outs;simp[h]
theorem aDi{i:aY}{x:Int}{t:Tk}{l1:List Ev}(h:l1=[]∧i.op≠26∧i.op≠27∨i.op=26∧l1=[(2,i.a,last t)]∨i.op=27∧l1=[(3,i.a,x)]∨i.op=28∧l1=[(1,0,last t)]∨i.op=29∧l1=[(6,0,(i.a.toNat:Int))]):l1.length≤1:=by
 rcases h with h|h|h|h|h
 ·rw[h.1];simp
 all_goals (rw[h.2];simp)
theorem l3.len(h:l3 i x t r):r.2.length≤2:=by
 rcases h.ex with⟨t1,l1,h1,h2,h3,h4,h5⟩|⟨-,h1, -⟩
 ·have hl:=aDi h5;rcases h1 with⟨e, -⟩|⟨e, -⟩
  ·rw[e];omega
  ·rw[e];simp;omega
 ·rw[h1];simp
theorem l3.out(h:l3 i x t r):r.1.out=t.out ++outs r.2:=by
 rcases h.ex with⟨t1,l1,h1,h2,h3,h4,h5⟩|⟨-,h1, -, -,h2⟩
 ·rcases h1 with⟨e, -, -,e2⟩|⟨e, -,e2⟩
  ·rw[e,e2,h4]
  ·rw[e,e2,h4,aDg,TG (by omega),eH]
 ·rw[h1,h2,TG (by omega),eH]
theorem aDh:∀l:List Ev,(outs l).length≤l.length:=fun l=>List.length_filterMap_le _ l
end
section
variable{ν:Type}{V:Env ν}{M:aG}{sz:ν→Nat}(tK:∀v b x,sz (V.put v b x)≤sz v+1)(rW:∀v b,sz (V.take v b).2≤sz v+1)(o4:∀v x,sz (V.tell v x)≤sz v+1)
include tK rW o4
theorem aEN(s:ν)(e:Ev):sz (gB V s e)≤sz s+2:=by
 unfold gB
 split
 ·have:=o4 (V.put s e.2.1.toNat e.2.2) e;have:=tK s e.2.1.toNat e.2.2;omega
 split
 ·have:=o4 (V.take s e.2.1.toNat).2 e;have:=rW s e.2.1.toNat;omega
 ·have:=o4 s e;omega
theorem T8:∀(l:List Ev) (s:ν),sz (l.foldl (gB V) s)≤sz s+2*l.length
 |[],s=>by simp
 |e::l,s=>by
  have h1:=T8 l (gB V s e);have h2:=aEN tK rW o4 s e;simp only[List.foldl_cons,JW];omega
theorem F4(r:Tk×ν):sz (step V M r).2.2≤sz r.2+4:=by
 by_cases h:(look V M r).1.st=1
 ·rw[vB V M h,kT];have h1:=T8 tK rW o4 (kJ M (nT V M r) (look V M r).1).2 r.2;have h2:=(wW M (x:=nT V M r) (t:=(look V M r).1) (by omega)).len;show sz (List.foldl (gB V) r.2 _)≤_;omega
 ·rw[zQ V M h,kT];omega
end
section
variable{ν:Type}{V:Env ν}{M:aG}
theorem aG0(r:Tk×ν):(step V M r).2.1.out=r.1.out ++outs (mZ V M r):=by
 unfold mZ
 by_cases h:(look V M r).1.st=1
 ·rw[if_pos h,vB V M h,(uR V M _).1];show(kJ _ _ _).1.out=_;rw[(wW M (x:=nT V M r) (t:=(look V M r).1) (by omega)).out];show(look V M r).1.out ++_=_;rw[(uR V M r).1]
 ·rw[if_neg h,zQ V M h,(uR V M r).1];simp[outs]
theorem aAn(r:Tk×ν):(mZ V M r).length≤2:=by
 unfold mZ
 split
 ·rename_i h
  exact(wW M (x:=nT V M r) (t:=(look V M r).1) (by omega)).len
 ·simp
theorem M1(r:Tk×ν):(step V M r).2.1.out.length≤r.1.out.length+2:=by
 rw[aG0,Jl];have:=aDh (mZ V M r);have:=aAn (V:=V) (M:=M) r;omega
end
structure Bs where
 ws:List (List Int)
 log:List (Nat×Ev)
def fT(M:aG)(b:Nat):Nat:=(M.boxes.getD b default).2.toNat
def bJ(M:aG)(told:Option Nat):Env Bs where
 full s b:=decide ((s.ws.getD b []).length=fT M b)
 empty s b:=decide ((s.ws.getD b []).length=0)
 put s b v:={s with ws:=s.ws.set b (s.ws.getD b [] ++[v])}
 take s b:=((s.ws.getD b []).headD 0,{s with ws:=s.ws.set b (s.ws.getD b []).tail})
 tell s e:=match told with
  |none=>s
  |some k=>{s with log:=s.log ++[(k,e)]}
structure Ma where
 ts:List Tk
 bs:Bs
 n:Nat
def Ma.init(M:aG):Ma:=⟨(tasks M).map (Vm.new M),⟨List.replicate M.boxes.length [],[]⟩,0⟩
def e7(told:Bool)(k:Nat):Option Nat:=if told then some k else none
def Ma.at_(c:Ma)(k:Nat):Tk×Bs:=(c.ts.getD k default,c.bs)
def j8{ν:Type}(V:Env ν)(M:aG)(n:Nat)(q:Int)(r:Tk×ν):(Int×Nat)×(Tk×ν):=
 if q<1∨10000<q then((5,0),r)
 else if(look V M r).1.st≠1 then((11,0),look V M r)
 else(if(goN V M (min q.toNat (20000-n)) (look V M r)).1=0 then(10,0)else(0,(goN V M (min q.toNat (20000-n)) (look V M r)).1),(goN V M (min q.toNat (20000-n)) (look V M r)).2)
def pick(M:aG)(told:Bool)(c:Ma)(p:Int×Int):(Int×Nat)×Ma:=
 if p.1<0∨(c.ts.length:Int)≤p.1 then((3,0),c)
 else
  let r:=j8 (bJ M (e7 told p.1.toNat)) M c.n p.2 (c.at_ p.1.toNat)
  (r.1,⟨c.ts.set p.1.toNat r.2.1,r.2.2,c.n+r.1.2⟩)
def fW(M:aG)(told:Bool):List (Int×Int)→Ma→List (Int×Nat)×Ma
 |[],c=>([],c)
 |p::l,c=>((pick M told c p).1::(fW M told l (pick M told c p).2).1,(fW M told l (pick M told c p).2).2)
def Ma.looked(M:aG)(c:Ma):Ma:=⟨c.ts.map fun t=>(look (bJ M none) M (t,c.bs)).1,c.bs,c.n⟩
def Ma.ready(c:Ma):List Nat:=(List.range c.ts.length).filter fun k=>decide ((c.ts.getD k default).st=1)
def lG(l:List Nat)(last:Int):Nat:=(l.find? fun k:Nat=>decide (last<(k:Int))).getD (l.headD 0)
def settle(M:aG)(q:Int):Nat→Int→Ma→Option Ma
 |0,_,c=>none
 |n+1,last,c=>
  let c:=c.looked M
  if c.ready=[]then some c
  else
   let r:=pick M false c ((lG c.ready last:Int),q)
   if r.1.1≠0 then none else settle M q n (lG c.ready last) r.2
def yO(l:List (Int×Int))(d:List (Int×Nat)):Int:=((l.zip d).filter fun x=>decide (x.2.1=0)).foldl (fun _ x=>x.1.1) (-1)
def lZ(M:aG)(n:Nat):Int:=if(verify M).err≠0 then(verify M).err else if 400<n then 5 else 0
end Vm
namespace Vw
open Go.RowKit Img
section
attribute [local irreducible] aE aB End aA Still aM aP RunT Fn aO
section
variable{E:cN}{T:Nat→Int→Option Ver.Shape}{K:E.ν→Prop}
abbrev j4(to:Option Addr)(tn tc:Nat)(bo:Option Addr)(bn bc n:Nat):List Value:=[.slice to tn tc, .slice bo bn bc, .int .i64 (n:Int)]
set_option maxHeartbeats 2000000 in
theorem aEJ(p:Pl)(xb:Nat)(to:Option Addr)(tc:Nat)(cH:List Nat)(bo:Option Addr)(bn bc n k:Nat)(q:Int)(hk:k<cH.length)(htb:cH.getD k 0=p.tb)(z:SL E)(hC:Vm.dF p.m.aC T)(hV:Vm.mP E.V p.m.aC K)(hz:z.Wf)(hb:E.boxes=p.m.bx.length)
  (hg:Vm.Good p.m.aC T K z.two) (hn:n≤20000) (ho:z.out.length≤2*n) (hsz:E.size (E.abs z.e)≤4*n) (htl:cH.length≤1000):
  Fn Tryz.prog 26 #[ptr xb, .agg #[.int .i64 (k:Int), .int .i64 q]] [md p.m,E.rc] (aD xb (j4 to cH.length tc bo bn bc n) 160::arr to cH.length tc 95 gH cH::TM p z) (σ:=SL E)
   (iN z (Vm.j8 E.V p.m.aC n q z.two).2) (fun _=> .agg #[.int .i64 (Vm.j8 E.V p.m.aC n q z.two).1.1, .int .i64 ((Vm.j8 E.V p.m.aC n q z.two).1.2:Int)])
   (fun z'=>aD xb (j4 to cH.length tc bo bn bc (n+(Vm.j8 E.V p.m.aC n q z.two).1.2)) 160::arr to cH.length tc 95 gH cH::TM p z'):=by
 obtain⟨R,hR⟩:∃R,R=Vm.j8 E.V p.m.aC n q z.two:=⟨_,rfl⟩;rw[←hR];refine JE [ptr xb, .agg #[.int .i64 (k:Int), .int .i64 q]] Tryz.func26 Tryz.ntmps26 fun w S=>?_
 (refine Jn ?_)
 repeat(refine Jy ?_;try intro b)
 obtain⟨db,rfl⟩:∃x,x=b:=⟨_,rfl⟩;obtain⟨pb,rfl⟩:∃x,x=b:=⟨_,rfl⟩
 by_cases q1:q<1
 ·have hR':R=((5,0),z.two):=by rw[hR];unfold Vm.j8;rw[if_pos (.inl q1)]
  subst hR'
  repeat(refine Jy ?_)
  (refine End.eK (z) (he:=Jv) (hp:=?_));exact⟨hz,rfl⟩
 by_cases q2:10000<q
 ·have hR':R=((5,0),z.two):=by rw[hR];unfold Vm.j8;rw[if_pos (.inr q2)]
  subst hR'
  repeat(refine Jy ?_)
  (refine End.eK (z) (he:=Jv) (hp:=?_));exact⟨hz,rfl⟩
 have hq12:¬(q<1∨10000<q):=by omega
 repeat(refine Jy ?_)
 rw[show cH.getD k default=p.tb from htb]
 repeat(refine Jy ?_)
 (refine JM (EN p z hC hz hb hg) ?_;intro s hs;(refine Jn ?_))
 by_cases h1:(z.look p.m).st=1
 ·have hR':R=(if(Vm.goN E.V p.m.aC (min q.toNat (20000-n)) (z.look p.m).two).1=0 then(10,0)else(0,(Vm.goN E.V p.m.aC (min q.toNat (20000-n)) (z.look p.m).two).1),(Vm.goN E.V p.m.aC (min q.toNat (20000-n)) (z.look p.m).two).2):=by
   rw[hR];unfold Vm.j8;rw[if_neg hq12,←hz.gQ,if_neg (fun h=>h h1)]
  repeat(refine Jy ?_)
  obtain⟨lim,hlim⟩:∃lim,lim=min q.toNat (20000-n):=⟨_,rfl⟩;rw[←hlim]at hR';obtain⟨G,hG⟩:∃G,G=Vm.goN E.V p.m.aC lim (z.look p.m).two:=⟨_,rfl⟩;rw[←hG]at hR';refine A8 (σ:=Nat×SL E) (fun s=>s.2.Wf∧G=(s.1,s.2.two)) (fun s=>[(4,ptr db),(6, .int .i64 (s.1:Int))]) (fun s=>aI w S::md p.m::E.rc::aD db [.int .i64 0, .int .i64 0] 82::aD xb (j4 to cH.length tc bo bn bc (n+s.1)) 160::arr to cH.length tc 95 gH cH::TM p s.2) ?_ ?_
  ·rintro⟨j,z'⟩ ⟨g1,g2⟩;dsimp only at g1 g2⊢;rw[g2]at hR';dsimp only at hR'
   by_cases hj:j=0
   ·subst hj;rw[if_pos rfl]at hR';subst hR'
    repeat(refine Jy ?_)
    (refine End.eK (z') (he:=Jv) (hp:=?_));exact⟨g1,rfl⟩
   ·rw[if_neg hj]at hR';subst hR'
    repeat(refine Jy ?_)
    (refine End.eK (z') (he:=Jv) (hp:=?_));exact⟨g1,rfl⟩
  intro K3 hK3;refine aB.only ((fun s=>aI w S::md p.m::E.rc::aD pb [.int .i64 (k:Int), .int .i64 q] 80::aD db [.int .i64 0, .int .i64 0] 82::aD xb (j4 to cH.length tc bo bn bc (n+s.1)) 160::arr to cH.length tc 95 gH cH::TM p s.2) (0,z.look p.m)) (aK) ?_;apply aB.loop (σ:=Nat×SL E) (fun s=>s.1≤lim∧s.2.Wf∧Vm.Good p.m.aC T K s.2.two∧s.2.out.length≤2*(n+s.1)∧E.size (E.abs s.2.e)≤4*(n+s.1)∧G=((Vm.goN E.V p.m.aC (lim-s.1) s.2.two).1+s.1,(Vm.goN E.V p.m.aC (lim-s.1) s.2.two).2)) (fun s=>[(0,ptr xb),(3,ptr pb),(4,ptr db),(5,ptr p.tb),(6, .int .i64 (s.1:Int))]) (fun s=>aI w S::md p.m::E.rc::aD pb [.int .i64 (k:Int), .int .i64 q] 80::aD db [.int .i64 0, .int .i64 0] 82::aD xb (j4 to cH.length tc bo bn bc (n+s.1)) 160::arr to cH.length tc 95 gH cH::TM p s.2) (fun s=>lim-s.1) (0,z.look p.m)
  rotate_left
  exact sb;exact aK;intro s hs K1 hK1;(refine Jn ?_)
  rotate_left
  ·exact⟨bP _,hz.look p.m,by rw[hz.gQ];exact Vm.uQ hg,ho,hsz,by rw[hG];simp⟩
  obtain⟨j,y⟩:=s;obtain⟨r1,r2,r3,r4,r5,r6⟩:=hs;dsimp only at r1 r2 r3 r4 r5 r6 hK1⊢
  by_cases hjq:(j:Int)<q
  ·by_cases hjn:n+j<20000
   ·have hjl:j<lim:=by omega
    repeat(refine Jy ?_)
    (refine JM (V5 p y hC hV r2 hb r3 (by omega) (by omega)) ?_;intro s hs;(refine Jn ?_));obtain⟨y',rfl⟩:∃x,x=s:=⟨_,rfl⟩;obtain⟨s1,s2⟩:=hs;have hmk:lim-j=(lim-(j+1))+1:=by omega
    rw[hmk]at r6;unfold Vm.goN at r6
    by_cases hbb:(Vm.step E.V p.m.aC y.two).1=true
    ·rw[hbb];rw[if_pos hbb]at r6
     repeat(refine Jy ?_)
     refine End.bK hK1 (j+1,y') ?_ ?_
     ·refine⟨by omega,s1,by rw[s2];exact Vm.F3 hC hV r3,?_,?_,?_⟩
      ·have h1:=Vm.M1 (V:=E.V) (M:=p.m.aC) y.two;have h2:y'.out=(Vm.step E.V p.m.aC y.two).2.1.out:=congrArg (fun r=>r.1.out) s2;rw[h2];have h3:y.two.1.out.length≤2*(n+j):=r4;dsimp only;omega
      ·have h1:=Vm.F4 (M:=p.m.aC) E.tK E.rW E.o4 y.two;have h2:E.abs y'.e=(Vm.step E.V p.m.aC y.two).2.2:=congrArg (fun r=>r.2) s2;rw[h2];have h3:E.size y.two.2≤4*(n+j):=r5;dsimp only;omega
      ·rw[r6,s2];refine oK ?_ rfl;dsimp only;omega
     ·dsimp only;omega
    ·have hbb:(Vm.step E.V p.m.aC y.two).1=false:=by simpa using hbb
     rw[hbb];rw[if_neg (by rw[hbb];simp)]at r6
     repeat(refine Jy ?_)
     refine End.some_ hK3 (j,y') ?_;exact⟨s1,by rw[r6,s2];exact oK (by simp) rfl⟩
   ·have hl:lim-j=0:=by omega
    repeat(refine Jy ?_)
    refine End.some_ hK3 (j,y) ?_;refine⟨r2,?_⟩;rw[r6,hl];exact oK (by simp[Vm.goN]) rfl
  ·have hl:lim-j=0:=by omega
   repeat(refine Jy ?_)
   refine End.some_ hK3 (j,y) ?_;refine⟨r2,?_⟩;rw[r6,hl];exact oK (by simp[Vm.goN]) rfl
 ·have hR':R=((11,0),(z.look p.m).two):=by
   rw[hR];unfold Vm.j8;rw[if_neg hq12,←hz.gQ,if_pos (show(z.look p.m).two.1.st≠1 from h1)]
  subst hR'
  repeat(refine Jy ?_)
  (refine End.eK ((z.look p.m)) (he:=Jv) (hp:=?_));exact⟨hz.look p.m,rfl⟩
theorem aEG(xb:Nat)(to:Option Addr)(tc tn:Nat)(bo:Option Addr)(bn bc n:Nat)(k q:Int)(hk:k<0∨(tn:Int)≤k):
  Fn Tryz.prog 26 #[ptr xb, .agg #[.int .i64 k, .int .i64 q]] [] [aD xb (j4 to tn tc bo bn bc n) 160] (σ:=Unit) (fun _=>True) (fun _=> .agg #[.int .i64 3, .int .i64 0]) (fun _=>[aD xb (j4 to tn tc bo bn bc n) 160]):=by
 refine JE [ptr xb, .agg #[.int .i64 k, .int .i64 q]] Tryz.func26 Tryz.ntmps26 fun w S=>?_
 (refine Jn ?_)
 by_cases h0:k<0
 ·repeat(refine Jy ?_;try intro b)
  (refine End.eK (()) (he:=Jv) (hp:=?_));trivial
 ·repeat(refine Jy ?_;try intro b)
  (refine End.eK (()) (he:=Jv) (hp:=?_));trivial
end
structure Ring where
 bb:Nat
 lb:Nat
 l:List Int
 first:Nat
 n:Nat
instance:Inhabited Ring:=⟨⟨0,0,[],0,0⟩⟩
structure Ring.Ok(r:Ring):Prop where
 n:r.n≤r.l.length
 first:r.first<r.l.length
 cap:r.l.length≤20
def Ring.ws(r:Ring):List Int:=(List.range r.n).map fun i=>r.l.getD ((r.first+i) % r.l.length) 0
abbrev zL(r:Ring):List Value:=[.slice (some ⟨r.lb,0,none⟩) r.l.length r.l.length, .int .i64 (r.first:Int), .int .i64 (r.n:Int)]
abbrev dB(r:Ring):List Chunk:=[aD r.bb (zL r) 232,arr (some ⟨r.lb,0,none⟩) r.l.length r.l.length 2 aT r.l]
theorem Ring.len(r:Ring):r.ws.length=r.n:=by simp[Ring.ws]
abbrev Ring.put(r:Ring)(v:Int):Ring:={r with l:=r.l.set ((r.first+r.n) % r.l.length) v,n:=r.n+1}
abbrev Ring.take(r:Ring):Ring:={r with first:=(r.first+1) % r.l.length,n:=r.n-1}
theorem mod_one{a b n:Nat}(h:a<n)(hb:b<n):(a+b) % n=if a+b<n then a+b else a+b-n:=by
 by_cases h1:a+b<n
 ·rw[if_pos h1,Nat.mod_eq_of_lt h1]
 ·rw[if_neg h1,Nat.mod_eq_sub_mod (by omega),Nat.mod_eq_of_lt (by omega)]
theorem Ring.aE0{r:Ring}(h:r.Ok)(hn:r.n<r.l.length)(v:Int):(r.put v).Ok∧(r.put v).ws=r.ws ++[v]:=by
 obtain⟨h1,h2,h3⟩:=h;refine⟨⟨by simp;omega,by simpa using h2,by simpa using h3⟩,?_⟩;have hlt:(r.first+r.n) % r.l.length<r.l.length:=Nat.mod_lt _ (by omega);unfold Ring.ws;simp only[Ji];rw[oJ,Jq];congr 1
 ·refine List.map_congr_left fun i hi=>?_
  have hi:i<r.n:=nN.1 hi;have hne:(r.first+r.n) % r.l.length≠(r.first+i) % r.l.length:=by
   rw[mod_one h2 hn,mod_one h2 (by omega)]
   split<;>split<;>omega
  simp only[Jd];rw[List.getElem?_set_ne hne]
 ·simp only[eG,qE,Jd];rw[JS hlt];rfl
theorem Ring.WB{r:Ring}(h:r.Ok)(hn:r.n≠0):r.take.Ok∧r.ws=r.l.getD r.first 0::r.take.ws:=by
 obtain⟨h1,h2,h3⟩:=h;refine⟨⟨by simp only;omega,Nat.mod_lt _ (by omega),h3⟩,?_⟩;obtain⟨m,hm⟩:∃m,r.n=m+1:=⟨r.n-1,by omega⟩;unfold Ring.ws;simp only[hm,Nat.add_sub_cancel];rw[List.range_succ_eq_map,eG,uC];congr 1
 ·rw[Nat.add_zero,Nat.mod_eq_of_lt h2]
 ·refine List.map_congr_left fun i hi=>?_
  have hi:i<m:=nN.1 hi;simp only[Function.comp_apply,Nat.succ_eq_add_one];congr 1;rw[Nat.mod_add_mod];congr 1;omega
theorem Ring.head{r:Ring}(h:r.Ok)(hn:r.n≠0):r.ws.headD 0=r.l.getD r.first 0∧r.ws.tail=r.take.ws:=by rw[(Ring.WB h hn).2];exact⟨rfl,rfl⟩
theorem aBV(r:Ring):Fn Tryz.prog 243 #[ptr r.bb] [] (dB r) (σ:=Unit) (fun _=>True) (fun _=> .bool (decide (r.n=r.l.length))) (fun _=>dB r):=by
 refine JE [ptr r.bb] Tryz.func243 Tryz.ntmps243 fun w S=>?_
 (refine Jn ?_)
 repeat(refine Jy ?_)
 (refine End.aH (()) (he:=by exact iP (decide_eq_decide.2 (by omega))) (hp:=?_));trivial
theorem aAd(r:Ring):Fn Tryz.prog 242 #[ptr r.bb] [] (dB r) (σ:=Unit) (fun _=>True) (fun _=> .bool (decide (r.n=0))) (fun _=>dB r):=by
 refine JE [ptr r.bb] Tryz.func242 Tryz.ntmps242 fun w S=>?_
 (refine Jn ?_)
 repeat(refine Jy ?_)
 (refine End.aH (()) (he:=by exact iP (decide_eq_decide.2 (by omega))) (hp:=?_));trivial
theorem aE1(r:Ring)(h:r.Ok)(hn:r.n<r.l.length)(v:Int):Fn Tryz.prog 244 #[ptr r.bb, .int .i64 v] [] (dB r) (σ:=Unit) (fun _=>True) (fun _=> .tuple #[]) (fun _=>dB (r.put v)):=by
 obtain⟨h1,h2,h3⟩:=h;have hlt:(r.first+r.n) % r.l.length<r.l.length:=Nat.mod_lt _ (by omega);have hm:((r.first:Int)+(r.n:Int)).tmod (r.l.length:Int)=(((r.first+r.n) % r.l.length:Nat):Int):=by
  rw[←Int.natCast_add,Int.ofNat_tmod]
 refine JE [ptr r.bb, .int .i64 v] Tryz.func244 Tryz.ntmps244 fun w S=>?_
 (refine Jn ?_)
 repeat(refine Jy ?_)
 refine aP.b8 (h:=by exact Still.rem rfl rfl (by omega) hm) (k:=?_)
 repeat(refine Jy ?_)
 (apply aE.op;exact rfl;refine aA.iG (f:=aT) (l:=r.l) (i:=(r.first+r.n) % r.l.length) (off:=0) (vs:=[.int .i64 v]) (a':=v) (k:=?_))
 repeat(refine Jy ?_)
 have hle:(r.l.set ((r.first+r.n) % r.l.length) v).length=r.l.length:=Ji;refine End.cY () (ht:=by(simp only[dB,zL,Ring.put,hle];exact aK)) (hp:=trivial)
theorem aGe(r:Ring)(h:r.Ok)(hn:r.n≠0):Fn Tryz.prog 245 #[ptr r.bb] [] (dB r) (σ:=Unit) (fun _=>True) (fun _=> .int .i64 (r.l.getD r.first 0)) (fun _=>dB r.take):=by
 obtain⟨h1,h2,h3⟩:=h;refine JE [ptr r.bb] Tryz.func245 Tryz.ntmps245 fun w S=>?_
 (refine Jn ?_);have hm:((r.first:Int)+1).tmod (r.l.length:Int)=(((r.first+1) % r.l.length:Nat):Int):=by
  rw[show(r.first:Int)+1=((r.first+1:Nat):Int) by omega,Int.ofNat_tmod]
 repeat(refine Jy ?_)
 refine aP.b8 (h:=by exact Still.rem rfl rfl (by omega) hm) (k:=?_)
 repeat(refine Jy ?_)
 have hn1:(r.n:Int)-1=((r.n-1:Nat):Int):=by omega
 rw[hn1];(refine End.aH (()) (he:=Jv) (hp:=?_));trivial
end
end Vw
end Go.Proofs.YtofckcabpchcmaaGreatDoor
