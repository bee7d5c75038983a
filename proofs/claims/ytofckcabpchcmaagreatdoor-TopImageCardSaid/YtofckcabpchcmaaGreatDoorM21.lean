/- What has to do with other units, walked. -/
import Derived.Test.YtofckcabpchcmaaGreatDoorM20
set_option linter.unusedVariables false
set_option linter.unusedSimpArgs false
set_option linter.unusedSectionVars false
set_option maxRecDepth 100000
namespace Go.Proofs.YtofckcabpchcmaaGreatDoor
namespace Vw
open Go.RowKit Img
section
attribute [local irreducible] aE aG End aB Still aN aU RunT Fn aS
section
variable{E:dK}
structure ZX(m:ML)(z:SL E)(i:ImgM.aT):Prop where
 a0:0≤i.a
 lt:i.a.toNat<m.us.length
 p0:0≤(m.us.getD i.a.toNat default).u.params
 pl:(m.us.getD i.a.toNat default).u.params.toNat≤z.cur.sk.live
 pL:(m.us.getD i.a.toNat default).u.params.toNat≤(m.us.getD i.a.toNat default).u.locals.length
 eL:(m.us.getD i.a.toNat default).u.locals.length≤200
 fr:z.cur.fr.length≤40
abbrev SL.top(z:SL E)(n:Nat):Int:=z.cur.sk.ws.getD (z.cur.sk.live-n) 0
structure wS(m:ML)(z:SL E)(i:ImgM.aT):Prop where
 call:i.op=23∨i.op=29→ZX m z i
 ret:i.op=24→0<z.cur.sk.live∧z.cur.fr≠[]∧z.cur.fr.length≤40∧z.f.base≤z.cur.sk.live-1
 fin:i.op=25→∀j,z.cur.up=some j→z.now≠j
 res:i.op=30→2≤z.cur.sk.live∧0≤z.top 2∧(z.top 2).toNat<z.oth.length∧z.cur.st=2∧((z.oth.getD (z.top 2).toNat default).st≤3∨(z.top 2).toNat=z.now)
 yld:i.op=31→0<z.cur.sk.live∧∃j,z.cur.up=some j∧z.now≠j
 size:E.size (E.abs z.e)≤1000000
 alv:i.op=32→0<z.cur.sk.live∧0≤z.top 1∧(z.top 1).toNat<z.oth.length
set_option maxHeartbeats 1000000 in
theorem aHq(p:Pl)(z:SL E)(hz:z.Wf)(i:ImgM.aT)(hi:wS p.m z i)(h1:i.op=23∨i.op=24∨i.op=25):
  Fn Tryz.prog 67 #[ptr p.tb,lP i] [md p.m,E.rc] (TM p z) (σ:=SL E) (jL z (Vm.exec E.V p.m.aC i z.two)) (fun _=> .tuple #[]) (fun z'=>TM p z'):=by
 have he:E.iY z.e:=⟨hz.env,by have:=hi.size;omega⟩;refine JE [ptr p.tb,lP i] Tryz.func67 Tryz.ntmps67 fun w S=>?_;refine Jn ?_;rcases h1 with h1|h1|h1
 ·obtain⟨c1,c2,c3,c4,c5,c6,c7⟩:=hi.call (.inl h1);have hc:=aA1 p z hz hi.size i.a.toNat c2 c3 c4 c5 c6 c7;rw[oJ c1]at hc
  repeat(refine Jy ?_;try intro b)
  (refine kD (hc) fun s hs=>?_);(refine End.dL (s) (hp:=?_));refine⟨hs.wf,hs.two.trans ?_⟩;unfold Vm.exec;simp[h1]
 ·obtain⟨c1,c2,c3,c4⟩:=hi.ret h1;have hl:0<z.cur.fr.length:=JP.2 c2;have w1:IntKind.i64.wrap ((z.cur.fr.length:Int)-1)=((z.cur.fr.length-1:Nat):Int):=by rw[dX aA];omega
  repeat(refine Jy ?_;try intro b)
  (refine dV (n9 (z.F p) z.st z.tr (z.cur.st:Int) (e8 z.cur.upb) (.slice z.cur.fo z.cur.fr.length z.cur.fc) E.kE (j6 E.told) z.cur.sk hz.dR c1) fun s hs=>?_);obtain⟨k1,rfl⟩:=a7 s;have ht:=hs;have hlv:k1.live=z.cur.sk.live-1:=by have h:=ht.live;have h2:=Sk.len hz.dR;rw[jM]at h;omega
  have w3:IntKind.i64.wrap ((k1.live:Int)-(z.f.base:Int))=((k1.live-z.f.base:Nat):Int):=by have:=ht.ok.live;have:=ht.ok.hi;rw[dX aA];omega
  refine aD ?_;refine b8 13 [cc z.cur.cb (z.cur.st:Int) (e8 z.cur.upb) (.slice z.cur.fo z.cur.fr.length z.cur.fc) k1.sb,gO z.cur] 14 ?_;refine bR [0,1,2,3,4,5,6,7,8,9,10,11] ?_;refine iF 12 fun b=>?_;refine gWl [13] ?_;refine b6 ?_;obtain⟨fb,rfl⟩:=a7 b;refine aD ?_;refine b8 14 [cc z.cur.cb (z.cur.st:Int) (e8 z.cur.upb) (.slice z.cur.fo z.cur.fr.length z.cur.fc) k1.sb] 15 ?_;refine bR [0,1,2,3,4,5,6,7,8,9,10] ?_;(refine JT 11 ?_;(refine Ja ?_;intro ao cap);refine JG ?_);refine bR [12,13] ?_;refine gWl [14] ?_;refine b6 ?_;refine aD ?_;refine b8 12 [cc z.cur.cb (z.cur.st:Int) (e8 z.cur.upb) (.slice ao (z.cur.fr.length-1) cap) k1.sb,aF fb (dH z.f) 171] 13 ?_;refine bR [0,1,2,3,4,5,6,7,9,10] ?_;refine lN 8 (FX k1) fun s hs=>?_;refine JR 11 ?_;refine lN 12 (MS k1 ht.ok (k1.live-z.f.base) aA) fun s hs=>?_;refine b6 ?_;obtain⟨k2,rfl⟩:=a7 s;have ht2:=hs;have ht3:pG z.cur.sk k2 ((z.cur.sk.ws.take (z.cur.sk.live-1)).take z.f.base):=⟨ht2.ok,ht2.sb.trans ht.sb,by rw[ht2.ws,ht.ws];congr 1;omega,by have h:=ht2.live;rw[ht.ws]at h;rw[h];congr 2;omega⟩;have hsb:k1.sb=k2.sb:=ht2.sb.symm;rw[hsb];refine aD ?_;have hw2:({z with cur:={z.cur with fo:=ao,fc:=cap,fr:=z.cur.fr.take (z.cur.fr.length-1),sk:=k2}}:SL E).Wf:=hz.setCur rfl rfl rfl ht3.ok;(refine Jc ?_;refine aB.bA (spec:=mK E (z.F p) z.st z.tr z.e he (z.cur.st:Int) (e8 z.cur.upb) (.slice ao (z.cur.fr.length-1) cap) k2 ht3.ok (z.top 1)) (r:=fun w=>Reads.any (tk) E.eC .nil) (k:=?_);intro s hs;refine Jn ?_);obtain⟨t1,t2⟩:=mL hw2 hs
  refine aD ?_;(refine End.dL ((SL.put {z with cur:={z.cur with fo:=ao,fc:=cap,fr:=z.cur.fr.take (z.cur.fr.length-1),sk:=k2}} s)) (ht:=Jx) (hp:=?_));refine⟨t1,t2.trans ?_⟩;have e0:Vm.exec E.V p.m.aC i z.two=Vm.ret E.V z.two:=by unfold Vm.exec;simp[h1]
  rw[e0];have e3:cN.abs {z.cur with fo:=ao,fc:=cap,fr:=z.cur.fr.take (z.cur.fr.length-1),sk:=k2}=({z.cur.abs with fr:=z.cur.abs.fr.take (z.cur.abs.fr.length-1),ws:=(z.cur.abs.ws.take (z.cur.abs.ws.length-1)).take (Vm.gY z.cur.abs).base}:Vm.Co):=by
   show(⟨z.cur.st,z.cur.up,_,k2.ws⟩:Vm.Co)=⟨_,_,_,(z.cur.sk.ws.take (z.cur.sk.ws.length-1)).take z.f.base⟩;rw[ht3.ws,show z.cur.sk.ws.length=z.cur.sk.live from Sk.len hz.dR];rfl
  unfold Vm.ret;show Vm.push E.V (z.top 1) (SL.tk _,E.abs z.e)=Vm.push E.V (Vm.last z.tk) (Vm.setCur z.tk {Vm.cur z.tk with fr:=(Vm.cur z.tk).fr.take ((Vm.cur z.tk).fr.length-1),ws:=((Vm.cur z.tk).ws.take ((Vm.cur z.tk).ws.length-1)).take (Vm.gY (Vm.cur z.tk)).base},E.abs z.e);rw[hz.last,SL.uQ,hz.cur,e3]
 ·have hc:=aBY p z hz hi.size (hi.fin h1)
  repeat(refine Jy ?_;try intro b)
  (refine Jc ?_;refine aB.bA (spec:=hc) (r:=fun w=>Reads.any (tk) E.eC .nil) (k:=?_);intro s hs;refine Jn ?_);refine aD ?_;(refine End.dL (s) (hp:=?_));refine⟨hs.wf,hs.two.trans ?_⟩;unfold Vm.exec;simp[h1]
end
section
variable{E:dK}
set_option maxHeartbeats 1000000 in
theorem aHr(p:Pl)(z:SL E)(hz:z.Wf)(i:ImgM.aT)(hi:wS p.m z i)(h1:i.op=31):
  Fn Tryz.prog 67 #[ptr p.tb,lP i] [md p.m,E.rc] (TM p z) (σ:=SL E) (jL z (Vm.exec E.V p.m.aC i z.two)) (fun _=> .tuple #[]) (fun z'=>TM p z'):=by
 have he:E.iY z.e:=⟨hz.env,by have:=hi.size;omega⟩;have e0:Vm.exec E.V p.m.aC i z.two=Vm.D1 E.V z.two:=by unfold Vm.exec;simp[h1]
 rw[e0];obtain⟨c1,j,hup,hne⟩:=hi.yld h1;have hub:=hz.up _ hz.tM;rw[hup]at hub;have hlt:=hz.mN _ hz.tM j hup;have hcc:jP z.cur=cc z.cur.cb (z.cur.st:Int) (ptr (z.bs.getD j 0)) (.slice z.cur.fo z.cur.fr.length z.cur.fc) z.cur.sk.sb:=by unfold jP;rw[hub];rfl
 refine JE [ptr p.tb,lP i] Tryz.func67 Tryz.ntmps67 fun w S=>?_;refine Jn ?_;unfold TM;rw[hcc]
 repeat(refine Jy ?_;try intro b)
 (refine dV (n9 (z.F p) z.st z.tr (z.cur.st:Int) (ptr (z.bs.getD j 0)) (.slice z.cur.fo z.cur.fr.length z.cur.fc) E.kE (j6 E.told) z.cur.sk hz.dR c1) fun s hs=>?_);obtain⟨k1,rfl⟩:=a7 s;have ht:=hs;refine aD ?_;rw[hz.EK hlt hne];apply aE.imp' (fun w hm=>Mem.G3 {z.cur with st:=1,up:=none,upb:=none,sk:=k1} hm (tk) (cA) hz.now hlt hne);have hd:=hz.ME hlt hne;have hw1:(z.go {z.cur with st:=1,up:=none,upb:=none,sk:=k1} j (z.oth.getD j default)).Wf:=hz.go hlt hne ⟨rfl,ht.ok,rfl,fun i h=>by simp at h⟩ ⟨rfl,hz.sk _ hd,hz.up _ hd,hz.mN _ hd⟩;(refine Jc ?_;refine aB.bA (spec:=mK E (SL.F p (z.go {z.cur with st:=1,up:=none,upb:=none,sk:=k1} j (z.oth.getD j default))) z.st z.tr z.e he ((z.oth.getD j default).st:Int) (e8 (z.oth.getD j default).upb) (.slice (z.oth.getD j default).fo (z.oth.getD j default).fr.length (z.oth.getD j default).fc) (z.oth.getD j default).sk (hz.sk _ hd) (z.top 1)) (r:=fun w=>Reads.any (tk) E.eC .nil) (k:=?_);intro s hs;refine Jn ?_);obtain⟨t1,t2⟩:=mL hw1 hs;refine aD ?_;(refine End.dL (((z.go {z.cur with st:=1,up:=none,upb:=none,sk:=k1} j (z.oth.getD j default)).put s)) (hp:=?_));refine⟨t1,t2.trans ?_⟩;obtain⟨p1,p2⟩:=nK hz ht;unfold Vm.D1;have e4:Vm.cur (Vm.drop 1 z.tk)=({z.cur with sk:=k1}:cN).abs:=by rw[←p2];exact p1.cur
 show Vm.push E.V (z.top 1) (SL.tk _,E.abs z.e)=Vm.push E.V (Vm.last z.tk) ({Vm.setCur (Vm.drop 1 z.tk) {Vm.cur (Vm.drop 1 z.tk)with st:=1,up:=none}with now:=(Vm.cur (Vm.drop 1 z.tk)).up.getD 0},E.abs z.e);rw[hz.last,SL.SW z _ hlt hne,e4,←p2,show(z.sk k1).tk=Vm.setCur z.tk (cN.abs {z.cur with sk:=k1})from SL.uQ z _,Vm.set_set,show(cN.abs {z.cur with sk:=k1}).up=some j from hup];rfl
set_option maxHeartbeats 1000000 in
theorem aHs(p:Pl)(z:SL E)(hz:z.Wf)(i:ImgM.aT)(hi:wS p.m z i)(h1:i.op=30):
  Fn Tryz.prog 67 #[ptr p.tb,lP i] [md p.m,E.rc] (TM p z) (σ:=SL E) (jL z (Vm.exec E.V p.m.aC i z.two)) (fun _=> .tuple #[]) (fun z'=>TM p z'):=by
 have he:E.iY z.e:=⟨hz.env,by have:=hi.size;omega⟩;have e0:Vm.exec E.V p.m.aC i z.two=Vm.yC E.V z.two:=by unfold Vm.exec;simp[h1]
 rw[e0];obtain⟨c1,c2,c3,c4,c5⟩:=hi.res h1;obtain⟨q,hq⟩:=JI c2;rw[hq]at c3 c5;simp only[Jj,Int.ofNat_eq_natCast]at c3 c5 hq;refine JE [ptr p.tb,lP i] Tryz.func67 Tryz.ntmps67 fun w S=>?_;refine Jn ?_
 repeat(refine Jy ?_;try intro b)
 refine b8 11 [jV p z,B9 z] 12 ?_;refine bR [0,6,2,3,4,5] ?_;refine lN 1 (n9 (z.F p) z.st z.tr (z.cur.st:Int) (e8 z.cur.upb) (.slice z.cur.fo z.cur.fr.length z.cur.fc) E.kE (j6 E.told) z.cur.sk hz.dR aA) fun s hs=>?_;obtain⟨k1,rfl⟩:=a7 s;have ht:=hs;have hlv:k1.live=z.cur.sk.live-1:=by have h:=ht.live;have h2:=Sk.len hz.dR;rw[jM]at h;omega
 refine lN 7 (n9 (z.F p) z.st z.tr (z.cur.st:Int) (e8 z.cur.upb) (.slice z.cur.fo z.cur.fr.length z.cur.fc) E.kE (j6 E.told) k1 ht.ok aA) fun s hs=>?_;obtain⟨k2,rfl⟩:=a7 s;have ht2:=hs;have hv2:k1.ws.getD (k1.live-1) 0=(q:Int):=by
  rw[←hq,ht.ws,hlv];show(z.cur.sk.ws.take (z.cur.sk.live-1)).getD (z.cur.sk.live-1-1) 0=z.cur.sk.ws.getD (z.cur.sk.live-2) 0;rw[Jd,Jd,BW,if_pos aA,Nat.sub_sub]
 rw[hv2];have hqb:q<z.bs.length:=by rw[hz.len];exact c3
 refine bR [8,9,10] ?_;refine RunT.uD 11 (h:=aB.bP (k:=And.intro xU ?_));refine b6 ?_;obtain⟨p1,p2⟩:=nK hz ht;obtain⟨p3,p4⟩:=nK p1 ht2;have hr:=aFN p (z.sk k2) p3 hi.size q c3 (z.top 1) c4 c5;refine aD ?_;(refine Jc ?_;refine aB.bA (spec:=hr) (r:=fun w=>Reads.any (tk) E.eC .nil) (k:=?_);intro s hs;refine Jn ?_);refine aD ?_;(refine End.dL (s) (hp:=?_));refine⟨hs.wf,hs.two.trans ?_⟩;rw[aFM];show sT E.V q (z.top 1) ((z.sk k2).tk,E.abs z.e)=sT E.V (Vm.last (Vm.drop 1 z.tk)).toNat (Vm.last z.tk) (Vm.drop 1 (Vm.drop 1 z.tk),E.abs z.e);rw[←p2,hz.last,p1.last,←p4];show _=sT E.V (k1.ws.getD (k1.live-1) 0).toNat _ _;rw[hv2];rfl
end
section
variable{E:dK}
theorem US{s t:List cN}{d:cN}:((s ++d::t).flatMap iM).Perm (iM d ++(s ++t).flatMap iM):=by
 have:=(xB (a:=d) (l₁:=s) (l₂:=t)).flatMap_right iM;simpa only[qE]using this
theorem Mem.out{w:World}{L L':List Chunk}{l s t:List cN}{d:cN}(h:Mem w L)(tk:Take (lL l) L L')(e:l=s ++d::t):Mem w (jP d::gO d::aF d.sk.sb (nN d.sk) 236::arr (some ⟨d.sk.lb,0,none⟩) d.sk.l.length d.sk.l.length 2 aY d.sk.l::lL (s ++t)::L'):=by
 subst e;exact Mem.pH (ds:=iM d) (es:=(s ++t).flatMap iM) h tk US
theorem Mem.S1{w:World}{L L' F:List Chunk}{l s t:List cN}{d:cN}(h:Mem w L)(tk:Take (lL (s ++t)) L L')(t2:aR (iM d) L' F)(e:l=s ++d::t):Mem w (lL l::F):=by
 subst e;exact Mem.nC (es:=(s ++t).flatMap iM) (ds:=iM d) h tk t2 US (QY d)
theorem SL.Wf.aCV{z:SL E}(hz:z.Wf){q:Nat}(hq:q<z.oth.length)(hne:z.now≠q):∃s t,z.oth.eraseIdx z.now=s ++z.oth.getD q default::t:=by
 refine List.append_of_mem ?_;rw[List.mem_eraseIdx_iff_getElem?];refine⟨q,fun e=>hne e.symm,?_⟩;rw[Je hq,Jd,Je hq];rfl
set_option maxHeartbeats 1000000 in
theorem aHt(p:Pl)(z:SL E)(hz:z.Wf)(i:ImgM.aT)(hi:wS p.m z i)(h1:i.op=32):
  Fn Tryz.prog 67 #[ptr p.tb,lP i] [md p.m,E.rc] (TM p z) (σ:=SL E) (jL z (Vm.exec E.V p.m.aC i z.two)) (fun _=> .tuple #[]) (fun z'=>TM p z'):=by
 have he:E.iY z.e:=⟨hz.env,by have:=hi.size;omega⟩;have e0:Vm.exec E.V p.m.aC i z.two=Vm.zH E.V z.two:=by unfold Vm.exec;simp[h1]
 rw[e0];obtain⟨c1,c2,c3⟩:=hi.alv h1;obtain⟨q,hq⟩:=JI c2;rw[hq]at c3;simp only[Jj,Int.ofNat_eq_natCast]at c3 hq;have hqb:q<z.bs.length:=by rw[hz.len];exact c3
 have hq':z.cur.sk.ws.getD (z.cur.sk.live-1) 0=(q:Int):=hq;have hend:∀(k1:Sk),pG z.cur.sk k1 (z.cur.sk.ws.take (z.cur.sk.live-1))→Vm.zH E.V z.two=Vm.push E.V (Opt.yes (!decide ((z.all.getD q default).st=3))) (z.sk k1).two:=fun k1 ht=>by
  obtain⟨p1,p2⟩:=nK hz ht;unfold Vm.zH;show Vm.push E.V (Opt.yes (!decide (((Vm.drop 1 z.tk).cs.getD (Vm.last z.tk).toNat default).st=3))) (Vm.drop 1 z.tk,E.abs z.e)=_;rw[←p2,hz.last,hq',Jj,p1.IS c3];have e5:((z.sk k1).all.getD q default).abs.st=(z.all.getD q default).st:=by
   by_cases hqn:z.now=q
   ·subst hqn;rw[hz.xM,p1.xM];rfl
   ·rw[hz.oth hqn,p1.oth hqn];rfl
  rw[e5];rfl
 refine JE [ptr p.tb,lP i] Tryz.func67 Tryz.ntmps67 fun w S=>?_;refine Jn ?_
 repeat(refine Jy ?_;try intro b)
 by_cases hqn:z.now=q
 ·refine b8 14 [jV p z,B9 z] 15 ?_;refine bR [0,1,2,3,4,5] ?_;refine lN 6 (n9 (z.F p) z.st z.tr (z.cur.st:Int) (e8 z.cur.upb) (.slice z.cur.fo z.cur.fr.length z.cur.fc) E.kE (j6 E.told) z.cur.sk hz.dR c1) fun s hs=>?_;obtain⟨k1,rfl⟩:=a7 s;have ht:=hs;rw[hq'];refine gWl [7,8] ?_;have hcb:z.bs.getD q default=z.cur.cb:=by rw[hz.IT,hqn];rfl
  rw[hcb];refine gWl [9,10,11,12] ?_;(refine JT 13 ?_;refine aB.bA (spec:=N3 _) (k:=?_);intro s hs;refine JG ?_;refine Jn ?_);rw[show decide ((z.cur.st:Int)=3)=decide (z.cur.st=3)from decide_eq_decide.2 aA];(refine JT 14 ?_;refine aB.bA (spec:=mK E (z.F p) z.st z.tr z.e he (z.cur.st:Int) (e8 z.cur.upb) (.slice z.cur.fo z.cur.fr.length z.cur.fc) k1 ht.ok (Opt.yes (!decide (z.cur.st=3)))) (r:=fun w=>Reads.any (tk) E.eC .nil) (k:=?_);intro s hs;refine JG ?_;refine Jn ?_);refine b6 ?_;obtain⟨p1,p2⟩:=nK hz ht;obtain⟨t1,t2⟩:=mL p1 hs;refine aD ?_;(refine End.dL (((z.sk k1).put s)) (hp:=?_));refine⟨t1,t2.trans ?_⟩;rw[hend k1 ht,←hqn,hz.xM]
 ·obtain⟨ls,lt,hb⟩:=hz.aCV c3 hqn;apply aG.imp (fun w hm=>Mem.out hm (tk) hb);obtain⟨d,hd⟩:∃d,d=z.oth.getD q default:=⟨_,rfl⟩;have hcb:z.bs.getD q default=d.cb:=by rw[hd];exact hz.EK c3 hqn
  rw[←hd]at hb⊢;refine b8 14 [jV p z,B9 z] 15 ?_;refine bR [0,1,2,3,4,5] ?_;refine lN 6 (n9 (z.F p) z.st z.tr (z.cur.st:Int) (e8 z.cur.upb) (.slice z.cur.fo z.cur.fr.length z.cur.fc) E.kE (j6 E.told) z.cur.sk hz.dR c1) fun s hs=>?_;obtain⟨k1,rfl⟩:=a7 s;have ht:=hs;rw[hq'];refine gWl [7,8] ?_;rw[hcb];refine gWl [9,10,11,12] ?_;(refine JT 13 ?_;refine aB.bA (spec:=N3 _) (k:=?_);intro s hs;refine JG ?_;refine Jn ?_);rw[show decide ((d.st:Int)=3)=decide (d.st=3)from decide_eq_decide.2 aA];(refine JT 14 ?_;refine aB.bA (spec:=mK E (z.F p) z.st z.tr z.e he (z.cur.st:Int) (e8 z.cur.upb) (.slice z.cur.fo z.cur.fr.length z.cur.fc) k1 ht.ok (Opt.yes (!decide (d.st=3)))) (r:=fun w=>Reads.any (tk) E.eC .nil) (k:=?_);intro s hs;refine JG ?_;refine Jn ?_);refine b6 ?_;obtain⟨p1,p2⟩:=nK hz ht;obtain⟨t1,t2⟩:=mL p1 hs;refine aD ?_;apply End.imp (fun w hm=>Mem.S1 hm (tk) (cA) hb);(refine End.dL (((z.sk k1).put s)) (hp:=?_));refine⟨t1,t2.trans ?_⟩;rw[hend k1 ht,hz.oth hqn,hd]
end
section
variable{E:dK}
abbrev SL.more(z:SL E)(ao:Option Addr)(cap:Nat)(c:cN)(e:E.μ):SL E:={z with co:=ao,ccap:=cap,bs:=z.bs ++[c.cb],oth:=z.oth ++[c],e:=e}
theorem SL.TZ{z:SL E}(hz:z.Wf)(ao:Option Addr)(cap:Nat)(c:cN)(e:E.μ):(z.more ao cap c e).all=z.all ++[c]:=by
 unfold SL.all;exact List.set_append_left _ _ hz.now
theorem KR{α:Type}{l l':List α}{k:Nat}{d:α}(h:k<l.length):(l ++l').getD k d=l.getD k d:=by
 rw[Jd,Jd,tD h]
theorem SL.Wf.more{z:SL E}(hz:z.Wf){ao:Option Addr}{cap:Nat}{c:cN}{e:E.μ}(h30:z.oth.length≤30)(he:E.ok e)(h1:c.up=none)(h2:c.upb=none)(h3:c.sk.Ok):(z.more ao cap c e).Wf:=by
 have hall:=SL.TZ hz ao cap c e;have hlen:=z.vA;refine⟨by simp only[Jl];have:=hz.now;omega,by simp only[Jl,JW,kZ];rw[hz.len],by simp only[Jl,JW,kZ];omega,fun i hi=>?_,fun x hx=>?_,fun x hx j hj=>?_,fun x hx=>?_,he⟩
 ·simp only[Jl,JW,kZ]at hi;rw[hall];show _=(z.bs ++[c.cb]).getD i 0
  by_cases hlt:i<z.oth.length
  ·rw[KR aA,KR (by rw[hz.len];exact hlt)];exact hz.at_ i hlt
  ·obtain rfl:i=z.oth.length:=aA;rw[Jd,Jd,rD aA,rD (by rw[hz.len];omega),hlen,hz.len];simp
 ·rw[hall]at hx;rcases dF.1 hx with hx|hx
  ·rw[hz.up x hx]
   cases hu:x.up with
   |none=>rfl
   |some j=>
    have:=hz.mN x hx j hu;show some _=some ((z.bs ++[c.cb]).getD j 0);rw[KR (by rw[hz.len];exact this)]
  ·obtain rfl:=dY.1 hx;rw[h1,h2];rfl
 ·rw[hall]at hx;show j<(z.oth ++[c]).length;rw[Jl];rcases dF.1 hx with hx|hx
  ·have:=hz.mN x hx j hj;omega
  ·obtain rfl:=dY.1 hx;rw[h1]at hj;cases hj
 ·rw[hall]at hx;rcases dF.1 hx with hx|hx
  ·exact hz.sk x hx
  ·obtain rfl:=dY.1 hx;exact h3
theorem Mem.Z3{w:World}{L L' F:List Chunk}{l:List cN}{k:Nat}{d:cN}(h:Mem w L)(tk:Take (lL (l.eraseIdx k)) L L')(t2:aR (iM d) L' F)(hk:k<l.length):Mem w (lL ((l ++[d]).eraseIdx k)::F):=by
 rw[List.eraseIdx_append_of_lt_length hk];exact Mem.S1 (s:=l.eraseIdx k) (t:=[]) (d:=d) h (by rw[eS];exact tk) t2 rfl
set_option maxHeartbeats 1000000 in
theorem aHu(p:Pl)(z:SL E)(hz:z.Wf)(i:ImgM.aT)(hi:wS p.m z i)(h1:i.op=29):
  Fn Tryz.prog 67 #[ptr p.tb,lP i] [md p.m,E.rc] (TM p z) (σ:=SL E) (jL z (Vm.exec E.V p.m.aC i z.two)) (fun _=> .tuple #[]) (fun z'=>TM p z'):=by
 have he:E.iY z.e:=⟨hz.env,by have:=hi.size;omega⟩;have e0:Vm.exec E.V p.m.aC i z.two=Vm.vZ E.V p.m.aC i.a.toNat z.two:=by unfold Vm.exec;simp[h1]
 rw[e0];obtain⟨c1,c2,c3,c4,c5,c6,c7⟩:=hi.call (.inr h1);obtain⟨u,hiu⟩:=JI c1;have hiu:i.a=(u:Int):=hiu;have hu':i.a.toNat=u:=by rw[hiu];rfl
 rw[hu']at c2 c3 c4 c5 c6⊢;obtain⟨P,hP⟩:=JI c3;have hP':(p.m.us.getD u default).u.params.toNat=P:=by rw[hP];rfl
 rw[hP']at c4 c5;have hpP:(p.m.us.getD u default).u.params=(P:Int):=hP;have hlenA:(z.cur.sk.ws.drop (z.cur.sk.live-P)).length=P:=by have h2:=Sk.len hz.dR;rw[fM];omega
 refine JE [ptr p.tb,lP i] Tryz.func67 Tryz.ntmps67 fun w S=>?_;refine Jn ?_
 repeat(refine Jy ?_;try intro b)
 rw[hu',hpP];(refine dV (Z8 (z.F p) z.st z.tr (z.cur.st:Int) (e8 z.cur.upb) (.slice z.cur.fo z.cur.fr.length z.cur.fc) E.kE (j6 E.told) z.cur.sk hz.dR P c4) fun s hs=>?_);obtain⟨k1,ao1,cap1⟩:=s;have ht:pG z.cur.sk k1 _:=hs;obtain⟨p1,p2⟩:=nK hz ht
 by_cases h30:30<z.bs.length
 ·refine aD ?_;(refine Jc ?_;refine aB.bA (spec:=wE E (z.F p) z.st z.tr z.e he 5) (r:=fun w=>Reads.any (tk) E.eC .nil) (k:=?_);intro s hs;refine Jn ?_);obtain⟨t1,t2⟩:=wF p1 hs;refine aD ?_;(refine End.pJ (((z.sk k1).cH s.1 s.2.1 s.2.2)) (hp:=?_));refine⟨t1,t2.trans ?_⟩;unfold Vm.vZ;dsimp only;have e1:(Vm.bL p.m.aC u).params.toNat=P:=by unfold Vm.bL;rw[ML.jK];exact hP'
  have e2:(Vm.drop P z.two.1).cs.length=z.bs.length:=by
   show(Vm.drop P z.tk).cs.length=_;rw[←p2,hz.len];show((z.sk k1).all.map _).length=_;rw[Jf,SL.vA]
  rw[e1,e2,if_pos h30];show Vm.e9 E.V 5 ((z.sk k1).tk,E.abs z.e)=Vm.e9 E.V 5 (Vm.drop P z.tk,E.abs z.e);rw[p2]
 ·refine aD ?_;refine b8 14 [aF b (dB i) 113,aF p.tb (rV p.mb E.kE (.slice z.co z.bs.length z.ccap) z.cur.cb z.st z.bx z.tr (.slice z.oo z.out.length z.oc) (j6 E.told)) 103] 15 ?_;refine bR [0,1,2,3,4,5,6,7,8] ?_;rw[hiu];have hbg:=P7 p.tb p.mb p.m [E.kE, .slice z.co z.bs.length z.ccap,ptr z.cur.cb, .int .i64 z.st, .int .i64 z.bx, .int .i64 z.tr, .slice z.oo z.out.length z.oc,j6 E.told] u c2 ao1 cap1 (z.cur.sk.ws.drop (z.cur.sk.live-P)) c6 aA;rw[hlenA]at hbg;refine lN 9 (hbg) fun s hs=>?_;obtain⟨c,rfl⟩:=a7 s;have hbe:=hs;have w4:IntKind.i64.wrap (((z.bs.length+1:Nat):Int)-1)=(z.bs.length:Int):=by rw[dX aA];omega
  refine iF 10 fun b=>?_;(refine JT 11 ?_;refine aB.jN (a:=c.cb) (k:=?_);intro ao2 cap2;refine JG ?_);refine bR [12,13] ?_;refine gWl [14] ?_;refine b6 ?_;refine aD ?_;rw[hiu];(refine Jc ?_;refine aB.bA (spec:=A8 E ⟨p.tb,p.mb, .slice ao2 (z.bs.length+1) cap2,z.cur.cb,z.bx, .slice z.oo z.out.length z.oc⟩ z.st z.tr z.e he 6 0 (u:Int)) (r:=fun w=>Reads.any (tk) E.eC .nil) (k:=?_);intro s hs;refine Jn ?_);obtain⟨e,rfl⟩:=a7 s;have hte:=hs;refine aD ?_;have hw3:((z.sk k1).more ao2 cap2 c e).Wf:=p1.more (by show z.oth.length≤30;rw[←hz.len];omega) hte.1 hbe.up hbe.upb hbe.ok;(refine Jc ?_;refine aB.bA (spec:=mK E ⟨p.tb,p.mb, .slice ao2 (z.bs.length+1) cap2,z.cur.cb,z.bx, .slice z.oo z.out.length z.oc⟩ z.st z.tr e ⟨hte.1,by rw[hte.2];have h5:=E.qX (E.abs z.e) (6,0,(u:Int));have h6:=hi.size;omega⟩ (z.cur.st:Int) (e8 z.cur.upb) (.slice z.cur.fo z.cur.fr.length z.cur.fc) k1 ht.ok (z.bs.length:Int)) (r:=fun w=>Reads.any (tk) E.eC .nil) (k:=?_);intro s hs;refine Jn ?_);obtain⟨t1,t2⟩:=mL hw3 hs;refine aD ?_;apply End.imp (fun w hm=>Mem.Z3 (d:=c) hm (tk) (cA) hz.now);(refine End.dL ((SL.put ((z.sk k1).more ao2 cap2 c e) s)) (ht:=Jx) (hp:=?_));refine⟨t1,t2.trans ?_⟩;unfold Vm.vZ;dsimp only;have e1:(Vm.bL p.m.aC u).params.toNat=P:=by unfold Vm.bL;rw[ML.jK];exact hP'
  have e2:(Vm.drop P z.two.1).cs.length=z.bs.length:=by
   show(Vm.drop P z.tk).cs.length=_;rw[←p2,hz.len];show((z.sk k1).all.map _).length=_;rw[Jf,SL.vA]
  have e3:Vm.begin p.m.aC u ((Vm.cur z.tk).ws.drop ((Vm.cur z.tk).ws.length-P))=c.abs:=by
   have el:(Vm.bL p.m.aC u).locals.length=(p.m.us.getD u default).u.locals.length:=by unfold Vm.bL;rw[ML.jK]
   have ew:(Vm.cur z.tk).ws.length=z.cur.sk.live:=hz.BM;unfold Vm.begin cN.abs;rw[hbe.st,hbe.up,hbe.fr,hbe.ws,el,ew,hz.cur];rfl
  rw[e1,e2,if_neg h30];show Vm.push E.V _ (SL.tk _,E.abs e)=Vm.push E.V _ ({Vm.drop P z.tk with cs:=(Vm.drop P z.tk).cs ++[Vm.begin p.m.aC u ((Vm.cur z.tk).ws.drop ((Vm.cur z.tk).ws.length-P))]},E.V.tell (E.abs z.e) (6,0,(u:Int)));rw[e3,←p2,←hte.2];have e4:((z.sk k1).more ao2 cap2 c e).tk={(z.sk k1).tk with cs:=(z.sk k1).tk.cs ++[c.abs]}:=by
   unfold SL.tk;rw[SL.TZ p1];simp only[Jq,fI,m9]
  rw[e4]
end
variable{E:dK}
theorem aHv(p:Pl)(z:SL E)(hz:z.Wf)(i:ImgM.aT)(hi:wS p.m z i)(h1:i.op=23∨i.op=24∨i.op=25∨(29≤i.op∧i.op≤32)):
  Fn Tryz.prog 67 #[ptr p.tb,lP i] [md p.m,E.rc] (TM p z) (σ:=SL E) (jL z (Vm.exec E.V p.m.aC i z.two)) (fun _=> .tuple #[]) (fun z'=>TM p z'):=by
 by_cases h2:i.op=29
 ·exact aHu p z hz i hi h2
 by_cases h3:i.op=30
 ·exact aHs p z hz i hi h3
 by_cases h4:i.op=31
 ·exact aHr p z hz i hi h4
 by_cases h5:i.op=32
 ·exact aHt p z hz i hi h5
 ·exact aHq p z hz i hi aA
end
section
theorem aE.UP{P:Program}{ops:Array Oper}{Q:Exit→Act→World→Prop}{N:Nd}{l:List Oper}{E:Env}{L F:List Chunk}(cs:List Chunk)(t:aR cs L F)(h:aE P ops Q N l E cs):aE P ops Q N l E L:=fun a w hs hm=>h a w hs (hm.aP t).left
variable{E:dK}{z:SL E}{m:ML}
theorem SL.Wf.ins(hz:z.Wf)(m:ML):Vm.cO m.aC z.tk=bJ m z:=by
 unfold Vm.cO Vm.bL;rw[hz.gY,ML.jK]
abbrev SL.look(z:SL E)(m:ML):SL E:={z with st:=if z.st≤3 then lZ E (bJ m z) (E.abs z.e)else z.st,bx:=if z.st≤3 then o6 E (bJ m z) (E.abs z.e)else z.bx}
theorem SL.Wf.look(hz:z.Wf)(m:ML):(z.look m).Wf:=⟨hz.now,hz.len,hz.eL,hz.at_,hz.up,hz.mN,hz.sk,hz.env⟩
theorem SL.Wf.iV(hz:z.Wf)(m:ML):(z.look m).two=Vm.look E.V m.aC z.two:=by
 unfold Vm.look;have e1:z.two.1.st=z.st:=rfl;have e2:Vm.cO m.aC z.two.1=bJ m z:=hz.ins m
 by_cases h3:z.st≤3
 ·rw[e1,if_pos h3,e2];unfold Vm.waits SL.two SL.tk;simp only[SL.look,if_pos h3];unfold lZ o6
  by_cases c1:(bJ m z).op=26∧E.V.full (E.abs z.e) (bJ m z).a.toNat=true
  ·rw[if_pos c1,if_pos c1,if_pos c1];rfl
  ·rw[if_neg c1,if_neg c1,if_neg c1]
   by_cases c2:(bJ m z).op=27∧E.V.empty (E.abs z.e) (bJ m z).a.toNat=true
   ·rw[if_pos c2,if_pos c2,if_pos c2];rfl
   ·rw[if_neg c2,if_neg c2,if_neg c2];rfl
 ·rw[e1,if_neg h3];unfold SL.two SL.tk;simp only[SL.look,if_neg h3]
end
section
attribute [local irreducible] aE aG End aB Still aN aU RunT Fn aS
section
variable{E:dK}
theorem fR(p:Pl)(z:SL E)(hz:z.Wf)(hs:z.st≤3→mS p.m z):
  Fn Tryz.prog 31 #[ptr p.tb] [md p.m,E.rc] [jV p z,lR p,jP z.cur,gO z.cur,E.mem z.e] (σ:=Unit) (fun _=>True) (fun _=> .tuple #[]) (fun _=>[jV p (z.look p.m),lR p,jP z.cur,gO z.cur,E.mem z.e]):=
 aCw p z hz.env _ _ (fun h=>⟨if_neg aA,if_neg aA⟩) (fun h=>⟨hs h,if_pos h,if_pos h⟩)
set_option maxHeartbeats 1000000 in
theorem aGf(p:Pl)(z:SL E)(hz:z.Wf)(hs:z.st≤3→mS p.m z)(h1:(z.look p.m).st≠1):
  Fn Tryz.prog 32 #[ptr p.tb] [md p.m,E.rc] (TM p z) (σ:=SL E) (jL z (Vm.step E.V p.m.aC z.two).2) (fun _=> .bool (Vm.step E.V p.m.aC z.two).1) (fun z'=>TM p z'):=by
 have e0:Vm.step E.V p.m.aC z.two=(false,(z.look p.m).two):=by
  unfold Vm.step;rw[←hz.iV p.m];exact if_pos h1
 rw[e0];refine JE [ptr p.tb] Tryz.func32 Tryz.ntmps32 fun w S=>?_;refine aD ?_;(refine kD (fR p z hz hs) fun s hs=>?_);refine cL (z.look p.m) ?_;exact⟨hz.look p.m,rfl⟩
structure oG(m:ML)(z:SL E)(i:ImgM.aT):Prop where
 some:i.op=4∨i.op=5∨i.op=6∨i.op=7∨i.op=22∨i.op=26∨i.op=28→0<z.cur.sk.live
 two:8≤i.op∧i.op≤20→2≤z.cur.sk.live∧ImgM.In64 (z.top 1)∧ImgM.In64 (z.top 2)
 load:i.op=3→0≤i.a∧z.f.base+i.a.toNat<z.cur.sk.live
 store:i.op=4→0≤i.a∧z.f.base+i.a.toNat<z.cur.sk.live-1
 jump:i.op=21∨i.op=22→0≤i.a
 send:i.op=26→0≤i.a∧i.a.toNat<E.boxes∧E.V.full (E.abs z.e) i.a.toNat=false
 recv:i.op=27→0≤i.a∧i.a.toNat<E.boxes∧E.V.empty (E.abs z.e) i.a.toNat=false
 size:E.size (E.abs z.e)≤1000000
 outs:i.op=28→z.out.length≤1000000
 aJ:wS m z i
 op:1≤i.op∧i.op≤32
 a64:ImgM.In64 i.a
theorem oG.iY{m:ML}{z:SL E}{i:ImgM.aT}(hc:oG m z i)(hz:z.Wf):E.iY z.e:=⟨hz.env,by have:=hc.size;omega⟩
abbrev SL.bN(z:SL E)(m:ML):SL E:={z.look m with cur:={z.cur with fr:=z.cur.fr.set (z.cur.fr.length-1) ⟨z.f.unit,z.f.pc+1,z.f.base⟩}}
theorem SL.Wf.bN{z:SL E}(hz:z.Wf)(m:ML):(z.bN m).Wf:=(hz.look m).setCur rfl rfl rfl (hz.look m).dR
theorem SL.Wf.T0{z:SL E}(hz:z.Wf)(m:ML):(z.bN m).two=(Vm.gX ((Vm.gY (Vm.cur (z.look m).tk)).pc+1) (z.look m).tk,E.abs z.e):=by
 unfold Vm.gX Vm.A2;rw[(hz.look m).gY,(hz.look m).cur];unfold SL.two;rw[show(z.bN m).tk=Vm.setCur (z.look m).tk (cN.abs {z.cur with fr:=z.cur.fr.set (z.cur.fr.length-1) ⟨z.f.unit,z.f.pc+1,z.f.base⟩})from SL.uQ (z.look m) _];rfl
theorem SL.Wf.rT{z:SL E}(hz:z.Wf)(m:ML)(h1:(z.look m).st=1):Vm.step E.V m.aC z.two=(true,Vm.look E.V m.aC (Vm.exec E.V m.aC (bJ m z) (z.bN m).two)):=by
 unfold Vm.step;rw[←hz.iV m,hz.T0 m];have e1:Vm.cO m.aC (z.look m).two.1=bJ m z:=(hz.look m).ins m;dsimp only;rw[e1];exact if_neg (fun h=>h h1)
end
section
variable{E:dK}
abbrev qA(m:ML)(z:SL E)(i:ImgM.aT):Prop:=∀z2:SL E,z2.Wf→z2.two=Vm.exec E.V m.aC i z.two→z2.st≤3→mS m z2
set_option maxHeartbeats 2000000 in
theorem aGi(p:Pl)(z:SL E)(hz:z.Wf)(hs:mS p.m z)(h1:(z.look p.m).st=1)(hpc:z.f.pc≤100000)(hc:oG p.m (z.bN p.m) (bJ p.m z))(ha:qA p.m (z.bN p.m) (bJ p.m z))(hop:(bJ p.m z).op=1∨(bJ p.m z).op=2):
  Fn Tryz.prog 32 #[ptr p.tb] [md p.m,E.rc] (TM p z) (σ:=SL E) (jL z (Vm.step E.V p.m.aC z.two).2) (fun _=> .bool (Vm.step E.V p.m.aC z.two).1) (fun z'=>TM p z'):=by
 obtain⟨g1,g2,g3,g4,g5⟩:=id hs;have hl:0<z.cur.fr.length:=JP.2 g1;have w1:IntKind.i64.wrap ((z.cur.fr.length:Int)-1)=((z.cur.fr.length-1:Nat):Int):=by rw[dX aA];omega
 have w2:IntKind.i64.wrap ((z.f.pc:Int)+1)=((z.f.pc+1:Nat):Int):=by rw[dX aA];omega
 refine JE [ptr p.tb] Tryz.func32 Tryz.ntmps32 fun w S=>?_;refine aD ?_;(refine Jc ?_;refine aB.bA (spec:=fR p z hz (fun _=>hs)) (r:=fun w=>Jm) (k:=?_);intro s hs;refine Jn ?_);refine aD ?_;refine b8 21 [jV p (z.look p.m),lR p,gO z.cur,md p.m] 22 ?_;refine bR [0,1,2,3,4,5,6,7,8,9,10,11,12,13,14,15,16,17,18,19] ?_;refine iF 20 fun b=>?_;refine gWl [21] ?_;refine b6 ?_;refine aD ?_;(apply aE.op;exact rfl;refine aB.j5 (f:=dH) (l:=z.cur.fr) (i:=z.cur.fr.length-1) (off:=1) (vs:=[.int .i64 ((z.f.pc+1:Nat):Int)]) (a':=(⟨z.f.unit,z.f.pc+1,z.f.base⟩:Vm.Fr)) (k:=?_));apply aE.nil;apply End.kH;obtain⟨ib,rfl⟩:=a7 b;refine aG.sub [(0,ptr p.tb),(2, .bool false),(3, .pointer (place (sz dH) z.cur.fo (z.cur.fr.length-1) 0)),(4,ptr ib)] (Ju) ?_;have hln:z.cur.fr.length=(z.cur.fr.set (z.cur.fr.length-1) (⟨z.f.unit,z.f.pc+1,z.f.base⟩:Vm.Fr)).length:=by rw[Ji]
 refine aG.only (aO w S::md p.m::E.rc::aF ib (dB (bJ p.m z)) 113::TM p (z.bN p.m)) (Jx) ?_;have hpl:place (sz dH) z.cur.fo (z.cur.fr.length-1) 0=place (sz dH) (z.bN p.m).cur.fo ((z.bN p.m).cur.fr.length-1) 0:=by rw[show(z.bN p.m).cur.fr.length=z.cur.fr.length from Ji]
 rw[hpl];have hstep:=hz.rT p.m h1;rw[hstep];have hz1:=hz.bN p.m;obtain⟨i,hi⟩:∃i,i=bJ p.m z:=⟨_,rfl⟩;obtain⟨z1,hz1e⟩:∃z1,z1=z.bN p.m:=⟨_,rfl⟩;rw[←hi,←hz1e]at hc ha⊢;rw[←hz1e]at hz1;rw[←hi]at hop;have hex:∀v,i.op=1∧v=i.n∨i.op=2∧v=i.a→Vm.exec E.V p.m.aC i z1.two=Vm.push E.V v z1.two:=fun v h=>by
  unfold Vm.exec;rcases h with⟨h,rfl⟩|⟨h,rfl⟩<;>simp[h]
 rcases hop with hop|hop
 ·refine aD ?_;(refine Jc ?_;refine aB.bA (spec:=mK E (z1.F p) z1.st z1.tr z1.e (hc.iY hz1) (z1.cur.st:Int) (e8 z1.cur.upb) (.slice z1.cur.fo z1.cur.fr.length z1.cur.fc) z1.cur.sk hz1.dR i.n) (r:=fun w=>Reads.any (tk) E.eC .nil) (k:=?_);intro s hs;refine Jn ?_);obtain⟨q,rfl⟩:=a7 s;obtain⟨t1,t2⟩:=mL hz1 hs;have t3:=t2.trans (hex _ (.inl ⟨hop,rfl⟩)).symm;refine aD ?_;(refine kD (fR p (z1.put q) t1 (ha (z1.put q) t1 t3)) fun s hs=>?_);refine cL (SL.look (z1.put q) p.m) ?_;exact⟨t1.look p.m,(t1.iV p.m).trans (by rw[t3])⟩
 ·refine aD ?_;(refine Jc ?_;refine aB.bA (spec:=mK E (z1.F p) z1.st z1.tr z1.e (hc.iY hz1) (z1.cur.st:Int) (e8 z1.cur.upb) (.slice z1.cur.fo z1.cur.fr.length z1.cur.fc) z1.cur.sk hz1.dR i.a) (r:=fun w=>Reads.any (tk) E.eC .nil) (k:=?_);intro s hs;refine Jn ?_);obtain⟨q,rfl⟩:=a7 s;obtain⟨t1,t2⟩:=mL hz1 hs;have t3:=t2.trans (hex _ (.inr ⟨hop,rfl⟩)).symm;refine aD ?_;(refine kD (fR p (z1.put q) t1 (ha (z1.put q) t1 t3)) fun s hs=>?_);refine cL (SL.look (z1.put q) p.m) ?_;exact⟨t1.look p.m,(t1.iV p.m).trans (by rw[t3])⟩
end
section
variable{E:dK}
set_option maxHeartbeats 2000000 in
theorem aGj(p:Pl)(z:SL E)(hz:z.Wf)(hs:mS p.m z)(h1:(z.look p.m).st=1)(hpc:z.f.pc≤100000)(hc:oG p.m (z.bN p.m) (bJ p.m z))(ha:qA p.m (z.bN p.m) (bJ p.m z))(hop:(bJ p.m z).op=5∨(bJ p.m z).op=6∨(bJ p.m z).op=7):
  Fn Tryz.prog 32 #[ptr p.tb] [md p.m,E.rc] (TM p z) (σ:=SL E) (jL z (Vm.step E.V p.m.aC z.two).2) (fun _=> .bool (Vm.step E.V p.m.aC z.two).1) (fun z'=>TM p z'):=by
 obtain⟨g1,g2,g3,g4,g5⟩:=id hs;have hl:0<z.cur.fr.length:=JP.2 g1;have w1:IntKind.i64.wrap ((z.cur.fr.length:Int)-1)=((z.cur.fr.length-1:Nat):Int):=by rw[dX aA];omega
 have w2:IntKind.i64.wrap ((z.f.pc:Int)+1)=((z.f.pc+1:Nat):Int):=by rw[dX aA];omega
 refine JE [ptr p.tb] Tryz.func32 Tryz.ntmps32 fun w S=>?_;refine aD ?_;(refine Jc ?_;refine aB.bA (spec:=fR p z hz (fun _=>hs)) (r:=fun w=>Jm) (k:=?_);intro s hs;refine Jn ?_);refine aD ?_;refine b8 21 [jV p (z.look p.m),lR p,gO z.cur,md p.m] 22 ?_;refine bR [0,1,2,3,4,5,6,7,8,9,10,11,12,13,14,15,16,17,18,19] ?_;refine iF 20 fun b=>?_;refine gWl [21] ?_;refine b6 ?_;refine aD ?_;(apply aE.op;exact rfl;refine aB.j5 (f:=dH) (l:=z.cur.fr) (i:=z.cur.fr.length-1) (off:=1) (vs:=[.int .i64 ((z.f.pc+1:Nat):Int)]) (a':=(⟨z.f.unit,z.f.pc+1,z.f.base⟩:Vm.Fr)) (k:=?_));apply aE.nil;apply End.kH;obtain⟨ib,rfl⟩:=a7 b;refine aG.sub [(0,ptr p.tb),(2, .bool false),(3, .pointer (place (sz dH) z.cur.fo (z.cur.fr.length-1) 0)),(4,ptr ib)] (Ju) ?_;have hln:z.cur.fr.length=(z.cur.fr.set (z.cur.fr.length-1) (⟨z.f.unit,z.f.pc+1,z.f.base⟩:Vm.Fr)).length:=by rw[Ji]
 refine aG.only (aO w S::md p.m::E.rc::aF ib (dB (bJ p.m z)) 113::TM p (z.bN p.m)) (Jx) ?_;have hpl:place (sz dH) z.cur.fo (z.cur.fr.length-1) 0=place (sz dH) (z.bN p.m).cur.fo ((z.bN p.m).cur.fr.length-1) 0:=by rw[show(z.bN p.m).cur.fr.length=z.cur.fr.length from Ji]
 rw[hpl];have hstep:=hz.rT p.m h1;rw[hstep];have hz1:=hz.bN p.m;obtain⟨i,hi⟩:∃i,i=bJ p.m z:=⟨_,rfl⟩;obtain⟨z1,hz1e⟩:∃z1,z1=z.bN p.m:=⟨_,rfl⟩;rw[←hi,←hz1e]at hc ha⊢;rw[←hz1e]at hz1;rw[←hi]at hop;have c1:=hc.some aA;refine aD ?_;rcases hop with hop|hop|hop
 ·refine aD ?_;(refine dV (n9 (z1.F p) z1.st z1.tr (z1.cur.st:Int) (e8 z1.cur.upb) (.slice z1.cur.fo z1.cur.fr.length z1.cur.fc) E.kE (j6 E.told) z1.cur.sk hz1.dR c1) fun s hs=>?_);obtain⟨k1,rfl⟩:=a7 s;obtain⟨t1,t2⟩:=nK hz1 hs;have t3:(z1.sk k1).two=Vm.exec E.V p.m.aC i z1.two:=by
   unfold Vm.exec;simp[hop];exact congrArg (fun t=>(t,E.abs z1.e)) t2
  refine aD ?_;(refine kD (fR p (z1.sk k1) t1 (ha (z1.sk k1) t1 t3)) fun s hs=>?_);refine cL (SL.look (z1.sk k1) p.m) ?_;exact⟨t1.look p.m,(t1.iV p.m).trans (by rw[t3])⟩
 ·refine aD ?_;(refine dV (n9 (z1.F p) z1.st z1.tr (z1.cur.st:Int) (e8 z1.cur.upb) (.slice z1.cur.fo z1.cur.fr.length z1.cur.fc) E.kE (j6 E.told) z1.cur.sk hz1.dR c1) fun s hs=>?_);obtain⟨k1,rfl⟩:=a7 s;obtain⟨p1,p2⟩:=nK hz1 hs;have hks:=p1.dR;refine aD ?_;(refine Jc ?_;refine aB.bA (spec:=mK E (z1.F p) z1.st z1.tr z1.e (hc.iY hz1) (z1.cur.st:Int) (e8 z1.cur.upb) (.slice z1.cur.fo z1.cur.fr.length z1.cur.fc) k1 hks (IntKind.i64.wrap (0-z1.top 1))) (r:=fun w=>Reads.any (tk) E.eC .nil) (k:=?_);intro s hs;refine Jn ?_);obtain⟨q,rfl⟩:=a7 s;obtain⟨t1,t2⟩:=mL p1 hs;have t3:((z1.sk k1).put q).two=Vm.exec E.V p.m.aC i z1.two:=by
   rw[t2];unfold Vm.exec;simp[hop];show Vm.push E.V _ ((z1.sk k1).tk,E.abs z1.e)=Vm.push E.V (IntKind.i64.wrap (-(Vm.last z1.tk))) (Vm.drop 1 z1.tk,E.abs z1.e);rw[p2,hz1.last]
   try simp
  refine aD ?_;(refine kD (fR p ((z1.sk k1).put q) t1 (ha ((z1.sk k1).put q) t1 t3)) fun s hs=>?_);refine cL (SL.look ((z1.sk k1).put q) p.m) ?_;exact⟨t1.look p.m,(t1.iV p.m).trans (by rw[t3])⟩
 ·refine aD ?_;(refine dV (n9 (z1.F p) z1.st z1.tr (z1.cur.st:Int) (e8 z1.cur.upb) (.slice z1.cur.fo z1.cur.fr.length z1.cur.fc) E.kE (j6 E.told) z1.cur.sk hz1.dR c1) fun s hs=>?_);obtain⟨k1,rfl⟩:=a7 s;obtain⟨p1,p2⟩:=nK hz1 hs;have hks:=p1.dR;refine aD ?_;(refine Jc ?_;refine aB.bA (spec:=mK E (z1.F p) z1.st z1.tr z1.e (hc.iY hz1) (z1.cur.st:Int) (e8 z1.cur.upb) (.slice z1.cur.fo z1.cur.fr.length z1.cur.fc) k1 hks (IntKind.i64.wrap (1-z1.top 1))) (r:=fun w=>Reads.any (tk) E.eC .nil) (k:=?_);intro s hs;refine Jn ?_);obtain⟨q,rfl⟩:=a7 s;obtain⟨t1,t2⟩:=mL p1 hs;have t3:((z1.sk k1).put q).two=Vm.exec E.V p.m.aC i z1.two:=by
   rw[t2];unfold Vm.exec;simp[hop];show Vm.push E.V _ ((z1.sk k1).tk,E.abs z1.e)=Vm.push E.V (IntKind.i64.wrap (1-Vm.last z1.tk)) (Vm.drop 1 z1.tk,E.abs z1.e);rw[p2,hz1.last]
   try simp
  refine aD ?_;(refine kD (fR p ((z1.sk k1).put q) t1 (ha ((z1.sk k1).put q) t1 t3)) fun s hs=>?_);refine cL (SL.look ((z1.sk k1).put q) p.m) ?_;exact⟨t1.look p.m,(t1.iV p.m).trans (by rw[t3])⟩
end
variable{E:dK}
set_option maxHeartbeats 2000000 in
theorem aGk(p:Pl)(z:SL E)(hz:z.Wf)(hs:mS p.m z)(h1:(z.look p.m).st=1)(hpc:z.f.pc≤100000)(hc:oG p.m (z.bN p.m) (bJ p.m z))(ha:qA p.m (z.bN p.m) (bJ p.m z))(hop:8≤(bJ p.m z).op∧(bJ p.m z).op≤20):
  Fn Tryz.prog 32 #[ptr p.tb] [md p.m,E.rc] (TM p z) (σ:=SL E) (jL z (Vm.step E.V p.m.aC z.two).2) (fun _=> .bool (Vm.step E.V p.m.aC z.two).1) (fun z'=>TM p z'):=by
 obtain⟨g1,g2,g3,g4,g5⟩:=id hs;have hl:0<z.cur.fr.length:=JP.2 g1;have w1:IntKind.i64.wrap ((z.cur.fr.length:Int)-1)=((z.cur.fr.length-1:Nat):Int):=by rw[dX aA];omega
 have w2:IntKind.i64.wrap ((z.f.pc:Int)+1)=((z.f.pc+1:Nat):Int):=by rw[dX aA];omega
 refine JE [ptr p.tb] Tryz.func32 Tryz.ntmps32 fun w S=>?_;refine aD ?_;(refine Jc ?_;refine aB.bA (spec:=fR p z hz (fun _=>hs)) (r:=fun w=>Jm) (k:=?_);intro s hs;refine Jn ?_);refine aD ?_;refine b8 21 [jV p (z.look p.m),lR p,gO z.cur,md p.m] 22 ?_;refine bR [0,1,2,3,4,5,6,7,8,9,10,11,12,13,14,15,16,17,18,19] ?_;refine iF 20 fun b=>?_;refine gWl [21] ?_;refine b6 ?_;refine aD ?_;(apply aE.op;exact rfl;refine aB.j5 (f:=dH) (l:=z.cur.fr) (i:=z.cur.fr.length-1) (off:=1) (vs:=[.int .i64 ((z.f.pc+1:Nat):Int)]) (a':=(⟨z.f.unit,z.f.pc+1,z.f.base⟩:Vm.Fr)) (k:=?_));apply aE.nil;apply End.kH;obtain⟨ib,rfl⟩:=a7 b;refine aG.sub [(0,ptr p.tb),(2, .bool false),(3, .pointer (place (sz dH) z.cur.fo (z.cur.fr.length-1) 0)),(4,ptr ib)] (Ju) ?_;have hln:z.cur.fr.length=(z.cur.fr.set (z.cur.fr.length-1) (⟨z.f.unit,z.f.pc+1,z.f.base⟩:Vm.Fr)).length:=by rw[Ji]
 refine aG.only (aO w S::md p.m::E.rc::aF ib (dB (bJ p.m z)) 113::TM p (z.bN p.m)) (Jx) ?_;have hpl:place (sz dH) z.cur.fo (z.cur.fr.length-1) 0=place (sz dH) (z.bN p.m).cur.fo ((z.bN p.m).cur.fr.length-1) 0:=by rw[show(z.bN p.m).cur.fr.length=z.cur.fr.length from Ji]
 rw[hpl];have hstep:=hz.rT p.m h1;rw[hstep];have hz1:=hz.bN p.m;obtain⟨i,hi⟩:∃i,i=bJ p.m z:=⟨_,rfl⟩;obtain⟨z1,hz1e⟩:∃z1,z1=z.bN p.m:=⟨_,rfl⟩;rw[←hi,←hz1e]at hc ha⊢;rw[←hz1e]at hz1;rw[←hi]at hop;obtain⟨c1,c2,c3⟩:=hc.two hop;refine aD ?_;(refine dV (n9 (z1.F p) z1.st z1.tr (z1.cur.st:Int) (e8 z1.cur.upb) (.slice z1.cur.fo z1.cur.fr.length z1.cur.fc) E.kE (j6 E.told) z1.cur.sk hz1.dR aA) fun s hs=>?_);obtain⟨k1,rfl⟩:=a7 s;have ht:=hs;obtain⟨p1,p2⟩:=nK hz1 hs;have hlv:k1.live=z1.cur.sk.live-1:=by have h:=ht.live;have h2:=Sk.len hz1.dR;rw[jM]at h;omega
 have hv2:k1.ws.getD (k1.live-1) 0=z1.top 2:=by
  rw[ht.ws,hlv];show(z1.cur.sk.ws.take (z1.cur.sk.live-1)).getD (z1.cur.sk.live-1-1) 0=z1.cur.sk.ws.getD (z1.cur.sk.live-2) 0;rw[Jd,Jd,BW,if_pos aA,Nat.sub_sub]
 refine aD ?_;(refine dV (n9 (z1.F p) z1.st z1.tr (z1.cur.st:Int) (e8 z1.cur.upb) (.slice z1.cur.fo z1.cur.fr.length z1.cur.fc) E.kE (j6 E.told) k1 p1.dR aA) fun s hs=>?_);obtain⟨k2,rfl⟩:=a7 s;obtain⟨p3,p4⟩:=nK p1 hs;rw[hv2];have hl2:Vm.last (Vm.drop 1 z1.tk)=z1.top 2:=by rw[←p2,p1.last];exact hv2
 have hdd:Vm.drop 1 (Vm.drop 1 z1.tk)=((z1.sk k1).sk k2).tk:=by rw[p4,p2]
 have htrap:i.op=11∨i.op=12→z1.cur.sk.ws.getD (z1.cur.sk.live-1) 0=0→Vm.e9 E.V 1 ((z1.sk k1).sk k2).two=Vm.exec E.V p.m.aC i z1.two:=fun h hb=>by
  have hl1:Vm.last z1.two.1=0:=hz1.last.trans hb;unfold Vm.exec;dsimp only
  (repeat rw[if_neg aA]);rw[if_pos hop,if_pos ⟨h,hl1⟩]
  show Vm.e9 E.V 1 (((z1.sk k1).sk k2).tk,E.abs z1.e)=Vm.e9 E.V 1 (Vm.drop 1 (Vm.drop 1 z1.tk),E.abs z1.e);rw[hdd]
 have hpush:(i.op=11∨i.op=12→z1.top 1≠0)→Vm.push E.V (Opt.m4 i.op (z1.top 2) (z1.top 1)) ((z1.sk k1).sk k2).two=Vm.exec E.V p.m.aC i z1.two:=fun h=>by
  have hl1:Vm.last z1.two.1=z1.top 1:=hz1.last;unfold Vm.exec;dsimp only
  (repeat rw[if_neg aA]);rw[if_pos hop,if_neg (fun x=>h x.1 (hl1.symm.trans x.2))]
  show Vm.push E.V _ (((z1.sk k1).sk k2).tk,E.abs z1.e)=Vm.push E.V (Opt.m4 i.op (Vm.last (Vm.drop 1 z1.tk)) (Vm.last z1.tk)) (Vm.drop 1 (Vm.drop 1 z1.tk),E.abs z1.e);rw[hdd,hl2,hz1.last]
 by_cases hb:z1.cur.sk.ws.getD (z1.cur.sk.live-1) 0=0
 ·by_cases e11:i.op=11
  ·refine aD ?_;(refine Jc ?_;refine aB.bA (spec:=wE E (z1.F p) z1.st z1.tr z1.e (hc.iY hz1) 1) (r:=fun w=>Reads.any (tk) E.eC .nil) (k:=?_);intro s hs;refine Jn ?_);obtain⟨q,rfl⟩:=a7 s;obtain⟨t1,t2⟩:=wF p3 hs;have t3:(((z1.sk k1).sk k2).cH q.1 q.2.1 q.2.2).two=Vm.exec E.V p.m.aC i z1.two:=t2.trans (htrap aA hb);refine aD ?_;(refine kD (fR p (((z1.sk k1).sk k2).cH q.1 q.2.1 q.2.2) t1 (ha (((z1.sk k1).sk k2).cH q.1 q.2.1 q.2.2) t1 t3)) fun s hs=>?_);refine cL (SL.look (((z1.sk k1).sk k2).cH q.1 q.2.1 q.2.2) p.m) ?_;exact⟨t1.look p.m,(t1.iV p.m).trans (by rw[t3])⟩
  ·by_cases e12:i.op=12
   ·refine aD ?_;(refine Jc ?_;refine aB.bA (spec:=wE E (z1.F p) z1.st z1.tr z1.e (hc.iY hz1) 1) (r:=fun w=>Reads.any (tk) E.eC .nil) (k:=?_);intro s hs;refine Jn ?_);obtain⟨q,rfl⟩:=a7 s;obtain⟨t1,t2⟩:=wF p3 hs;have t3:(((z1.sk k1).sk k2).cH q.1 q.2.1 q.2.2).two=Vm.exec E.V p.m.aC i z1.two:=t2.trans (htrap aA hb);refine aD ?_;(refine kD (fR p (((z1.sk k1).sk k2).cH q.1 q.2.1 q.2.2) t1 (ha (((z1.sk k1).sk k2).cH q.1 q.2.1 q.2.2) t1 t3)) fun s hs=>?_);refine cL (SL.look (((z1.sk k1).sk k2).cH q.1 q.2.1 q.2.2) p.m) ?_;exact⟨t1.look p.m,(t1.iV p.m).trans (by rw[t3])⟩
   ·have hne:i.op=11∨i.op=12→z1.top 1≠0:=fun h=>by omega
    refine aD ?_;(refine iN (HA i.op (z1.top 2) (z1.top 1) c3 c2 (fun h=>hne h)) fun s hs=>?_);(refine Jc ?_;refine aB.bA (spec:=mK E (z1.F p) z1.st z1.tr z1.e (hc.iY hz1) (z1.cur.st:Int) (e8 z1.cur.upb) (.slice z1.cur.fo z1.cur.fr.length z1.cur.fc) k2 p3.dR (Opt.m4 i.op (z1.top 2) (z1.top 1))) (r:=fun w=>Reads.any (tk) E.eC .nil) (k:=?_);intro s hs;refine Jn ?_);obtain⟨q,rfl⟩:=a7 s;obtain⟨t1,t2⟩:=mL p3 hs;have t3:(((z1.sk k1).sk k2).put q).two=Vm.exec E.V p.m.aC i z1.two:=t2.trans (hpush hne);refine aD ?_;(refine kD (fR p (((z1.sk k1).sk k2).put q) t1 (ha (((z1.sk k1).sk k2).put q) t1 t3)) fun s hs=>?_);refine cL (SL.look (((z1.sk k1).sk k2).put q) p.m) ?_;exact⟨t1.look p.m,(t1.iV p.m).trans (by rw[t3])⟩
 ·have hne:i.op=11∨i.op=12→z1.top 1≠0:=fun h=>hb
  by_cases e11:i.op=11
  ·refine aD ?_;(refine iN (HA i.op (z1.top 2) (z1.top 1) c3 c2 (fun h=>hne h)) fun s hs=>?_);(refine Jc ?_;refine aB.bA (spec:=mK E (z1.F p) z1.st z1.tr z1.e (hc.iY hz1) (z1.cur.st:Int) (e8 z1.cur.upb) (.slice z1.cur.fo z1.cur.fr.length z1.cur.fc) k2 p3.dR (Opt.m4 i.op (z1.top 2) (z1.top 1))) (r:=fun w=>Reads.any (tk) E.eC .nil) (k:=?_);intro s hs;refine Jn ?_);obtain⟨q,rfl⟩:=a7 s;obtain⟨t1,t2⟩:=mL p3 hs;have t3:(((z1.sk k1).sk k2).put q).two=Vm.exec E.V p.m.aC i z1.two:=t2.trans (hpush hne);refine aD ?_;(refine kD (fR p (((z1.sk k1).sk k2).put q) t1 (ha (((z1.sk k1).sk k2).put q) t1 t3)) fun s hs=>?_);refine cL (SL.look (((z1.sk k1).sk k2).put q) p.m) ?_;exact⟨t1.look p.m,(t1.iV p.m).trans (by rw[t3])⟩
  ·by_cases e12:i.op=12
   ·refine aD ?_;(refine iN (HA i.op (z1.top 2) (z1.top 1) c3 c2 (fun h=>hne h)) fun s hs=>?_);(refine Jc ?_;refine aB.bA (spec:=mK E (z1.F p) z1.st z1.tr z1.e (hc.iY hz1) (z1.cur.st:Int) (e8 z1.cur.upb) (.slice z1.cur.fo z1.cur.fr.length z1.cur.fc) k2 p3.dR (Opt.m4 i.op (z1.top 2) (z1.top 1))) (r:=fun w=>Reads.any (tk) E.eC .nil) (k:=?_);intro s hs;refine Jn ?_);obtain⟨q,rfl⟩:=a7 s;obtain⟨t1,t2⟩:=mL p3 hs;have t3:(((z1.sk k1).sk k2).put q).two=Vm.exec E.V p.m.aC i z1.two:=t2.trans (hpush hne);refine aD ?_;(refine kD (fR p (((z1.sk k1).sk k2).put q) t1 (ha (((z1.sk k1).sk k2).put q) t1 t3)) fun s hs=>?_);refine cL (SL.look (((z1.sk k1).sk k2).put q) p.m) ?_;exact⟨t1.look p.m,(t1.iV p.m).trans (by rw[t3])⟩
   ·refine aD ?_;(refine iN (HA i.op (z1.top 2) (z1.top 1) c3 c2 (fun h=>hne h)) fun s hs=>?_);(refine Jc ?_;refine aB.bA (spec:=mK E (z1.F p) z1.st z1.tr z1.e (hc.iY hz1) (z1.cur.st:Int) (e8 z1.cur.upb) (.slice z1.cur.fo z1.cur.fr.length z1.cur.fc) k2 p3.dR (Opt.m4 i.op (z1.top 2) (z1.top 1))) (r:=fun w=>Reads.any (tk) E.eC .nil) (k:=?_);intro s hs;refine Jn ?_);obtain⟨q,rfl⟩:=a7 s;obtain⟨t1,t2⟩:=mL p3 hs;have t3:(((z1.sk k1).sk k2).put q).two=Vm.exec E.V p.m.aC i z1.two:=t2.trans (hpush hne);refine aD ?_;(refine kD (fR p (((z1.sk k1).sk k2).put q) t1 (ha (((z1.sk k1).sk k2).put q) t1 t3)) fun s hs=>?_);refine cL (SL.look (((z1.sk k1).sk k2).put q) p.m) ?_;exact⟨t1.look p.m,(t1.iV p.m).trans (by rw[t3])⟩
end
end Vw
end Go.Proofs.YtofckcabpchcmaaGreatDoor
