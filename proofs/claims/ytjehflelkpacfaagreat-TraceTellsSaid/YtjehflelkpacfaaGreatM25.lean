/- What has to do with other units, walked. -/
import Derived.Test.YtjehflelkpacfaaGreatM24
set_option linter.unusedVariables false
set_option linter.unusedSimpArgs false
set_option linter.unusedSectionVars false
set_option maxRecDepth 100000
namespace Go.Proofs.YtjehflelkpacfaaGreat.Vw
open Go.RowKit Go.Proofs.YtjehflelkpacfaaGreat.Img
section
attribute [local irreducible] Run Cod End OpT Still RunQ RunS RunT Fn PutOk
variable{E:EnvM}
structure CanU(m:ML)(z:SL E)(i:ImgM.Ins):Prop where
 a0:0≤i.a
 lt:i.a.toNat<m.us.length
 p0:0≤(m.us.getD i.a.toNat default).u.params
 pl:(m.us.getD i.a.toNat default).u.params.toNat≤z.cur.sk.live
 pL:(m.us.getD i.a.toNat default).u.params.toNat≤(m.us.getD i.a.toNat default).u.locals.length
 few:(m.us.getD i.a.toNat default).u.locals.length≤200
 fr:z.cur.fr.length≤40
abbrev SL.top(z:SL E)(n:Nat):Int:=z.cur.sk.ws.getD (z.cur.sk.live-n) 0
structure CanI(m:ML)(z:SL E)(i:ImgM.Ins):Prop where
 call:i.op=23∨i.op=29→CanU m z i
 ret:i.op=24→0<z.cur.sk.live∧z.cur.fr≠[]∧z.cur.fr.length≤40∧z.f.base≤z.cur.sk.live-1
 fin:i.op=25→∀j,z.cur.up=some j→z.now≠j
 res:i.op=30→2≤z.cur.sk.live∧0≤z.top 2∧(z.top 2).toNat<z.oth.length∧z.cur.st=2∧((z.oth.getD (z.top 2).toNat default).st≤3∨(z.top 2).toNat=z.now)
 yld:i.op=31→0<z.cur.sk.live∧∃j,z.cur.up=some j∧z.now≠j
 size:E.size (E.abs z.e)≤1000000
 alv:i.op=32→0<z.cur.sk.live∧0≤z.top 1∧(z.top 1).toNat<z.oth.length
set_option maxHeartbeats 1000000 in
theorem units1_is(p:Pl)(z:SL E)(hz:z.Wf)(i:ImgM.Ins)(hi:CanI p.m z i)(h1:i.op=23∨i.op=24∨i.op=25):
  Fn Tryz.prog 50 #[ptr p.tb,insV i] [md p.m,E.rc] (TM p z) (σ:=SL E) (Gives z (Vm.exec E.V p.m.mdl i z.two)) (fun _=> .tuple #[]) (fun z'=>TM p z'):=by
 have he:E.okk z.e:=⟨hz.env,by have:=hi.size;omega⟩;refine JE [ptr p.tb,insV i] Tryz.func50 Tryz.ntmps50 fun w S=>?_
 (refine Jn ?_);rcases h1 with h1|h1|h1
 ·obtain⟨c1,c2,c3,c4,c5,c6,c7⟩:=hi.call (.inl h1);have hc:=call_is p z hz hi.size i.a.toNat c2 c3 c4 c5 c6 c7;rw[Jo' c1]at hc
  repeat(refine Jy ?_;try first|intro ao cap|intro b)
  (refine JM (hc) ?_;intro s hs;(refine Jn ?_))
  repeat(refine Jy ?_;try first|intro ao cap|intro b)
  (refine End.done0'_ (s) (hp:=?_));refine⟨hs.wf,hs.two.trans ?_⟩;unfold Vm.exec;simp[h1]
 ·obtain⟨c1,c2,c3,c4⟩:=hi.ret h1;have hl:0<z.cur.fr.length:=JP.2 c2;have w1:IntKind.i64.wrap ((z.cur.fr.length:Int)-1)=((z.cur.fr.length-1:Nat):Int):=by rw[wrap_i64_in (by omega)];omega
  repeat(refine Jy ?_;try first|intro ao cap|intro b)
  (refine JQ (pop_is' (z.F p) z.st z.tr (z.cur.st:Int) (ptrO z.cur.upb) (.slice z.cur.fo z.cur.fr.length z.cur.fc) E.mailV (toldV E.told) z.cur.sk hz.curOk c1) ?_;intro s hs;(refine Jn ?_));obtain⟨k1,rfl⟩:∃x,x=s:=⟨_,rfl⟩;have ht:=hs;have hlv:k1.live=z.cur.sk.live-1:=by have h:=ht.live;have h2:=Sk.len hz.curOk;rw[List.length_take]at h;omega
  have w3:IntKind.i64.wrap ((k1.live:Int)-(z.f.base:Int))=((k1.live-z.f.base:Nat):Int):=by have:=ht.ok.live;have:=ht.ok.hi;rw[wrap_i64_in (by omega)];omega
  repeat(refine Jy ?_;try first|intro ao cap|intro b)
  apply Cod.draw 13 ([cc z.cur.cb (z.cur.st:Int) (ptrO z.cur.upb) (.slice z.cur.fo z.cur.fr.length z.cur.fc) k1.sb,frM z.cur]) (by kernel_rfl) 14 rfl;refine JR 0 ?_;refine JR 1 ?_;refine JR 2 ?_;refine JR 3 ?_;refine JR 4 ?_;refine JR 5 ?_;refine JR 6 ?_;refine JR 7 ?_;refine JR 8 ?_;refine JR 9 ?_;refine JR 10 ?_;refine JR 11 ?_;(refine JT 12 ?_;(first|refine Jw ?_|(refine Jb ?_;intro b)|(refine Ja ?_;intro ao cap));refine JG ?_);(refine JT 13 ?_;(first|refine Jw ?_|(refine Jb ?_;intro b)|(refine Ja ?_;intro ao cap));refine JG ?_);(apply RunT.done;kernel_rfl);obtain⟨fb,rfl⟩:∃x,x=b:=⟨_,rfl⟩
  repeat(refine Jy ?_;try first|intro ao cap|intro b)
  apply Cod.draw 14 ([cc z.cur.cb (z.cur.st:Int) (ptrO z.cur.upb) (.slice z.cur.fo z.cur.fr.length z.cur.fc) k1.sb]) (by kernel_rfl) 15 rfl;refine JR 0 ?_;refine JR 1 ?_;refine JR 2 ?_;refine JR 3 ?_;refine JR 4 ?_;refine JR 5 ?_;refine JR 6 ?_;refine JR 7 ?_;refine JR 8 ?_;refine JR 9 ?_;refine JR 10 ?_;(refine JT 11 ?_;(first|refine Jw ?_|(refine Jb ?_;intro b)|(refine Ja ?_;intro ao cap));refine JG ?_);refine JR 12 ?_;refine JR 13 ?_;(refine JT 14 ?_;(first|refine Jw ?_|(refine Jb ?_;intro b)|(refine Ja ?_;intro ao cap));refine JG ?_);(apply RunT.done;kernel_rfl)
  repeat(refine Jy ?_;try first|intro ao cap|intro b)
  apply Cod.draw 12 ([cc z.cur.cb (z.cur.st:Int) (ptrO z.cur.upb) (.slice ao (z.cur.fr.length-1) cap) k1.sb,blk fb (frC z.f) 123]) (by kernel_rfl) 13 rfl;refine JR 0 ?_;refine JR 1 ?_;refine JR 2 ?_;refine JR 3 ?_;refine JR 4 ?_;refine JR 5 ?_;refine JR 6 ?_;refine JR 7 ?_;refine JR 9 ?_;refine JR 10 ?_;(refine JT 8 ?_;refine JK (live_is k1) ?_;intro s hs;refine JG ?_;(refine Jn ?_));refine JR 11 ?_;(refine JT 12 ?_;refine JK (pop_stk k1 ht.ok (k1.live-z.f.base) (by omega)) ?_;intro s hs;refine JG ?_;(refine Jn ?_));(apply RunT.done;kernel_rfl);obtain⟨k2,rfl⟩:∃x,x=s:=⟨_,rfl⟩;have ht2:=hs;have ht3:SkTo z.cur.sk k2 ((z.cur.sk.ws.take (z.cur.sk.live-1)).take z.f.base):=⟨ht2.ok,ht2.sb.trans ht.sb,by rw[ht2.ws,ht.ws];congr 1;omega,by have h:=ht2.live;rw[ht.ws]at h;rw[h];congr 2;omega⟩;have hsb:k1.sb=k2.sb:=ht2.sb.symm;rw[hsb]
  repeat(refine Jy ?_;try first|intro ao cap|intro b)
  have hw2:({z with cur:={z.cur with fo:=ao,fc:=cap,fr:=z.cur.fr.take (z.cur.fr.length-1),sk:=k2}}:SL E).Wf:=hz.setCur rfl rfl rfl ht3.ok;(refine Jc ?_;refine OpT.call0_ (spec:=push_is' E (z.F p) z.st z.tr z.e he (z.cur.st:Int) (ptrO z.cur.upb) (.slice ao (z.cur.fr.length-1) cap) k2 ht3.ok (z.top 1)) (r:=fun w=>Reads.any (tk) E.rexcl .nil) (k:=?_);intro s hs;(refine Jn ?_));obtain⟨t1,t2⟩:=pushed hw2 hs
  repeat(refine Jy ?_;try first|intro ao cap|intro b)
  (refine End.done0'_ ((SL.put {z with cur:={z.cur with fo:=ao,fc:=cap,fr:=z.cur.fr.take (z.cur.fr.length-1),sk:=k2}} s)) (ht:=Jx) (hp:=?_));refine⟨t1,t2.trans ?_⟩;have e0:Vm.exec E.V p.m.mdl i z.two=Vm.ret E.V z.two:=by unfold Vm.exec;simp[h1]
  rw[e0];have e3:CoL.abs {z.cur with fo:=ao,fc:=cap,fr:=z.cur.fr.take (z.cur.fr.length-1),sk:=k2}=({z.cur.abs with fr:=z.cur.abs.fr.take (z.cur.abs.fr.length-1),ws:=(z.cur.abs.ws.take (z.cur.abs.ws.length-1)).take (Vm.topF z.cur.abs).base}:Vm.Co):=by
   show(⟨z.cur.st,z.cur.up,_,k2.ws⟩:Vm.Co)=⟨_,_,_,(z.cur.sk.ws.take (z.cur.sk.ws.length-1)).take z.f.base⟩;rw[ht3.ws,show z.cur.sk.ws.length=z.cur.sk.live from Sk.len hz.curOk];rfl
  unfold Vm.ret;show Vm.push E.V (z.top 1) (SL.tk _,E.abs z.e)=Vm.push E.V (Vm.last z.tk) (Vm.setCur z.tk {Vm.cur z.tk with fr:=(Vm.cur z.tk).fr.take ((Vm.cur z.tk).fr.length-1),ws:=((Vm.cur z.tk).ws.take ((Vm.cur z.tk).ws.length-1)).take (Vm.topF (Vm.cur z.tk)).base},E.abs z.e);rw[hz.last,SL.tk_cur,hz.cur,e3]
 ·have hc:=end_is p z hz hi.size (hi.fin h1)
  repeat(refine Jy ?_;try first|intro ao cap|intro b)
  (refine Jc ?_;refine OpT.call0_ (spec:=hc) (r:=fun w=>Reads.any (tk) E.rexcl .nil) (k:=?_);intro s hs;(refine Jn ?_))
  repeat(refine Jy ?_;try first|intro ao cap|intro b)
  (refine End.done0'_ (s) (hp:=?_));refine⟨hs.wf,hs.two.trans ?_⟩;unfold Vm.exec;simp[h1]
end
section
attribute [local irreducible] Run Cod End OpT Still RunQ RunS RunT Fn PutOk
variable{E:EnvM}
set_option maxHeartbeats 1000000 in
theorem units2_is(p:Pl)(z:SL E)(hz:z.Wf)(i:ImgM.Ins)(hi:CanI p.m z i)(h1:i.op=31):
  Fn Tryz.prog 50 #[ptr p.tb,insV i] [md p.m,E.rc] (TM p z) (σ:=SL E) (Gives z (Vm.exec E.V p.m.mdl i z.two)) (fun _=> .tuple #[]) (fun z'=>TM p z'):=by
 have he:E.okk z.e:=⟨hz.env,by have:=hi.size;omega⟩;have e0:Vm.exec E.V p.m.mdl i z.two=Vm.yieldU E.V z.two:=by unfold Vm.exec;simp[h1]
 rw[e0];obtain⟨c1,j,hup,hne⟩:=hi.yld h1;have hub:=hz.up _ hz.curMem;rw[hup]at hub;have hlt:=hz.upl _ hz.curMem j hup;have hcc:ccM z.cur=cc z.cur.cb (z.cur.st:Int) (ptr (z.bs.getD j 0)) (.slice z.cur.fo z.cur.fr.length z.cur.fc) z.cur.sk.sb:=by unfold ccM;rw[hub];rfl
 refine JE [ptr p.tb,insV i] Tryz.func50 Tryz.ntmps50 fun w S=>?_
 (refine Jn ?_);unfold TM;rw[hcc]
 repeat(refine Jy ?_;try first|intro ao cap|intro b)
 (refine JQ (pop_is' (z.F p) z.st z.tr (z.cur.st:Int) (ptr (z.bs.getD j 0)) (.slice z.cur.fo z.cur.fr.length z.cur.fc) E.mailV (toldV E.told) z.cur.sk hz.curOk c1) ?_;intro s hs;(refine Jn ?_));obtain⟨k1,rfl⟩:∃x,x=s:=⟨_,rfl⟩;have ht:=hs
 repeat(refine Jy ?_;try first|intro ao cap|intro b)
 rw[hz.bsGet hlt hne];apply Run.imp' (fun w hm=>Mem.swap1 {z.cur with st:=1,up:=none,upb:=none,sk:=k1} hm (tk) (tks) hz.now hlt hne);have hd:=hz.othMem hlt hne;have hw1:(z.go {z.cur with st:=1,up:=none,upb:=none,sk:=k1} j (z.oth.getD j default)).Wf:=hz.go hlt hne ⟨rfl,ht.ok,rfl,fun i h=>by simp at h⟩ ⟨rfl,hz.sk _ hd,hz.up _ hd,hz.upl _ hd⟩;(refine Jc ?_;refine OpT.call0_ (spec:=push_is' E (SL.F p (z.go {z.cur with st:=1,up:=none,upb:=none,sk:=k1} j (z.oth.getD j default))) z.st z.tr z.e he ((z.oth.getD j default).st:Int) (ptrO (z.oth.getD j default).upb) (.slice (z.oth.getD j default).fo (z.oth.getD j default).fr.length (z.oth.getD j default).fc) (z.oth.getD j default).sk (hz.sk _ hd) (z.top 1)) (r:=fun w=>Reads.any (tk) E.rexcl .nil) (k:=?_);intro s hs;(refine Jn ?_));obtain⟨t1,t2⟩:=pushed hw1 hs
 repeat(refine Jy ?_;try first|intro ao cap|intro b)
 (refine End.done0'_ (((z.go {z.cur with st:=1,up:=none,upb:=none,sk:=k1} j (z.oth.getD j default)).put s)) (hp:=?_));refine⟨t1,t2.trans ?_⟩;obtain⟨p1,p2⟩:=popped hz ht;unfold Vm.yieldU;have e4:Vm.cur (Vm.drop 1 z.tk)=({z.cur with sk:=k1}:CoL).abs:=by rw[←p2];exact p1.cur
 show Vm.push E.V (z.top 1) (SL.tk _,E.abs z.e)=Vm.push E.V (Vm.last z.tk) ({Vm.setCur (Vm.drop 1 z.tk) {Vm.cur (Vm.drop 1 z.tk)with st:=1,up:=none}with now:=(Vm.cur (Vm.drop 1 z.tk)).up.getD 0},E.abs z.e);rw[hz.last,SL.go_tk' z _ hlt hne,e4,←p2,show(z.sk k1).tk=Vm.setCur z.tk (CoL.abs {z.cur with sk:=k1})from SL.tk_cur z _,Vm.set_set,show(CoL.abs {z.cur with sk:=k1}).up=some j from hup];rfl
set_option maxHeartbeats 1000000 in
theorem units3_is(p:Pl)(z:SL E)(hz:z.Wf)(i:ImgM.Ins)(hi:CanI p.m z i)(h1:i.op=30):
  Fn Tryz.prog 50 #[ptr p.tb,insV i] [md p.m,E.rc] (TM p z) (σ:=SL E) (Gives z (Vm.exec E.V p.m.mdl i z.two)) (fun _=> .tuple #[]) (fun z'=>TM p z'):=by
 have he:E.okk z.e:=⟨hz.env,by have:=hi.size;omega⟩;have e0:Vm.exec E.V p.m.mdl i z.two=Vm.resumeU E.V z.two:=by unfold Vm.exec;simp[h1]
 rw[e0];obtain⟨c1,c2,c3,c4,c5⟩:=hi.res h1;obtain⟨q,hq⟩:=JI c2;rw[hq]at c3 c5;simp only[Jj,Int.ofNat_eq_natCast]at c3 c5 hq;refine JE [ptr p.tb,insV i] Tryz.func50 Tryz.ntmps50 fun w S=>?_
 (refine Jn ?_)
 repeat(refine Jy ?_;try first|intro ao cap|intro b)
 apply Cod.draw 11 ([tkM p z,csM z]) (by kernel_rfl) 12 rfl;refine JR 0 ?_;refine JR 6 ?_;refine JR 2 ?_;refine JR 3 ?_;refine JR 4 ?_;refine JR 5 ?_;(refine JT 1 ?_;refine JK (pop_is' (z.F p) z.st z.tr (z.cur.st:Int) (ptrO z.cur.upb) (.slice z.cur.fo z.cur.fr.length z.cur.fc) E.mailV (toldV E.told) z.cur.sk hz.curOk (by omega)) ?_;intro s hs;refine JG ?_;(refine Jn ?_));obtain⟨k1,rfl⟩:∃x,x=s:=⟨_,rfl⟩;have ht:=hs;have hlv:k1.live=z.cur.sk.live-1:=by have h:=ht.live;have h2:=Sk.len hz.curOk;rw[List.length_take]at h;omega
 (refine JT 7 ?_;refine JK (pop_is' (z.F p) z.st z.tr (z.cur.st:Int) (ptrO z.cur.upb) (.slice z.cur.fo z.cur.fr.length z.cur.fc) E.mailV (toldV E.told) k1 ht.ok (by omega)) ?_;intro s hs;refine JG ?_;(refine Jn ?_));obtain⟨k2,rfl⟩:∃x,x=s:=⟨_,rfl⟩;have ht2:=hs;have hv2:k1.ws.getD (k1.live-1) 0=(q:Int):=by
  rw[←hq,ht.ws,hlv];show(z.cur.sk.ws.take (z.cur.sk.live-1)).getD (z.cur.sk.live-1-1) 0=z.cur.sk.ws.getD (z.cur.sk.live-2) 0;rw[Jd,Jd,List.getElem?_take,if_pos (by omega),Nat.sub_sub]
 rw[hv2];have hqb:q<z.bs.length:=by rw[hz.len];exact c3
 refine JR 8 ?_;refine JR 9 ?_;refine JR 10 ?_;refine RunT.one_ 11 (h:=OpT.val_ (k:=And.intro gud ?_));(apply RunT.done;kernel_rfl);obtain⟨p1,p2⟩:=popped hz ht;obtain⟨p3,p4⟩:=popped p1 ht2;have hr:=resume_is p (z.sk k2) p3 hi.size q c3 (z.top 1) c4 c5
 repeat(refine Jy ?_;try first|intro ao cap|intro b)
 (refine Jc ?_;refine OpT.call0_ (spec:=hr) (r:=fun w=>Reads.any (tk) E.rexcl .nil) (k:=?_);intro s hs;(refine Jn ?_))
 repeat(refine Jy ?_;try first|intro ao cap|intro b)
 (refine End.done0'_ (s) (hp:=?_));refine⟨hs.wf,hs.two.trans ?_⟩;rw[resumeU_eq];show resR E.V q (z.top 1) ((z.sk k2).tk,E.abs z.e)=resR E.V (Vm.last (Vm.drop 1 z.tk)).toNat (Vm.last z.tk) (Vm.drop 1 (Vm.drop 1 z.tk),E.abs z.e);rw[←p2,hz.last,p1.last,←p4];show _=resR E.V (k1.ws.getD (k1.live-1) 0).toNat _ _;rw[hv2];rfl
end
section
attribute [local irreducible] Run Cod End OpT Still RunQ RunS RunT Fn PutOk
variable{E:EnvM}
theorem out_perm{s t:List CoL}{d:CoL}:((s ++d::t).flatMap coM).Perm (coM d ++(s ++t).flatMap coM):=by
 have:=(List.perm_middle (a:=d) (l₁:=s) (l₂:=t)).flatMap_right coM;simpa only[List.flatMap_cons]using this
theorem Mem.out{w:World}{L L':List Chunk}{l s t:List CoL}{d:CoL}(h:Mem w L)(tk:Take (bagM l) L L')(e:l=s ++d::t):Mem w (ccM d::frM d::blk d.sk.sb (skC d.sk) 169::arr (some ⟨d.sk.lb,0,none⟩) d.sk.l.length d.sk.l.length 2 i64c d.sk.l::bagM (s ++t)::L'):=by
 subst e;exact Mem.bagOut (ds:=coM d) (es:=(s ++t).flatMap coM) h tk out_perm
theorem Mem.in_{w:World}{L L' F:List Chunk}{l s t:List CoL}{d:CoL}(h:Mem w L)(tk:Take (bagM (s ++t)) L L')(t2:Takes (coM d) L' F)(e:l=s ++d::t):Mem w (bagM l::F):=by
 subst e;exact Mem.bagIn (es:=(s ++t).flatMap coM) (ds:=coM d) h tk t2 out_perm (coM_excl d)
theorem SL.Wf.inBag{z:SL E}(hz:z.Wf){q:Nat}(hq:q<z.oth.length)(hne:z.now≠q):∃s t,z.oth.eraseIdx z.now=s ++z.oth.getD q default::t:=by
 refine List.append_of_mem ?_;rw[List.mem_eraseIdx_iff_getElem?];refine⟨q,fun e=>hne e.symm,?_⟩;rw[Je hq,Jd,Je hq];rfl
set_option maxHeartbeats 1000000 in
theorem units4_is(p:Pl)(z:SL E)(hz:z.Wf)(i:ImgM.Ins)(hi:CanI p.m z i)(h1:i.op=32):
  Fn Tryz.prog 50 #[ptr p.tb,insV i] [md p.m,E.rc] (TM p z) (σ:=SL E) (Gives z (Vm.exec E.V p.m.mdl i z.two)) (fun _=> .tuple #[]) (fun z'=>TM p z'):=by
 have he:E.okk z.e:=⟨hz.env,by have:=hi.size;omega⟩;have e0:Vm.exec E.V p.m.mdl i z.two=Vm.aliveU E.V z.two:=by unfold Vm.exec;simp[h1]
 rw[e0];obtain⟨c1,c2,c3⟩:=hi.alv h1;obtain⟨q,hq⟩:=JI c2;rw[hq]at c3;simp only[Jj,Int.ofNat_eq_natCast]at c3 hq;have hqb:q<z.bs.length:=by rw[hz.len];exact c3
 have hq':z.cur.sk.ws.getD (z.cur.sk.live-1) 0=(q:Int):=hq;have hend:∀(k1:Sk),SkTo z.cur.sk k1 (z.cur.sk.ws.take (z.cur.sk.live-1))→Vm.aliveU E.V z.two=Vm.push E.V (Opt.yes (!decide ((z.all.getD q default).st=3))) (z.sk k1).two:=fun k1 ht=>by
  obtain⟨p1,p2⟩:=popped hz ht;unfold Vm.aliveU;show Vm.push E.V (Opt.yes (!decide (((Vm.drop 1 z.tk).cs.getD (Vm.last z.tk).toNat default).st=3))) (Vm.drop 1 z.tk,E.abs z.e)=_;rw[←p2,hz.last,hq',Jj,p1.csGet c3];have e5:((z.sk k1).all.getD q default).abs.st=(z.all.getD q default).st:=by
   by_cases hqn:z.now=q
   ·subst hqn;rw[hz.curGet,p1.curGet];rfl
   ·rw[hz.oth hqn,p1.oth hqn];rfl
  rw[e5];rfl
 refine JE [ptr p.tb,insV i] Tryz.func50 Tryz.ntmps50 fun w S=>?_
 (refine Jn ?_)
 repeat(refine Jy ?_;try first|intro ao cap|intro b)
 by_cases hqn:z.now=q
 ·apply Cod.draw 14 ([tkM p z,csM z]) (by kernel_rfl) 15 rfl;refine JR 0 ?_;refine JR 1 ?_;refine JR 2 ?_;refine JR 3 ?_;refine JR 4 ?_;refine JR 5 ?_;(refine JT 6 ?_;refine JK (pop_is' (z.F p) z.st z.tr (z.cur.st:Int) (ptrO z.cur.upb) (.slice z.cur.fo z.cur.fr.length z.cur.fc) E.mailV (toldV E.told) z.cur.sk hz.curOk c1) ?_;intro s hs;refine JG ?_;(refine Jn ?_));obtain⟨k1,rfl⟩:∃x,x=s:=⟨_,rfl⟩;have ht:=hs;rw[hq'];(refine JT 7 ?_;(first|refine Jw ?_|(refine Jb ?_;intro b)|(refine Ja ?_;intro ao cap));refine JG ?_);(refine JT 8 ?_;(first|refine Jw ?_|(refine Jb ?_;intro b)|(refine Ja ?_;intro ao cap));refine JG ?_);have hcb:z.bs.getD q default=z.cur.cb:=by rw[hz.curCb,hqn];rfl
  rw[hcb];(refine JT 9 ?_;(first|refine Jw ?_|(refine Jb ?_;intro b)|(refine Ja ?_;intro ao cap));refine JG ?_);(refine JT 10 ?_;(first|refine Jw ?_|(refine Jb ?_;intro b)|(refine Ja ?_;intro ao cap));refine JG ?_);(refine JT 11 ?_;(first|refine Jw ?_|(refine Jb ?_;intro b)|(refine Ja ?_;intro ao cap));refine JG ?_);(refine JT 12 ?_;(first|refine Jw ?_|(refine Jb ?_;intro b)|(refine Ja ?_;intro ao cap));refine JG ?_);(refine JT 13 ?_;refine OpT.call0_ (spec:=truth_is _) (k:=?_);intro s hs;refine JG ?_;(refine Jn ?_));rw[show decide ((z.cur.st:Int)=3)=decide (z.cur.st=3)from decide_eq_decide.2 (by omega)];(refine JT 14 ?_;refine OpT.call0_ (spec:=push_is' E (z.F p) z.st z.tr z.e he (z.cur.st:Int) (ptrO z.cur.upb) (.slice z.cur.fo z.cur.fr.length z.cur.fc) k1 ht.ok (Opt.yes (!decide (z.cur.st=3)))) (r:=fun w=>Reads.any (tk) E.rexcl .nil) (k:=?_);intro s hs;refine JG ?_;(refine Jn ?_));(apply RunT.done;kernel_rfl);obtain⟨p1,p2⟩:=popped hz ht;obtain⟨t1,t2⟩:=pushed p1 hs
  repeat(refine Jy ?_;try first|intro ao cap|intro b)
  (refine End.done0'_ (((z.sk k1).put s)) (hp:=?_));refine⟨t1,t2.trans ?_⟩;rw[hend k1 ht,←hqn,hz.curGet]
 ·obtain⟨ls,lt,hb⟩:=hz.inBag c3 hqn;apply Cod.imp (fun w hm=>Mem.out hm (tk) hb);obtain⟨d,hd⟩:∃d,d=z.oth.getD q default:=⟨_,rfl⟩;have hcb:z.bs.getD q default=d.cb:=by rw[hd];exact hz.bsGet c3 hqn
  rw[←hd]at hb⊢;apply Cod.draw 14 ([tkM p z,csM z]) (by kernel_rfl) 15 rfl;refine JR 0 ?_;refine JR 1 ?_;refine JR 2 ?_;refine JR 3 ?_;refine JR 4 ?_;refine JR 5 ?_;(refine JT 6 ?_;refine JK (pop_is' (z.F p) z.st z.tr (z.cur.st:Int) (ptrO z.cur.upb) (.slice z.cur.fo z.cur.fr.length z.cur.fc) E.mailV (toldV E.told) z.cur.sk hz.curOk c1) ?_;intro s hs;refine JG ?_;(refine Jn ?_));obtain⟨k1,rfl⟩:∃x,x=s:=⟨_,rfl⟩;have ht:=hs;rw[hq'];(refine JT 7 ?_;(first|refine Jw ?_|(refine Jb ?_;intro b)|(refine Ja ?_;intro ao cap));refine JG ?_);(refine JT 8 ?_;(first|refine Jw ?_|(refine Jb ?_;intro b)|(refine Ja ?_;intro ao cap));refine JG ?_);rw[hcb];(refine JT 9 ?_;(first|refine Jw ?_|(refine Jb ?_;intro b)|(refine Ja ?_;intro ao cap));refine JG ?_);(refine JT 10 ?_;(first|refine Jw ?_|(refine Jb ?_;intro b)|(refine Ja ?_;intro ao cap));refine JG ?_);(refine JT 11 ?_;(first|refine Jw ?_|(refine Jb ?_;intro b)|(refine Ja ?_;intro ao cap));refine JG ?_);(refine JT 12 ?_;(first|refine Jw ?_|(refine Jb ?_;intro b)|(refine Ja ?_;intro ao cap));refine JG ?_);(refine JT 13 ?_;refine OpT.call0_ (spec:=truth_is _) (k:=?_);intro s hs;refine JG ?_;(refine Jn ?_));rw[show decide ((d.st:Int)=3)=decide (d.st=3)from decide_eq_decide.2 (by omega)];(refine JT 14 ?_;refine OpT.call0_ (spec:=push_is' E (z.F p) z.st z.tr z.e he (z.cur.st:Int) (ptrO z.cur.upb) (.slice z.cur.fo z.cur.fr.length z.cur.fc) k1 ht.ok (Opt.yes (!decide (d.st=3)))) (r:=fun w=>Reads.any (tk) E.rexcl .nil) (k:=?_);intro s hs;refine JG ?_;(refine Jn ?_));(apply RunT.done;kernel_rfl);obtain⟨p1,p2⟩:=popped hz ht;obtain⟨t1,t2⟩:=pushed p1 hs
  repeat(refine Jy ?_;try first|intro ao cap|intro b)
  apply End.imp (fun w hm=>Mem.in_ hm (tk) (tks) hb);(refine End.done0'_ (((z.sk k1).put s)) (hp:=?_));refine⟨t1,t2.trans ?_⟩;rw[hend k1 ht,hz.oth hqn,hd]
end
section
attribute [local irreducible] Run Cod End OpT Still RunQ RunS RunT Fn PutOk
variable{E:EnvM}
abbrev SL.more(z:SL E)(ao:Option Addr)(cap:Nat)(c:CoL)(e:E.μ):SL E:={z with co:=ao,ccap:=cap,bs:=z.bs ++[c.cb],oth:=z.oth ++[c],e:=e}
theorem SL.more_all{z:SL E}(hz:z.Wf)(ao:Option Addr)(cap:Nat)(c:CoL)(e:E.μ):(z.more ao cap c e).all=z.all ++[c]:=by
 unfold SL.all;exact List.set_append_left _ _ hz.now
theorem getD_app_l{α:Type}{l l':List α}{k:Nat}{d:α}(h:k<l.length):(l ++l').getD k d=l.getD k d:=by
 rw[Jd,Jd,List.getElem?_append_left h]
theorem SL.Wf.more{z:SL E}(hz:z.Wf){ao:Option Addr}{cap:Nat}{c:CoL}{e:E.μ}(h30:z.oth.length≤30)(he:E.ok e)(h1:c.up=none)(h2:c.upb=none)(h3:c.sk.Ok):(z.more ao cap c e).Wf:=by
 have hall:=SL.more_all hz ao cap c e;have hlen:=z.allLen;refine⟨by simp only[Jl];have:=hz.now;omega,by simp only[Jl,JW,List.length_nil];rw[hz.len],by simp only[Jl,JW,List.length_nil];omega,fun i hi=>?_,fun x hx=>?_,fun x hx j hj=>?_,fun x hx=>?_,he⟩
 ·simp only[Jl,JW,List.length_nil]at hi;rw[hall];show _=(z.bs ++[c.cb]).getD i 0
  by_cases hlt:i<z.oth.length
  ·rw[getD_app_l (by omega),getD_app_l (by rw[hz.len];exact hlt)];exact hz.at_ i hlt
  ·obtain rfl:i=z.oth.length:=by omega
   rw[Jd,Jd,List.getElem?_append_right (by omega),List.getElem?_append_right (by rw[hz.len];omega),hlen,hz.len];simp
 ·rw[hall]at hx;rcases List.mem_append.1 hx with hx|hx
  ·rw[hz.up x hx]
   cases hu:x.up with
   |none=>rfl
   |some j=>
    have:=hz.upl x hx j hu;show some _=some ((z.bs ++[c.cb]).getD j 0);rw[getD_app_l (by rw[hz.len];exact this)]
  ·obtain rfl:=List.mem_singleton.1 hx;rw[h1,h2];rfl
 ·rw[hall]at hx;show j<(z.oth ++[c]).length;rw[Jl];rcases List.mem_append.1 hx with hx|hx
  ·have:=hz.upl x hx j hj;omega
  ·obtain rfl:=List.mem_singleton.1 hx;rw[h1]at hj;cases hj
 ·rw[hall]at hx;rcases List.mem_append.1 hx with hx|hx
  ·exact hz.sk x hx
  ·obtain rfl:=List.mem_singleton.1 hx;exact h3
theorem Mem.addIn{w:World}{L L' F:List Chunk}{l:List CoL}{k:Nat}{d:CoL}(h:Mem w L)(tk:Take (bagM (l.eraseIdx k)) L L')(t2:Takes (coM d) L' F)(hk:k<l.length):Mem w (bagM ((l ++[d]).eraseIdx k)::F):=by
 rw[List.eraseIdx_append_of_lt_length hk];exact Mem.in_ (s:=l.eraseIdx k) (t:=[]) (d:=d) h (by rw[List.append_nil];exact tk) t2 rfl
set_option maxHeartbeats 1000000 in
theorem units5_is(p:Pl)(z:SL E)(hz:z.Wf)(i:ImgM.Ins)(hi:CanI p.m z i)(h1:i.op=29):
  Fn Tryz.prog 50 #[ptr p.tb,insV i] [md p.m,E.rc] (TM p z) (σ:=SL E) (Gives z (Vm.exec E.V p.m.mdl i z.two)) (fun _=> .tuple #[]) (fun z'=>TM p z'):=by
 have he:E.okk z.e:=⟨hz.env,by have:=hi.size;omega⟩;have e0:Vm.exec E.V p.m.mdl i z.two=Vm.startU E.V p.m.mdl i.a.toNat z.two:=by unfold Vm.exec;simp[h1]
 rw[e0];obtain⟨c1,c2,c3,c4,c5,c6,c7⟩:=hi.call (.inr h1);obtain⟨u,hiu⟩:=JI c1;have hiu:i.a=(u:Int):=hiu;have hu':i.a.toNat=u:=by rw[hiu];rfl
 rw[hu']at c2 c3 c4 c5 c6⊢;obtain⟨P,hP⟩:=JI c3;have hP':(p.m.us.getD u default).u.params.toNat=P:=by rw[hP];rfl
 rw[hP']at c4 c5;have hpP:(p.m.us.getD u default).u.params=(P:Int):=hP;have hlenA:(z.cur.sk.ws.drop (z.cur.sk.live-P)).length=P:=by have h2:=Sk.len hz.curOk;rw[List.length_drop];omega
 refine JE [ptr p.tb,insV i] Tryz.func50 Tryz.ntmps50 fun w S=>?_
 (refine Jn ?_)
 repeat(refine Jy ?_;try first|intro ao cap|intro b)
 rw[hu',hpP];(refine JQ (args_is' (z.F p) z.st z.tr (z.cur.st:Int) (ptrO z.cur.upb) (.slice z.cur.fo z.cur.fr.length z.cur.fc) E.mailV (toldV E.told) z.cur.sk hz.curOk P c4) ?_;intro s hs;(refine Jn ?_));obtain⟨k1,ao1,cap1⟩:=s;have ht:SkTo z.cur.sk k1 _:=hs;obtain⟨p1,p2⟩:=popped hz ht
 by_cases h30:30<z.bs.length
 ·repeat(refine Jy ?_;try first|intro ao cap|intro b)
  (refine Jc ?_;refine OpT.call0_ (spec:=trap_is E (z.F p) z.st z.tr z.e he 5) (r:=fun w=>Reads.any (tk) E.rexcl .nil) (k:=?_);intro s hs;(refine Jn ?_));obtain⟨t1,t2⟩:=trapped p1 hs
  repeat(refine Jy ?_;try first|intro ao cap|intro b)
  (refine End.done0_ (((z.sk k1).thr s.1 s.2.1 s.2.2)) (hp:=?_));refine⟨t1,t2.trans ?_⟩;unfold Vm.startU;dsimp only;have e1:(Vm.unt p.m.mdl u).params.toNat=P:=by unfold Vm.unt;rw[ML.unit_at];exact hP'
  have e2:(Vm.drop P z.two.1).cs.length=z.bs.length:=by
   show(Vm.drop P z.tk).cs.length=_;rw[←p2,hz.len];show((z.sk k1).all.map _).length=_;rw[Jf,SL.allLen]
  rw[e1,e2,if_pos h30];show Vm.trap E.V 5 ((z.sk k1).tk,E.abs z.e)=Vm.trap E.V 5 (Vm.drop P z.tk,E.abs z.e);rw[p2]
 ·repeat(refine Jy ?_;try first|intro ao cap|intro b)
  apply Cod.draw 14 ([blk b (insC i) 126,blk p.tb (tcl p.mb E.mailV (.slice z.co z.bs.length z.ccap) z.cur.cb z.st z.bx z.tr (.slice z.oo z.out.length z.oc) (toldV E.told)) 65]) (by kernel_rfl) 15 rfl;refine JR 0 ?_;refine JR 1 ?_;refine JR 2 ?_;refine JR 3 ?_;refine JR 4 ?_;refine JR 5 ?_;refine JR 6 ?_;refine JR 7 ?_;refine JR 8 ?_;rw[hiu];have hbg:=begin_is p.tb p.mb p.m [E.mailV, .slice z.co z.bs.length z.ccap,ptr z.cur.cb, .int .i64 z.st, .int .i64 z.bx, .int .i64 z.tr, .slice z.oo z.out.length z.oc,toldV E.told] u c2 ao1 cap1 (z.cur.sk.ws.drop (z.cur.sk.live-P)) c6 (by omega);rw[hlenA]at hbg;(refine JT 9 ?_;refine JK (hbg) ?_;intro s hs;refine JG ?_;(refine Jn ?_));obtain⟨c,rfl⟩:∃x,x=s:=⟨_,rfl⟩;have hbe:=hs;have w4:IntKind.i64.wrap (((z.bs.length+1:Nat):Int)-1)=(z.bs.length:Int):=by rw[wrap_i64_in (by omega)];omega
  (refine JT 10 ?_;(first|refine Jw ?_|(refine Jb ?_;intro b)|(refine Ja ?_;intro ao cap));refine JG ?_);(refine JT 11 ?_;refine OpT.append1_ (a:=c.cb) (k:=?_);intro ao2 cap2;refine JG ?_);refine JR 12 ?_;refine JR 13 ?_;(refine JT 14 ?_;(first|refine Jw ?_|(refine Jb ?_;intro b)|(refine Ja ?_;intro ao cap));refine JG ?_);(apply RunT.done;kernel_rfl)
  repeat(refine Jy ?_;try first|intro ao cap|intro b)
  rw[hiu];(refine Jc ?_;refine OpT.call0_ (spec:=tell_is E ⟨p.tb,p.mb, .slice ao2 (z.bs.length+1) cap2,z.cur.cb,z.bx, .slice z.oo z.out.length z.oc⟩ z.st z.tr z.e he 6 0 (u:Int)) (r:=fun w=>Reads.any (tk) E.rexcl .nil) (k:=?_);intro s hs;(refine Jn ?_));obtain⟨e,rfl⟩:∃x,x=s:=⟨_,rfl⟩;have hte:=hs
  repeat(refine Jy ?_;try first|intro ao cap|intro b)
  have hw3:((z.sk k1).more ao2 cap2 c e).Wf:=p1.more (by show z.oth.length≤30;rw[←hz.len];omega) hte.1 hbe.up hbe.upb hbe.ok;(refine Jc ?_;refine OpT.call0_ (spec:=push_is' E ⟨p.tb,p.mb, .slice ao2 (z.bs.length+1) cap2,z.cur.cb,z.bx, .slice z.oo z.out.length z.oc⟩ z.st z.tr e ⟨hte.1,by rw[hte.2];have h5:=E.sTell (E.abs z.e) (6,0,(u:Int));have h6:=hi.size;omega⟩ (z.cur.st:Int) (ptrO z.cur.upb) (.slice z.cur.fo z.cur.fr.length z.cur.fc) k1 ht.ok (z.bs.length:Int)) (r:=fun w=>Reads.any (tk) E.rexcl .nil) (k:=?_);intro s hs;(refine Jn ?_));obtain⟨t1,t2⟩:=pushed hw3 hs
  repeat(refine Jy ?_;try first|intro ao cap|intro b)
  apply End.imp (fun w hm=>Mem.addIn (d:=c) hm (tk) (tks) hz.now);(refine End.done0'_ ((SL.put ((z.sk k1).more ao2 cap2 c e) s)) (ht:=Jx) (hp:=?_));refine⟨t1,t2.trans ?_⟩;unfold Vm.startU;dsimp only;have e1:(Vm.unt p.m.mdl u).params.toNat=P:=by unfold Vm.unt;rw[ML.unit_at];exact hP'
  have e2:(Vm.drop P z.two.1).cs.length=z.bs.length:=by
   show(Vm.drop P z.tk).cs.length=_;rw[←p2,hz.len];show((z.sk k1).all.map _).length=_;rw[Jf,SL.allLen]
  have e3:Vm.begin p.m.mdl u ((Vm.cur z.tk).ws.drop ((Vm.cur z.tk).ws.length-P))=c.abs:=by
   have el:(Vm.unt p.m.mdl u).locals.length=(p.m.us.getD u default).u.locals.length:=by unfold Vm.unt;rw[ML.unit_at]
   have ew:(Vm.cur z.tk).ws.length=z.cur.sk.live:=hz.wsLen;unfold Vm.begin CoL.abs;rw[hbe.st,hbe.up,hbe.fr,hbe.ws,el,ew,hz.cur];rfl
  rw[e1,e2,if_neg h30];show Vm.push E.V _ (SL.tk _,E.abs e)=Vm.push E.V _ ({Vm.drop P z.tk with cs:=(Vm.drop P z.tk).cs ++[Vm.begin p.m.mdl u ((Vm.cur z.tk).ws.drop ((Vm.cur z.tk).ws.length-P))]},E.V.tell (E.abs z.e) (6,0,(u:Int)));rw[e3,←p2,←hte.2];have e4:((z.sk k1).more ao2 cap2 c e).tk={(z.sk k1).tk with cs:=(z.sk k1).tk.cs ++[c.abs]}:=by
   unfold SL.tk;rw[SL.more_all p1];simp only[Jq,List.map_cons,List.map_nil]
  rw[e4]
end
section
attribute [local irreducible] Run Cod End OpT Still RunQ RunS RunT Fn PutOk
variable{E:EnvM}
theorem units_is(p:Pl)(z:SL E)(hz:z.Wf)(i:ImgM.Ins)(hi:CanI p.m z i)(h1:i.op=23∨i.op=24∨i.op=25∨(29≤i.op∧i.op≤32)):
  Fn Tryz.prog 50 #[ptr p.tb,insV i] [md p.m,E.rc] (TM p z) (σ:=SL E) (Gives z (Vm.exec E.V p.m.mdl i z.two)) (fun _=> .tuple #[]) (fun z'=>TM p z'):=by
 by_cases h2:i.op=29
 ·exact units5_is p z hz i hi h2
 by_cases h3:i.op=30
 ·exact units3_is p z hz i hi h3
 by_cases h4:i.op=31
 ·exact units2_is p z hz i hi h4
 by_cases h5:i.op=32
 ·exact units4_is p z hz i hi h5
 ·exact units1_is p z hz i hi (by omega)
end
section
theorem Run.only'{P:Program}{ops:Array Oper}{Q:Exit→Act→World→Prop}{N:Nat}{l:List Oper}{E:Env}{L F:List Chunk}(cs:List Chunk)(t:Takes cs L F)(h:Run P ops Q N l E cs):Run P ops Q N l E L:=fun a w hs hm=>h a w hs (hm.takes t).left
variable{E:EnvM}{z:SL E}{m:ML}
theorem SL.Wf.ins(hz:z.Wf)(m:ML):Vm.insT m.mdl z.tk=insL m z:=by
 unfold Vm.insT Vm.unt;rw[hz.topF,ML.unit_at]
abbrev SL.look(z:SL E)(m:ML):SL E:={z with st:=if z.st≤3 then wst E (insL m z) (E.abs z.e)else z.st,bx:=if z.st≤3 then wbx E (insL m z) (E.abs z.e)else z.bx}
theorem SL.Wf.look(hz:z.Wf)(m:ML):(z.look m).Wf:=⟨hz.now,hz.len,hz.few,hz.at_,hz.up,hz.upl,hz.sk,hz.env⟩
theorem SL.Wf.look_two(hz:z.Wf)(m:ML):(z.look m).two=Vm.look E.V m.mdl z.two:=by
 unfold Vm.look;have e1:z.two.1.st=z.st:=rfl;have e2:Vm.insT m.mdl z.two.1=insL m z:=hz.ins m
 by_cases h3:z.st≤3
 ·rw[e1,if_pos h3,e2];unfold Vm.waits SL.two SL.tk;simp only[SL.look,if_pos h3];unfold wst wbx
  by_cases c1:(insL m z).op=26∧E.V.full (E.abs z.e) (insL m z).a.toNat=true
  ·rw[if_pos c1,if_pos c1,if_pos c1];rfl
  ·rw[if_neg c1,if_neg c1,if_neg c1]
   by_cases c2:(insL m z).op=27∧E.V.empty (E.abs z.e) (insL m z).a.toNat=true
   ·rw[if_pos c2,if_pos c2,if_pos c2];rfl
   ·rw[if_neg c2,if_neg c2,if_neg c2];rfl
 ·rw[e1,if_neg h3];unfold SL.two SL.tk;simp only[SL.look,if_neg h3]
end
section
attribute [local irreducible] Run Cod End OpT Still RunQ RunS RunT Fn PutOk
variable{E:EnvM}
theorem look_is(p:Pl)(z:SL E)(hz:z.Wf)(hs:z.st≤3→Stands p.m z):
  Fn Tryz.prog 30 #[ptr p.tb] [md p.m,E.rc] [tkM p z,moM p,ccM z.cur,frM z.cur,E.mem z.e] (σ:=Unit) (fun _=>True) (fun _=> .tuple #[]) (fun _=>[tkM p (z.look p.m),moM p,ccM z.cur,frM z.cur,E.mem z.e]):=
 look_is' p z hz.env _ _ (fun h=>⟨if_neg (by omega),if_neg (by omega)⟩) (fun h=>⟨hs h,if_pos h,if_pos h⟩)
set_option maxHeartbeats 1000000 in
theorem step0_is(p:Pl)(z:SL E)(hz:z.Wf)(hs:z.st≤3→Stands p.m z)(h1:(z.look p.m).st≠1):
  Fn Tryz.prog 31 #[ptr p.tb] [md p.m,E.rc] (TM p z) (σ:=SL E) (Gives z (Vm.step E.V p.m.mdl z.two).2) (fun _=> .bool (Vm.step E.V p.m.mdl z.two).1) (fun z'=>TM p z'):=by
 have e0:Vm.step E.V p.m.mdl z.two=(false,(z.look p.m).two):=by
  unfold Vm.step;rw[←hz.look_two p.m];exact if_pos h1
 rw[e0];refine JE [ptr p.tb] Tryz.func31 Tryz.ntmps31 fun w S=>?_
 (refine Jn ?_)
 repeat(refine Jy ?_;try first|intro ao cap|intro b)
 (refine JM (look_is p z hz hs) ?_;intro s hs;(refine Jn ?_))
 repeat(refine Jy ?_;try first|intro ao cap|intro b)
 (refine End.done1_ ((z.look p.m)) (he:=Jv) (hp:=?_));exact⟨hz.look p.m,rfl⟩
structure CanS(m:ML)(z:SL E)(i:ImgM.Ins):Prop where
 some:i.op=4∨i.op=5∨i.op=6∨i.op=7∨i.op=22∨i.op=26∨i.op=28→0<z.cur.sk.live
 two:8≤i.op∧i.op≤20→2≤z.cur.sk.live∧ImgM.In64 (z.top 1)∧ImgM.In64 (z.top 2)
 load:i.op=3→0≤i.a∧z.f.base+i.a.toNat<z.cur.sk.live
 store:i.op=4→0≤i.a∧z.f.base+i.a.toNat<z.cur.sk.live-1
 jump:i.op=21∨i.op=22→0≤i.a
 send:i.op=26→0≤i.a∧i.a.toNat<E.boxes∧E.V.full (E.abs z.e) i.a.toNat=false
 recv:i.op=27→0≤i.a∧i.a.toNat<E.boxes∧E.V.empty (E.abs z.e) i.a.toNat=false
 size:E.size (E.abs z.e)≤1000000
 outs:i.op=28→z.out.length≤1000000
 units:CanI m z i
 op:1≤i.op∧i.op≤32
 a64:ImgM.In64 i.a
theorem CanS.okk{m:ML}{z:SL E}{i:ImgM.Ins}(hc:CanS m z i)(hz:z.Wf):E.okk z.e:=⟨hz.env,by have:=hc.size;omega⟩
abbrev SL.moved(z:SL E)(m:ML):SL E:={z.look m with cur:={z.cur with fr:=z.cur.fr.set (z.cur.fr.length-1) ⟨z.f.unit,z.f.pc+1,z.f.base⟩}}
theorem SL.Wf.moved{z:SL E}(hz:z.Wf)(m:ML):(z.moved m).Wf:=(hz.look m).setCur rfl rfl rfl (hz.look m).curOk
theorem SL.Wf.moved_two{z:SL E}(hz:z.Wf)(m:ML):(z.moved m).two=(Vm.setPc ((Vm.topF (Vm.cur (z.look m).tk)).pc+1) (z.look m).tk,E.abs z.e):=by
 unfold Vm.setPc Vm.setTop;rw[(hz.look m).topF,(hz.look m).cur];unfold SL.two;rw[show(z.moved m).tk=Vm.setCur (z.look m).tk (CoL.abs {z.cur with fr:=z.cur.fr.set (z.cur.fr.length-1) ⟨z.f.unit,z.f.pc+1,z.f.base⟩})from SL.tk_cur (z.look m) _];rfl
theorem SL.Wf.step_two{z:SL E}(hz:z.Wf)(m:ML)(h1:(z.look m).st=1):Vm.step E.V m.mdl z.two=(true,Vm.look E.V m.mdl (Vm.exec E.V m.mdl (insL m z) (z.moved m).two)):=by
 unfold Vm.step;rw[←hz.look_two m,hz.moved_two m];have e1:Vm.insT m.mdl (z.look m).two.1=insL m z:=(hz.look m).ins m;dsimp only;rw[e1];exact if_neg (fun h=>h h1)
end
section
attribute [local irreducible] Run Cod End OpT Still RunQ RunS RunT Fn PutOk
variable{E:EnvM}
abbrev After(m:ML)(z:SL E)(i:ImgM.Ins):Prop:=∀z2:SL E,z2.Wf→z2.two=Vm.exec E.V m.mdl i z.two→z2.st≤3→Stands m z2
set_option maxHeartbeats 2000000 in
theorem step1_is(p:Pl)(z:SL E)(hz:z.Wf)(hs:Stands p.m z)(h1:(z.look p.m).st=1)(hpc:z.f.pc≤100000)(hc:CanS p.m (z.moved p.m) (insL p.m z))(ha:After p.m (z.moved p.m) (insL p.m z))(hop:(insL p.m z).op=1∨(insL p.m z).op=2):
  Fn Tryz.prog 31 #[ptr p.tb] [md p.m,E.rc] (TM p z) (σ:=SL E) (Gives z (Vm.step E.V p.m.mdl z.two).2) (fun _=> .bool (Vm.step E.V p.m.mdl z.two).1) (fun z'=>TM p z'):=by
 obtain⟨g1,g2,g3,g4,g5⟩:=id hs;have hl:0<z.cur.fr.length:=JP.2 g1;have w1:IntKind.i64.wrap ((z.cur.fr.length:Int)-1)=((z.cur.fr.length-1:Nat):Int):=by rw[wrap_i64_in (by omega)];omega
 have w2:IntKind.i64.wrap ((z.f.pc:Int)+1)=((z.f.pc+1:Nat):Int):=by rw[wrap_i64_in (by omega)];omega
 refine JE [ptr p.tb] Tryz.func31 Tryz.ntmps31 fun w S=>?_
 (refine Jn ?_)
 repeat(refine Jy ?_;try first|intro ao cap|intro b)
 (refine Jc ?_;refine OpT.call0_ (spec:=look_is p z hz (fun _=>hs)) (r:=fun w=>Jm) (k:=?_);intro s hs;(refine Jn ?_))
 repeat(refine Jy ?_;try first|intro ao cap|intro b)
 apply Cod.draw 21 ([tkM p (z.look p.m),moM p,frM z.cur,md p.m]) (by kernel_rfl) 22 rfl;refine JR 0 ?_;refine JR 1 ?_;refine JR 2 ?_;refine JR 3 ?_;refine JR 4 ?_;refine JR 5 ?_;refine JR 6 ?_;refine JR 7 ?_;refine JR 8 ?_;refine JR 9 ?_;refine JR 10 ?_;refine JR 11 ?_;refine JR 12 ?_;refine JR 13 ?_;refine JR 14 ?_;refine JR 15 ?_;refine JR 16 ?_;refine JR 17 ?_;refine JR 18 ?_;refine JR 19 ?_;(refine JT 20 ?_;(first|refine Jw ?_|(refine Jb ?_;intro b)|(refine Ja ?_;intro ao cap));refine JG ?_);(refine JT 21 ?_;(first|refine Jw ?_|(refine Jb ?_;intro b)|(refine Ja ?_;intro ao cap));refine JG ?_);(apply RunT.done;kernel_rfl)
 repeat(refine Jy ?_;try first|intro ao cap|intro b)
 (apply Run.op;exact rfl;refine OpT.storeE_ (f:=frC) (l:=z.cur.fr) (i:=z.cur.fr.length-1) (off:=1) (vs:=[.int .i64 ((z.f.pc+1:Nat):Int)]) (a':=(⟨z.f.unit,z.f.pc+1,z.f.base⟩:Vm.Fr)) (k:=?_));apply Run.nil;apply End.seqN;obtain⟨ib,rfl⟩:∃x,x=b:=⟨_,rfl⟩;refine Cod.sub [(0,ptr p.tb),(2, .bool false),(3, .pointer (place (sz frC) z.cur.fo (z.cur.fr.length-1) 0)),(4,ptr ib)] (Ju) ?_;have hln:z.cur.fr.length=(z.cur.fr.set (z.cur.fr.length-1) (⟨z.f.unit,z.f.pc+1,z.f.base⟩:Vm.Fr)).length:=by rw[Ji]
 refine Cod.only (old w S::md p.m::E.rc::blk ib (insC (insL p.m z)) 126::TM p (z.moved p.m)) (Jx) ?_;have hpl:place (sz frC) z.cur.fo (z.cur.fr.length-1) 0=place (sz frC) (z.moved p.m).cur.fo ((z.moved p.m).cur.fr.length-1) 0:=by rw[show(z.moved p.m).cur.fr.length=z.cur.fr.length from Ji]
 rw[hpl];have hstep:=hz.step_two p.m h1;rw[hstep];have hz1:=hz.moved p.m;obtain⟨i,hi⟩:∃i,i=insL p.m z:=⟨_,rfl⟩;obtain⟨z1,hz1e⟩:∃z1,z1=z.moved p.m:=⟨_,rfl⟩;rw[←hi,←hz1e]at hc ha⊢;rw[←hz1e]at hz1;rw[←hi]at hop;have hex:∀v,i.op=1∧v=i.n∨i.op=2∧v=i.a→Vm.exec E.V p.m.mdl i z1.two=Vm.push E.V v z1.two:=fun v h=>by
  unfold Vm.exec;rcases h with⟨h,rfl⟩|⟨h,rfl⟩<;>simp[h]
 rcases hop with hop|hop
 ·repeat(refine Jy ?_;try first|intro ao cap|intro b)
  (refine Jc ?_;refine OpT.call0_ (spec:=push_is' E (z1.F p) z1.st z1.tr z1.e (hc.okk hz1) (z1.cur.st:Int) (ptrO z1.cur.upb) (.slice z1.cur.fo z1.cur.fr.length z1.cur.fc) z1.cur.sk hz1.curOk i.n) (r:=fun w=>Reads.any (tk) E.rexcl .nil) (k:=?_);intro s hs;(refine Jn ?_));obtain⟨q,rfl⟩:∃x,x=s:=⟨_,rfl⟩;obtain⟨t1,t2⟩:=pushed hz1 hs;have t3:=t2.trans (hex _ (.inl ⟨hop,rfl⟩)).symm
  repeat(refine Jy ?_;try first|intro ao cap|intro b)
  (refine JM (look_is p (z1.put q) t1 (ha (z1.put q) t1 t3)) ?_;intro s hs;(refine Jn ?_))
  repeat(refine Jy ?_;try first|intro ao cap|intro b)
  (refine End.done1_ ((SL.look (z1.put q) p.m)) (he:=Jv) (hp:=?_));exact⟨t1.look p.m,(t1.look_two p.m).trans (by rw[t3])⟩
 ·repeat(refine Jy ?_;try first|intro ao cap|intro b)
  (refine Jc ?_;refine OpT.call0_ (spec:=push_is' E (z1.F p) z1.st z1.tr z1.e (hc.okk hz1) (z1.cur.st:Int) (ptrO z1.cur.upb) (.slice z1.cur.fo z1.cur.fr.length z1.cur.fc) z1.cur.sk hz1.curOk i.a) (r:=fun w=>Reads.any (tk) E.rexcl .nil) (k:=?_);intro s hs;(refine Jn ?_));obtain⟨q,rfl⟩:∃x,x=s:=⟨_,rfl⟩;obtain⟨t1,t2⟩:=pushed hz1 hs;have t3:=t2.trans (hex _ (.inr ⟨hop,rfl⟩)).symm
  repeat(refine Jy ?_;try first|intro ao cap|intro b)
  (refine JM (look_is p (z1.put q) t1 (ha (z1.put q) t1 t3)) ?_;intro s hs;(refine Jn ?_))
  repeat(refine Jy ?_;try first|intro ao cap|intro b)
  (refine End.done1_ ((SL.look (z1.put q) p.m)) (he:=Jv) (hp:=?_));exact⟨t1.look p.m,(t1.look_two p.m).trans (by rw[t3])⟩
end
attribute [local irreducible] Run Cod End OpT Still RunQ RunS RunT Fn PutOk
variable{E:EnvM}
set_option maxHeartbeats 2000000 in
theorem step2_is(p:Pl)(z:SL E)(hz:z.Wf)(hs:Stands p.m z)(h1:(z.look p.m).st=1)(hpc:z.f.pc≤100000)(hc:CanS p.m (z.moved p.m) (insL p.m z))(ha:After p.m (z.moved p.m) (insL p.m z))(hop:(insL p.m z).op=5∨(insL p.m z).op=6∨(insL p.m z).op=7):
  Fn Tryz.prog 31 #[ptr p.tb] [md p.m,E.rc] (TM p z) (σ:=SL E) (Gives z (Vm.step E.V p.m.mdl z.two).2) (fun _=> .bool (Vm.step E.V p.m.mdl z.two).1) (fun z'=>TM p z'):=by
 obtain⟨g1,g2,g3,g4,g5⟩:=id hs;have hl:0<z.cur.fr.length:=JP.2 g1;have w1:IntKind.i64.wrap ((z.cur.fr.length:Int)-1)=((z.cur.fr.length-1:Nat):Int):=by rw[wrap_i64_in (by omega)];omega
 have w2:IntKind.i64.wrap ((z.f.pc:Int)+1)=((z.f.pc+1:Nat):Int):=by rw[wrap_i64_in (by omega)];omega
 refine JE [ptr p.tb] Tryz.func31 Tryz.ntmps31 fun w S=>?_
 (refine Jn ?_)
 repeat(refine Jy ?_;try first|intro ao cap|intro b)
 (refine Jc ?_;refine OpT.call0_ (spec:=look_is p z hz (fun _=>hs)) (r:=fun w=>Jm) (k:=?_);intro s hs;(refine Jn ?_))
 repeat(refine Jy ?_;try first|intro ao cap|intro b)
 apply Cod.draw 21 ([tkM p (z.look p.m),moM p,frM z.cur,md p.m]) (by kernel_rfl) 22 rfl;refine JR 0 ?_;refine JR 1 ?_;refine JR 2 ?_;refine JR 3 ?_;refine JR 4 ?_;refine JR 5 ?_;refine JR 6 ?_;refine JR 7 ?_;refine JR 8 ?_;refine JR 9 ?_;refine JR 10 ?_;refine JR 11 ?_;refine JR 12 ?_;refine JR 13 ?_;refine JR 14 ?_;refine JR 15 ?_;refine JR 16 ?_;refine JR 17 ?_;refine JR 18 ?_;refine JR 19 ?_;(refine JT 20 ?_;(first|refine Jw ?_|(refine Jb ?_;intro b)|(refine Ja ?_;intro ao cap));refine JG ?_);(refine JT 21 ?_;(first|refine Jw ?_|(refine Jb ?_;intro b)|(refine Ja ?_;intro ao cap));refine JG ?_);(apply RunT.done;kernel_rfl)
 repeat(refine Jy ?_;try first|intro ao cap|intro b)
 (apply Run.op;exact rfl;refine OpT.storeE_ (f:=frC) (l:=z.cur.fr) (i:=z.cur.fr.length-1) (off:=1) (vs:=[.int .i64 ((z.f.pc+1:Nat):Int)]) (a':=(⟨z.f.unit,z.f.pc+1,z.f.base⟩:Vm.Fr)) (k:=?_));apply Run.nil;apply End.seqN;obtain⟨ib,rfl⟩:∃x,x=b:=⟨_,rfl⟩;refine Cod.sub [(0,ptr p.tb),(2, .bool false),(3, .pointer (place (sz frC) z.cur.fo (z.cur.fr.length-1) 0)),(4,ptr ib)] (Ju) ?_;have hln:z.cur.fr.length=(z.cur.fr.set (z.cur.fr.length-1) (⟨z.f.unit,z.f.pc+1,z.f.base⟩:Vm.Fr)).length:=by rw[Ji]
 refine Cod.only (old w S::md p.m::E.rc::blk ib (insC (insL p.m z)) 126::TM p (z.moved p.m)) (Jx) ?_;have hpl:place (sz frC) z.cur.fo (z.cur.fr.length-1) 0=place (sz frC) (z.moved p.m).cur.fo ((z.moved p.m).cur.fr.length-1) 0:=by rw[show(z.moved p.m).cur.fr.length=z.cur.fr.length from Ji]
 rw[hpl];have hstep:=hz.step_two p.m h1;rw[hstep];have hz1:=hz.moved p.m;obtain⟨i,hi⟩:∃i,i=insL p.m z:=⟨_,rfl⟩;obtain⟨z1,hz1e⟩:∃z1,z1=z.moved p.m:=⟨_,rfl⟩;rw[←hi,←hz1e]at hc ha⊢;rw[←hz1e]at hz1;rw[←hi]at hop;have c1:=hc.some (by omega)
 repeat(refine Jy ?_;try first|intro ao cap|intro b)
 rcases hop with hop|hop|hop
 ·repeat(refine Jy ?_;try first|intro ao cap|intro b)
  (refine JQ (pop_is' (z1.F p) z1.st z1.tr (z1.cur.st:Int) (ptrO z1.cur.upb) (.slice z1.cur.fo z1.cur.fr.length z1.cur.fc) E.mailV (toldV E.told) z1.cur.sk hz1.curOk c1) ?_;intro s hs;(refine Jn ?_));obtain⟨k1,rfl⟩:∃x,x=s:=⟨_,rfl⟩;obtain⟨t1,t2⟩:=popped hz1 hs;have t3:(z1.sk k1).two=Vm.exec E.V p.m.mdl i z1.two:=by
   unfold Vm.exec;simp[hop];exact congrArg (fun t=>(t,E.abs z1.e)) t2
  repeat(refine Jy ?_;try first|intro ao cap|intro b)
  (refine JM (look_is p (z1.sk k1) t1 (ha (z1.sk k1) t1 t3)) ?_;intro s hs;(refine Jn ?_))
  repeat(refine Jy ?_;try first|intro ao cap|intro b)
  (refine End.done1_ ((SL.look (z1.sk k1) p.m)) (he:=Jv) (hp:=?_));exact⟨t1.look p.m,(t1.look_two p.m).trans (by rw[t3])⟩
 ·repeat(refine Jy ?_;try first|intro ao cap|intro b)
  (refine JQ (pop_is' (z1.F p) z1.st z1.tr (z1.cur.st:Int) (ptrO z1.cur.upb) (.slice z1.cur.fo z1.cur.fr.length z1.cur.fc) E.mailV (toldV E.told) z1.cur.sk hz1.curOk c1) ?_;intro s hs;(refine Jn ?_));obtain⟨k1,rfl⟩:∃x,x=s:=⟨_,rfl⟩;obtain⟨p1,p2⟩:=popped hz1 hs;have hks:=p1.curOk
  repeat(refine Jy ?_;try first|intro ao cap|intro b)
  (refine Jc ?_;refine OpT.call0_ (spec:=push_is' E (z1.F p) z1.st z1.tr z1.e (hc.okk hz1) (z1.cur.st:Int) (ptrO z1.cur.upb) (.slice z1.cur.fo z1.cur.fr.length z1.cur.fc) k1 hks (IntKind.i64.wrap (0-z1.top 1))) (r:=fun w=>Reads.any (tk) E.rexcl .nil) (k:=?_);intro s hs;(refine Jn ?_));obtain⟨q,rfl⟩:∃x,x=s:=⟨_,rfl⟩;obtain⟨t1,t2⟩:=pushed p1 hs;have t3:((z1.sk k1).put q).two=Vm.exec E.V p.m.mdl i z1.two:=by
   rw[t2];unfold Vm.exec;simp[hop];show Vm.push E.V _ ((z1.sk k1).tk,E.abs z1.e)=Vm.push E.V (IntKind.i64.wrap (-(Vm.last z1.tk))) (Vm.drop 1 z1.tk,E.abs z1.e);rw[p2,hz1.last]
   try simp
  repeat(refine Jy ?_;try first|intro ao cap|intro b)
  (refine JM (look_is p ((z1.sk k1).put q) t1 (ha ((z1.sk k1).put q) t1 t3)) ?_;intro s hs;(refine Jn ?_))
  repeat(refine Jy ?_;try first|intro ao cap|intro b)
  (refine End.done1_ ((SL.look ((z1.sk k1).put q) p.m)) (he:=Jv) (hp:=?_));exact⟨t1.look p.m,(t1.look_two p.m).trans (by rw[t3])⟩
 ·repeat(refine Jy ?_;try first|intro ao cap|intro b)
  (refine JQ (pop_is' (z1.F p) z1.st z1.tr (z1.cur.st:Int) (ptrO z1.cur.upb) (.slice z1.cur.fo z1.cur.fr.length z1.cur.fc) E.mailV (toldV E.told) z1.cur.sk hz1.curOk c1) ?_;intro s hs;(refine Jn ?_));obtain⟨k1,rfl⟩:∃x,x=s:=⟨_,rfl⟩;obtain⟨p1,p2⟩:=popped hz1 hs;have hks:=p1.curOk
  repeat(refine Jy ?_;try first|intro ao cap|intro b)
  (refine Jc ?_;refine OpT.call0_ (spec:=push_is' E (z1.F p) z1.st z1.tr z1.e (hc.okk hz1) (z1.cur.st:Int) (ptrO z1.cur.upb) (.slice z1.cur.fo z1.cur.fr.length z1.cur.fc) k1 hks (IntKind.i64.wrap (1-z1.top 1))) (r:=fun w=>Reads.any (tk) E.rexcl .nil) (k:=?_);intro s hs;(refine Jn ?_));obtain⟨q,rfl⟩:∃x,x=s:=⟨_,rfl⟩;obtain⟨t1,t2⟩:=pushed p1 hs;have t3:((z1.sk k1).put q).two=Vm.exec E.V p.m.mdl i z1.two:=by
   rw[t2];unfold Vm.exec;simp[hop];show Vm.push E.V _ ((z1.sk k1).tk,E.abs z1.e)=Vm.push E.V (IntKind.i64.wrap (1-Vm.last z1.tk)) (Vm.drop 1 z1.tk,E.abs z1.e);rw[p2,hz1.last]
   try simp
  repeat(refine Jy ?_;try first|intro ao cap|intro b)
  (refine JM (look_is p ((z1.sk k1).put q) t1 (ha ((z1.sk k1).put q) t1 t3)) ?_;intro s hs;(refine Jn ?_))
  repeat(refine Jy ?_;try first|intro ao cap|intro b)
  (refine End.done1_ ((SL.look ((z1.sk k1).put q) p.m)) (he:=Jv) (hp:=?_));exact⟨t1.look p.m,(t1.look_two p.m).trans (by rw[t3])⟩
end Go.Proofs.YtjehflelkpacfaaGreat.Vw
