/- Whether a thread is alive, walked. -/
import Derived.Test.YtofckcabpchcmaaGreatDoorM29
set_option linter.unusedVariables false
set_option linter.unusedSimpArgs false
set_option linter.unusedSectionVars false
set_option maxRecDepth 100000
namespace Go.Proofs.YtofckcabpchcmaaGreatDoor
namespace Vw
open Go.RowKit Img
section
attribute [local irreducible] aE aB End aA Still aM aP RunT Fn aO
section
variable{E:cN}
theorem TE{s t:List b9}{d:b9}:((s ++d::t).flatMap gY).Perm (gY d ++(s ++t).flatMap gY):=by
 have:=(uA (a:=d) (l₁:=s) (l₂:=t)).flatMap_right gY;simpa only[vY]using this
theorem Mem.out{w:World}{L L':List Chunk}{l s t:List b9}{d:b9}(h:Mem w L)(tk:Take (kO l) L L')(e:l=s ++d::t):Mem w (iQ d::gF d::aD d.sk.sb (mG d.sk) 236::arr (some ⟨d.sk.lb,0,none⟩) d.sk.l.length d.sk.l.length 2 aT d.sk.l::kO (s ++t)::L'):=by
 subst e;exact Mem.nO (ds:=gY d) (es:=(s ++t).flatMap gY) h tk TE
theorem Mem.RI{w:World}{L L' F:List Chunk}{l s t:List b9}{d:b9}(h:Mem w L)(tk:Take (kO (s ++t)) L L')(t2:aQ (gY d) L' F)(e:l=s ++d::t):Mem w (kO l::F):=by
 subst e;exact Mem.mA (es:=(s ++t).flatMap gY) (ds:=gY d) h tk t2 TE (PG d)
theorem SL.Wf.aBk{z:SL E}(hz:z.Wf){q:Nat}(hq:q<z.oth.length)(hne:z.now≠q):∃s t,z.oth.eraseIdx z.now=s ++z.oth.getD q default::t:=by
 refine List.append_of_mem ?_;rw[List.mem_eraseIdx_iff_getElem?];refine⟨q,fun e=>hne e.symm,?_⟩;rw[Je hq,Jd,Je hq];rfl
set_option maxHeartbeats 1000000 in
theorem aHK(p:Pl)(z:SL E)(hz:z.Wf)(i:ImgM.aY)(hi:vP p.m z i)(h1:i.op=32):
  Fn Tryz.prog 67 #[ptr p.tb,kR i] [md p.m,E.rc] (TM p z) (σ:=SL E) (iN z (Vm.exec E.V p.m.aC i z.two)) (fun _=> .tuple #[]) (fun z'=>TM p z'):=by
 have he:E.iE z.e:=⟨hz.env,by have:=hi.size;omega⟩;have e0:Vm.exec E.V p.m.aC i z.two=Vm.wG E.V z.two:=by unfold Vm.exec;simp[h1]
 rw[e0];obtain⟨c1,c2,c3⟩:=hi.alv h1;obtain⟨q,hq⟩:=JI c2;rw[hq]at c3;simp only[Jj,Int.ofNat_eq_natCast]at c3 hq;have hqb:q<z.bs.length:=by rw[hz.len];exact c3
 have hq':z.cur.sk.ws.getD (z.cur.sk.live-1) 0=(q:Int):=hq;have hend:∀(k1:Sk),oM z.cur.sk k1 (z.cur.sk.ws.take (z.cur.sk.live-1))→Vm.wG E.V z.two=Vm.push E.V (Opt.yes (!decide ((z.all.getD q default).st=3))) (z.sk k1).two:=fun k1 ht=>by
  obtain⟨p1,p2⟩:=mD hz ht;unfold Vm.wG;show Vm.push E.V (Opt.yes (!decide (((Vm.drop 1 z.tk).cs.getD (Vm.last z.tk).toNat default).st=3))) (Vm.drop 1 z.tk,E.abs z.e)=_;rw[←p2,hz.last,hq',Jj,p1.H4 c3];have e5:((z.sk k1).all.getD q default).abs.st=(z.all.getD q default).st:=by
   by_cases hqn:z.now=q
   ·subst hqn;rw[hz.wK,p1.wK];rfl
   ·rw[hz.oth hqn,p1.oth hqn];rfl
  rw[e5];rfl
 refine JE [ptr p.tb,kR i] Tryz.func67 Tryz.ntmps67 fun w S=>?_
 (refine Jn ?_)
 repeat(refine Jy ?_;try intro b)
 by_cases hqn:z.now=q
 ·apply aB.draw 14 ([iZ p z,A7 z]) (by kernel_rfl) 15 rfl;refine JR 0 ?_;refine JR 1 ?_;refine JR 2 ?_;refine JR 3 ?_;refine JR 4 ?_;refine JR 5 ?_;(refine JT 6 ?_;refine JK (nC (z.F p) z.st z.tr (z.cur.st:Int) (eM z.cur.upb) (.slice z.cur.fo z.cur.fr.length z.cur.fc) E.jN (jH E.told) z.cur.sk hz.cX c1) ?_;intro s hs;refine JG ?_;(refine Jn ?_));obtain⟨k1,rfl⟩:∃x,x=s:=⟨_,rfl⟩;have ht:=hs;rw[hq'];(refine JT 7 ?_;(refine Jw ?_);refine JG ?_);(refine JT 8 ?_;(refine Jw ?_);refine JG ?_);have hcb:z.bs.getD q default=z.cur.cb:=by rw[hz.H5,hqn];rfl
  rw[hcb];(refine JT 9 ?_;(refine Jw ?_);refine JG ?_);(refine JT 10 ?_;(refine Jw ?_);refine JG ?_);(refine JT 11 ?_;(refine Jw ?_);refine JG ?_);(refine JT 12 ?_;(refine Jw ?_);refine JG ?_);(refine JT 13 ?_;refine aA.aZ (spec:=NI _) (k:=?_);intro s hs;refine JG ?_;(refine Jn ?_));rw[show decide ((z.cur.st:Int)=3)=decide (z.cur.st=3)from decide_eq_decide.2 (by omega)];(refine JT 14 ?_;refine aA.aZ (spec:=lH E (z.F p) z.st z.tr z.e he (z.cur.st:Int) (eM z.cur.upb) (.slice z.cur.fo z.cur.fr.length z.cur.fc) k1 ht.ok (Opt.yes (!decide (z.cur.st=3)))) (r:=fun w=>Reads.any (tk) E.dJ .nil) (k:=?_);intro s hs;refine JG ?_;(refine Jn ?_));(apply RunT.done;kernel_rfl);obtain⟨p1,p2⟩:=mD hz ht;obtain⟨t1,t2⟩:=lI p1 hs
  repeat(refine Jy ?_)
  (refine End.cY (((z.sk k1).put s)) (hp:=?_));refine⟨t1,t2.trans ?_⟩;rw[hend k1 ht,←hqn,hz.wK]
 ·obtain⟨ls,lt,hb⟩:=hz.aBk c3 hqn;apply aB.imp (fun w hm=>Mem.out hm (tk) hb);obtain⟨d,hd⟩:∃d,d=z.oth.getD q default:=⟨_,rfl⟩;have hcb:z.bs.getD q default=d.cb:=by rw[hd];exact hz.DM c3 hqn
  rw[←hd]at hb⊢;apply aB.draw 14 ([iZ p z,A7 z]) (by kernel_rfl) 15 rfl;refine JR 0 ?_;refine JR 1 ?_;refine JR 2 ?_;refine JR 3 ?_;refine JR 4 ?_;refine JR 5 ?_;(refine JT 6 ?_;refine JK (nC (z.F p) z.st z.tr (z.cur.st:Int) (eM z.cur.upb) (.slice z.cur.fo z.cur.fr.length z.cur.fc) E.jN (jH E.told) z.cur.sk hz.cX c1) ?_;intro s hs;refine JG ?_;(refine Jn ?_));obtain⟨k1,rfl⟩:∃x,x=s:=⟨_,rfl⟩;have ht:=hs;rw[hq'];(refine JT 7 ?_;(refine Jw ?_);refine JG ?_);(refine JT 8 ?_;(refine Jw ?_);refine JG ?_);rw[hcb];(refine JT 9 ?_;(refine Jw ?_);refine JG ?_);(refine JT 10 ?_;(refine Jw ?_);refine JG ?_);(refine JT 11 ?_;(refine Jw ?_);refine JG ?_);(refine JT 12 ?_;(refine Jw ?_);refine JG ?_);(refine JT 13 ?_;refine aA.aZ (spec:=NI _) (k:=?_);intro s hs;refine JG ?_;(refine Jn ?_));rw[show decide ((d.st:Int)=3)=decide (d.st=3)from decide_eq_decide.2 (by omega)];(refine JT 14 ?_;refine aA.aZ (spec:=lH E (z.F p) z.st z.tr z.e he (z.cur.st:Int) (eM z.cur.upb) (.slice z.cur.fo z.cur.fr.length z.cur.fc) k1 ht.ok (Opt.yes (!decide (d.st=3)))) (r:=fun w=>Reads.any (tk) E.dJ .nil) (k:=?_);intro s hs;refine JG ?_;(refine Jn ?_));(apply RunT.done;kernel_rfl);obtain⟨p1,p2⟩:=mD hz ht;obtain⟨t1,t2⟩:=lI p1 hs
  repeat(refine Jy ?_)
  apply End.imp (fun w hm=>Mem.RI hm (tk) (aK) hb);(refine End.cY (((z.sk k1).put s)) (hp:=?_));refine⟨t1,t2.trans ?_⟩;rw[hend k1 ht,hz.oth hqn,hd]
end
section
variable{E:cN}
abbrev SL.more(z:SL E)(ao:Option Addr)(cap:Nat)(c:b9)(e:E.μ):SL E:={z with co:=ao,ccap:=cap,bs:=z.bs ++[c.cb],oth:=z.oth ++[c],e:=e}
theorem SL.SJ{z:SL E}(hz:z.Wf)(ao:Option Addr)(cap:Nat)(c:b9)(e:E.μ):(z.more ao cap c e).all=z.all ++[c]:=by
 unfold SL.all;exact List.set_append_left _ _ hz.now
theorem IZ{α:Type}{l l':List α}{k:Nat}{d:α}(h:k<l.length):(l ++l').getD k d=l.getD k d:=by
 rw[Jd,Jd,rF h]
theorem SL.Wf.more{z:SL E}(hz:z.Wf){ao:Option Addr}{cap:Nat}{c:b9}{e:E.μ}(h30:z.oth.length≤30)(he:E.ok e)(h1:c.up=none)(h2:c.upb=none)(h3:c.sk.Ok):(z.more ao cap c e).Wf:=by
 have hall:=SL.SJ hz ao cap c e;have hlen:=z.uG;refine⟨by simp only[Jl];have:=hz.now;omega,by simp only[Jl,JW,oI];rw[hz.len],by simp only[Jl,JW,oI];omega,fun i hi=>?_,fun x hx=>?_,fun x hx j hj=>?_,fun x hx=>?_,he⟩
 ·simp only[Jl,JW,oI]at hi;rw[hall];show _=(z.bs ++[c.cb]).getD i 0
  by_cases hlt:i<z.oth.length
  ·rw[IZ (by omega),IZ (by rw[hz.len];exact hlt)];exact hz.at_ i hlt
  ·obtain rfl:i=z.oth.length:=by omega
   rw[Jd,Jd,xR (by omega),xR (by rw[hz.len];omega),hlen,hz.len];simp
 ·rw[hall]at hx;rcases dH.1 hx with hx|hx
  ·rw[hz.up x hx]
   cases hu:x.up with
   |none=>rfl
   |some j=>
    have:=hz.lL x hx j hu;show some _=some ((z.bs ++[c.cb]).getD j 0);rw[IZ (by rw[hz.len];exact this)]
  ·obtain rfl:=gD.1 hx;rw[h1,h2];rfl
 ·rw[hall]at hx;show j<(z.oth ++[c]).length;rw[Jl];rcases dH.1 hx with hx|hx
  ·have:=hz.lL x hx j hj;omega
  ·obtain rfl:=gD.1 hx;rw[h1]at hj;cases hj
 ·rw[hall]at hx;rcases dH.1 hx with hx|hx
  ·exact hz.sk x hx
  ·obtain rfl:=gD.1 hx;exact h3
theorem Mem.YU{w:World}{L L' F:List Chunk}{l:List b9}{k:Nat}{d:b9}(h:Mem w L)(tk:Take (kO (l.eraseIdx k)) L L')(t2:aQ (gY d) L' F)(hk:k<l.length):Mem w (kO ((l ++[d]).eraseIdx k)::F):=by
 rw[List.eraseIdx_append_of_lt_length hk];exact Mem.RI (s:=l.eraseIdx k) (t:=[]) (d:=d) h (by rw[eH];exact tk) t2 rfl
set_option maxHeartbeats 1000000 in
theorem aHL(p:Pl)(z:SL E)(hz:z.Wf)(i:ImgM.aY)(hi:vP p.m z i)(h1:i.op=29):
  Fn Tryz.prog 67 #[ptr p.tb,kR i] [md p.m,E.rc] (TM p z) (σ:=SL E) (iN z (Vm.exec E.V p.m.aC i z.two)) (fun _=> .tuple #[]) (fun z'=>TM p z'):=by
 have he:E.iE z.e:=⟨hz.env,by have:=hi.size;omega⟩;have e0:Vm.exec E.V p.m.aC i z.two=Vm.r0 E.V p.m.aC i.a.toNat z.two:=by unfold Vm.exec;simp[h1]
 rw[e0];obtain⟨c1,c2,c3,c4,c5,c6,c7⟩:=hi.call (.inr h1);obtain⟨u,hiu⟩:=JI c1;have hiu:i.a=(u:Int):=hiu;have hu':i.a.toNat=u:=by rw[hiu];rfl
 rw[hu']at c2 c3 c4 c5 c6⊢;obtain⟨P,hP⟩:=JI c3;have hP':(p.m.us.getD u default).u.params.toNat=P:=by rw[hP];rfl
 rw[hP']at c4 c5;have hpP:(p.m.us.getD u default).u.params=(P:Int):=hP;have hlenA:(z.cur.sk.ws.drop (z.cur.sk.live-P)).length=P:=by have h2:=Sk.len hz.cX;rw[fC];omega
 refine JE [ptr p.tb,kR i] Tryz.func67 Tryz.ntmps67 fun w S=>?_
 (refine Jn ?_)
 repeat(refine Jy ?_;try intro b)
 rw[hu',hpP];(refine JQ (Y0 (z.F p) z.st z.tr (z.cur.st:Int) (eM z.cur.upb) (.slice z.cur.fo z.cur.fr.length z.cur.fc) E.jN (jH E.told) z.cur.sk hz.cX P c4) ?_;intro s hs;(refine Jn ?_));obtain⟨k1,ao1,cap1⟩:=s;have ht:oM z.cur.sk k1 _:=hs;obtain⟨p1,p2⟩:=mD hz ht
 by_cases h30:30<z.bs.length
 ·repeat(refine Jy ?_)
  (refine Jc ?_;refine aA.aZ (spec:=vI E (z.F p) z.st z.tr z.e he 5) (r:=fun w=>Reads.any (tk) E.dJ .nil) (k:=?_);intro s hs;(refine Jn ?_));obtain⟨t1,t2⟩:=vJ p1 hs
  repeat(refine Jy ?_)
  (refine End.oN (((z.sk k1).b6 s.1 s.2.1 s.2.2)) (hp:=?_));refine⟨t1,t2.trans ?_⟩;unfold Vm.r0;dsimp only;have e1:(Vm.bD p.m.aC u).params.toNat=P:=by unfold Vm.bD;rw[ML.jI];exact hP'
  have e2:(Vm.drop P z.two.1).cs.length=z.bs.length:=by
   show(Vm.drop P z.tk).cs.length=_;rw[←p2,hz.len];show((z.sk k1).all.map _).length=_;rw[Jf,SL.uG]
  rw[e1,e2,if_pos h30];show Vm.dS E.V 5 ((z.sk k1).tk,E.abs z.e)=Vm.dS E.V 5 (Vm.drop P z.tk,E.abs z.e);rw[p2]
 ·repeat(refine Jy ?_)
  apply aB.draw 14 ([aD b (dV i) 113,aD p.tb (qY p.mb E.jN (.slice z.co z.bs.length z.ccap) z.cur.cb z.st z.bx z.tr (.slice z.oo z.out.length z.oc) (jH E.told)) 103]) (by kernel_rfl) 15 rfl;refine JR 0 ?_;refine JR 1 ?_;refine JR 2 ?_;refine JR 3 ?_;refine JR 4 ?_;refine JR 5 ?_;refine JR 6 ?_;refine JR 7 ?_;refine JR 8 ?_;rw[hiu];have hbg:=OS p.tb p.mb p.m [E.jN, .slice z.co z.bs.length z.ccap,ptr z.cur.cb, .int .i64 z.st, .int .i64 z.bx, .int .i64 z.tr, .slice z.oo z.out.length z.oc,jH E.told] u c2 ao1 cap1 (z.cur.sk.ws.drop (z.cur.sk.live-P)) c6 (by omega);rw[hlenA]at hbg;(refine JT 9 ?_;refine JK (hbg) ?_;intro s hs;refine JG ?_;(refine Jn ?_));obtain⟨c,rfl⟩:∃x,x=s:=⟨_,rfl⟩;have hbe:=hs;have w4:IntKind.i64.wrap (((z.bs.length+1:Nat):Int)-1)=(z.bs.length:Int):=by rw[dA (by omega)];omega
  (refine JT 10 ?_;(refine Jb ?_;intro b);refine JG ?_);(refine JT 11 ?_;refine aA.jL (a:=c.cb) (k:=?_);intro ao2 cap2;refine JG ?_);refine JR 12 ?_;refine JR 13 ?_;(refine JT 14 ?_;(refine Jw ?_);refine JG ?_);(apply RunT.done;kernel_rfl)
  repeat(refine Jy ?_)
  rw[hiu];(refine Jc ?_;refine aA.aZ (spec:=zU E ⟨p.tb,p.mb, .slice ao2 (z.bs.length+1) cap2,z.cur.cb,z.bx, .slice z.oo z.out.length z.oc⟩ z.st z.tr z.e he 6 0 (u:Int)) (r:=fun w=>Reads.any (tk) E.dJ .nil) (k:=?_);intro s hs;(refine Jn ?_));obtain⟨e,rfl⟩:∃x,x=s:=⟨_,rfl⟩;have hte:=hs
  repeat(refine Jy ?_)
  have hw3:((z.sk k1).more ao2 cap2 c e).Wf:=p1.more (by show z.oth.length≤30;rw[←hz.len];omega) hte.1 hbe.up hbe.upb hbe.ok;(refine Jc ?_;refine aA.aZ (spec:=lH E ⟨p.tb,p.mb, .slice ao2 (z.bs.length+1) cap2,z.cur.cb,z.bx, .slice z.oo z.out.length z.oc⟩ z.st z.tr e ⟨hte.1,by rw[hte.2];have h5:=E.o4 (E.abs z.e) (6,0,(u:Int));have h6:=hi.size;omega⟩ (z.cur.st:Int) (eM z.cur.upb) (.slice z.cur.fo z.cur.fr.length z.cur.fc) k1 ht.ok (z.bs.length:Int)) (r:=fun w=>Reads.any (tk) E.dJ .nil) (k:=?_);intro s hs;(refine Jn ?_));obtain⟨t1,t2⟩:=lI hw3 hs
  repeat(refine Jy ?_)
  apply End.imp (fun w hm=>Mem.YU (d:=c) hm (tk) (aK) hz.now);(refine End.cY ((SL.put ((z.sk k1).more ao2 cap2 c e) s)) (ht:=Jx) (hp:=?_));refine⟨t1,t2.trans ?_⟩;unfold Vm.r0;dsimp only;have e1:(Vm.bD p.m.aC u).params.toNat=P:=by unfold Vm.bD;rw[ML.jI];exact hP'
  have e2:(Vm.drop P z.two.1).cs.length=z.bs.length:=by
   show(Vm.drop P z.tk).cs.length=_;rw[←p2,hz.len];show((z.sk k1).all.map _).length=_;rw[Jf,SL.uG]
  have e3:Vm.begin p.m.aC u ((Vm.cur z.tk).ws.drop ((Vm.cur z.tk).ws.length-P))=c.abs:=by
   have el:(Vm.bD p.m.aC u).locals.length=(p.m.us.getD u default).u.locals.length:=by unfold Vm.bD;rw[ML.jI]
   have ew:(Vm.cur z.tk).ws.length=z.cur.sk.live:=hz.AL;unfold Vm.begin b9.abs;rw[hbe.st,hbe.up,hbe.fr,hbe.ws,el,ew,hz.cur];rfl
  rw[e1,e2,if_neg h30];show Vm.push E.V _ (SL.tk _,E.abs e)=Vm.push E.V _ ({Vm.drop P z.tk with cs:=(Vm.drop P z.tk).cs ++[Vm.begin p.m.aC u ((Vm.cur z.tk).ws.drop ((Vm.cur z.tk).ws.length-P))]},E.V.tell (E.abs z.e) (6,0,(u:Int)));rw[e3,←p2,←hte.2];have e4:((z.sk k1).more ao2 cap2 c e).tk={(z.sk k1).tk with cs:=(z.sk k1).tk.cs ++[c.abs]}:=by
   unfold SL.tk;rw[SL.SJ p1];simp only[Jq,eG,qE]
  rw[e4]
end
variable{E:cN}
theorem aHM(p:Pl)(z:SL E)(hz:z.Wf)(i:ImgM.aY)(hi:vP p.m z i)(h1:i.op=23∨i.op=24∨i.op=25∨(29≤i.op∧i.op≤32)):
  Fn Tryz.prog 67 #[ptr p.tb,kR i] [md p.m,E.rc] (TM p z) (σ:=SL E) (iN z (Vm.exec E.V p.m.aC i z.two)) (fun _=> .tuple #[]) (fun z'=>TM p z'):=by
 by_cases h2:i.op=29
 ·exact aHL p z hz i hi h2
 by_cases h3:i.op=30
 ·exact aHJ p z hz i hi h3
 by_cases h4:i.op=31
 ·exact aHI p z hz i hi h4
 by_cases h5:i.op=32
 ·exact aHK p z hz i hi h5
 ·exact aHH p z hz i hi (by omega)
end
section
theorem aE.LQ{P:Program}{ops:Array Oper}{Q:Exit→Act→World→Prop}{N:Nd}{l:List Oper}{E:Env}{L F:List Chunk}(cs:List Chunk)(t:aQ cs L F)(h:aE P ops Q N l E cs):aE P ops Q N l E L:=fun a w hs hm=>h a w hs (hm.aS t).left
variable{E:cN}{z:SL E}{m:ML}
theorem SL.Wf.ins(hz:z.Wf)(m:ML):Vm.aV m.aC z.tk=bH m z:=by
 unfold Vm.aV Vm.bD;rw[hz.fK,ML.jI]
abbrev SL.look(z:SL E)(m:ML):SL E:={z with st:=if z.st≤3 then lB E (bH m z) (E.abs z.e)else z.st,bx:=if z.st≤3 then oD E (bH m z) (E.abs z.e)else z.bx}
theorem SL.Wf.look(hz:z.Wf)(m:ML):(z.look m).Wf:=⟨hz.now,hz.len,hz.dY,hz.at_,hz.up,hz.lL,hz.sk,hz.env⟩
theorem SL.Wf.gQ(hz:z.Wf)(m:ML):(z.look m).two=Vm.look E.V m.aC z.two:=by
 unfold Vm.look;have e1:z.two.1.st=z.st:=rfl;have e2:Vm.aV m.aC z.two.1=bH m z:=hz.ins m
 by_cases h3:z.st≤3
 ·rw[e1,if_pos h3,e2];unfold Vm.waits SL.two SL.tk;simp only[SL.look,if_pos h3];unfold lB oD
  by_cases c1:(bH m z).op=26∧E.V.full (E.abs z.e) (bH m z).a.toNat=true
  ·rw[if_pos c1,if_pos c1,if_pos c1];rfl
  ·rw[if_neg c1,if_neg c1,if_neg c1]
   by_cases c2:(bH m z).op=27∧E.V.empty (E.abs z.e) (bH m z).a.toNat=true
   ·rw[if_pos c2,if_pos c2,if_pos c2];rfl
   ·rw[if_neg c2,if_neg c2,if_neg c2];rfl
 ·rw[e1,if_neg h3];unfold SL.two SL.tk;simp only[SL.look,if_neg h3]
end
section
attribute [local irreducible] aE aB End aA Still aM aP RunT Fn aO
section
variable{E:cN}
theorem fI(p:Pl)(z:SL E)(hz:z.Wf)(hs:z.st≤3→lQ p.m z):
  Fn Tryz.prog 31 #[ptr p.tb] [md p.m,E.rc] [iZ p z,kU p,iQ z.cur,gF z.cur,E.mem z.e] (σ:=Unit) (fun _=>True) (fun _=> .tuple #[]) (fun _=>[iZ p (z.look p.m),kU p,iQ z.cur,gF z.cur,E.mem z.e]):=
 aCY p z hz.env _ _ (fun h=>⟨if_neg (by omega),if_neg (by omega)⟩) (fun h=>⟨hs h,if_pos h,if_pos h⟩)
set_option maxHeartbeats 1000000 in
theorem aGA(p:Pl)(z:SL E)(hz:z.Wf)(hs:z.st≤3→lQ p.m z)(h1:(z.look p.m).st≠1):
  Fn Tryz.prog 32 #[ptr p.tb] [md p.m,E.rc] (TM p z) (σ:=SL E) (iN z (Vm.step E.V p.m.aC z.two).2) (fun _=> .bool (Vm.step E.V p.m.aC z.two).1) (fun z'=>TM p z'):=by
 have e0:Vm.step E.V p.m.aC z.two=(false,(z.look p.m).two):=by
  unfold Vm.step;rw[←hz.gQ p.m];exact if_pos h1
 rw[e0];refine JE [ptr p.tb] Tryz.func32 Tryz.ntmps32 fun w S=>?_
 (refine Jn ?_)
 repeat(refine Jy ?_)
 (refine JM (fI p z hz hs) ?_;intro s hs;(refine Jn ?_))
 repeat(refine Jy ?_)
 (refine End.aH ((z.look p.m)) (he:=Jv) (hp:=?_));exact⟨hz.look p.m,rfl⟩
structure nK(m:ML)(z:SL E)(i:ImgM.aY):Prop where
 some:i.op=4∨i.op=5∨i.op=6∨i.op=7∨i.op=22∨i.op=26∨i.op=28→0<z.cur.sk.live
 two:8≤i.op∧i.op≤20→2≤z.cur.sk.live∧ImgM.bG (z.top 1)∧ImgM.bG (z.top 2)
 load:i.op=3→0≤i.a∧z.f.base+i.a.toNat<z.cur.sk.live
 store:i.op=4→0≤i.a∧z.f.base+i.a.toNat<z.cur.sk.live-1
 jump:i.op=21∨i.op=22→0≤i.a
 send:i.op=26→0≤i.a∧i.a.toNat<E.boxes∧E.V.full (E.abs z.e) i.a.toNat=false
 recv:i.op=27→0≤i.a∧i.a.toNat<E.boxes∧E.V.empty (E.abs z.e) i.a.toNat=false
 size:E.size (E.abs z.e)≤1000000
 outs:i.op=28→z.out.length≤1000000
 aL:vP m z i
 op:1≤i.op∧i.op≤32
 a64:ImgM.bG i.a
theorem nK.iE{m:ML}{z:SL E}{i:ImgM.aY}(hc:nK m z i)(hz:z.Wf):E.iE z.e:=⟨hz.env,by have:=hc.size;omega⟩
abbrev SL.bL(z:SL E)(m:ML):SL E:={z.look m with cur:={z.cur with fr:=z.cur.fr.set (z.cur.fr.length-1) ⟨z.f.unit,z.f.pc+1,z.f.base⟩}}
theorem SL.Wf.bL{z:SL E}(hz:z.Wf)(m:ML):(z.bL m).Wf:=(hz.look m).setCur rfl rfl rfl (hz.look m).cX
theorem SL.Wf.SK{z:SL E}(hz:z.Wf)(m:ML):(z.bL m).two=(Vm.eR ((Vm.fK (Vm.cur (z.look m).tk)).pc+1) (z.look m).tk,E.abs z.e):=by
 unfold Vm.eR Vm.xH;rw[(hz.look m).fK,(hz.look m).cur];unfold SL.two;rw[show(z.bL m).tk=Vm.setCur (z.look m).tk (b9.abs {z.cur with fr:=z.cur.fr.set (z.cur.fr.length-1) ⟨z.f.unit,z.f.pc+1,z.f.base⟩})from SL.tM (z.look m) _];rfl
theorem SL.Wf.qX{z:SL E}(hz:z.Wf)(m:ML)(h1:(z.look m).st=1):Vm.step E.V m.aC z.two=(true,Vm.look E.V m.aC (Vm.exec E.V m.aC (bH m z) (z.bL m).two)):=by
 unfold Vm.step;rw[←hz.gQ m,hz.SK m];have e1:Vm.aV m.aC (z.look m).two.1=bH m z:=(hz.look m).ins m;dsimp only;rw[e1];exact if_neg (fun h=>h h1)
end
section
variable{E:cN}
abbrev pB(m:ML)(z:SL E)(i:ImgM.aY):Prop:=∀z2:SL E,z2.Wf→z2.two=Vm.exec E.V m.aC i z.two→z2.st≤3→lQ m z2
set_option maxHeartbeats 2000000 in
theorem aGD(p:Pl)(z:SL E)(hz:z.Wf)(hs:lQ p.m z)(h1:(z.look p.m).st=1)(hpc:z.f.pc≤100000)(hc:nK p.m (z.bL p.m) (bH p.m z))(ha:pB p.m (z.bL p.m) (bH p.m z))(hop:(bH p.m z).op=1∨(bH p.m z).op=2):
  Fn Tryz.prog 32 #[ptr p.tb] [md p.m,E.rc] (TM p z) (σ:=SL E) (iN z (Vm.step E.V p.m.aC z.two).2) (fun _=> .bool (Vm.step E.V p.m.aC z.two).1) (fun z'=>TM p z'):=by
 obtain⟨g1,g2,g3,g4,g5⟩:=id hs;have hl:0<z.cur.fr.length:=JP.2 g1;have w1:IntKind.i64.wrap ((z.cur.fr.length:Int)-1)=((z.cur.fr.length-1:Nat):Int):=by rw[dA (by omega)];omega
 have w2:IntKind.i64.wrap ((z.f.pc:Int)+1)=((z.f.pc+1:Nat):Int):=by rw[dA (by omega)];omega
 refine JE [ptr p.tb] Tryz.func32 Tryz.ntmps32 fun w S=>?_
 (refine Jn ?_)
 repeat(refine Jy ?_)
 (refine Jc ?_;refine aA.aZ (spec:=fI p z hz (fun _=>hs)) (r:=fun w=>Jm) (k:=?_);intro s hs;(refine Jn ?_))
 repeat(refine Jy ?_)
 apply aB.draw 21 ([iZ p (z.look p.m),kU p,gF z.cur,md p.m]) (by kernel_rfl) 22 rfl;refine JR 0 ?_;refine JR 1 ?_;refine JR 2 ?_;refine JR 3 ?_;refine JR 4 ?_;refine JR 5 ?_;refine JR 6 ?_;refine JR 7 ?_;refine JR 8 ?_;refine JR 9 ?_;refine JR 10 ?_;refine JR 11 ?_;refine JR 12 ?_;refine JR 13 ?_;refine JR 14 ?_;refine JR 15 ?_;refine JR 16 ?_;refine JR 17 ?_;refine JR 18 ?_;refine JR 19 ?_;(refine JT 20 ?_;(refine Jb ?_;intro b);refine JG ?_);(refine JT 21 ?_;(refine Jw ?_);refine JG ?_);(apply RunT.done;kernel_rfl)
 repeat(refine Jy ?_)
 (apply aE.op;exact rfl;refine aA.iG (f:=cP) (l:=z.cur.fr) (i:=z.cur.fr.length-1) (off:=1) (vs:=[.int .i64 ((z.f.pc+1:Nat):Int)]) (a':=(⟨z.f.unit,z.f.pc+1,z.f.base⟩:Vm.Fr)) (k:=?_));apply aE.nil;apply End.jQ;obtain⟨ib,rfl⟩:∃x,x=b:=⟨_,rfl⟩;refine aB.sub [(0,ptr p.tb),(2, .bool false),(3, .pointer (place (sz cP) z.cur.fo (z.cur.fr.length-1) 0)),(4,ptr ib)] (Ju) ?_;have hln:z.cur.fr.length=(z.cur.fr.set (z.cur.fr.length-1) (⟨z.f.unit,z.f.pc+1,z.f.base⟩:Vm.Fr)).length:=by rw[Ji]
 refine aB.only (aI w S::md p.m::E.rc::aD ib (dV (bH p.m z)) 113::TM p (z.bL p.m)) (Jx) ?_;have hpl:place (sz cP) z.cur.fo (z.cur.fr.length-1) 0=place (sz cP) (z.bL p.m).cur.fo ((z.bL p.m).cur.fr.length-1) 0:=by rw[show(z.bL p.m).cur.fr.length=z.cur.fr.length from Ji]
 rw[hpl];have hstep:=hz.qX p.m h1;rw[hstep];have hz1:=hz.bL p.m;obtain⟨i,hi⟩:∃i,i=bH p.m z:=⟨_,rfl⟩;obtain⟨z1,hz1e⟩:∃z1,z1=z.bL p.m:=⟨_,rfl⟩;rw[←hi,←hz1e]at hc ha⊢;rw[←hz1e]at hz1;rw[←hi]at hop;have hex:∀v,i.op=1∧v=i.n∨i.op=2∧v=i.a→Vm.exec E.V p.m.aC i z1.two=Vm.push E.V v z1.two:=fun v h=>by
  unfold Vm.exec;rcases h with⟨h,rfl⟩|⟨h,rfl⟩<;>simp[h]
 rcases hop with hop|hop
 ·repeat(refine Jy ?_)
  (refine Jc ?_;refine aA.aZ (spec:=lH E (z1.F p) z1.st z1.tr z1.e (hc.iE hz1) (z1.cur.st:Int) (eM z1.cur.upb) (.slice z1.cur.fo z1.cur.fr.length z1.cur.fc) z1.cur.sk hz1.cX i.n) (r:=fun w=>Reads.any (tk) E.dJ .nil) (k:=?_);intro s hs;(refine Jn ?_));obtain⟨q,rfl⟩:∃x,x=s:=⟨_,rfl⟩;obtain⟨t1,t2⟩:=lI hz1 hs;have t3:=t2.trans (hex _ (.inl ⟨hop,rfl⟩)).symm
  repeat(refine Jy ?_)
  (refine JM (fI p (z1.put q) t1 (ha (z1.put q) t1 t3)) ?_;intro s hs;(refine Jn ?_))
  repeat(refine Jy ?_)
  (refine End.aH ((SL.look (z1.put q) p.m)) (he:=Jv) (hp:=?_));exact⟨t1.look p.m,(t1.gQ p.m).trans (by rw[t3])⟩
 ·repeat(refine Jy ?_)
  (refine Jc ?_;refine aA.aZ (spec:=lH E (z1.F p) z1.st z1.tr z1.e (hc.iE hz1) (z1.cur.st:Int) (eM z1.cur.upb) (.slice z1.cur.fo z1.cur.fr.length z1.cur.fc) z1.cur.sk hz1.cX i.a) (r:=fun w=>Reads.any (tk) E.dJ .nil) (k:=?_);intro s hs;(refine Jn ?_));obtain⟨q,rfl⟩:∃x,x=s:=⟨_,rfl⟩;obtain⟨t1,t2⟩:=lI hz1 hs;have t3:=t2.trans (hex _ (.inr ⟨hop,rfl⟩)).symm
  repeat(refine Jy ?_)
  (refine JM (fI p (z1.put q) t1 (ha (z1.put q) t1 t3)) ?_;intro s hs;(refine Jn ?_))
  repeat(refine Jy ?_)
  (refine End.aH ((SL.look (z1.put q) p.m)) (he:=Jv) (hp:=?_));exact⟨t1.look p.m,(t1.gQ p.m).trans (by rw[t3])⟩
end
section
variable{E:cN}
set_option maxHeartbeats 2000000 in
theorem aGE(p:Pl)(z:SL E)(hz:z.Wf)(hs:lQ p.m z)(h1:(z.look p.m).st=1)(hpc:z.f.pc≤100000)(hc:nK p.m (z.bL p.m) (bH p.m z))(ha:pB p.m (z.bL p.m) (bH p.m z))(hop:(bH p.m z).op=5∨(bH p.m z).op=6∨(bH p.m z).op=7):
  Fn Tryz.prog 32 #[ptr p.tb] [md p.m,E.rc] (TM p z) (σ:=SL E) (iN z (Vm.step E.V p.m.aC z.two).2) (fun _=> .bool (Vm.step E.V p.m.aC z.two).1) (fun z'=>TM p z'):=by
 obtain⟨g1,g2,g3,g4,g5⟩:=id hs;have hl:0<z.cur.fr.length:=JP.2 g1;have w1:IntKind.i64.wrap ((z.cur.fr.length:Int)-1)=((z.cur.fr.length-1:Nat):Int):=by rw[dA (by omega)];omega
 have w2:IntKind.i64.wrap ((z.f.pc:Int)+1)=((z.f.pc+1:Nat):Int):=by rw[dA (by omega)];omega
 refine JE [ptr p.tb] Tryz.func32 Tryz.ntmps32 fun w S=>?_
 (refine Jn ?_)
 repeat(refine Jy ?_)
 (refine Jc ?_;refine aA.aZ (spec:=fI p z hz (fun _=>hs)) (r:=fun w=>Jm) (k:=?_);intro s hs;(refine Jn ?_))
 repeat(refine Jy ?_)
 apply aB.draw 21 ([iZ p (z.look p.m),kU p,gF z.cur,md p.m]) (by kernel_rfl) 22 rfl;refine JR 0 ?_;refine JR 1 ?_;refine JR 2 ?_;refine JR 3 ?_;refine JR 4 ?_;refine JR 5 ?_;refine JR 6 ?_;refine JR 7 ?_;refine JR 8 ?_;refine JR 9 ?_;refine JR 10 ?_;refine JR 11 ?_;refine JR 12 ?_;refine JR 13 ?_;refine JR 14 ?_;refine JR 15 ?_;refine JR 16 ?_;refine JR 17 ?_;refine JR 18 ?_;refine JR 19 ?_;(refine JT 20 ?_;(refine Jb ?_;intro b);refine JG ?_);(refine JT 21 ?_;(refine Jw ?_);refine JG ?_);(apply RunT.done;kernel_rfl)
 repeat(refine Jy ?_)
 (apply aE.op;exact rfl;refine aA.iG (f:=cP) (l:=z.cur.fr) (i:=z.cur.fr.length-1) (off:=1) (vs:=[.int .i64 ((z.f.pc+1:Nat):Int)]) (a':=(⟨z.f.unit,z.f.pc+1,z.f.base⟩:Vm.Fr)) (k:=?_));apply aE.nil;apply End.jQ;obtain⟨ib,rfl⟩:∃x,x=b:=⟨_,rfl⟩;refine aB.sub [(0,ptr p.tb),(2, .bool false),(3, .pointer (place (sz cP) z.cur.fo (z.cur.fr.length-1) 0)),(4,ptr ib)] (Ju) ?_;have hln:z.cur.fr.length=(z.cur.fr.set (z.cur.fr.length-1) (⟨z.f.unit,z.f.pc+1,z.f.base⟩:Vm.Fr)).length:=by rw[Ji]
 refine aB.only (aI w S::md p.m::E.rc::aD ib (dV (bH p.m z)) 113::TM p (z.bL p.m)) (Jx) ?_;have hpl:place (sz cP) z.cur.fo (z.cur.fr.length-1) 0=place (sz cP) (z.bL p.m).cur.fo ((z.bL p.m).cur.fr.length-1) 0:=by rw[show(z.bL p.m).cur.fr.length=z.cur.fr.length from Ji]
 rw[hpl];have hstep:=hz.qX p.m h1;rw[hstep];have hz1:=hz.bL p.m;obtain⟨i,hi⟩:∃i,i=bH p.m z:=⟨_,rfl⟩;obtain⟨z1,hz1e⟩:∃z1,z1=z.bL p.m:=⟨_,rfl⟩;rw[←hi,←hz1e]at hc ha⊢;rw[←hz1e]at hz1;rw[←hi]at hop;have c1:=hc.some (by omega)
 repeat(refine Jy ?_)
 rcases hop with hop|hop|hop
 ·repeat(refine Jy ?_)
  (refine JQ (nC (z1.F p) z1.st z1.tr (z1.cur.st:Int) (eM z1.cur.upb) (.slice z1.cur.fo z1.cur.fr.length z1.cur.fc) E.jN (jH E.told) z1.cur.sk hz1.cX c1) ?_;intro s hs;(refine Jn ?_));obtain⟨k1,rfl⟩:∃x,x=s:=⟨_,rfl⟩;obtain⟨t1,t2⟩:=mD hz1 hs;have t3:(z1.sk k1).two=Vm.exec E.V p.m.aC i z1.two:=by
   unfold Vm.exec;simp[hop];exact congrArg (fun t=>(t,E.abs z1.e)) t2
  repeat(refine Jy ?_)
  (refine JM (fI p (z1.sk k1) t1 (ha (z1.sk k1) t1 t3)) ?_;intro s hs;(refine Jn ?_))
  repeat(refine Jy ?_)
  (refine End.aH ((SL.look (z1.sk k1) p.m)) (he:=Jv) (hp:=?_));exact⟨t1.look p.m,(t1.gQ p.m).trans (by rw[t3])⟩
 ·repeat(refine Jy ?_)
  (refine JQ (nC (z1.F p) z1.st z1.tr (z1.cur.st:Int) (eM z1.cur.upb) (.slice z1.cur.fo z1.cur.fr.length z1.cur.fc) E.jN (jH E.told) z1.cur.sk hz1.cX c1) ?_;intro s hs;(refine Jn ?_));obtain⟨k1,rfl⟩:∃x,x=s:=⟨_,rfl⟩;obtain⟨p1,p2⟩:=mD hz1 hs;have hks:=p1.cX
  repeat(refine Jy ?_)
  (refine Jc ?_;refine aA.aZ (spec:=lH E (z1.F p) z1.st z1.tr z1.e (hc.iE hz1) (z1.cur.st:Int) (eM z1.cur.upb) (.slice z1.cur.fo z1.cur.fr.length z1.cur.fc) k1 hks (IntKind.i64.wrap (0-z1.top 1))) (r:=fun w=>Reads.any (tk) E.dJ .nil) (k:=?_);intro s hs;(refine Jn ?_));obtain⟨q,rfl⟩:∃x,x=s:=⟨_,rfl⟩;obtain⟨t1,t2⟩:=lI p1 hs;have t3:((z1.sk k1).put q).two=Vm.exec E.V p.m.aC i z1.two:=by
   rw[t2];unfold Vm.exec;simp[hop];show Vm.push E.V _ ((z1.sk k1).tk,E.abs z1.e)=Vm.push E.V (IntKind.i64.wrap (-(Vm.last z1.tk))) (Vm.drop 1 z1.tk,E.abs z1.e);rw[p2,hz1.last]
   try simp
  repeat(refine Jy ?_)
  (refine JM (fI p ((z1.sk k1).put q) t1 (ha ((z1.sk k1).put q) t1 t3)) ?_;intro s hs;(refine Jn ?_))
  repeat(refine Jy ?_)
  (refine End.aH ((SL.look ((z1.sk k1).put q) p.m)) (he:=Jv) (hp:=?_));exact⟨t1.look p.m,(t1.gQ p.m).trans (by rw[t3])⟩
 ·repeat(refine Jy ?_)
  (refine JQ (nC (z1.F p) z1.st z1.tr (z1.cur.st:Int) (eM z1.cur.upb) (.slice z1.cur.fo z1.cur.fr.length z1.cur.fc) E.jN (jH E.told) z1.cur.sk hz1.cX c1) ?_;intro s hs;(refine Jn ?_));obtain⟨k1,rfl⟩:∃x,x=s:=⟨_,rfl⟩;obtain⟨p1,p2⟩:=mD hz1 hs;have hks:=p1.cX
  repeat(refine Jy ?_)
  (refine Jc ?_;refine aA.aZ (spec:=lH E (z1.F p) z1.st z1.tr z1.e (hc.iE hz1) (z1.cur.st:Int) (eM z1.cur.upb) (.slice z1.cur.fo z1.cur.fr.length z1.cur.fc) k1 hks (IntKind.i64.wrap (1-z1.top 1))) (r:=fun w=>Reads.any (tk) E.dJ .nil) (k:=?_);intro s hs;(refine Jn ?_));obtain⟨q,rfl⟩:∃x,x=s:=⟨_,rfl⟩;obtain⟨t1,t2⟩:=lI p1 hs;have t3:((z1.sk k1).put q).two=Vm.exec E.V p.m.aC i z1.two:=by
   rw[t2];unfold Vm.exec;simp[hop];show Vm.push E.V _ ((z1.sk k1).tk,E.abs z1.e)=Vm.push E.V (IntKind.i64.wrap (1-Vm.last z1.tk)) (Vm.drop 1 z1.tk,E.abs z1.e);rw[p2,hz1.last]
   try simp
  repeat(refine Jy ?_)
  (refine JM (fI p ((z1.sk k1).put q) t1 (ha ((z1.sk k1).put q) t1 t3)) ?_;intro s hs;(refine Jn ?_))
  repeat(refine Jy ?_)
  (refine End.aH ((SL.look ((z1.sk k1).put q) p.m)) (he:=Jv) (hp:=?_));exact⟨t1.look p.m,(t1.gQ p.m).trans (by rw[t3])⟩
end
section
variable{E:cN}
set_option maxHeartbeats 2000000 in
theorem aGF(p:Pl)(z:SL E)(hz:z.Wf)(hs:lQ p.m z)(h1:(z.look p.m).st=1)(hpc:z.f.pc≤100000)(hc:nK p.m (z.bL p.m) (bH p.m z))(ha:pB p.m (z.bL p.m) (bH p.m z))(hop:8≤(bH p.m z).op∧(bH p.m z).op≤20):
  Fn Tryz.prog 32 #[ptr p.tb] [md p.m,E.rc] (TM p z) (σ:=SL E) (iN z (Vm.step E.V p.m.aC z.two).2) (fun _=> .bool (Vm.step E.V p.m.aC z.two).1) (fun z'=>TM p z'):=by
 obtain⟨g1,g2,g3,g4,g5⟩:=id hs;have hl:0<z.cur.fr.length:=JP.2 g1;have w1:IntKind.i64.wrap ((z.cur.fr.length:Int)-1)=((z.cur.fr.length-1:Nat):Int):=by rw[dA (by omega)];omega
 have w2:IntKind.i64.wrap ((z.f.pc:Int)+1)=((z.f.pc+1:Nat):Int):=by rw[dA (by omega)];omega
 refine JE [ptr p.tb] Tryz.func32 Tryz.ntmps32 fun w S=>?_
 (refine Jn ?_)
 repeat(refine Jy ?_)
 (refine Jc ?_;refine aA.aZ (spec:=fI p z hz (fun _=>hs)) (r:=fun w=>Jm) (k:=?_);intro s hs;(refine Jn ?_))
 repeat(refine Jy ?_)
 apply aB.draw 21 ([iZ p (z.look p.m),kU p,gF z.cur,md p.m]) (by kernel_rfl) 22 rfl;refine JR 0 ?_;refine JR 1 ?_;refine JR 2 ?_;refine JR 3 ?_;refine JR 4 ?_;refine JR 5 ?_;refine JR 6 ?_;refine JR 7 ?_;refine JR 8 ?_;refine JR 9 ?_;refine JR 10 ?_;refine JR 11 ?_;refine JR 12 ?_;refine JR 13 ?_;refine JR 14 ?_;refine JR 15 ?_;refine JR 16 ?_;refine JR 17 ?_;refine JR 18 ?_;refine JR 19 ?_;(refine JT 20 ?_;(refine Jb ?_;intro b);refine JG ?_);(refine JT 21 ?_;(refine Jw ?_);refine JG ?_);(apply RunT.done;kernel_rfl)
 repeat(refine Jy ?_)
 (apply aE.op;exact rfl;refine aA.iG (f:=cP) (l:=z.cur.fr) (i:=z.cur.fr.length-1) (off:=1) (vs:=[.int .i64 ((z.f.pc+1:Nat):Int)]) (a':=(⟨z.f.unit,z.f.pc+1,z.f.base⟩:Vm.Fr)) (k:=?_));apply aE.nil;apply End.jQ;obtain⟨ib,rfl⟩:∃x,x=b:=⟨_,rfl⟩;refine aB.sub [(0,ptr p.tb),(2, .bool false),(3, .pointer (place (sz cP) z.cur.fo (z.cur.fr.length-1) 0)),(4,ptr ib)] (Ju) ?_;have hln:z.cur.fr.length=(z.cur.fr.set (z.cur.fr.length-1) (⟨z.f.unit,z.f.pc+1,z.f.base⟩:Vm.Fr)).length:=by rw[Ji]
 refine aB.only (aI w S::md p.m::E.rc::aD ib (dV (bH p.m z)) 113::TM p (z.bL p.m)) (Jx) ?_;have hpl:place (sz cP) z.cur.fo (z.cur.fr.length-1) 0=place (sz cP) (z.bL p.m).cur.fo ((z.bL p.m).cur.fr.length-1) 0:=by rw[show(z.bL p.m).cur.fr.length=z.cur.fr.length from Ji]
 rw[hpl];have hstep:=hz.qX p.m h1;rw[hstep];have hz1:=hz.bL p.m;obtain⟨i,hi⟩:∃i,i=bH p.m z:=⟨_,rfl⟩;obtain⟨z1,hz1e⟩:∃z1,z1=z.bL p.m:=⟨_,rfl⟩;rw[←hi,←hz1e]at hc ha⊢;rw[←hz1e]at hz1;rw[←hi]at hop;obtain⟨c1,c2,c3⟩:=hc.two hop
 repeat(refine Jy ?_)
 (refine JQ (nC (z1.F p) z1.st z1.tr (z1.cur.st:Int) (eM z1.cur.upb) (.slice z1.cur.fo z1.cur.fr.length z1.cur.fc) E.jN (jH E.told) z1.cur.sk hz1.cX (by omega)) ?_;intro s hs;(refine Jn ?_));obtain⟨k1,rfl⟩:∃x,x=s:=⟨_,rfl⟩;have ht:=hs;obtain⟨p1,p2⟩:=mD hz1 hs;have hlv:k1.live=z1.cur.sk.live-1:=by have h:=ht.live;have h2:=Sk.len hz1.cX;rw[lE]at h;omega
 have hv2:k1.ws.getD (k1.live-1) 0=z1.top 2:=by
  rw[ht.ws,hlv];show(z1.cur.sk.ws.take (z1.cur.sk.live-1)).getD (z1.cur.sk.live-1-1) 0=z1.cur.sk.ws.getD (z1.cur.sk.live-2) 0;rw[Jd,Jd,AW,if_pos (by omega),Nat.sub_sub]
 repeat(refine Jy ?_)
 (refine JQ (nC (z1.F p) z1.st z1.tr (z1.cur.st:Int) (eM z1.cur.upb) (.slice z1.cur.fo z1.cur.fr.length z1.cur.fc) E.jN (jH E.told) k1 p1.cX (by omega)) ?_;intro s hs;(refine Jn ?_));obtain⟨k2,rfl⟩:∃x,x=s:=⟨_,rfl⟩;obtain⟨p3,p4⟩:=mD p1 hs;rw[hv2];have hl2:Vm.last (Vm.drop 1 z1.tk)=z1.top 2:=by rw[←p2,p1.last];exact hv2
 have hdd:Vm.drop 1 (Vm.drop 1 z1.tk)=((z1.sk k1).sk k2).tk:=by rw[p4,p2]
 have htrap:i.op=11∨i.op=12→z1.cur.sk.ws.getD (z1.cur.sk.live-1) 0=0→Vm.dS E.V 1 ((z1.sk k1).sk k2).two=Vm.exec E.V p.m.aC i z1.two:=fun h hb=>by
  have hl1:Vm.last z1.two.1=0:=hz1.last.trans hb;unfold Vm.exec;dsimp only
  (repeat rw[if_neg (by omega)]);rw[if_pos hop,if_pos ⟨h,hl1⟩]
  show Vm.dS E.V 1 (((z1.sk k1).sk k2).tk,E.abs z1.e)=Vm.dS E.V 1 (Vm.drop 1 (Vm.drop 1 z1.tk),E.abs z1.e);rw[hdd]
 have hpush:(i.op=11∨i.op=12→z1.top 1≠0)→Vm.push E.V (Opt.lY i.op (z1.top 2) (z1.top 1)) ((z1.sk k1).sk k2).two=Vm.exec E.V p.m.aC i z1.two:=fun h=>by
  have hl1:Vm.last z1.two.1=z1.top 1:=hz1.last;unfold Vm.exec;dsimp only
  (repeat rw[if_neg (by omega)]);rw[if_pos hop,if_neg (fun x=>h x.1 (hl1.symm.trans x.2))]
  show Vm.push E.V _ (((z1.sk k1).sk k2).tk,E.abs z1.e)=Vm.push E.V (Opt.lY i.op (Vm.last (Vm.drop 1 z1.tk)) (Vm.last z1.tk)) (Vm.drop 1 (Vm.drop 1 z1.tk),E.abs z1.e);rw[hdd,hl2,hz1.last]
 by_cases hb:z1.cur.sk.ws.getD (z1.cur.sk.live-1) 0=0
 ·by_cases e11:i.op=11
  ·repeat(refine Jy ?_)
   (refine Jc ?_;refine aA.aZ (spec:=vI E (z1.F p) z1.st z1.tr z1.e (hc.iE hz1) 1) (r:=fun w=>Reads.any (tk) E.dJ .nil) (k:=?_);intro s hs;(refine Jn ?_));obtain⟨q,rfl⟩:∃x,x=s:=⟨_,rfl⟩;obtain⟨t1,t2⟩:=vJ p3 hs;have t3:(((z1.sk k1).sk k2).b6 q.1 q.2.1 q.2.2).two=Vm.exec E.V p.m.aC i z1.two:=t2.trans (htrap (by omega) hb)
   repeat(refine Jy ?_)
   (refine JM (fI p (((z1.sk k1).sk k2).b6 q.1 q.2.1 q.2.2) t1 (ha (((z1.sk k1).sk k2).b6 q.1 q.2.1 q.2.2) t1 t3)) ?_;intro s hs;(refine Jn ?_))
   repeat(refine Jy ?_)
   (refine End.aH ((SL.look (((z1.sk k1).sk k2).b6 q.1 q.2.1 q.2.2) p.m)) (he:=Jv) (hp:=?_));exact⟨t1.look p.m,(t1.gQ p.m).trans (by rw[t3])⟩
  ·by_cases e12:i.op=12
   ·repeat(refine Jy ?_)
    (refine Jc ?_;refine aA.aZ (spec:=vI E (z1.F p) z1.st z1.tr z1.e (hc.iE hz1) 1) (r:=fun w=>Reads.any (tk) E.dJ .nil) (k:=?_);intro s hs;(refine Jn ?_));obtain⟨q,rfl⟩:∃x,x=s:=⟨_,rfl⟩;obtain⟨t1,t2⟩:=vJ p3 hs;have t3:(((z1.sk k1).sk k2).b6 q.1 q.2.1 q.2.2).two=Vm.exec E.V p.m.aC i z1.two:=t2.trans (htrap (by omega) hb)
    repeat(refine Jy ?_)
    (refine JM (fI p (((z1.sk k1).sk k2).b6 q.1 q.2.1 q.2.2) t1 (ha (((z1.sk k1).sk k2).b6 q.1 q.2.1 q.2.2) t1 t3)) ?_;intro s hs;(refine Jn ?_))
    repeat(refine Jy ?_)
    (refine End.aH ((SL.look (((z1.sk k1).sk k2).b6 q.1 q.2.1 q.2.2) p.m)) (he:=Jv) (hp:=?_));exact⟨t1.look p.m,(t1.gQ p.m).trans (by rw[t3])⟩
   ·have hne:i.op=11∨i.op=12→z1.top 1≠0:=fun h=>by omega
    repeat(refine Jy ?_)
    (refine JQ (GG i.op (z1.top 2) (z1.top 1) c3 c2 (fun h=>hne h)) ?_;intro s hs;(refine Jn ?_))
    repeat(refine Jy ?_)
    (refine Jc ?_;refine aA.aZ (spec:=lH E (z1.F p) z1.st z1.tr z1.e (hc.iE hz1) (z1.cur.st:Int) (eM z1.cur.upb) (.slice z1.cur.fo z1.cur.fr.length z1.cur.fc) k2 p3.cX (Opt.lY i.op (z1.top 2) (z1.top 1))) (r:=fun w=>Reads.any (tk) E.dJ .nil) (k:=?_);intro s hs;(refine Jn ?_));obtain⟨q,rfl⟩:∃x,x=s:=⟨_,rfl⟩;obtain⟨t1,t2⟩:=lI p3 hs;have t3:(((z1.sk k1).sk k2).put q).two=Vm.exec E.V p.m.aC i z1.two:=t2.trans (hpush hne)
    repeat(refine Jy ?_)
    (refine JM (fI p (((z1.sk k1).sk k2).put q) t1 (ha (((z1.sk k1).sk k2).put q) t1 t3)) ?_;intro s hs;(refine Jn ?_))
    repeat(refine Jy ?_)
    (refine End.aH ((SL.look (((z1.sk k1).sk k2).put q) p.m)) (he:=Jv) (hp:=?_));exact⟨t1.look p.m,(t1.gQ p.m).trans (by rw[t3])⟩
 ·have hne:i.op=11∨i.op=12→z1.top 1≠0:=fun h=>hb
  by_cases e11:i.op=11
  ·repeat(refine Jy ?_)
   (refine JQ (GG i.op (z1.top 2) (z1.top 1) c3 c2 (fun h=>hne h)) ?_;intro s hs;(refine Jn ?_))
   repeat(refine Jy ?_)
   (refine Jc ?_;refine aA.aZ (spec:=lH E (z1.F p) z1.st z1.tr z1.e (hc.iE hz1) (z1.cur.st:Int) (eM z1.cur.upb) (.slice z1.cur.fo z1.cur.fr.length z1.cur.fc) k2 p3.cX (Opt.lY i.op (z1.top 2) (z1.top 1))) (r:=fun w=>Reads.any (tk) E.dJ .nil) (k:=?_);intro s hs;(refine Jn ?_));obtain⟨q,rfl⟩:∃x,x=s:=⟨_,rfl⟩;obtain⟨t1,t2⟩:=lI p3 hs;have t3:(((z1.sk k1).sk k2).put q).two=Vm.exec E.V p.m.aC i z1.two:=t2.trans (hpush hne)
   repeat(refine Jy ?_)
   (refine JM (fI p (((z1.sk k1).sk k2).put q) t1 (ha (((z1.sk k1).sk k2).put q) t1 t3)) ?_;intro s hs;(refine Jn ?_))
   repeat(refine Jy ?_)
   (refine End.aH ((SL.look (((z1.sk k1).sk k2).put q) p.m)) (he:=Jv) (hp:=?_));exact⟨t1.look p.m,(t1.gQ p.m).trans (by rw[t3])⟩
  ·by_cases e12:i.op=12
   ·repeat(refine Jy ?_)
    (refine JQ (GG i.op (z1.top 2) (z1.top 1) c3 c2 (fun h=>hne h)) ?_;intro s hs;(refine Jn ?_))
    repeat(refine Jy ?_)
    (refine Jc ?_;refine aA.aZ (spec:=lH E (z1.F p) z1.st z1.tr z1.e (hc.iE hz1) (z1.cur.st:Int) (eM z1.cur.upb) (.slice z1.cur.fo z1.cur.fr.length z1.cur.fc) k2 p3.cX (Opt.lY i.op (z1.top 2) (z1.top 1))) (r:=fun w=>Reads.any (tk) E.dJ .nil) (k:=?_);intro s hs;(refine Jn ?_));obtain⟨q,rfl⟩:∃x,x=s:=⟨_,rfl⟩;obtain⟨t1,t2⟩:=lI p3 hs;have t3:(((z1.sk k1).sk k2).put q).two=Vm.exec E.V p.m.aC i z1.two:=t2.trans (hpush hne)
    repeat(refine Jy ?_)
    (refine JM (fI p (((z1.sk k1).sk k2).put q) t1 (ha (((z1.sk k1).sk k2).put q) t1 t3)) ?_;intro s hs;(refine Jn ?_))
    repeat(refine Jy ?_)
    (refine End.aH ((SL.look (((z1.sk k1).sk k2).put q) p.m)) (he:=Jv) (hp:=?_));exact⟨t1.look p.m,(t1.gQ p.m).trans (by rw[t3])⟩
   ·repeat(refine Jy ?_)
    (refine JQ (GG i.op (z1.top 2) (z1.top 1) c3 c2 (fun h=>hne h)) ?_;intro s hs;(refine Jn ?_))
    repeat(refine Jy ?_)
    (refine Jc ?_;refine aA.aZ (spec:=lH E (z1.F p) z1.st z1.tr z1.e (hc.iE hz1) (z1.cur.st:Int) (eM z1.cur.upb) (.slice z1.cur.fo z1.cur.fr.length z1.cur.fc) k2 p3.cX (Opt.lY i.op (z1.top 2) (z1.top 1))) (r:=fun w=>Reads.any (tk) E.dJ .nil) (k:=?_);intro s hs;(refine Jn ?_));obtain⟨q,rfl⟩:∃x,x=s:=⟨_,rfl⟩;obtain⟨t1,t2⟩:=lI p3 hs;have t3:(((z1.sk k1).sk k2).put q).two=Vm.exec E.V p.m.aC i z1.two:=t2.trans (hpush hne)
    repeat(refine Jy ?_)
    (refine JM (fI p (((z1.sk k1).sk k2).put q) t1 (ha (((z1.sk k1).sk k2).put q) t1 t3)) ?_;intro s hs;(refine Jn ?_))
    repeat(refine Jy ?_)
    (refine End.aH ((SL.look (((z1.sk k1).sk k2).put q) p.m)) (he:=Jv) (hp:=?_));exact⟨t1.look p.m,(t1.gQ p.m).trans (by rw[t3])⟩
end
section
variable{E:cN}
abbrev SL.at_(z:SL E)(n:Nat):SL E:={z with cur:={z.cur with fr:=z.cur.fr.set (z.cur.fr.length-1) ⟨z.f.unit,n,z.f.base⟩}}
theorem SL.Wf.setAt{z:SL E}(hz:z.Wf)(n:Nat):(z.at_ n).Wf∧(z.at_ n).tk=Vm.eR n z.tk:=by
 refine⟨hz.setCur rfl rfl rfl hz.cX,?_⟩;unfold Vm.eR Vm.xH;rw[hz.fK,hz.cur];exact SL.tM z _
set_option maxHeartbeats 2000000 in
theorem aGG(p:Pl)(z:SL E)(hz:z.Wf)(hs:lQ p.m z)(h1:(z.look p.m).st=1)(hpc:z.f.pc≤100000)(hc:nK p.m (z.bL p.m) (bH p.m z))(ha:pB p.m (z.bL p.m) (bH p.m z))(hop:(bH p.m z).op=21):
  Fn Tryz.prog 32 #[ptr p.tb] [md p.m,E.rc] (TM p z) (σ:=SL E) (iN z (Vm.step E.V p.m.aC z.two).2) (fun _=> .bool (Vm.step E.V p.m.aC z.two).1) (fun z'=>TM p z'):=by
 obtain⟨g1,g2,g3,g4,g5⟩:=id hs;have hl:0<z.cur.fr.length:=JP.2 g1;have w1:IntKind.i64.wrap ((z.cur.fr.length:Int)-1)=((z.cur.fr.length-1:Nat):Int):=by rw[dA (by omega)];omega
 have w2:IntKind.i64.wrap ((z.f.pc:Int)+1)=((z.f.pc+1:Nat):Int):=by rw[dA (by omega)];omega
 refine JE [ptr p.tb] Tryz.func32 Tryz.ntmps32 fun w S=>?_
 (refine Jn ?_)
 repeat(refine Jy ?_)
 (refine Jc ?_;refine aA.aZ (spec:=fI p z hz (fun _=>hs)) (r:=fun w=>Jm) (k:=?_);intro s hs;(refine Jn ?_))
 repeat(refine Jy ?_)
 apply aB.draw 21 ([iZ p (z.look p.m),kU p,gF z.cur,md p.m]) (by kernel_rfl) 22 rfl;refine JR 0 ?_;refine JR 1 ?_;refine JR 2 ?_;refine JR 3 ?_;refine JR 4 ?_;refine JR 5 ?_;refine JR 6 ?_;refine JR 7 ?_;refine JR 8 ?_;refine JR 9 ?_;refine JR 10 ?_;refine JR 11 ?_;refine JR 12 ?_;refine JR 13 ?_;refine JR 14 ?_;refine JR 15 ?_;refine JR 16 ?_;refine JR 17 ?_;refine JR 18 ?_;refine JR 19 ?_;(refine JT 20 ?_;(refine Jb ?_;intro b);refine JG ?_);(refine JT 21 ?_;(refine Jw ?_);refine JG ?_);(apply RunT.done;kernel_rfl)
 repeat(refine Jy ?_)
 (apply aE.op;exact rfl;refine aA.iG (f:=cP) (l:=z.cur.fr) (i:=z.cur.fr.length-1) (off:=1) (vs:=[.int .i64 ((z.f.pc+1:Nat):Int)]) (a':=(⟨z.f.unit,z.f.pc+1,z.f.base⟩:Vm.Fr)) (k:=?_));apply aE.nil;apply End.jQ;obtain⟨ib,rfl⟩:∃x,x=b:=⟨_,rfl⟩;refine aB.sub [(0,ptr p.tb),(2, .bool false),(3, .pointer (place (sz cP) z.cur.fo (z.cur.fr.length-1) 0)),(4,ptr ib)] (Ju) ?_;have hln:z.cur.fr.length=(z.cur.fr.set (z.cur.fr.length-1) (⟨z.f.unit,z.f.pc+1,z.f.base⟩:Vm.Fr)).length:=by rw[Ji]
 refine aB.only (aI w S::md p.m::E.rc::aD ib (dV (bH p.m z)) 113::TM p (z.bL p.m)) (Jx) ?_;have hpl:place (sz cP) z.cur.fo (z.cur.fr.length-1) 0=place (sz cP) (z.bL p.m).cur.fo ((z.bL p.m).cur.fr.length-1) 0:=by rw[show(z.bL p.m).cur.fr.length=z.cur.fr.length from Ji]
 rw[hpl];have hstep:=hz.qX p.m h1;rw[hstep];have hz1:=hz.bL p.m;obtain⟨i,hi⟩:∃i,i=bH p.m z:=⟨_,rfl⟩;obtain⟨z1,hz1e⟩:∃z1,z1=z.bL p.m:=⟨_,rfl⟩;rw[←hi,←hz1e]at hc ha⊢;rw[←hz1e]at hz1;rw[←hi]at hop;have a0:=hc.jump (.inl hop);obtain⟨n,hn⟩:=JI a0;have hn':i.a=(n:Int):=hn;have hfl:z1.cur.fr.length=z.cur.fr.length:=by rw[hz1e];exact Ji
 repeat(refine Jy ?_)
 rw[hn'];(apply aE.op;exact rfl;refine aA.iG (f:=cP) (l:=z1.cur.fr) (i:=z1.cur.fr.length-1) (off:=1) (vs:=[.int .i64 (n:Int)]) (a':=(⟨z1.f.unit,n,z1.f.base⟩:Vm.Fr)) (k:=?_))
 repeat(refine Jy ?_)
 obtain⟨t1,t2⟩:=hz1.setAt n;refine aE.LQ (aI w S::md p.m::E.rc::TM p (z1.at_ n)) (Jx) ?_;have t3:(z1.at_ n).two=Vm.exec E.V p.m.aC i z1.two:=by
  have e:i.a.toNat=n:=by rw[hn'];rfl
  unfold Vm.exec;simp[hop,e];exact congrArg (fun t=>(t,E.abs z1.e)) t2
 repeat(refine Jy ?_)
 (refine JM (fI p (z1.at_ n) t1 (ha (z1.at_ n) t1 t3)) ?_;intro s hs;(refine Jn ?_))
 repeat(refine Jy ?_)
 (refine End.aH ((SL.look (z1.at_ n) p.m)) (he:=Jv) (hp:=?_));exact⟨t1.look p.m,(t1.gQ p.m).trans (by rw[t3])⟩
end
section
variable{E:cN}
set_option maxHeartbeats 2000000 in
theorem aGH(p:Pl)(z:SL E)(hz:z.Wf)(hs:lQ p.m z)(h1:(z.look p.m).st=1)(hpc:z.f.pc≤100000)(hc:nK p.m (z.bL p.m) (bH p.m z))(ha:pB p.m (z.bL p.m) (bH p.m z))(hop:(bH p.m z).op=22):
  Fn Tryz.prog 32 #[ptr p.tb] [md p.m,E.rc] (TM p z) (σ:=SL E) (iN z (Vm.step E.V p.m.aC z.two).2) (fun _=> .bool (Vm.step E.V p.m.aC z.two).1) (fun z'=>TM p z'):=by
 obtain⟨g1,g2,g3,g4,g5⟩:=id hs;have hl:0<z.cur.fr.length:=JP.2 g1;have w1:IntKind.i64.wrap ((z.cur.fr.length:Int)-1)=((z.cur.fr.length-1:Nat):Int):=by rw[dA (by omega)];omega
 have w2:IntKind.i64.wrap ((z.f.pc:Int)+1)=((z.f.pc+1:Nat):Int):=by rw[dA (by omega)];omega
 refine JE [ptr p.tb] Tryz.func32 Tryz.ntmps32 fun w S=>?_
 (refine Jn ?_)
 repeat(refine Jy ?_)
 (refine Jc ?_;refine aA.aZ (spec:=fI p z hz (fun _=>hs)) (r:=fun w=>Jm) (k:=?_);intro s hs;(refine Jn ?_))
 repeat(refine Jy ?_)
 apply aB.draw 21 ([iZ p (z.look p.m),kU p,gF z.cur,md p.m]) (by kernel_rfl) 22 rfl;refine JR 0 ?_;refine JR 1 ?_;refine JR 2 ?_;refine JR 3 ?_;refine JR 4 ?_;refine JR 5 ?_;refine JR 6 ?_;refine JR 7 ?_;refine JR 8 ?_;refine JR 9 ?_;refine JR 10 ?_;refine JR 11 ?_;refine JR 12 ?_;refine JR 13 ?_;refine JR 14 ?_;refine JR 15 ?_;refine JR 16 ?_;refine JR 17 ?_;refine JR 18 ?_;refine JR 19 ?_;(refine JT 20 ?_;(refine Jb ?_;intro b);refine JG ?_);(refine JT 21 ?_;(refine Jw ?_);refine JG ?_);(apply RunT.done;kernel_rfl)
 repeat(refine Jy ?_)
 (apply aE.op;exact rfl;refine aA.iG (f:=cP) (l:=z.cur.fr) (i:=z.cur.fr.length-1) (off:=1) (vs:=[.int .i64 ((z.f.pc+1:Nat):Int)]) (a':=(⟨z.f.unit,z.f.pc+1,z.f.base⟩:Vm.Fr)) (k:=?_));apply aE.nil;apply End.jQ;obtain⟨ib,rfl⟩:∃x,x=b:=⟨_,rfl⟩;refine aB.sub [(0,ptr p.tb),(2, .bool false),(3, .pointer (place (sz cP) z.cur.fo (z.cur.fr.length-1) 0)),(4,ptr ib)] (Ju) ?_;have hln:z.cur.fr.length=(z.cur.fr.set (z.cur.fr.length-1) (⟨z.f.unit,z.f.pc+1,z.f.base⟩:Vm.Fr)).length:=by rw[Ji]
 refine aB.only (aI w S::md p.m::E.rc::aD ib (dV (bH p.m z)) 113::TM p (z.bL p.m)) (Jx) ?_;have hpl:place (sz cP) z.cur.fo (z.cur.fr.length-1) 0=place (sz cP) (z.bL p.m).cur.fo ((z.bL p.m).cur.fr.length-1) 0:=by rw[show(z.bL p.m).cur.fr.length=z.cur.fr.length from Ji]
 rw[hpl];have hstep:=hz.qX p.m h1;rw[hstep];have hz1:=hz.bL p.m;obtain⟨i,hi⟩:∃i,i=bH p.m z:=⟨_,rfl⟩;obtain⟨z1,hz1e⟩:∃z1,z1=z.bL p.m:=⟨_,rfl⟩;rw[←hi,←hz1e]at hc ha⊢;rw[←hz1e]at hz1;rw[←hi]at hop;have a0:=hc.jump (.inr hop);have c1:=hc.some (by omega);obtain⟨n,hn⟩:=JI a0;have hn':i.a=(n:Int):=hn;have hfl:z1.cur.fr.length=z.cur.fr.length:=by rw[hz1e];exact Ji
 have e:i.a.toNat=n:=by rw[hn'];rfl
 repeat(refine Jy ?_)
 (refine JQ (nC (z1.F p) z1.st z1.tr (z1.cur.st:Int) (eM z1.cur.upb) (.slice z1.cur.fo z1.cur.fr.length z1.cur.fc) E.jN (jH E.told) z1.cur.sk hz1.cX c1) ?_;intro s hs;(refine Jn ?_));obtain⟨k1,rfl⟩:∃x,x=s:=⟨_,rfl⟩;obtain⟨p1,p2⟩:=mD hz1 hs;have hla:Vm.last z1.tk=z1.top 1:=hz1.last
 by_cases h0:z1.cur.sk.ws.getD (z1.cur.sk.live-1) 0=0
 ·repeat(refine Jy ?_)
  rw[hn'];(apply aE.op;exact rfl;refine aA.iG (f:=cP) (l:=z1.cur.fr) (i:=z1.cur.fr.length-1) (off:=1) (vs:=[.int .i64 (n:Int)]) (a':=(⟨z1.f.unit,n,z1.f.base⟩:Vm.Fr)) (k:=?_))
  repeat(refine Jy ?_)
  obtain⟨t1,t2⟩:=p1.setAt n;refine aE.LQ (aI w S::md p.m::E.rc::TM p ((z1.sk k1).at_ n)) (Jx) ?_;have t3:((z1.sk k1).at_ n).two=Vm.exec E.V p.m.aC i z1.two:=by
   have hl0:Vm.last z1.two.1=0:=hz1.last.trans h0;unfold Vm.exec;simp[hop,e,hl0];exact congrArg (fun t=>(t,E.abs z1.e)) (t2.trans (by rw[p2];rfl))
  repeat(refine Jy ?_)
  (refine JM (fI p ((z1.sk k1).at_ n) t1 (ha ((z1.sk k1).at_ n) t1 t3)) ?_;intro s hs;(refine Jn ?_))
  repeat(refine Jy ?_)
  (refine End.aH ((SL.look ((z1.sk k1).at_ n) p.m)) (he:=Jv) (hp:=?_));exact⟨t1.look p.m,(t1.gQ p.m).trans (by rw[t3])⟩
 ·repeat(refine Jy ?_)
  have t3:(z1.sk k1).two=Vm.exec E.V p.m.aC i z1.two:=by
   have hl0:Vm.last z1.two.1≠0:=fun h=>h0 (hz1.last.symm.trans h)
   unfold Vm.exec;simp[hop,hl0];exact congrArg (fun t=>(t,E.abs z1.e)) p2
  repeat(refine Jy ?_)
  (refine JM (fI p (z1.sk k1) p1 (ha (z1.sk k1) p1 t3)) ?_;intro s hs;(refine Jn ?_))
  repeat(refine Jy ?_)
  (refine End.aH ((SL.look (z1.sk k1) p.m)) (he:=Jv) (hp:=?_));exact⟨p1.look p.m,(p1.gQ p.m).trans (by rw[t3])⟩
set_option maxHeartbeats 2000000 in
theorem aGI(p:Pl)(z:SL E)(hz:z.Wf)(hs:lQ p.m z)(h1:(z.look p.m).st=1)(hpc:z.f.pc≤100000)(hc:nK p.m (z.bL p.m) (bH p.m z))(ha:pB p.m (z.bL p.m) (bH p.m z))(hop:(bH p.m z).op=28):
  Fn Tryz.prog 32 #[ptr p.tb] [md p.m,E.rc] (TM p z) (σ:=SL E) (iN z (Vm.step E.V p.m.aC z.two).2) (fun _=> .bool (Vm.step E.V p.m.aC z.two).1) (fun z'=>TM p z'):=by
 obtain⟨g1,g2,g3,g4,g5⟩:=id hs;have hl:0<z.cur.fr.length:=JP.2 g1;have w1:IntKind.i64.wrap ((z.cur.fr.length:Int)-1)=((z.cur.fr.length-1:Nat):Int):=by rw[dA (by omega)];omega
 have w2:IntKind.i64.wrap ((z.f.pc:Int)+1)=((z.f.pc+1:Nat):Int):=by rw[dA (by omega)];omega
 refine JE [ptr p.tb] Tryz.func32 Tryz.ntmps32 fun w S=>?_
 (refine Jn ?_)
 repeat(refine Jy ?_)
 (refine Jc ?_;refine aA.aZ (spec:=fI p z hz (fun _=>hs)) (r:=fun w=>Jm) (k:=?_);intro s hs;(refine Jn ?_))
 repeat(refine Jy ?_)
 apply aB.draw 21 ([iZ p (z.look p.m),kU p,gF z.cur,md p.m]) (by kernel_rfl) 22 rfl;refine JR 0 ?_;refine JR 1 ?_;refine JR 2 ?_;refine JR 3 ?_;refine JR 4 ?_;refine JR 5 ?_;refine JR 6 ?_;refine JR 7 ?_;refine JR 8 ?_;refine JR 9 ?_;refine JR 10 ?_;refine JR 11 ?_;refine JR 12 ?_;refine JR 13 ?_;refine JR 14 ?_;refine JR 15 ?_;refine JR 16 ?_;refine JR 17 ?_;refine JR 18 ?_;refine JR 19 ?_;(refine JT 20 ?_;(refine Jb ?_;intro b);refine JG ?_);(refine JT 21 ?_;(refine Jw ?_);refine JG ?_);(apply RunT.done;kernel_rfl)
 repeat(refine Jy ?_)
 (apply aE.op;exact rfl;refine aA.iG (f:=cP) (l:=z.cur.fr) (i:=z.cur.fr.length-1) (off:=1) (vs:=[.int .i64 ((z.f.pc+1:Nat):Int)]) (a':=(⟨z.f.unit,z.f.pc+1,z.f.base⟩:Vm.Fr)) (k:=?_));apply aE.nil;apply End.jQ;obtain⟨ib,rfl⟩:∃x,x=b:=⟨_,rfl⟩;refine aB.sub [(0,ptr p.tb),(2, .bool false),(3, .pointer (place (sz cP) z.cur.fo (z.cur.fr.length-1) 0)),(4,ptr ib)] (Ju) ?_;have hln:z.cur.fr.length=(z.cur.fr.set (z.cur.fr.length-1) (⟨z.f.unit,z.f.pc+1,z.f.base⟩:Vm.Fr)).length:=by rw[Ji]
 refine aB.only (aI w S::md p.m::E.rc::aD ib (dV (bH p.m z)) 113::TM p (z.bL p.m)) (Jx) ?_;have hpl:place (sz cP) z.cur.fo (z.cur.fr.length-1) 0=place (sz cP) (z.bL p.m).cur.fo ((z.bL p.m).cur.fr.length-1) 0:=by rw[show(z.bL p.m).cur.fr.length=z.cur.fr.length from Ji]
 rw[hpl];have hstep:=hz.qX p.m h1;rw[hstep];have hz1:=hz.bL p.m;obtain⟨i,hi⟩:∃i,i=bH p.m z:=⟨_,rfl⟩;obtain⟨z1,hz1e⟩:∃z1,z1=z.bL p.m:=⟨_,rfl⟩;rw[←hi,←hz1e]at hc ha⊢;rw[←hz1e]at hz1;rw[←hi]at hop;have c1:=hc.some (by omega)
 repeat(refine Jy ?_)
 (refine JQ (nC (z1.F p) z1.st z1.tr (z1.cur.st:Int) (eM z1.cur.upb) (.slice z1.cur.fo z1.cur.fr.length z1.cur.fc) E.jN (jH E.told) z1.cur.sk hz1.cX c1) ?_;intro s hs;(refine Jn ?_));obtain⟨k1,rfl⟩:∃x,x=s:=⟨_,rfl⟩;obtain⟨p1,p2⟩:=mD hz1 hs;have c2:=hc.outs hop
 repeat(refine Jy ?_;try first|intro ao cap|intro b)
 have hoL:(z1.out ++[z1.top 1]).length=z1.out.length+1:=by simp
 have hla:Vm.last z1.tk=z1.top 1:=hz1.last;(refine Jc ?_;refine aA.aZ (spec:=zU E ⟨p.tb,p.mb, .slice z1.co z1.bs.length z1.ccap,z1.cur.cb,z1.bx, .slice ao (z1.out.length+1) cap⟩ z1.st z1.tr z1.e (hc.iE hz1) 1 0 (z1.top 1)) (r:=fun w=>Reads.any (tk) E.dJ .nil) (k:=?_);intro s hs;(refine Jn ?_));obtain⟨e2,rfl⟩:∃x,x=s:=⟨_,rfl⟩;have t1:({z1.sk k1 with oo:=ao,oc:=cap,out:=z1.out ++[z1.top 1],e:=e2}:SL E).Wf:=⟨p1.now,p1.len,p1.dY,p1.at_,p1.up,p1.lL,p1.sk,hs.1⟩;have t3:({z1.sk k1 with oo:=ao,oc:=cap,out:=z1.out ++[z1.top 1],e:=e2}:SL E).two=Vm.exec E.V p.m.aC i z1.two:=by
  have hla':Vm.last z1.two.1=z1.top 1:=hz1.last;unfold Vm.exec;simp only[hop,hla'];refine oK ?_ hs.2;show SL.tk {z1.sk k1 with oo:=ao,oc:=cap,out:=z1.out ++[z1.top 1],e:=e2}={Vm.drop 1 z1.tk with out:=(Vm.drop 1 z1.tk).out ++[z1.top 1]};rw[←p2];rfl
 rw[←hoL]
 repeat(refine Jy ?_)
 (refine JM (fI p ({z1.sk k1 with oo:=ao,oc:=cap,out:=z1.out ++[z1.top 1],e:=e2}) t1 (ha ({z1.sk k1 with oo:=ao,oc:=cap,out:=z1.out ++[z1.top 1],e:=e2}) t1 t3)) ?_;intro s hs;(refine Jn ?_))
 repeat(refine Jy ?_)
 (refine End.aH ((SL.look ({z1.sk k1 with oo:=ao,oc:=cap,out:=z1.out ++[z1.top 1],e:=e2}) p.m)) (he:=Jv) (hp:=?_));exact⟨t1.look p.m,(t1.gQ p.m).trans (by rw[t3])⟩
end
variable{E:cN}
set_option maxHeartbeats 2000000 in
theorem aGJ(p:Pl)(z:SL E)(hz:z.Wf)(hs:lQ p.m z)(h1:(z.look p.m).st=1)(hpc:z.f.pc≤100000)(hc:nK p.m (z.bL p.m) (bH p.m z))(ha:pB p.m (z.bL p.m) (bH p.m z))(hop:(bH p.m z).op=26):
  Fn Tryz.prog 32 #[ptr p.tb] [md p.m,E.rc] (TM p z) (σ:=SL E) (iN z (Vm.step E.V p.m.aC z.two).2) (fun _=> .bool (Vm.step E.V p.m.aC z.two).1) (fun z'=>TM p z'):=by
 obtain⟨g1,g2,g3,g4,g5⟩:=id hs;have hl:0<z.cur.fr.length:=JP.2 g1;have w1:IntKind.i64.wrap ((z.cur.fr.length:Int)-1)=((z.cur.fr.length-1:Nat):Int):=by rw[dA (by omega)];omega
 have w2:IntKind.i64.wrap ((z.f.pc:Int)+1)=((z.f.pc+1:Nat):Int):=by rw[dA (by omega)];omega
 refine JE [ptr p.tb] Tryz.func32 Tryz.ntmps32 fun w S=>?_
 (refine Jn ?_)
 repeat(refine Jy ?_)
 (refine Jc ?_;refine aA.aZ (spec:=fI p z hz (fun _=>hs)) (r:=fun w=>Jm) (k:=?_);intro s hs;(refine Jn ?_))
 repeat(refine Jy ?_)
 apply aB.draw 21 ([iZ p (z.look p.m),kU p,gF z.cur,md p.m]) (by kernel_rfl) 22 rfl;refine JR 0 ?_;refine JR 1 ?_;refine JR 2 ?_;refine JR 3 ?_;refine JR 4 ?_;refine JR 5 ?_;refine JR 6 ?_;refine JR 7 ?_;refine JR 8 ?_;refine JR 9 ?_;refine JR 10 ?_;refine JR 11 ?_;refine JR 12 ?_;refine JR 13 ?_;refine JR 14 ?_;refine JR 15 ?_;refine JR 16 ?_;refine JR 17 ?_;refine JR 18 ?_;refine JR 19 ?_;(refine JT 20 ?_;(refine Jb ?_;intro b);refine JG ?_);(refine JT 21 ?_;(refine Jw ?_);refine JG ?_);(apply RunT.done;kernel_rfl)
 repeat(refine Jy ?_)
 (apply aE.op;exact rfl;refine aA.iG (f:=cP) (l:=z.cur.fr) (i:=z.cur.fr.length-1) (off:=1) (vs:=[.int .i64 ((z.f.pc+1:Nat):Int)]) (a':=(⟨z.f.unit,z.f.pc+1,z.f.base⟩:Vm.Fr)) (k:=?_));apply aE.nil;apply End.jQ;obtain⟨ib,rfl⟩:∃x,x=b:=⟨_,rfl⟩;refine aB.sub [(0,ptr p.tb),(2, .bool false),(3, .pointer (place (sz cP) z.cur.fo (z.cur.fr.length-1) 0)),(4,ptr ib)] (Ju) ?_;have hln:z.cur.fr.length=(z.cur.fr.set (z.cur.fr.length-1) (⟨z.f.unit,z.f.pc+1,z.f.base⟩:Vm.Fr)).length:=by rw[Ji]
 refine aB.only (aI w S::md p.m::E.rc::aD ib (dV (bH p.m z)) 113::TM p (z.bL p.m)) (Jx) ?_;have hpl:place (sz cP) z.cur.fo (z.cur.fr.length-1) 0=place (sz cP) (z.bL p.m).cur.fo ((z.bL p.m).cur.fr.length-1) 0:=by rw[show(z.bL p.m).cur.fr.length=z.cur.fr.length from Ji]
 rw[hpl];have hstep:=hz.qX p.m h1;rw[hstep];have hz1:=hz.bL p.m;obtain⟨i,hi⟩:∃i,i=bH p.m z:=⟨_,rfl⟩;obtain⟨z1,hz1e⟩:∃z1,z1=z.bL p.m:=⟨_,rfl⟩;rw[←hi,←hz1e]at hc ha⊢;rw[←hz1e]at hz1;rw[←hi]at hop;have c1:=hc.some (by omega);obtain⟨s1,s2,s3⟩:=hc.send hop;have hput:=E.put z1.e i.a.toNat (z1.top 1) hz1.env s2 s3 (by have:=hc.size;omega);rw[qF s1]at hput
 repeat(refine Jy ?_)
 (refine JQ (nC (z1.F p) z1.st z1.tr (z1.cur.st:Int) (eM z1.cur.upb) (.slice z1.cur.fo z1.cur.fr.length z1.cur.fc) E.jN (jH E.told) z1.cur.sk hz1.cX c1) ?_;intro s hs;(refine Jn ?_));obtain⟨k1,rfl⟩:∃x,x=s:=⟨_,rfl⟩;obtain⟨p1,p2⟩:=mD hz1 hs
 repeat(refine Jy ?_)
 (refine Jc ?_;refine aA.DN (E.KW) (E.HJ) (hput) (r:=fun w=>Reads.any (tk) E.dJ .nil) (k:=?_);intro s hs;(refine Jn ?_));obtain⟨e1,rfl⟩:∃x,x=s:=⟨_,rfl⟩;obtain⟨q1,q2⟩:=hs
 repeat(refine Jy ?_)
 (refine Jc ?_;refine aA.aZ (spec:=zU E (z1.F p) z1.st z1.tr e1 ⟨q1,by rw[q2];have h5:=E.tK (E.abs z1.e) i.a.toNat (z1.top 1);have h6:=hc.size;omega⟩ 2 i.a (z1.top 1)) (r:=fun w=>Reads.any (tk) E.dJ .nil) (k:=?_);intro s hs;(refine Jn ?_));obtain⟨e2,rfl⟩:∃x,x=s:=⟨_,rfl⟩;have t1:({z1.sk k1 with e:=e2}:SL E).Wf:=⟨p1.now,p1.len,p1.dY,p1.at_,p1.up,p1.lL,p1.sk,hs.1⟩;have t3:({z1.sk k1 with e:=e2}:SL E).two=Vm.exec E.V p.m.aC i z1.two:=by
  have hla':Vm.last z1.two.1=z1.top 1:=hz1.last;unfold Vm.exec;simp only[hop,hla'];refine oK ?_ (hs.2.trans (by rw[q2];rfl));exact p2
 repeat(refine Jy ?_)
 (refine JM (fI p ({z1.sk k1 with e:=e2}) t1 (ha ({z1.sk k1 with e:=e2}) t1 t3)) ?_;intro s hs;(refine Jn ?_))
 repeat(refine Jy ?_)
 (refine End.aH ((SL.look ({z1.sk k1 with e:=e2}) p.m)) (he:=Jv) (hp:=?_));exact⟨t1.look p.m,(t1.gQ p.m).trans (by rw[t3])⟩
set_option maxHeartbeats 2000000 in
theorem aGK(p:Pl)(z:SL E)(hz:z.Wf)(hs:lQ p.m z)(h1:(z.look p.m).st=1)(hpc:z.f.pc≤100000)(hc:nK p.m (z.bL p.m) (bH p.m z))(ha:pB p.m (z.bL p.m) (bH p.m z))(hop:(bH p.m z).op=27):
  Fn Tryz.prog 32 #[ptr p.tb] [md p.m,E.rc] (TM p z) (σ:=SL E) (iN z (Vm.step E.V p.m.aC z.two).2) (fun _=> .bool (Vm.step E.V p.m.aC z.two).1) (fun z'=>TM p z'):=by
 obtain⟨g1,g2,g3,g4,g5⟩:=id hs;have hl:0<z.cur.fr.length:=JP.2 g1;have w1:IntKind.i64.wrap ((z.cur.fr.length:Int)-1)=((z.cur.fr.length-1:Nat):Int):=by rw[dA (by omega)];omega
 have w2:IntKind.i64.wrap ((z.f.pc:Int)+1)=((z.f.pc+1:Nat):Int):=by rw[dA (by omega)];omega
 refine JE [ptr p.tb] Tryz.func32 Tryz.ntmps32 fun w S=>?_
 (refine Jn ?_)
 repeat(refine Jy ?_)
 (refine Jc ?_;refine aA.aZ (spec:=fI p z hz (fun _=>hs)) (r:=fun w=>Jm) (k:=?_);intro s hs;(refine Jn ?_))
 repeat(refine Jy ?_)
 apply aB.draw 21 ([iZ p (z.look p.m),kU p,gF z.cur,md p.m]) (by kernel_rfl) 22 rfl;refine JR 0 ?_;refine JR 1 ?_;refine JR 2 ?_;refine JR 3 ?_;refine JR 4 ?_;refine JR 5 ?_;refine JR 6 ?_;refine JR 7 ?_;refine JR 8 ?_;refine JR 9 ?_;refine JR 10 ?_;refine JR 11 ?_;refine JR 12 ?_;refine JR 13 ?_;refine JR 14 ?_;refine JR 15 ?_;refine JR 16 ?_;refine JR 17 ?_;refine JR 18 ?_;refine JR 19 ?_;(refine JT 20 ?_;(refine Jb ?_;intro b);refine JG ?_);(refine JT 21 ?_;(refine Jw ?_);refine JG ?_);(apply RunT.done;kernel_rfl)
 repeat(refine Jy ?_)
 (apply aE.op;exact rfl;refine aA.iG (f:=cP) (l:=z.cur.fr) (i:=z.cur.fr.length-1) (off:=1) (vs:=[.int .i64 ((z.f.pc+1:Nat):Int)]) (a':=(⟨z.f.unit,z.f.pc+1,z.f.base⟩:Vm.Fr)) (k:=?_));apply aE.nil;apply End.jQ;obtain⟨ib,rfl⟩:∃x,x=b:=⟨_,rfl⟩;refine aB.sub [(0,ptr p.tb),(2, .bool false),(3, .pointer (place (sz cP) z.cur.fo (z.cur.fr.length-1) 0)),(4,ptr ib)] (Ju) ?_;have hln:z.cur.fr.length=(z.cur.fr.set (z.cur.fr.length-1) (⟨z.f.unit,z.f.pc+1,z.f.base⟩:Vm.Fr)).length:=by rw[Ji]
 refine aB.only (aI w S::md p.m::E.rc::aD ib (dV (bH p.m z)) 113::TM p (z.bL p.m)) (Jx) ?_;have hpl:place (sz cP) z.cur.fo (z.cur.fr.length-1) 0=place (sz cP) (z.bL p.m).cur.fo ((z.bL p.m).cur.fr.length-1) 0:=by rw[show(z.bL p.m).cur.fr.length=z.cur.fr.length from Ji]
 rw[hpl];have hstep:=hz.qX p.m h1;rw[hstep];have hz1:=hz.bL p.m;obtain⟨i,hi⟩:∃i,i=bH p.m z:=⟨_,rfl⟩;obtain⟨z1,hz1e⟩:∃z1,z1=z.bL p.m:=⟨_,rfl⟩;rw[←hi,←hz1e]at hc ha⊢;rw[←hz1e]at hz1;rw[←hi]at hop;obtain⟨s1,s2,s3⟩:=hc.recv hop;have htk:=E.take z1.e i.a.toNat hz1.env s2 s3;rw[qF s1]at htk
 repeat(refine Jy ?_)
 (refine Jc ?_;refine aA.DN (E.KX) (E.HK) (htk) (r:=fun w=>Reads.any (tk) E.dJ .nil) (k:=?_);intro s hs;(refine Jn ?_));obtain⟨e1,rfl⟩:∃x,x=s:=⟨_,rfl⟩;obtain⟨q1,q2⟩:=hs
 repeat(refine Jy ?_)
 (refine Jc ?_;refine aA.aZ (spec:=zU E (z1.F p) z1.st z1.tr e1 ⟨q1,by rw[q2];have h5:=E.rW (E.abs z1.e) i.a.toNat;have h6:=hc.size;omega⟩ 3 i.a (E.V.take (E.abs z1.e) i.a.toNat).1) (r:=fun w=>Reads.any (tk) E.dJ .nil) (k:=?_);intro s hs;(refine Jn ?_));obtain⟨e2,rfl⟩:∃x,x=s:=⟨_,rfl⟩;have p1:({z1 with e:=e2}:SL E).Wf:=⟨hz1.now,hz1.len,hz1.dY,hz1.at_,hz1.up,hz1.lL,hz1.sk,hs.1⟩;have hs2:=hs
 repeat(refine Jy ?_)
 (refine Jc ?_;refine aA.aZ (spec:=lH E (z1.F p) z1.st z1.tr e2 ⟨hs.1,by rw[hs.2,q2];have h5:=E.rW (E.abs z1.e) i.a.toNat;have h6:=E.o4 (E.V.take (E.abs z1.e) i.a.toNat).2 (3,i.a,(E.V.take (E.abs z1.e) i.a.toNat).1);have h7:=hc.size;omega⟩ (z1.cur.st:Int) (eM z1.cur.upb) (.slice z1.cur.fo z1.cur.fr.length z1.cur.fc) z1.cur.sk hz1.cX (E.V.take (E.abs z1.e) i.a.toNat).1) (r:=fun w=>Reads.any (tk) E.dJ .nil) (k:=?_);intro s hs;(refine Jn ?_));obtain⟨q,rfl⟩:∃x,x=s:=⟨_,rfl⟩;obtain⟨t1,t2⟩:=lI p1 hs;have t3:(({z1 with e:=e2}:SL E).put q).two=Vm.exec E.V p.m.aC i z1.two:=by
  rw[t2];unfold Vm.exec;simp only[hop];show Vm.push E.V _ (z1.tk,E.abs e2)=_;rw[hs2.2,q2];rfl
 repeat(refine Jy ?_)
 (refine JM (fI p (({z1 with e:=e2}:SL E).put q) t1 (ha (({z1 with e:=e2}:SL E).put q) t1 t3)) ?_;intro s hs;(refine Jn ?_))
 repeat(refine Jy ?_)
 (refine End.aH ((SL.look (({z1 with e:=e2}:SL E).put q) p.m)) (he:=Jv) (hp:=?_));exact⟨t1.look p.m,(t1.gQ p.m).trans (by rw[t3])⟩
end
end Vw
end Go.Proofs.YtofckcabpchcmaaGreatDoor
