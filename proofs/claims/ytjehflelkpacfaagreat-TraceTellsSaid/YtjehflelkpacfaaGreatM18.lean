/- The document's task: a step, walked: a local is set. -/
import Derived.Test.YtjehflelkpacfaaGreatM17
set_option linter.unusedVariables false
set_option linter.unusedSimpArgs false
set_option linter.unusedSectionVars false
set_option maxRecDepth 100000
namespace Go.Proofs.YtjehflelkpacfaaGreat.Vw
open Go.RowKit Go.Proofs.YtjehflelkpacfaaGreat.Img
section
attribute [local irreducible] Run Cod End OpT Still RunQ RunS RunT Fn PutOk
variable{E:EnvR}
set_option maxHeartbeats 2000000 in
theorem step9_3(tb:Nat)(m:ML)(z:RT E)(hz:z.Wf)(hk:CanR m z)(h1:(z.look m).st=1)(hop:(insR m (z.look m)).op=4):StepF tb m z:=by
 unfold StepF;have hp:=pre9 hz hk h1;have hlk:=look9_is tb m hk.boxes z hz (fun _=>hk.stand);have hbx:=hk.boxes;rw[hz.step_two m h1];clear hk h1;generalize z.look m=z0 at hp hlk hop⊢;obtain⟨hn,hg,hfl,hf40,hws,hpc,w1,w2⟩:=hp.num;have h1:=hp.one;refine JE [ptr tb,E.mailV] Tryz.func35 Tryz.ntmps35 fun w S=>?_
 (refine Jn ?_)
 repeat(refine Jy ?_;try first|intro ao cap|intro b)
 (refine JM (hlk) ?_;intro s hs;(refine Jn ?_))
 repeat(refine Jy ?_;try first|intro ao cap|intro b)
 (refine Jc ?_;refine OpT.call0_ (spec:=at9_is tb m z0 hp.wf hp.st) (r:=fun w=>Reads.md (tk) .nil) (k:=?_);intro s hs;(refine Jn ?_))
 repeat(refine Jy ?_;try first|intro ao cap|intro b)
 obtain⟨ib,rfl⟩:∃x,x=b:=⟨_,rfl⟩;rw[hg]
 repeat(refine Jy ?_;try first|intro ao cap|intro b)
 rw[w1,Jj,w2];(apply Run.op;exact rfl;refine OpT.storeE_ (f:=rfC) (l:=z0.cur.fr) (i:=z0.cur.fr.length-1) (off:=1) (vs:=[.int .i64 ((z0.f.pc+1:Nat):Int)]) (a':=(⟨z0.f.unit,z0.f.pc+1,z0.f.base⟩:Vm.Fr)) (k:=?_));apply Run.nil;apply End.seqN;refine Cod.sub [(0,ptr tb),(1,E.mailV),(4, .bool false),(5,ptr ib),(6, .pointer (place (sz rcC) z0.to z0.now 0)),(7, .pointer (place (sz rfC) z0.cur.fo (z0.cur.fr.length-1) 0)),(8, .int .i64 (z0.f.base:Int))] (Ju) ?_;apply Cod.imp (fun w hm=>Mem.frs hp.wf (fr':=z0.cur.fr.set (z0.cur.fr.length-1) ⟨z0.f.unit,z0.f.pc+1,z0.f.base⟩) (by rw[Ji]) hm (tks));refine Cod.only (old w S::md m::E.rc::blk ib (insC (insR m z0)) 126::RM tb m z0.mvd) (tks) ?_;obtain⟨p1,p2,p3⟩:=mvd_places hfl;rw[p1,p2,p3];have hm:=hp.mid;clear hp hlk hn hg hfl hf40 w1 w2 hpc hws p1 p2 p3 h1;generalize insR m z0=i at hm hop⊢;generalize z0.mvd=z1 at hm⊢;obtain⟨hz1,hc,ha,hw1,hfl1,hf40,hst1,hlog1,hout1,hsz1,hcs2,hun,hall,hsts,hfree,hn,hg⟩:=hm;have hst:=hc.store hop;have hlive:=hc.one (by omega);have e3:Vm.wl z1.tk=z1.cur.ws.length:=by unfold Vm.wl;rw[hz1.ws]
 rw[hz1.topF,e3]at hst;rw[e3]at hlive;have hlast:=hz1.last;have hd1:=drop_one hlive;have hex:Vm.exec E.W m.mdl i z1.two=(Vm.setCur (Vm.drop 1 z1.tk) {Vm.cur (Vm.drop 1 z1.tk)with ws:=(Vm.cur (Vm.drop 1 z1.tk)).ws.set ((Vm.topF (Vm.cur (Vm.drop 1 z1.tk))).base+i.a.toNat) (z1.cur.ws.getD (z1.cur.ws.length-1) 0)},z1.two.2):=by
  rw[←hlast];unfold Vm.exec;simp[hop];rfl
 have w3:((z1.f.base:Int)+i.a)=((z1.f.base+i.a.toNat:Nat):Int):=by omega
 repeat(refine Jy ?_;try first|intro ao cap|intro b)
 (refine JQ (take9_is tb m z1 hz1 1 (by omega) (by omega)) ?_;intro s hs;(refine Jn ?_));obtain⟨zt,hzt⟩:∃x,x=z1.took 1 s.1:=⟨_,rfl⟩;rw[←hzt];have ztw:zt.Wf:=by rw[hzt];exact hz1.took 1 s.1
 have ztk:zt.tk=Vm.drop 1 z1.tk:=by rw[hzt];exact hz1.took_tk 1 s.1
 have ztl:zt.cur.ws.length=z1.cur.ws.length-1:=by rw[hzt];exact RT.took_len z1 1 s.1
 have zto:zt.e=z1.e∧zt.log=z1.log∧zt.out=z1.out∧zt.to=z1.to∧zt.now=z1.now∧zt.cur.fo=z1.cur.fo∧zt.cur.fr=z1.cur.fr∧zt.oth=z1.oth∧zt.cur.up=z1.cur.up∧zt.cur.st=z1.cur.st∧zt.st=z1.st:=by rw[hzt];exact⟨rfl,rfl,rfl,rfl,rfl,rfl,rfl,rfl,rfl,rfl,rfl⟩
 have ztt:zt.two=(Vm.drop 1 z1.tk,z1.two.2):=by unfold RT.two;rw[ztk,zto.1,zto.2.1]
 have ztg:=ztw.curGet;have ztn:=ztw.now;obtain⟨oq,olo,olc⟩:=s;dsimp only;rw[hd1];(apply Run.op;exact rfl;refine OpT.val_ (h:=by(apply Still.at_;exact rfl;exact rfl;exact Jr;exact rfl;exact rfl;exact rfl;exact ix_zero;omega)) (k:=?_));(apply Run.op;exact rfl;refine OpT.val_ (k:=?_));rw[getD_one]
 repeat(refine Jy ?_;try first|intro ao cap|intro b)
 rw[show place (sz rcC) z1.to z1.now 0=place (sz rcC) zt.to zt.now 0 by rw[zto.2.2.2.1,zto.2.2.2.2.1]];obtain⟨nb,rfl⟩:∃x,x=b:=⟨_,rfl⟩;apply Run.imp (fun w hm=>hm.toArr (b:=nb) (tk) ([]:List Int) (f:=i64c) rfl rfl (by unfold maxLen;simp))
 repeat(refine Jy ?_;try first|intro ao cap|intro b)
 rw[ztg];(apply Run.op;exact rfl;refine OpT.appendS_ (l2:=zt.cur.ws) (k:=?_);intro wo wc);rw[Jk,Nat.zero_add]
 repeat(refine Jy ?_;try first|intro ao cap|intro b)
 (apply Run.op;exact rfl;refine OpT.storeE_ (f:=rcC) (l:=zt.all) (i:=zt.now) (off:=3) (vs:=[.slice wo zt.cur.ws.length wc]) (a':=({zt.cur with wo:=wo,wc:=wc,ws:=zt.cur.ws}:RC)) (hp:=by rw[ztg];exact Put.rcW wo wc zt.cur.ws) (k:=?_));rw[←RT.all_cur];obtain⟨z2,hz2⟩:∃x,x=zt.setW wo wc zt.cur.ws:=⟨_,rfl⟩;apply Run.imp (fun w hm=>hm.takes (show Takes (RM tb m z2) _ _ by(rw[hz2];(repeat(first|exact Takes.nil|exact Take.head|apply Take.tail|apply Takes.cons)))));(refine Jn ?_);rw[show place (sz rcC) zt.to zt.now 0=place (sz rcC) z2.to z2.now 0 by rw[hz2]];have z2w:z2.Wf:=by rw[hz2];exact ztw.to_ _
 have z2g:=z2w.curGet;have z2n:=z2w.now;have z2l:z2.cur.ws.length=z1.cur.ws.length-1:=by rw[hz2];exact ztl
 repeat(refine Jy ?_;try first|intro ao cap|intro b)
 rw[z2g,w3]
 repeat(refine Jy ?_;try first|intro ao cap|intro b)
 (apply Run.op;exact rfl;refine OpT.storeE_ (f:=i64c) (l:=z2.cur.ws) (i:=z1.f.base+i.a.toNat) (off:=0) (vs:=[.int .i64 (z1.cur.ws.getD (z1.cur.ws.length-1) 0)]) (a':=z1.cur.ws.getD (z1.cur.ws.length-1) 0) (k:=?_));apply Run.imp (fun w hm=>Mem.wds z2w (ws':=z2.cur.ws.set (z1.f.base+i.a.toNat) (z1.cur.ws.getD (z1.cur.ws.length-1) 0)) (by rw[Ji]) hm (tks));have ztf:zt.f=z1.f:=by
  show zt.cur.fr.getD (zt.cur.fr.length-1) default=_;rw[zto.2.2.2.2.2.2.1]
 have g:GivesR (Vm.exec E.W m.mdl i z1.two) (z2.to_ {z2.cur with ws:=z2.cur.ws.set (z1.f.base+i.a.toNat) (z1.cur.ws.getD (z1.cur.ws.length-1) 0)}):=⟨z2w.to_ _,by
  rw[hex,←ztk,ztw.topF,ztf,hz2];show((zt.setW wo wc (zt.cur.ws.set (z1.f.base+i.a.toNat) (z1.cur.ws.getD (z1.cur.ws.length-1) 0))).tk,(E.abs zt.e,zt.log))=_;rw[ztw.setW_tk,ztw.ws,zto.1,zto.2.1];rfl⟩
 repeat(refine Jy ?_;try first|intro ao cap|intro b)
 (refine JM (look9_is tb m hbx (z2.to_ {z2.cur with ws:=z2.cur.ws.set (z1.f.base+i.a.toNat) (z1.cur.ws.getD (z1.cur.ws.length-1) 0)}) (g).wf (ha (z2.to_ {z2.cur with ws:=z2.cur.ws.set (z1.f.base+i.a.toNat) (z1.cur.ws.getD (z1.cur.ws.length-1) 0)}) (g).wf (g).two)) ?_;intro s hs;(refine Jn ?_))
 repeat(refine Jy ?_;try first|intro ao cap|intro b)
 (refine End.done1_ ((RT.look (z2.to_ {z2.cur with ws:=z2.cur.ws.set (z1.f.base+i.a.toNat) (z1.cur.ws.getD (z1.cur.ws.length-1) 0)}) m)) (he:=Jv) (hp:=?_));exact⟨(g).wf.look m,((g).wf.look_two m).trans (by rw[(g).two])⟩
end
section
attribute [local irreducible] Run Cod End OpT Still RunQ RunS RunT Fn PutOk
variable{E:EnvR}
set_option maxHeartbeats 2000000 in
theorem step9_4(tb:Nat)(m:ML)(z:RT E)(hz:z.Wf)(hk:CanR m z)(h1:(z.look m).st=1)(hop:(insR m (z.look m)).op=21∨(insR m (z.look m)).op=22):StepF tb m z:=by
 unfold StepF;have hp:=pre9 hz hk h1;have hlk:=look9_is tb m hk.boxes z hz (fun _=>hk.stand);have hbx:=hk.boxes;rw[hz.step_two m h1];clear hk h1;generalize z.look m=z0 at hp hlk hop⊢;obtain⟨hn,hg,hfl,hf40,hws,hpc,w1,w2⟩:=hp.num;have h1:=hp.one;refine JE [ptr tb,E.mailV] Tryz.func35 Tryz.ntmps35 fun w S=>?_
 (refine Jn ?_)
 repeat(refine Jy ?_;try first|intro ao cap|intro b)
 (refine JM (hlk) ?_;intro s hs;(refine Jn ?_))
 repeat(refine Jy ?_;try first|intro ao cap|intro b)
 (refine Jc ?_;refine OpT.call0_ (spec:=at9_is tb m z0 hp.wf hp.st) (r:=fun w=>Reads.md (tk) .nil) (k:=?_);intro s hs;(refine Jn ?_))
 repeat(refine Jy ?_;try first|intro ao cap|intro b)
 obtain⟨ib,rfl⟩:∃x,x=b:=⟨_,rfl⟩;rw[hg]
 repeat(refine Jy ?_;try first|intro ao cap|intro b)
 rw[w1,Jj,w2];(apply Run.op;exact rfl;refine OpT.storeE_ (f:=rfC) (l:=z0.cur.fr) (i:=z0.cur.fr.length-1) (off:=1) (vs:=[.int .i64 ((z0.f.pc+1:Nat):Int)]) (a':=(⟨z0.f.unit,z0.f.pc+1,z0.f.base⟩:Vm.Fr)) (k:=?_));apply Run.nil;apply End.seqN;refine Cod.sub [(0,ptr tb),(1,E.mailV),(4, .bool false),(5,ptr ib),(6, .pointer (place (sz rcC) z0.to z0.now 0)),(7, .pointer (place (sz rfC) z0.cur.fo (z0.cur.fr.length-1) 0)),(8, .int .i64 (z0.f.base:Int))] (Ju) ?_;apply Cod.imp (fun w hm=>Mem.frs hp.wf (fr':=z0.cur.fr.set (z0.cur.fr.length-1) ⟨z0.f.unit,z0.f.pc+1,z0.f.base⟩) (by rw[Ji]) hm (tks));refine Cod.only (old w S::md m::E.rc::blk ib (insC (insR m z0)) 126::RM tb m z0.mvd) (tks) ?_;obtain⟨p1,p2,p3⟩:=mvd_places hfl;rw[p1,p2,p3];have hm:=hp.mid;clear hp hlk hn hg hfl hf40 w1 w2 hpc hws p1 p2 p3 h1;generalize insR m z0=i at hm hop⊢;generalize z0.mvd=z1 at hm⊢;obtain⟨hz1,hc,ha,hw1,hfl1,hf40,hst1,hlog1,hout1,hsz1,hcs2,hun,hall,hsts,hfree,hn,hg⟩:=hm;have hja:=hc.jump hop;obtain⟨k,hka⟩:∃k:Nat,i.a=(k:Int):=⟨i.a.toNat,by omega⟩;have hkn:i.a.toNat=k:=by omega
 rcases hop with hop|hop
 ·have hex:Vm.exec E.W m.mdl i z1.two=(Vm.setPc k z1.tk,z1.two.2):=by
   rw[←hkn];unfold Vm.exec;simp[hop];rfl
  repeat(refine Jy ?_;try first|intro ao cap|intro b)
  rw[hka];(apply Run.op;exact rfl;refine OpT.storeE_ (f:=rfC) (l:=z1.cur.fr) (i:=z1.cur.fr.length-1) (off:=1) (vs:=[.int .i64 (k:Int)]) (a':=(⟨z1.f.unit,k,z1.f.base⟩:Vm.Fr)) (k:=?_));apply Run.imp (fun w hm=>Mem.frs hz1 (fr':=z1.cur.fr.set (z1.cur.fr.length-1) ⟨z1.f.unit,k,z1.f.base⟩) (by rw[Ji]) hm (tks));have g:GivesR (Vm.exec E.W m.mdl i z1.two) (z1.to_ {z1.cur with fr:=z1.cur.fr.set (z1.cur.fr.length-1) ⟨z1.f.unit,k,z1.f.base⟩}):=⟨hz1.to_ _,by rw[hex];unfold RT.two;rw[hz1.pc_tk]⟩
  repeat(refine Jy ?_;try first|intro ao cap|intro b)
  (refine JM (look9_is tb m hbx (z1.to_ {z1.cur with fr:=z1.cur.fr.set (z1.cur.fr.length-1) ⟨z1.f.unit,k,z1.f.base⟩}) (g).wf (ha (z1.to_ {z1.cur with fr:=z1.cur.fr.set (z1.cur.fr.length-1) ⟨z1.f.unit,k,z1.f.base⟩}) (g).wf (g).two)) ?_;intro s hs;(refine Jn ?_))
  repeat(refine Jy ?_;try first|intro ao cap|intro b)
  (refine End.done1_ ((RT.look (z1.to_ {z1.cur with fr:=z1.cur.fr.set (z1.cur.fr.length-1) ⟨z1.f.unit,k,z1.f.base⟩}) m)) (he:=Jv) (hp:=?_));exact⟨(g).wf.look m,((g).wf.look_two m).trans (by rw[(g).two])⟩
 ·have hlive:=hc.one (by omega);have e3:Vm.wl z1.tk=z1.cur.ws.length:=by unfold Vm.wl;rw[hz1.ws]
  rw[e3]at hlive;have hlast:=hz1.last;have hd1:=drop_one hlive;have hex:Vm.exec E.W m.mdl i z1.two=((if Vm.last z1.tk=0 then Vm.setPc k (Vm.drop 1 z1.tk)else Vm.drop 1 z1.tk),z1.two.2):=by
   rw[←hkn];unfold Vm.exec;simp[hop];rfl
  rw[hlast]at hex
  repeat(refine Jy ?_;try first|intro ao cap|intro b)
  (refine JQ (take9_is tb m z1 hz1 1 (by omega) (by omega)) ?_;intro s hs;(refine Jn ?_));obtain⟨zt,hzt⟩:∃x,x=z1.took 1 s.1:=⟨_,rfl⟩;rw[←hzt];have ztw:zt.Wf:=by rw[hzt];exact hz1.took 1 s.1
  have ztk:zt.tk=Vm.drop 1 z1.tk:=by rw[hzt];exact hz1.took_tk 1 s.1
  have ztl:zt.cur.ws.length=z1.cur.ws.length-1:=by rw[hzt];exact RT.took_len z1 1 s.1
  have zto:zt.e=z1.e∧zt.log=z1.log∧zt.out=z1.out∧zt.to=z1.to∧zt.now=z1.now∧zt.cur.fo=z1.cur.fo∧zt.cur.fr=z1.cur.fr∧zt.oth=z1.oth∧zt.cur.up=z1.cur.up∧zt.cur.st=z1.cur.st∧zt.st=z1.st:=by rw[hzt];exact⟨rfl,rfl,rfl,rfl,rfl,rfl,rfl,rfl,rfl,rfl,rfl⟩
  have ztt:zt.two=(Vm.drop 1 z1.tk,z1.two.2):=by unfold RT.two;rw[ztk,zto.1,zto.2.1]
  have ztg:=ztw.curGet;have ztn:=ztw.now;obtain⟨oq,olo,olc⟩:=s;dsimp only;rw[hd1];(apply Run.op;exact rfl;refine OpT.val_ (h:=by(apply Still.at_;exact rfl;exact rfl;exact Jr;exact rfl;exact rfl;exact rfl;exact ix_zero;omega)) (k:=?_));(apply Run.op;exact rfl;refine OpT.val_ (k:=?_));rw[getD_one]
  by_cases hv:z1.cur.ws.getD (z1.cur.ws.length-1) 0=0
  ·rw[if_pos hv]at hex;rw[show place (sz rfC) z1.cur.fo (z1.cur.fr.length-1) 0=place (sz rfC) zt.cur.fo (zt.cur.fr.length-1) 0 by rw[zto.2.2.2.2.2.1,zto.2.2.2.2.2.2.1]];have htf:0<zt.cur.fr.length:=by rw[zto.2.2.2.2.2.2.1];exact hfl1
   repeat(refine Jy ?_;try first|intro ao cap|intro b)
   rw[hka];(apply Run.op;exact rfl;refine OpT.storeE_ (f:=rfC) (l:=zt.cur.fr) (i:=zt.cur.fr.length-1) (off:=1) (vs:=[.int .i64 (k:Int)]) (a':=(⟨zt.f.unit,k,zt.f.base⟩:Vm.Fr)) (k:=?_));apply Run.imp (fun w hm=>Mem.frs ztw (fr':=zt.cur.fr.set (zt.cur.fr.length-1) ⟨zt.f.unit,k,zt.f.base⟩) (by rw[Ji]) hm (tks));have g:GivesR (Vm.exec E.W m.mdl i z1.two) (zt.to_ {zt.cur with fr:=zt.cur.fr.set (zt.cur.fr.length-1) ⟨zt.f.unit,k,zt.f.base⟩}):=⟨ztw.to_ _,by rw[hex];unfold RT.two;rw[ztw.pc_tk,ztk,zto.1,zto.2.1]⟩
   repeat(refine Jy ?_;try first|intro ao cap|intro b)
   (refine JM (look9_is tb m hbx (zt.to_ {zt.cur with fr:=zt.cur.fr.set (zt.cur.fr.length-1) ⟨zt.f.unit,k,zt.f.base⟩}) (g).wf (ha (zt.to_ {zt.cur with fr:=zt.cur.fr.set (zt.cur.fr.length-1) ⟨zt.f.unit,k,zt.f.base⟩}) (g).wf (g).two)) ?_;intro s hs;(refine Jn ?_))
   repeat(refine Jy ?_;try first|intro ao cap|intro b)
   (refine End.done1_ ((RT.look (zt.to_ {zt.cur with fr:=zt.cur.fr.set (zt.cur.fr.length-1) ⟨zt.f.unit,k,zt.f.base⟩}) m)) (he:=Jv) (hp:=?_));exact⟨(g).wf.look m,((g).wf.look_two m).trans (by rw[(g).two])⟩
  ·rw[if_neg hv]at hex;have g:GivesR (Vm.exec E.W m.mdl i z1.two) zt:=⟨ztw,by rw[hex,ztt]⟩
   repeat(refine Jy ?_;try first|intro ao cap|intro b)
   (refine JM (look9_is tb m hbx (zt) (g).wf (ha (zt) (g).wf (g).two)) ?_;intro s hs;(refine Jn ?_))
   repeat(refine Jy ?_;try first|intro ao cap|intro b)
   (refine End.done1_ ((RT.look (zt) m)) (he:=Jv) (hp:=?_));exact⟨(g).wf.look m,((g).wf.look_two m).trans (by rw[(g).two])⟩
end
section
attribute [local irreducible] Run Cod End OpT Still RunQ RunS RunT Fn PutOk
variable{E:EnvR}
set_option maxHeartbeats 2000000 in
theorem step9_5(tb:Nat)(m:ML)(z:RT E)(hz:z.Wf)(hk:CanR m z)(h1:(z.look m).st=1)(hop:(insR m (z.look m)).op=26∨(insR m (z.look m)).op=28):StepF tb m z:=by
 unfold StepF;have hp:=pre9 hz hk h1;have hlk:=look9_is tb m hk.boxes z hz (fun _=>hk.stand);have hbx:=hk.boxes;rw[hz.step_two m h1];clear hk h1;generalize z.look m=z0 at hp hlk hop⊢;obtain⟨hn,hg,hfl,hf40,hws,hpc,w1,w2⟩:=hp.num;have h1:=hp.one;refine JE [ptr tb,E.mailV] Tryz.func35 Tryz.ntmps35 fun w S=>?_
 (refine Jn ?_)
 repeat(refine Jy ?_;try first|intro ao cap|intro b)
 (refine JM (hlk) ?_;intro s hs;(refine Jn ?_))
 repeat(refine Jy ?_;try first|intro ao cap|intro b)
 (refine Jc ?_;refine OpT.call0_ (spec:=at9_is tb m z0 hp.wf hp.st) (r:=fun w=>Reads.md (tk) .nil) (k:=?_);intro s hs;(refine Jn ?_))
 repeat(refine Jy ?_;try first|intro ao cap|intro b)
 obtain⟨ib,rfl⟩:∃x,x=b:=⟨_,rfl⟩;rw[hg]
 repeat(refine Jy ?_;try first|intro ao cap|intro b)
 rw[w1,Jj,w2];(apply Run.op;exact rfl;refine OpT.storeE_ (f:=rfC) (l:=z0.cur.fr) (i:=z0.cur.fr.length-1) (off:=1) (vs:=[.int .i64 ((z0.f.pc+1:Nat):Int)]) (a':=(⟨z0.f.unit,z0.f.pc+1,z0.f.base⟩:Vm.Fr)) (k:=?_));apply Run.nil;apply End.seqN;refine Cod.sub [(0,ptr tb),(1,E.mailV),(4, .bool false),(5,ptr ib),(6, .pointer (place (sz rcC) z0.to z0.now 0)),(7, .pointer (place (sz rfC) z0.cur.fo (z0.cur.fr.length-1) 0)),(8, .int .i64 (z0.f.base:Int))] (Ju) ?_;apply Cod.imp (fun w hm=>Mem.frs hp.wf (fr':=z0.cur.fr.set (z0.cur.fr.length-1) ⟨z0.f.unit,z0.f.pc+1,z0.f.base⟩) (by rw[Ji]) hm (tks));refine Cod.only (old w S::md m::E.rc::blk ib (insC (insR m z0)) 126::RM tb m z0.mvd) (tks) ?_;obtain⟨p1,p2,p3⟩:=mvd_places hfl;rw[p1,p2,p3];have hm:=hp.mid;clear hp hlk hn hg hfl hf40 w1 w2 hpc hws p1 p2 p3 h1;generalize insR m z0=i at hm hop⊢;generalize z0.mvd=z1 at hm⊢;obtain⟨hz1,hc,ha,hw1,hfl1,hf40,hst1,hlog1,hout1,hsz1,hcs2,hun,hall,hsts,hfree,hn,hg⟩:=hm;have hlive:=hc.one (by omega);have e3:Vm.wl z1.tk=z1.cur.ws.length:=by unfold Vm.wl;rw[hz1.ws]
 rw[e3]at hlive;have hlast:=hz1.last;have hd1:=drop_one hlive;rcases hop with hop|hop
 ·obtain⟨b1,b2⟩:=hc.box (.inl hop);rw[show m.mdl.boxes.length=m.bx.length from rfl,←hbx]at b2;have hex:Vm.exec E.W m.mdl i z1.two=(Vm.drop 1 z1.tk,E.W.tell (E.W.put z1.two.2 i.a.toNat (z1.cur.ws.getD (z1.cur.ws.length-1) 0)) (2,i.a,z1.cur.ws.getD (z1.cur.ws.length-1) 0)):=by
   rw[←hlast];unfold Vm.exec;simp[hop];exact⟨rfl,rfl⟩
  have hfull:=hfree.1 hop
  repeat(refine Jy ?_;try first|intro ao cap|intro b)
  (refine JQ (take9_is tb m z1 hz1 1 (by omega) (by omega)) ?_;intro s hs;(refine Jn ?_));obtain⟨zt,hzt⟩:∃x,x=z1.took 1 s.1:=⟨_,rfl⟩;rw[←hzt];have ztw:zt.Wf:=by rw[hzt];exact hz1.took 1 s.1
  have ztk:zt.tk=Vm.drop 1 z1.tk:=by rw[hzt];exact hz1.took_tk 1 s.1
  have ztl:zt.cur.ws.length=z1.cur.ws.length-1:=by rw[hzt];exact RT.took_len z1 1 s.1
  have zto:zt.e=z1.e∧zt.log=z1.log∧zt.out=z1.out∧zt.to=z1.to∧zt.now=z1.now∧zt.cur.fo=z1.cur.fo∧zt.cur.fr=z1.cur.fr∧zt.oth=z1.oth∧zt.cur.up=z1.cur.up∧zt.cur.st=z1.cur.st∧zt.st=z1.st:=by rw[hzt];exact⟨rfl,rfl,rfl,rfl,rfl,rfl,rfl,rfl,rfl,rfl,rfl⟩
  have ztt:zt.two=(Vm.drop 1 z1.tk,z1.two.2):=by unfold RT.two;rw[ztk,zto.1,zto.2.1]
  have ztg:=ztw.curGet;have ztn:=ztw.now;obtain⟨oq,olo,olc⟩:=s;dsimp only;rw[hd1];(apply Run.op;exact rfl;refine OpT.val_ (h:=by(apply Still.at_;exact rfl;exact rfl;exact Jr;exact rfl;exact rfl;exact rfl;exact ix_zero;omega)) (k:=?_));(apply Run.op;exact rfl;refine OpT.val_ (k:=?_));rw[getD_one];have hgive:=E.give zt.e i.a.toNat (z1.cur.ws.getD (z1.cur.ws.length-1) 0) ztw.env b2 (by rw[zto.1];exact hfull) (by rw[zto.1];omega);rw[Jo' b1]at hgive
  repeat(refine Jy ?_;try first|intro ao cap|intro b)
  (refine Jc ?_;refine OpT.callM_ (E.mGive) (E.bGive) (hgive) (r:=fun w=>Reads.any (tk) E.rexcl .nil) (k:=?_);intro s hs;(refine Jn ?_));obtain⟨e2,rfl⟩:∃x,x=s:=⟨_,rfl⟩;have hge:=hs
  repeat(refine Jy ?_;try first|intro ao cap|intro b)
  (apply Run.op;exact rfl;refine OpT.call0_ (spec:=note_is tb m {zt with e:=e2} (by show zt.log.length≤_;rw[zto.2.1];omega) 2 i.a _) (k:=?_);intro s hs;(refine Jn ?_));obtain⟨nq,rfl⟩:∃x,x=s:=⟨_,rfl⟩;have g:GivesR (Vm.exec E.W m.mdl i z1.two) (RT.noted {zt with e:=e2} (2,i.a,z1.cur.ws.getD (z1.cur.ws.length-1) 0) nq):=⟨⟨ztw.now,ztw.few,hge.1,ztw.st⟩,by
   rw[hex];show(zt.tk,(E.abs e2,zt.log ++[(2,i.a,z1.cur.ws.getD (z1.cur.ws.length-1) 0)]))=_;rw[ztk,hge.2,zto.1,zto.2.1];rfl⟩
  repeat(refine Jy ?_;try first|intro ao cap|intro b)
  (refine JM (look9_is tb m hbx (RT.noted {zt with e:=e2} (2,i.a,z1.cur.ws.getD (z1.cur.ws.length-1) 0) nq) (g).wf (ha (RT.noted {zt with e:=e2} (2,i.a,z1.cur.ws.getD (z1.cur.ws.length-1) 0) nq) (g).wf (g).two)) ?_;intro s hs;(refine Jn ?_))
  repeat(refine Jy ?_;try first|intro ao cap|intro b)
  (refine End.done1_ ((RT.look (RT.noted {zt with e:=e2} (2,i.a,z1.cur.ws.getD (z1.cur.ws.length-1) 0) nq) m)) (he:=Jv) (hp:=?_));exact⟨(g).wf.look m,((g).wf.look_two m).trans (by rw[(g).two])⟩
 ·have hex:Vm.exec E.W m.mdl i z1.two=({Vm.drop 1 z1.tk with out:=(Vm.drop 1 z1.tk).out ++[z1.cur.ws.getD (z1.cur.ws.length-1) 0]},E.W.tell z1.two.2 (1,0,z1.cur.ws.getD (z1.cur.ws.length-1) 0)):=by
   rw[←hlast];unfold Vm.exec;simp[hop];exact⟨⟨rfl,rfl,rfl,rfl,rfl,rfl,rfl⟩,rfl⟩
  repeat(refine Jy ?_;try first|intro ao cap|intro b)
  (refine JQ (take9_is tb m z1 hz1 1 (by omega) (by omega)) ?_;intro s hs;(refine Jn ?_));obtain⟨zt,hzt⟩:∃x,x=z1.took 1 s.1:=⟨_,rfl⟩;rw[←hzt];have ztw:zt.Wf:=by rw[hzt];exact hz1.took 1 s.1
  have ztk:zt.tk=Vm.drop 1 z1.tk:=by rw[hzt];exact hz1.took_tk 1 s.1
  have ztl:zt.cur.ws.length=z1.cur.ws.length-1:=by rw[hzt];exact RT.took_len z1 1 s.1
  have zto:zt.e=z1.e∧zt.log=z1.log∧zt.out=z1.out∧zt.to=z1.to∧zt.now=z1.now∧zt.cur.fo=z1.cur.fo∧zt.cur.fr=z1.cur.fr∧zt.oth=z1.oth∧zt.cur.up=z1.cur.up∧zt.cur.st=z1.cur.st∧zt.st=z1.st:=by rw[hzt];exact⟨rfl,rfl,rfl,rfl,rfl,rfl,rfl,rfl,rfl,rfl,rfl⟩
  have ztt:zt.two=(Vm.drop 1 z1.tk,z1.two.2):=by unfold RT.two;rw[ztk,zto.1,zto.2.1]
  have ztg:=ztw.curGet;have ztn:=ztw.now;obtain⟨oq,olo,olc⟩:=s;dsimp only;have hol:zt.out.length≤1000000:=by rw[zto.2.2.1];exact hout1
  rw[hd1];(apply Run.op;exact rfl;refine OpT.val_ (h:=by(apply Still.at_;exact rfl;exact rfl;exact Jr;exact rfl;exact rfl;exact rfl;exact ix_zero;omega)) (k:=?_));(apply Run.op;exact rfl;refine OpT.val_ (k:=?_));rw[getD_one]
  repeat(refine Jy ?_;try first|intro ao cap|intro b)
  rw[snoc_len zt.out (z1.cur.ws.getD (z1.cur.ws.length-1) 0)];(apply Run.op;exact rfl;refine OpT.call0_ (spec:=note_is tb m {zt with oo:=ao,oc:=cap,out:=zt.out ++[z1.cur.ws.getD (z1.cur.ws.length-1) 0]} (by show zt.log.length≤_;rw[zto.2.1];omega) 1 0 _) (k:=?_);intro s hs;(refine Jn ?_));obtain⟨nq,rfl⟩:∃x,x=s:=⟨_,rfl⟩;have g:GivesR (Vm.exec E.W m.mdl i z1.two) (RT.noted {zt with oo:=ao,oc:=cap,out:=zt.out ++[z1.cur.ws.getD (z1.cur.ws.length-1) 0]} (1,0,z1.cur.ws.getD (z1.cur.ws.length-1) 0) nq):=⟨⟨ztw.now,ztw.few,ztw.env,ztw.st⟩,by
   rw[hex,←ztk];show(({zt.tk with out:=zt.out ++[z1.cur.ws.getD (z1.cur.ws.length-1) 0]}:Vm.Tk),(E.abs zt.e,zt.log ++[(1,0,z1.cur.ws.getD (z1.cur.ws.length-1) 0)]))=_;rw[zto.1,zto.2.1];rfl⟩
  repeat(refine Jy ?_;try first|intro ao cap|intro b)
  (refine JM (look9_is tb m hbx (RT.noted {zt with oo:=ao,oc:=cap,out:=zt.out ++[z1.cur.ws.getD (z1.cur.ws.length-1) 0]} (1,0,z1.cur.ws.getD (z1.cur.ws.length-1) 0) nq) (g).wf (ha (RT.noted {zt with oo:=ao,oc:=cap,out:=zt.out ++[z1.cur.ws.getD (z1.cur.ws.length-1) 0]} (1,0,z1.cur.ws.getD (z1.cur.ws.length-1) 0) nq) (g).wf (g).two)) ?_;intro s hs;(refine Jn ?_))
  repeat(refine Jy ?_;try first|intro ao cap|intro b)
  (refine End.done1_ ((RT.look (RT.noted {zt with oo:=ao,oc:=cap,out:=zt.out ++[z1.cur.ws.getD (z1.cur.ws.length-1) 0]} (1,0,z1.cur.ws.getD (z1.cur.ws.length-1) 0) nq) m)) (he:=Jv) (hp:=?_));exact⟨(g).wf.look m,((g).wf.look_two m).trans (by rw[(g).two])⟩
end
theorem Put.rcF{c:RC}(fo:Option Addr)(fc:Nat)(fr:List Vm.Fr):Put (rcC c) 2 [.slice fo fr.length fc] (rcC {c with fo:=fo,fc:=fc,fr:=fr}):=by(repeat(first|exact Put.done|apply Put.take|apply Put.skip))
theorem Put.rcS{c:RC}(st:Nat):Put (rcC c) 0 [.int .i64 (st:Int)] (rcC {c with st:=st}):=by(repeat(first|exact Put.done|apply Put.take|apply Put.skip))
theorem Put.rcU{c:RC}(up:Int):Put (rcC c) 1 [.int .i64 up] (rcC {c with up:=up}):=by(repeat(first|exact Put.done|apply Put.take|apply Put.skip))
theorem abs_st(c:RC){st:Nat}(h:st≠2):RC.abs {c with st:=st}={c.abs with st:=st,up:=none}:=by
 unfold RC.abs;simp only[Vm.Co.mk.injEq,true_and,and_true];rw[if_neg (fun h'=>h h'.1)]
section
variable{E:EnvR}{z:RT E}
theorem up_some(hz:z.Wf){j:Nat}(h:(Vm.cur z.tk).up=some j):z.cur.up=(j:Int):=by
 rw[hz.cur]at h;unfold RC.abs at h;simp only at h
 split at h
 ·rename_i h';cases h;omega
 ·cases h
theorem up_none(hz:z.Wf)(hst:z.cur.st=2)(h:(Vm.cur z.tk).up=none):z.cur.up<0:=by
 rw[hz.cur]at h;unfold RC.abs at h;simp only at h
 split at h
 ·cases h
 ·rename_i h';omega
theorem up_abs(hz:z.Wf){j:Nat}(hst:z.cur.st=2)(h:z.cur.up=(j:Int)):(Vm.cur z.tk).up=some j:=by
 rw[hz.cur];unfold RC.abs;simp only;rw[if_pos ⟨hst,by omega⟩,h];rfl
abbrev RT.turn(z:RT E)(j:Nat):RT E:=z.go z.cur j (z.oth.getD j default)
theorem RT.turn_tk(z:RT E){j:Nat}(hj:j<z.oth.length)(hne:z.now≠j):(z.turn j).tk={z.tk with now:=j}:=by
 rw[RT.go_tk' z z.cur hj hne,←RT.tk_cur]
theorem RT.turn_all(z:RT E){j:Nat}(hj:j<z.oth.length)(hne:z.now≠j):(z.turn j).all=z.all:=by
 show(z.oth.set z.now z.cur).set j (z.oth.getD j default)=z.oth.set z.now z.cur;have:=set_getD (l:=z.oth.set z.now z.cur) (j:=j) (by simpa using hj);rwa [getR_ne hne]at this
theorem Mem.turn9{w:World}{L F:List Chunk}{tb:Nat}{m:ML}(hz:z.Wf){j:Nat}(hj:j<z.oth.length)(hne:z.now≠j)(h:Mem w L)(t:Takes [blk tb (rkC m {z with now:=j}) 79,rtM z,bagR (z.oth.eraseIdx z.now),rfM z.cur,rwM z.cur] L F):
  Mem w (rkM tb m (z.turn j)::rtM (z.turn j)::bagR ((z.turn j).oth.eraseIdx (z.turn j).now)::rfM (z.turn j).cur::rwM (z.turn j).cur::F):=by
 have e1:rkM tb m (z.turn j)=blk tb (rkC m {z with now:=j}) 79:=by
  show blk tb (rkC m (z.turn j)) _=_;unfold rkC RT.turn RT.go;simp only[Ji]
 have e2:rtM (z.turn j)=rtM z:=by
  show arr z.to (z.oth.set z.now z.cur).length z.tc 140 rcC (z.turn j).all=_;rw[RT.turn_all z hj hne,Ji]
 rw[e1,e2];have h1:=h.takes t;exact Mem.swapR z.cur h1 (.tail (.tail .head)) (.cons (.tail (.tail .head)) (.cons (.tail (.tail .head)) .nil)) hz.now hj hne|>.perm (by
  exact(List.perm_append_comm (l₁:=[rfM (z.oth.getD j default),rwM (z.oth.getD j default),bagR ((z.oth.set z.now z.cur).eraseIdx j)]) (l₂:=[blk tb (rkC m {z with now:=j}) 79,rtM z])).append_right F|>.trans (by
   refine List.Perm.cons _ (List.Perm.cons _ ?_);exact(List.perm_append_comm (l₁:=[rfM (z.oth.getD j default),rwM (z.oth.getD j default)]) (l₂:=[bagR ((z.oth.set z.now z.cur).eraseIdx j)])).append_right F))
abbrev RT.led(z:RT E)(j st:Nat)(up:Int):RT E:=z.go z.cur j {z.oth.getD j default with st:=st,up:=up}
theorem Mem.led9{w:World}{L F:List Chunk}{tb:Nat}{m:ML}(hz:z.Wf){j st:Nat}{up:Int}(hj:j<z.oth.length)(hne:z.now≠j)(h:Mem w L)(t:Takes [blk tb (rkC m {z with now:=j}) 79,arr z.to z.oth.length z.tc 140 rcC (z.all.set j {z.oth.getD j default with st:=st,up:=up}),bagR (z.oth.eraseIdx z.now),rfM z.cur,rwM z.cur] L F):
  Mem w (rkM tb m (z.led j st up)::rtM (z.led j st up)::bagR ((z.led j st up).oth.eraseIdx (z.led j st up).now)::rfM (z.led j st up).cur::rwM (z.led j st up).cur::F):=by
 have e1:rkM tb m (z.led j st up)=blk tb (rkC m {z with now:=j}) 79:=by
  show blk tb (rkC m (z.led j st up)) _=_;unfold rkC RT.led RT.go;simp only[Ji]
 have e2:rtM (z.led j st up)=arr z.to z.oth.length z.tc 140 rcC (z.all.set j {z.oth.getD j default with st:=st,up:=up}):=by
  show arr z.to (z.oth.set z.now z.cur).length z.tc 140 rcC (z.led j st up).all=_;rw[Ji];rfl
 rw[e1,e2];exact Mem.swapR z.cur (h.takes t) (.tail (.tail .head)) (.cons (.tail (.tail .head)) (.cons (.tail (.tail .head)) .nil)) hz.now hj hne|>.perm (by
  exact(List.perm_append_comm (l₁:=[rfM (z.oth.getD j default),rwM (z.oth.getD j default),bagR ((z.oth.set z.now z.cur).eraseIdx j)]) (l₂:=[blk tb (rkC m {z with now:=j}) 79,arr z.to z.oth.length z.tc 140 rcC (z.all.set j {z.oth.getD j default with st:=st,up:=up})])).append_right F|>.trans (by
   refine List.Perm.cons _ (List.Perm.cons _ ?_);exact(List.perm_append_comm (l₁:=[rfM (z.oth.getD j default),rwM (z.oth.getD j default)]) (l₂:=[bagR ((z.oth.set z.now z.cur).eraseIdx j)])).append_right F))
theorem RT.led_tk(z:RT E){j st:Nat}{up:Int}:(z.led j st up).tk={Vm.setC z.tk j (RC.abs {z.oth.getD j default with st:=st,up:=up})with now:=j}:=by
 rw[RT.go_tk,←RT.tk_cur]
theorem Mem.addR{w:World}{L L' F:List Chunk}{l:List RC}{c:RC}{j:Nat}(h:Mem w L)(t:Take (bagR (l.eraseIdx j)) L L')(t2:Takes (rcM c) L' F)(hj:j<l.length):Mem w (bagR ((l ++[c]).eraseIdx j)::F):=by
 have e:bagR ((l ++[c]).eraseIdx j)=bag ((l.eraseIdx j).flatMap rcM ++rcM c):=by
  unfold bagR;rw[List.eraseIdx_append_of_lt_length hj,List.flatMap_append];simp
 rw[e];exact Mem.bagAdd h t t2 (rcM_excl c)
theorem abs_frsh(M:ImgM.Mdl)(u fb:Nat)(wo:Option Addr)(wc:Nat)(a:List Int):RC.abs ⟨0,0,some ⟨fb,0,none⟩,1,[⟨u,0,0⟩],wo,wc,(Vm.begin M u a).ws⟩=Vm.begin M u a:=by
 unfold RC.abs;simp only;rw[if_neg (fun h=>by cases h.1)];rfl
end
section
attribute [local irreducible] Run Cod End OpT Still RunQ RunS RunT Fn PutOk
variable{E:EnvR}
set_option maxHeartbeats 2000000 in
theorem step9_8(tb:Nat)(m:ML)(z:RT E)(hz:z.Wf)(hk:CanR m z)(h1:(z.look m).st=1)(hop:(insR m (z.look m)).op=24):StepF tb m z:=by
 unfold StepF;have hp:=pre9 hz hk h1;have hlk:=look9_is tb m hk.boxes z hz (fun _=>hk.stand);have hbx:=hk.boxes;rw[hz.step_two m h1];clear hk h1;generalize z.look m=z0 at hp hlk hop⊢;obtain⟨hn,hg,hfl,hf40,hws,hpc,w1,w2⟩:=hp.num;have h1:=hp.one;refine JE [ptr tb,E.mailV] Tryz.func35 Tryz.ntmps35 fun w S=>?_
 (refine Jn ?_)
 repeat(refine Jy ?_;try first|intro ao cap|intro b)
 (refine JM (hlk) ?_;intro s hs;(refine Jn ?_))
 repeat(refine Jy ?_;try first|intro ao cap|intro b)
 (refine Jc ?_;refine OpT.call0_ (spec:=at9_is tb m z0 hp.wf hp.st) (r:=fun w=>Reads.md (tk) .nil) (k:=?_);intro s hs;(refine Jn ?_))
 repeat(refine Jy ?_;try first|intro ao cap|intro b)
 obtain⟨ib,rfl⟩:∃x,x=b:=⟨_,rfl⟩;rw[hg]
 repeat(refine Jy ?_;try first|intro ao cap|intro b)
 rw[w1,Jj,w2];(apply Run.op;exact rfl;refine OpT.storeE_ (f:=rfC) (l:=z0.cur.fr) (i:=z0.cur.fr.length-1) (off:=1) (vs:=[.int .i64 ((z0.f.pc+1:Nat):Int)]) (a':=(⟨z0.f.unit,z0.f.pc+1,z0.f.base⟩:Vm.Fr)) (k:=?_));apply Run.nil;apply End.seqN;refine Cod.sub [(0,ptr tb),(1,E.mailV),(4, .bool false),(5,ptr ib),(6, .pointer (place (sz rcC) z0.to z0.now 0)),(7, .pointer (place (sz rfC) z0.cur.fo (z0.cur.fr.length-1) 0)),(8, .int .i64 (z0.f.base:Int))] (Ju) ?_;apply Cod.imp (fun w hm=>Mem.frs hp.wf (fr':=z0.cur.fr.set (z0.cur.fr.length-1) ⟨z0.f.unit,z0.f.pc+1,z0.f.base⟩) (by rw[Ji]) hm (tks));refine Cod.only (old w S::md m::E.rc::blk ib (insC (insR m z0)) 126::RM tb m z0.mvd) (tks) ?_;obtain⟨p1,p2,p3⟩:=mvd_places hfl;rw[p1,p2,p3];have hm:=hp.mid;clear hp hlk hn hg hfl hf40 w1 w2 hpc hws p1 p2 p3 h1;generalize insR m z0=i at hm hop⊢;generalize z0.mvd=z1 at hm⊢;obtain⟨hz1,hc,ha,hw1,hfl1,hf40,hst1,hlog1,hout1,hsz1,hcs2,hun,hall,hsts,hfree,hn,hg⟩:=hm;obtain⟨hlive,hbase⟩:=hc.ret hop;have e3:Vm.wl z1.tk=z1.cur.ws.length:=by unfold Vm.wl;rw[hz1.ws]
 rw[e3]at hlive hbase;rw[hz1.topF]at hbase;have hd1:=drop_one hlive;have hex:Vm.exec E.W m.mdl i z1.two=Vm.ret E.W z1.two:=by unfold Vm.exec;simp[hop]
 repeat(refine Jy ?_;try first|intro ao cap|intro b)
 (refine JQ (take9_is tb m z1 hz1 1 (by omega) (by omega)) ?_;intro s hs;(refine Jn ?_));obtain⟨zt,hzt⟩:∃x,x=z1.took 1 s.1:=⟨_,rfl⟩;rw[←hzt];have ztw:zt.Wf:=by rw[hzt];exact hz1.took 1 s.1
 have ztk:zt.tk=Vm.drop 1 z1.tk:=by rw[hzt];exact hz1.took_tk 1 s.1
 have ztl:zt.cur.ws.length=z1.cur.ws.length-1:=by rw[hzt];exact RT.took_len z1 1 s.1
 have zto:zt.e=z1.e∧zt.log=z1.log∧zt.out=z1.out∧zt.to=z1.to∧zt.now=z1.now∧zt.cur.fo=z1.cur.fo∧zt.cur.fr=z1.cur.fr∧zt.oth=z1.oth∧zt.cur.up=z1.cur.up∧zt.cur.st=z1.cur.st∧zt.st=z1.st:=by rw[hzt];exact⟨rfl,rfl,rfl,rfl,rfl,rfl,rfl,rfl,rfl,rfl,rfl⟩
 have ztt:zt.two=(Vm.drop 1 z1.tk,z1.two.2):=by unfold RT.two;rw[ztk,zto.1,zto.2.1]
 have ztg:=ztw.curGet;have ztn:=ztw.now;obtain⟨oq,olo,olc⟩:=s;dsimp only;rw[hd1];(apply Run.op;exact rfl;refine OpT.val_ (h:=by(apply Still.at_;exact rfl;exact rfl;exact Jr;exact rfl;exact rfl;exact rfl;exact ix_zero;omega)) (k:=?_));(apply Run.op;exact rfl;refine OpT.val_ (k:=?_));rw[getD_one];rw[show place (sz rcC) z1.to z1.now 0=place (sz rcC) zt.to zt.now 0 by rw[zto.2.2.2.1,zto.2.2.2.2.1]];have hzf:zt.cur.fr.length=z1.cur.fr.length:=by rw[zto.2.2.2.2.2.2.1]
 have w1:IntKind.i64.wrap ((zt.cur.fr.length:Int)-1)=((zt.cur.fr.length-1:Nat):Int):=by rw[wrap_i64_in (by omega)];omega
 repeat(refine Jy ?_;try first|intro ao cap|intro b)
 apply Cod.draw 14 ([rtM zt]) (by kernel_rfl) 15 rfl;refine JR 0 ?_;refine JR 1 ?_;refine JR 2 ?_;refine JR 3 ?_;refine JR 4 ?_;refine JR 5 ?_;refine JR 6 ?_;refine JR 7 ?_;refine JR 8 ?_;refine JR 9 ?_;refine JR 10 ?_;rw[ztg,w1];(refine JT 11 ?_;(first|refine Jw ?_|(refine Jb ?_;intro b)|(refine Ja ?_;intro ao cap));refine JG ?_);refine JR 12 ?_;refine JR 13 ?_;have e1:(zt.cur.fr.take (zt.cur.fr.length-1)).length=zt.cur.fr.length-1:=by simp
 have hA:arr ao (zt.cur.fr.length-1) cap 148 rfC (zt.cur.fr.take (zt.cur.fr.length-1))=arr ao (zt.cur.fr.take (zt.cur.fr.length-1)).length cap 148 rfC (zt.cur.fr.take (zt.cur.fr.length-1)):=by rw[e1]
 have hP:=Put.rcF (c:=zt.cur) ao cap (zt.cur.fr.take (zt.cur.fr.length-1));rw[e1]at hP;(refine JT 14 ?_;refine OpT.storeE_ (f:=rcC) (l:=zt.all) (i:=zt.now) (off:=2) (vs:=[.slice ao (zt.cur.fr.length-1) cap]) (a':=({zt.cur with fo:=ao,fc:=cap,fr:=zt.cur.fr.take (zt.cur.fr.length-1)}:RC)) (hp:=by rw[ztg];exact hP) (k:=?_);refine JG ?_);(apply RunT.done;kernel_rfl);rw[←RT.all_cur,hA];obtain⟨z2,hz2⟩:∃x,x=zt.to_ {zt.cur with fo:=ao,fc:=cap,fr:=zt.cur.fr.take (zt.cur.fr.length-1)}:=⟨_,rfl⟩;apply End.imp (fun w hm=>hm.takes (show Takes (RM tb m z2) _ _ by(rw[hz2];(repeat(first|exact Takes.nil|exact Take.head|apply Take.tail|apply Takes.cons)))));(refine Jn ?_);rw[show place (sz rcC) zt.to zt.now 0=place (sz rcC) z2.to z2.now 0 by rw[hz2]];have z2w:z2.Wf:=by rw[hz2];exact ztw.to_ _
 have z2g:=z2w.curGet;have z2n:=z2w.now;have z2l:z2.cur.ws.length=z1.cur.ws.length-1:=by rw[hz2];exact ztl
 repeat(refine Jy ?_;try first|intro ao cap|intro b)
 rw[z2g];(apply Run.op;exact rfl;refine OpT.cutA0_ (f:=i64c) (l:=z2.cur.ws) (k:=?_);intro wo wc);have e2:(z2.cur.ws.take z1.f.base).length=z1.f.base:=by rw[List.length_take];omega
 have hB:arr wo z1.f.base wc 2 i64c (z2.cur.ws.take z1.f.base)=arr wo (z2.cur.ws.take z1.f.base).length wc 2 i64c (z2.cur.ws.take z1.f.base):=by rw[e2]
 have hP2:=Put.rcW (c:=z2.cur) wo wc (z2.cur.ws.take z1.f.base);rw[e2]at hP2
 repeat(refine Jy ?_;try first|intro ao cap|intro b)
 (apply Run.op;exact rfl;refine OpT.storeE_ (f:=rcC) (l:=z2.all) (i:=z2.now) (off:=3) (vs:=[.slice wo z1.f.base wc]) (a':=({z2.cur with wo:=wo,wc:=wc,ws:=z2.cur.ws.take z1.f.base}:RC)) (hp:=by rw[z2g];exact hP2) (k:=?_));rw[←RT.all_cur,hB];obtain⟨z3,hz3⟩:∃x,x=z2.setW wo wc (z2.cur.ws.take z1.f.base):=⟨_,rfl⟩;apply Run.imp (fun w hm=>hm.takes (show Takes (RM tb m z3) _ _ by(rw[hz3];(repeat(first|exact Takes.nil|exact Take.head|apply Take.tail|apply Takes.cons)))));(refine Jn ?_);have z3w:z3.Wf:=by rw[hz3];exact z2w.to_ _
 have z3l:z3.cur.ws.length≤400:=by rw[hz3];show(z2.cur.ws.take z1.f.base).length≤400;omega
 have z3o:z3.log=z1.log∧z3.e=z1.e:=by rw[hz3,hz2];exact⟨zto.2.1,zto.1⟩
 repeat(refine Jy ?_;try first|intro ao cap|intro b)
 (apply Run.op;exact rfl;refine OpT.call0_ (spec:=put9_is tb m z3 z3w (by rw[z3o.1];omega) (by omega) _) (k:=?_);intro s hs;(refine Jn ?_));obtain⟨z4,rfl⟩:∃x,x=s:=⟨_,rfl⟩;have g:GivesR (Vm.exec E.W m.mdl i z1.two) z4:=by
  have h:=hs.gives z3w z3l;have ek:z3.tk=Vm.setCur z1.tk {Vm.cur z1.tk with fr:=(Vm.cur z1.tk).fr.take ((Vm.cur z1.tk).fr.length-1),ws:=((Vm.cur z1.tk).ws.take ((Vm.cur z1.tk).ws.length-1)).take (Vm.topF (Vm.cur z1.tk)).base}:=by
   rw[hz1.cur,hz3,hz2,hzt];exact RT.tk_cur z1 _
  have et:z3.two=(z3.tk,z1.two.2):=by unfold RT.two;rw[z3o.1,z3o.2]
  rw[et,ek]at h;rw[hex];unfold Vm.ret;rw[show Vm.last z1.two.1=z1.cur.ws.getD (z1.cur.ws.length-1) 0 from hz1.last];exact h
 repeat(refine Jy ?_;try first|intro ao cap|intro b)
 (refine JM (look9_is tb m hbx (z4) (g).wf (ha (z4) (g).wf (g).two)) ?_;intro s hs;(refine Jn ?_))
 repeat(refine Jy ?_;try first|intro ao cap|intro b)
 (refine End.done1_ ((RT.look (z4) m)) (he:=Jv) (hp:=?_));exact⟨(g).wf.look m,((g).wf.look_two m).trans (by rw[(g).two])⟩
end
attribute [local irreducible] Run Cod End OpT Still RunQ RunS RunT Fn PutOk
variable{E:EnvR}
set_option maxHeartbeats 2000000 in
theorem step9_9(tb:Nat)(m:ML)(z:RT E)(hz:z.Wf)(hk:CanR m z)(h1:(z.look m).st=1)(hop:(insR m (z.look m)).op=32):StepF tb m z:=by
 unfold StepF;have hp:=pre9 hz hk h1;have hlk:=look9_is tb m hk.boxes z hz (fun _=>hk.stand);have hbx:=hk.boxes;rw[hz.step_two m h1];clear hk h1;generalize z.look m=z0 at hp hlk hop⊢;obtain⟨hn,hg,hfl,hf40,hws,hpc,w1,w2⟩:=hp.num;have h1:=hp.one;refine JE [ptr tb,E.mailV] Tryz.func35 Tryz.ntmps35 fun w S=>?_
 (refine Jn ?_)
 repeat(refine Jy ?_;try first|intro ao cap|intro b)
 (refine JM (hlk) ?_;intro s hs;(refine Jn ?_))
 repeat(refine Jy ?_;try first|intro ao cap|intro b)
 (refine Jc ?_;refine OpT.call0_ (spec:=at9_is tb m z0 hp.wf hp.st) (r:=fun w=>Reads.md (tk) .nil) (k:=?_);intro s hs;(refine Jn ?_))
 repeat(refine Jy ?_;try first|intro ao cap|intro b)
 obtain⟨ib,rfl⟩:∃x,x=b:=⟨_,rfl⟩;rw[hg]
 repeat(refine Jy ?_;try first|intro ao cap|intro b)
 rw[w1,Jj,w2];(apply Run.op;exact rfl;refine OpT.storeE_ (f:=rfC) (l:=z0.cur.fr) (i:=z0.cur.fr.length-1) (off:=1) (vs:=[.int .i64 ((z0.f.pc+1:Nat):Int)]) (a':=(⟨z0.f.unit,z0.f.pc+1,z0.f.base⟩:Vm.Fr)) (k:=?_));apply Run.nil;apply End.seqN;refine Cod.sub [(0,ptr tb),(1,E.mailV),(4, .bool false),(5,ptr ib),(6, .pointer (place (sz rcC) z0.to z0.now 0)),(7, .pointer (place (sz rfC) z0.cur.fo (z0.cur.fr.length-1) 0)),(8, .int .i64 (z0.f.base:Int))] (Ju) ?_;apply Cod.imp (fun w hm=>Mem.frs hp.wf (fr':=z0.cur.fr.set (z0.cur.fr.length-1) ⟨z0.f.unit,z0.f.pc+1,z0.f.base⟩) (by rw[Ji]) hm (tks));refine Cod.only (old w S::md m::E.rc::blk ib (insC (insR m z0)) 126::RM tb m z0.mvd) (tks) ?_;obtain⟨p1,p2,p3⟩:=mvd_places hfl;rw[p1,p2,p3];have hm:=hp.mid;clear hp hlk hn hg hfl hf40 w1 w2 hpc hws p1 p2 p3 h1;generalize insR m z0=i at hm hop⊢;generalize z0.mvd=z1 at hm⊢;obtain⟨hz1,hc,ha,hw1,hfl1,hf40,hst1,hlog1,hout1,hsz1,hcs2,hun,hall,hsts,hfree,hn,hg⟩:=hm;obtain⟨hlive,ht0,htl⟩:=hc.alv hop;have e3:Vm.wl z1.tk=z1.cur.ws.length:=by unfold Vm.wl;rw[hz1.ws]
 rw[e3]at hlive;rw[hz1.topW 1,RT.tkLen]at htl;rw[hz1.topW 1]at ht0;have hlast:=hz1.last;have hd1:=drop_one hlive;obtain⟨k,hk⟩:∃k:Nat,z1.cur.ws.getD (z1.cur.ws.length-1) 0=(k:Int):=⟨(z1.cur.ws.getD (z1.cur.ws.length-1) 0).toNat,by omega⟩;have hkl:k<z1.oth.length:=by omega
 have hex:Vm.exec E.W m.mdl i z1.two=Vm.push E.W (Opt.yes (!decide (((Vm.drop 1 z1.tk).cs.getD k default).st=3))) (Vm.drop 1 z1.tk,z1.two.2):=by
  have:k=(Vm.last z1.tk).toNat:=by rw[hlast,hk];rfl
  rw[this];unfold Vm.exec;simp[hop];rfl
 rw[hk]at hd1
 repeat(refine Jy ?_;try first|intro ao cap|intro b)
 (refine JQ (take9_is tb m z1 hz1 1 (by omega) (by omega)) ?_;intro s hs;(refine Jn ?_));obtain⟨zt,hzt⟩:∃x,x=z1.took 1 s.1:=⟨_,rfl⟩;rw[←hzt];have ztw:zt.Wf:=by rw[hzt];exact hz1.took 1 s.1
 have ztk:zt.tk=Vm.drop 1 z1.tk:=by rw[hzt];exact hz1.took_tk 1 s.1
 have ztl:zt.cur.ws.length=z1.cur.ws.length-1:=by rw[hzt];exact RT.took_len z1 1 s.1
 have zto:zt.e=z1.e∧zt.log=z1.log∧zt.out=z1.out∧zt.to=z1.to∧zt.now=z1.now∧zt.cur.fo=z1.cur.fo∧zt.cur.fr=z1.cur.fr∧zt.oth=z1.oth∧zt.cur.up=z1.cur.up∧zt.cur.st=z1.cur.st∧zt.st=z1.st:=by rw[hzt];exact⟨rfl,rfl,rfl,rfl,rfl,rfl,rfl,rfl,rfl,rfl,rfl⟩
 have ztt:zt.two=(Vm.drop 1 z1.tk,z1.two.2):=by unfold RT.two;rw[ztk,zto.1,zto.2.1]
 have ztg:=ztw.curGet;have ztn:=ztw.now;obtain⟨oq,olo,olc⟩:=s;dsimp only;rw[hd1];(apply Run.op;exact rfl;refine OpT.val_ (h:=by(apply Still.at_;exact rfl;exact rfl;exact Jr;exact rfl;exact rfl;exact rfl;exact ix_zero;omega)) (k:=?_));(apply Run.op;exact rfl;refine OpT.val_ (k:=?_));rw[getD_one];have hzk:k<zt.oth.length:=by rw[zto.2.2.2.2.2.2.2.1];exact hkl
 rw[←ztk,zt.coAt hzk]at hex
 repeat(refine Jy ?_;try first|intro ao cap|intro b)
 rw[show decide (((zt.all.getD k default).st:Int)=3)=decide ((zt.all.getD k default).st=3)from decide_eq_decide.2 (by omega)];(apply Run.op;exact rfl;refine OpT.call0_ (spec:=yes9_is _) (k:=?_);intro s hs;(refine Jn ?_))
 repeat(refine Jy ?_;try first|intro ao cap|intro b)
 (apply Run.op;exact rfl;refine OpT.call0_ (spec:=put9_is tb m zt ztw (by rw[zto.2.1];omega) (by rw[ztl];omega) (_)) (k:=?_);intro s hs;(refine Jn ?_));obtain⟨z2,rfl⟩:∃x,x=s:=⟨_,rfl⟩;have g:GivesR (Vm.exec E.W m.mdl i z1.two) z2:=by
  rw[hex,ztk,←ztt];exact hs.gives ztw (by rw[ztl];omega)
 repeat(refine Jy ?_;try first|intro ao cap|intro b)
 (refine JM (look9_is tb m hbx (z2) (g).wf (ha (z2) (g).wf (g).two)) ?_;intro s hs;(refine Jn ?_))
 repeat(refine Jy ?_;try first|intro ao cap|intro b)
 (refine End.done1_ ((RT.look (z2) m)) (he:=Jv) (hp:=?_));exact⟨(g).wf.look m,((g).wf.look_two m).trans (by rw[(g).two])⟩
set_option maxHeartbeats 2000000 in
theorem step9_10(tb:Nat)(m:ML)(z:RT E)(hz:z.Wf)(hk:CanR m z)(h1:(z.look m).st=1)(hop:(insR m (z.look m)).op=31):StepF tb m z:=by
 unfold StepF;have hp:=pre9 hz hk h1;have hlk:=look9_is tb m hk.boxes z hz (fun _=>hk.stand);have hbx:=hk.boxes;rw[hz.step_two m h1];clear hk h1;generalize z.look m=z0 at hp hlk hop⊢;obtain⟨hn,hg,hfl,hf40,hws,hpc,w1,w2⟩:=hp.num;have h1:=hp.one;refine JE [ptr tb,E.mailV] Tryz.func35 Tryz.ntmps35 fun w S=>?_
 (refine Jn ?_)
 repeat(refine Jy ?_;try first|intro ao cap|intro b)
 (refine JM (hlk) ?_;intro s hs;(refine Jn ?_))
 repeat(refine Jy ?_;try first|intro ao cap|intro b)
 (refine Jc ?_;refine OpT.call0_ (spec:=at9_is tb m z0 hp.wf hp.st) (r:=fun w=>Reads.md (tk) .nil) (k:=?_);intro s hs;(refine Jn ?_))
 repeat(refine Jy ?_;try first|intro ao cap|intro b)
 obtain⟨ib,rfl⟩:∃x,x=b:=⟨_,rfl⟩;rw[hg]
 repeat(refine Jy ?_;try first|intro ao cap|intro b)
 rw[w1,Jj,w2];(apply Run.op;exact rfl;refine OpT.storeE_ (f:=rfC) (l:=z0.cur.fr) (i:=z0.cur.fr.length-1) (off:=1) (vs:=[.int .i64 ((z0.f.pc+1:Nat):Int)]) (a':=(⟨z0.f.unit,z0.f.pc+1,z0.f.base⟩:Vm.Fr)) (k:=?_));apply Run.nil;apply End.seqN;refine Cod.sub [(0,ptr tb),(1,E.mailV),(4, .bool false),(5,ptr ib),(6, .pointer (place (sz rcC) z0.to z0.now 0)),(7, .pointer (place (sz rfC) z0.cur.fo (z0.cur.fr.length-1) 0)),(8, .int .i64 (z0.f.base:Int))] (Ju) ?_;apply Cod.imp (fun w hm=>Mem.frs hp.wf (fr':=z0.cur.fr.set (z0.cur.fr.length-1) ⟨z0.f.unit,z0.f.pc+1,z0.f.base⟩) (by rw[Ji]) hm (tks));refine Cod.only (old w S::md m::E.rc::blk ib (insC (insR m z0)) 126::RM tb m z0.mvd) (tks) ?_;obtain⟨p1,p2,p3⟩:=mvd_places hfl;rw[p1,p2,p3];have hm:=hp.mid;clear hp hlk hn hg hfl hf40 w1 w2 hpc hws p1 p2 p3 h1;generalize insR m z0=i at hm hop⊢;generalize z0.mvd=z1 at hm⊢;obtain⟨hz1,hc,ha,hw1,hfl1,hf40,hst1,hlog1,hout1,hsz1,hcs2,hun,hall,hsts,hfree,hn,hg⟩:=hm;obtain⟨hlive,j,hju,hnj,hjl⟩:=hc.yld hop;have e3:Vm.wl z1.tk=z1.cur.ws.length:=by unfold Vm.wl;rw[hz1.ws]
 rw[e3]at hlive;rw[RT.tkLen]at hjl;have hju':=up_some hz1 hju;have hlast:=hz1.last;have hd1:=drop_one hlive
 repeat(refine Jy ?_;try first|intro ao cap|intro b)
 (refine JQ (take9_is tb m z1 hz1 1 (by omega) (by omega)) ?_;intro s hs;(refine Jn ?_));obtain⟨zt,hzt⟩:∃x,x=z1.took 1 s.1:=⟨_,rfl⟩;rw[←hzt];have ztw:zt.Wf:=by rw[hzt];exact hz1.took 1 s.1
 have ztk:zt.tk=Vm.drop 1 z1.tk:=by rw[hzt];exact hz1.took_tk 1 s.1
 have ztl:zt.cur.ws.length=z1.cur.ws.length-1:=by rw[hzt];exact RT.took_len z1 1 s.1
 have zto:zt.e=z1.e∧zt.log=z1.log∧zt.out=z1.out∧zt.to=z1.to∧zt.now=z1.now∧zt.cur.fo=z1.cur.fo∧zt.cur.fr=z1.cur.fr∧zt.oth=z1.oth∧zt.cur.up=z1.cur.up∧zt.cur.st=z1.cur.st∧zt.st=z1.st:=by rw[hzt];exact⟨rfl,rfl,rfl,rfl,rfl,rfl,rfl,rfl,rfl,rfl,rfl⟩
 have ztt:zt.two=(Vm.drop 1 z1.tk,z1.two.2):=by unfold RT.two;rw[ztk,zto.1,zto.2.1]
 have ztg:=ztw.curGet;have ztn:=ztw.now;obtain⟨oq,olo,olc⟩:=s;dsimp only;rw[hd1];(apply Run.op;exact rfl;refine OpT.val_ (h:=by(apply Still.at_;exact rfl;exact rfl;exact Jr;exact rfl;exact rfl;exact rfl;exact ix_zero;omega)) (k:=?_));(apply Run.op;exact rfl;refine OpT.val_ (k:=?_));rw[getD_one];rw[show place (sz rcC) z1.to z1.now 0=place (sz rcC) zt.to zt.now 0 by rw[zto.2.2.2.1,zto.2.2.2.2.1]]
 repeat(refine Jy ?_;try first|intro ao cap|intro b)
 (apply Run.op;exact rfl;refine OpT.storeE_ (f:=rcC) (l:=zt.all) (i:=zt.now) (off:=0) (vs:=[.int .i64 1]) (a':=({zt.cur with st:=1}:RC)) (hp:=by rw[ztg];exact Put.rcS 1) (k:=?_));rw[←RT.all_cur];obtain⟨z2,hz2⟩:∃x,x=zt.to_ {zt.cur with st:=1}:=⟨_,rfl⟩;apply Run.imp (fun w hm=>hm.takes (show Takes (RM tb m z2) _ _ by(rw[hz2];(repeat(first|exact Takes.nil|exact Take.head|apply Take.tail|apply Takes.cons)))));(refine Jn ?_);rw[show place (sz rcC) zt.to zt.now 0=place (sz rcC) z2.to z2.now 0 by rw[hz2]];have z2w:z2.Wf:=by rw[hz2];exact ztw.to_ _
 have z2g:=z2w.curGet;have z2n:=z2w.now;have z2u:z2.cur.up=(j:Int):=by rw[hz2];exact zto.2.2.2.2.2.2.2.2.1.trans hju'
 repeat(refine Jy ?_;try first|intro ao cap|intro b)
 rw[z2g,z2u]
 repeat(refine Jy ?_;try first|intro ao cap|intro b)
 have z2o:z2.oth=z1.oth∧z2.now=z1.now∧z2.log=z1.log∧z2.e=z1.e:=by rw[hz2];exact⟨zto.2.2.2.2.2.2.2.1,zto.2.2.2.2.1,zto.2.1,zto.1⟩
 have hj2:j<z2.oth.length:=by rw[z2o.1];exact hjl
 have hn2:z2.now≠j:=by rw[z2o.2.1];exact hnj
 apply Run.imp (fun w hm=>Mem.turn9 (tb:=tb) (m:=m) z2w hj2 hn2 hm (tks));have z3w:(z2.turn j).Wf:=z2w.go hj2;have z3l:(z2.turn j).cur.ws.length≤400:=by
  show(z2.oth.getD j default).ws.length≤400;rw[z2o.1];exact hall j hjl hnj
 (apply Run.op;exact rfl;refine OpT.call0_ (spec:=put9_is tb m (z2.turn j) z3w (by show z2.log.length≤_;rw[z2o.2.2.1];omega) (by omega) _) (k:=?_);intro s hs;(refine Jn ?_));obtain⟨z4,rfl⟩:∃x,x=s:=⟨_,rfl⟩;have g:GivesR (Vm.exec E.W m.mdl i z1.two) z4:=by
  have h:=hs.gives z3w z3l;have ek:(z2.turn j).two=({Vm.setCur (Vm.drop 1 z1.tk) {Vm.cur (Vm.drop 1 z1.tk)with st:=1,up:=none}with now:=(Vm.cur (Vm.drop 1 z1.tk)).up.getD 0},z1.two.2):=by
   unfold RT.two;rw[z2.turn_tk hj2 hn2,←ztk,up_abs ztw (by rw[zto.2.2.2.2.2.2.2.2.2.1];exact hcs2) (by rw[zto.2.2.2.2.2.2.2.2.1];exact hju')];show(({z2.tk with now:=j}:Vm.Tk),(E.abs z2.e,z2.log))=_;rw[z2o.2.2.1,z2o.2.2.2,hz2,RT.tk_cur,abs_st zt.cur (by decide),ztw.cur];rfl
  rw[ek]at h;have e:Vm.exec E.W m.mdl i z1.two=Vm.yieldU E.W z1.two:=by unfold Vm.exec;simp[hop]
  rw[e];unfold Vm.yieldU;rw[show Vm.last z1.two.1=z1.cur.ws.getD (z1.cur.ws.length-1) 0 from hz1.last];exact h
 repeat(refine Jy ?_;try first|intro ao cap|intro b)
 (refine JM (look9_is tb m hbx (z4) (g).wf (ha (z4) (g).wf (g).two)) ?_;intro s hs;(refine Jn ?_))
 repeat(refine Jy ?_;try first|intro ao cap|intro b)
 (refine End.done1_ ((RT.look (z4) m)) (he:=Jv) (hp:=?_));exact⟨(g).wf.look m,((g).wf.look_two m).trans (by rw[(g).two])⟩
end Go.Proofs.YtjehflelkpacfaaGreat.Vw
