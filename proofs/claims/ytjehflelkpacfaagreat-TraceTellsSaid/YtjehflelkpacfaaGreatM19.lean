/- The document's task: a step, walked: a thread's end. -/
import Derived.Test.YtjehflelkpacfaaGreatM18
set_option linter.unusedVariables false
set_option linter.unusedSimpArgs false
set_option linter.unusedSectionVars false
set_option maxRecDepth 100000
namespace Go.Proofs.YtjehflelkpacfaaGreat.Vw
open Go.RowKit Go.Proofs.YtjehflelkpacfaaGreat.Img
section
attribute [local irreducible] Run Cod End OpT Still RunQ RunS RunT Fn PutOk
variable{E:EnvR}
set_option maxHeartbeats 2000000 in
theorem step9_11(tb:Nat)(m:ML)(z:RT E)(hz:z.Wf)(hk:CanR m z)(h1:(z.look m).st=1)(hop:(insR m (z.look m)).op=25):StepF tb m z:=by
 unfold StepF;have hp:=pre9 hz hk h1;have hlk:=look9_is tb m hk.boxes z hz (fun _=>hk.stand);have hbx:=hk.boxes;rw[hz.step_two m h1];clear hk h1;generalize z.look m=z0 at hp hlk hop⊢;obtain⟨hn,hg,hfl,hf40,hws,hpc,w1,w2⟩:=hp.num;have h1:=hp.one;refine JE [ptr tb,E.mailV] Tryz.func35 Tryz.ntmps35 fun w S=>?_
 (refine Jn ?_)
 repeat(refine Jy ?_;try first|intro ao cap|intro b)
 (refine JM (hlk) ?_;intro s hs;(refine Jn ?_))
 repeat(refine Jy ?_;try first|intro ao cap|intro b)
 (refine Jc ?_;refine OpT.call0_ (spec:=at9_is tb m z0 hp.wf hp.st) (r:=fun w=>Reads.md (tk) .nil) (k:=?_);intro s hs;(refine Jn ?_))
 repeat(refine Jy ?_;try first|intro ao cap|intro b)
 obtain⟨ib,rfl⟩:∃x,x=b:=⟨_,rfl⟩;rw[hg]
 repeat(refine Jy ?_;try first|intro ao cap|intro b)
 rw[w1,Jj,w2];(apply Run.op;exact rfl;refine OpT.storeE_ (f:=rfC) (l:=z0.cur.fr) (i:=z0.cur.fr.length-1) (off:=1) (vs:=[.int .i64 ((z0.f.pc+1:Nat):Int)]) (a':=(⟨z0.f.unit,z0.f.pc+1,z0.f.base⟩:Vm.Fr)) (k:=?_));apply Run.nil;apply End.seqN;refine Cod.sub [(0,ptr tb),(1,E.mailV),(4, .bool false),(5,ptr ib),(6, .pointer (place (sz rcC) z0.to z0.now 0)),(7, .pointer (place (sz rfC) z0.cur.fo (z0.cur.fr.length-1) 0)),(8, .int .i64 (z0.f.base:Int))] (Ju) ?_;apply Cod.imp (fun w hm=>Mem.frs hp.wf (fr':=z0.cur.fr.set (z0.cur.fr.length-1) ⟨z0.f.unit,z0.f.pc+1,z0.f.base⟩) (by rw[Ji]) hm (tks));refine Cod.only (old w S::md m::E.rc::blk ib (insC (insR m z0)) 126::RM tb m z0.mvd) (tks) ?_;obtain⟨p1,p2,p3⟩:=mvd_places hfl;rw[p1,p2,p3];have hm:=hp.mid;clear hp hlk hn hg hfl hf40 w1 w2 hpc hws p1 p2 p3 h1;generalize insR m z0=i at hm hop⊢;generalize z0.mvd=z1 at hm⊢;obtain⟨hz1,hc,ha,hw1,hfl1,hf40,hst1,hlog1,hout1,hsz1,hcs2,hun,hall,hsts,hfree,hn,hg⟩:=hm;have hex:Vm.exec E.W m.mdl i z1.two=Vm.endU E.W z1.two:=by unfold Vm.exec;simp[hop]
 have hfin:=hc.fin hop;rw[RT.tkLen]at hfin
 repeat(refine Jy ?_;try first|intro ao cap|intro b)
 (apply Run.op;exact rfl;refine OpT.storeE_ (f:=rcC) (l:=z1.all) (i:=z1.now) (off:=0) (vs:=[.int .i64 3]) (a':=({z1.cur with st:=3}:RC)) (hp:=by rw[hg];exact Put.rcS 3) (k:=?_));rw[←RT.all_cur];obtain⟨z2,hz2⟩:∃x,x=z1.to_ {z1.cur with st:=3}:=⟨_,rfl⟩;apply Run.imp (fun w hm=>hm.takes (show Takes (RM tb m z2) _ _ by(rw[hz2];(repeat(first|exact Takes.nil|exact Take.head|apply Take.tail|apply Takes.cons)))));(refine Jn ?_);rw[show place (sz rcC) z1.to z1.now 0=place (sz rcC) z2.to z2.now 0 by rw[hz2]];have z2w:z2.Wf:=by rw[hz2];exact hz1.to_ _
 have z2g:=z2w.curGet;have z2n:=z2w.now;have z2o:z2.oth=z1.oth∧z2.now=z1.now∧z2.log=z1.log∧z2.e=z1.e∧z2.cur.up=z1.cur.up∧z2.st=z1.st:=by rw[hz2];exact⟨rfl,rfl,rfl,rfl,rfl,rfl⟩
 have z2k:z2.tk=Vm.setCur z1.tk {Vm.cur z1.tk with st:=3,up:=none}:=by
  rw[hz2,RT.tk_cur,abs_st z1.cur (by decide),hz1.cur]
 repeat(refine Jy ?_;try first|intro ao cap|intro b)
 rw[z2g]
 cases hu:(Vm.cur z1.tk).up with
 |none=>
  have hup:=up_none hz1 hcs2 hu;rw[←z2o.2.2.2.2.1]at hup
  repeat(refine Jy ?_;try first|intro ao cap|intro b)
  (apply Run.op;exact rfl;refine OpT.call0_ (spec:=note_is tb m {z2 with st:=4} (by show z2.log.length≤_;rw[z2o.2.2.1];omega) 4 0 0) (k:=?_);intro s hs;(refine Jn ?_));obtain⟨nq,rfl⟩:∃x,x=s:=⟨_,rfl⟩;have g:GivesR (Vm.exec E.W m.mdl i z1.two) (RT.noted {z2 with st:=4} (4,0,0) nq):=⟨⟨z2w.now,z2w.few,z2w.env, .inr (.inl rfl)⟩,by
   have e:({Vm.cur z1.tk with st:=3,up:=none}:Vm.Co)={Vm.cur z1.tk with st:=3}:=by rw[←hu]
   rw[hex];unfold Vm.endU;rw[show(Vm.cur z1.two.1).up=none from hu];show(({z2.tk with st:=4}:Vm.Tk),(E.abs z2.e,z2.log ++[(4,0,0)]))=_;rw[z2k,e,z2o.2.2.1,z2o.2.2.2.1];rfl⟩
  repeat(refine Jy ?_;try first|intro ao cap|intro b)
  (refine JM (look9_is tb m hbx (RT.noted {z2 with st:=4} (4,0,0) nq) (g).wf (ha (RT.noted {z2 with st:=4} (4,0,0) nq) (g).wf (g).two)) ?_;intro s hs;(refine Jn ?_))
  repeat(refine Jy ?_;try first|intro ao cap|intro b)
  (refine End.done1_ ((RT.look (RT.noted {z2 with st:=4} (4,0,0) nq) m)) (he:=Jv) (hp:=?_));exact⟨(g).wf.look m,((g).wf.look_two m).trans (by rw[(g).two])⟩
 |some j=>
  obtain⟨hnj,hjl⟩:=hfin j hu;have hju:=up_some hz1 hu;have z2u:z2.cur.up=(j:Int):=z2o.2.2.2.2.1.trans hju;rw[z2u]
  repeat(refine Jy ?_;try first|intro ao cap|intro b)
  rw[z2g,z2u]
  repeat(refine Jy ?_;try first|intro ao cap|intro b)
  have hj2:j<z2.oth.length:=by rw[z2o.1];exact hjl
  have hn2:z2.now≠j:=by rw[z2o.2.1];exact hnj
  apply Run.imp (fun w hm=>Mem.turn9 (tb:=tb) (m:=m) z2w hj2 hn2 hm (tks));have z3w:(z2.turn j).Wf:=z2w.go hj2;have z3l:(z2.turn j).cur.ws.length≤400:=by
   show(z2.oth.getD j default).ws.length≤400;rw[z2o.1];exact hall j hjl hnj
  (apply Run.op;exact rfl;refine OpT.call0_ (spec:=put9_is tb m (z2.turn j) z3w (by show z2.log.length≤_;rw[z2o.2.2.1];omega) (by omega) _) (k:=?_);intro s hs;(refine Jn ?_));obtain⟨z4,rfl⟩:∃x,x=s:=⟨_,rfl⟩;have g:GivesR (Vm.exec E.W m.mdl i z1.two) z4:=by
   have h:=hs.gives z3w z3l;have ek:(z2.turn j).two=({Vm.setCur z1.tk {Vm.cur z1.tk with st:=3,up:=none}with now:=j},z1.two.2):=by
    unfold RT.two;rw[z2.turn_tk hj2 hn2,z2k];show(_,(E.abs z2.e,z2.log))=_;rw[z2o.2.2.1,z2o.2.2.2.1]
   rw[ek]at h;rw[hex];unfold Vm.endU;rw[show(Vm.cur z1.two.1).up=some j from hu];exact h
  repeat(refine Jy ?_;try first|intro ao cap|intro b)
  (refine JM (look9_is tb m hbx (z4) (g).wf (ha (z4) (g).wf (g).two)) ?_;intro s hs;(refine Jn ?_))
  repeat(refine Jy ?_;try first|intro ao cap|intro b)
  (refine End.done1_ ((RT.look (z4) m)) (he:=Jv) (hp:=?_));exact⟨(g).wf.look m,((g).wf.look_two m).trans (by rw[(g).two])⟩
end
section
theorem getD_two0(x y:Int):[x,y].getD 0 default=x:=rfl
theorem getD_two1(x y:Int):[x,y].getD (0+1) default=y:=rfl
theorem drop11{t:Vm.Tk}(h:t.now<t.cs.length)(hl:2≤(Vm.cur t).ws.length):Vm.drop 1 (Vm.drop 1 t)=Vm.drop 2 t:=by
 unfold Vm.drop;rw[Vm.cur_set h,Vm.set_set];have e:((Vm.cur t).ws.take ((Vm.cur t).ws.length-1)).take (((Vm.cur t).ws.take ((Vm.cur t).ws.length-1)).length-1)=(Vm.cur t).ws.take ((Vm.cur t).ws.length-2):=by
  rw[List.take_take,List.length_take];congr 1;omega
 exact congrArg (fun w=>Vm.setCur t {Vm.cur t with ws:=w}) e
theorem last_drop{t:Vm.Tk}(h:t.now<t.cs.length)(hl:2≤(Vm.cur t).ws.length):Vm.last (Vm.drop 1 t)=(Vm.cur t).ws.getD ((Vm.cur t).ws.length-2) 0:=by
 unfold Vm.last Vm.drop;rw[Vm.cur_set h];show(List.take _ _).getD ((List.take _ _).length-1) 0=_;rw[List.length_take,Jd,Jd,List.getElem?_take,if_pos (by omega)];congr 2;omega
theorem TwoR.gives{E:EnvR}{op a b:Int}{z z':RT E}(h:z.Wf)(hw:z.cur.ws.length≤400)(ht:TwoR op a b z z'):GivesR (if(op=11∨op=12)∧b=0 then Vm.trap E.W 1 z.two else Vm.push E.W (Opt.two2 op a b) z.two) z':=by
 unfold TwoR at ht
 split at ht
 ·rename_i hc;rw[if_pos hc];exact ht.gives h
 ·rename_i hc;rw[if_neg hc];exact ht.gives h hw
attribute [local irreducible] Run Cod End OpT Still RunQ RunS RunT Fn PutOk
variable{E:EnvR}
set_option maxHeartbeats 2000000 in
theorem step9_6(tb:Nat)(m:ML)(z:RT E)(hz:z.Wf)(hk:CanR m z)(h1:(z.look m).st=1)(hop:(insR m (z.look m)).op=27):StepF tb m z:=by
 unfold StepF;have hp:=pre9 hz hk h1;have hlk:=look9_is tb m hk.boxes z hz (fun _=>hk.stand);have hbx:=hk.boxes;rw[hz.step_two m h1];clear hk h1;generalize z.look m=z0 at hp hlk hop⊢;obtain⟨hn,hg,hfl,hf40,hws,hpc,w1,w2⟩:=hp.num;have h1:=hp.one;refine JE [ptr tb,E.mailV] Tryz.func35 Tryz.ntmps35 fun w S=>?_
 (refine Jn ?_)
 repeat(refine Jy ?_;try first|intro ao cap|intro b)
 (refine JM (hlk) ?_;intro s hs;(refine Jn ?_))
 repeat(refine Jy ?_;try first|intro ao cap|intro b)
 (refine Jc ?_;refine OpT.call0_ (spec:=at9_is tb m z0 hp.wf hp.st) (r:=fun w=>Reads.md (tk) .nil) (k:=?_);intro s hs;(refine Jn ?_))
 repeat(refine Jy ?_;try first|intro ao cap|intro b)
 obtain⟨ib,rfl⟩:∃x,x=b:=⟨_,rfl⟩;rw[hg]
 repeat(refine Jy ?_;try first|intro ao cap|intro b)
 rw[w1,Jj,w2];(apply Run.op;exact rfl;refine OpT.storeE_ (f:=rfC) (l:=z0.cur.fr) (i:=z0.cur.fr.length-1) (off:=1) (vs:=[.int .i64 ((z0.f.pc+1:Nat):Int)]) (a':=(⟨z0.f.unit,z0.f.pc+1,z0.f.base⟩:Vm.Fr)) (k:=?_));apply Run.nil;apply End.seqN;refine Cod.sub [(0,ptr tb),(1,E.mailV),(4, .bool false),(5,ptr ib),(6, .pointer (place (sz rcC) z0.to z0.now 0)),(7, .pointer (place (sz rfC) z0.cur.fo (z0.cur.fr.length-1) 0)),(8, .int .i64 (z0.f.base:Int))] (Ju) ?_;apply Cod.imp (fun w hm=>Mem.frs hp.wf (fr':=z0.cur.fr.set (z0.cur.fr.length-1) ⟨z0.f.unit,z0.f.pc+1,z0.f.base⟩) (by rw[Ji]) hm (tks));refine Cod.only (old w S::md m::E.rc::blk ib (insC (insR m z0)) 126::RM tb m z0.mvd) (tks) ?_;obtain⟨p1,p2,p3⟩:=mvd_places hfl;rw[p1,p2,p3];have hm:=hp.mid;clear hp hlk hn hg hfl hf40 w1 w2 hpc hws p1 p2 p3 h1;generalize insR m z0=i at hm hop⊢;generalize z0.mvd=z1 at hm⊢;obtain⟨hz1,hc,ha,hw1,hfl1,hf40,hst1,hlog1,hout1,hsz1,hcs2,hun,hall,hsts,hfree,hn,hg⟩:=hm;obtain⟨b1,b2⟩:=hc.box (.inr hop);rw[show m.mdl.boxes.length=m.bx.length from rfl,←hbx]at b2;have hex:Vm.exec E.W m.mdl i z1.two=Vm.push E.W (E.V.take (E.abs z1.e) i.a.toNat).1 (z1.tk,E.W.tell (E.W.take z1.two.2 i.a.toNat).2 (3,i.a,(E.V.take (E.abs z1.e) i.a.toNat).1)):=by
  unfold Vm.exec;simp[hop];rfl
 have hget:=E.get z1.e i.a.toNat hz1.env b2 (hfree.2 hop);rw[Jo' b1]at hget
 repeat(refine Jy ?_;try first|intro ao cap|intro b)
 (refine Jc ?_;refine OpT.callM_ (E.mGet) (E.bGet) (hget) (r:=fun w=>Reads.any (tk) E.rexcl .nil) (k:=?_);intro s hs;(refine Jn ?_));obtain⟨e2,rfl⟩:∃x,x=s:=⟨_,rfl⟩;have hge:=hs
 repeat(refine Jy ?_;try first|intro ao cap|intro b)
 (apply Run.op;exact rfl;refine OpT.call0_ (spec:=note_is tb m {z1 with e:=e2} (by show z1.log.length≤_;omega) 3 i.a _) (k:=?_);intro s hs;(refine Jn ?_));obtain⟨nq,rfl⟩:∃x,x=s:=⟨_,rfl⟩;have z2w:(RT.noted {z1 with e:=e2} (3,i.a,(E.V.take (E.abs z1.e) i.a.toNat).1) nq).Wf:=⟨hz1.now,hz1.few,hge.1,hz1.st⟩
 repeat(refine Jy ?_;try first|intro ao cap|intro b)
 (apply Run.op;exact rfl;refine OpT.call0_ (spec:=put9_is tb m (RT.noted {z1 with e:=e2} (3,i.a,(E.V.take (E.abs z1.e) i.a.toNat).1) nq) z2w (by show(z1.log ++_).length≤_;simp;omega) (by show z1.cur.ws.length≤_;omega) _) (k:=?_);intro s hs;(refine Jn ?_));obtain⟨z3,rfl⟩:∃x,x=s:=⟨_,rfl⟩;have g:GivesR (Vm.exec E.W m.mdl i z1.two) z3:=by
  have h:=hs.gives z2w hw1;rw[hex];have e:(RT.noted {z1 with e:=e2} (3,i.a,(E.V.take (E.abs z1.e) i.a.toNat).1) nq).two=(z1.tk,E.W.tell (E.W.take z1.two.2 i.a.toNat).2 (3,i.a,(E.V.take (E.abs z1.e) i.a.toNat).1)):=by
   show(z1.tk,(E.abs e2,z1.log ++[(3,i.a,(E.V.take (E.abs z1.e) i.a.toNat).1)]))=_;rw[hge.2];rfl
  rw[e]at h;exact h
 repeat(refine Jy ?_;try first|intro ao cap|intro b)
 (refine JM (look9_is tb m hbx (z3) (g).wf (ha (z3) (g).wf (g).two)) ?_;intro s hs;(refine Jn ?_))
 repeat(refine Jy ?_;try first|intro ao cap|intro b)
 (refine End.done1_ ((RT.look (z3) m)) (he:=Jv) (hp:=?_));exact⟨(g).wf.look m,((g).wf.look_two m).trans (by rw[(g).two])⟩
set_option maxHeartbeats 2000000 in
theorem step9_7(tb:Nat)(m:ML)(z:RT E)(hz:z.Wf)(hk:CanR m z)(h1:(z.look m).st=1)(hop:8≤(insR m (z.look m)).op∧(insR m (z.look m)).op≤20):StepF tb m z:=by
 unfold StepF;have hp:=pre9 hz hk h1;have hlk:=look9_is tb m hk.boxes z hz (fun _=>hk.stand);have hbx:=hk.boxes;rw[hz.step_two m h1];clear hk h1;generalize z.look m=z0 at hp hlk hop⊢;obtain⟨hn,hg,hfl,hf40,hws,hpc,w1,w2⟩:=hp.num;have h1:=hp.one;refine JE [ptr tb,E.mailV] Tryz.func35 Tryz.ntmps35 fun w S=>?_
 (refine Jn ?_)
 repeat(refine Jy ?_;try first|intro ao cap|intro b)
 (refine JM (hlk) ?_;intro s hs;(refine Jn ?_))
 repeat(refine Jy ?_;try first|intro ao cap|intro b)
 (refine Jc ?_;refine OpT.call0_ (spec:=at9_is tb m z0 hp.wf hp.st) (r:=fun w=>Reads.md (tk) .nil) (k:=?_);intro s hs;(refine Jn ?_))
 repeat(refine Jy ?_;try first|intro ao cap|intro b)
 obtain⟨ib,rfl⟩:∃x,x=b:=⟨_,rfl⟩;rw[hg]
 repeat(refine Jy ?_;try first|intro ao cap|intro b)
 rw[w1,Jj,w2];(apply Run.op;exact rfl;refine OpT.storeE_ (f:=rfC) (l:=z0.cur.fr) (i:=z0.cur.fr.length-1) (off:=1) (vs:=[.int .i64 ((z0.f.pc+1:Nat):Int)]) (a':=(⟨z0.f.unit,z0.f.pc+1,z0.f.base⟩:Vm.Fr)) (k:=?_));apply Run.nil;apply End.seqN;refine Cod.sub [(0,ptr tb),(1,E.mailV),(4, .bool false),(5,ptr ib),(6, .pointer (place (sz rcC) z0.to z0.now 0)),(7, .pointer (place (sz rfC) z0.cur.fo (z0.cur.fr.length-1) 0)),(8, .int .i64 (z0.f.base:Int))] (Ju) ?_;apply Cod.imp (fun w hm=>Mem.frs hp.wf (fr':=z0.cur.fr.set (z0.cur.fr.length-1) ⟨z0.f.unit,z0.f.pc+1,z0.f.base⟩) (by rw[Ji]) hm (tks));refine Cod.only (old w S::md m::E.rc::blk ib (insC (insR m z0)) 126::RM tb m z0.mvd) (tks) ?_;obtain⟨p1,p2,p3⟩:=mvd_places hfl;rw[p1,p2,p3];have hm:=hp.mid;clear hp hlk hn hg hfl hf40 w1 w2 hpc hws p1 p2 p3 h1;generalize insR m z0=i at hm hop⊢;generalize z0.mvd=z1 at hm⊢;obtain⟨hz1,hc,ha,hw1,hfl1,hf40,hst1,hlog1,hout1,hsz1,hcs2,hun,hall,hsts,hfree,hn,hg⟩:=hm;obtain⟨t1,t2,t3,t4⟩:=hc.two hop;have e3:Vm.wl z1.tk=z1.cur.ws.length:=by unfold Vm.wl;rw[hz1.ws]
 have e4:=hz1.topW 1;have e5:=hz1.topW 2;rw[e3]at t1;rw[e4,e5]at t4;have hd2:=drop_two t1;have hex:Vm.exec E.W m.mdl i z1.two=if(i.op=11∨i.op=12)∧z1.cur.ws.getD (z1.cur.ws.length-1) 0=0 then Vm.trap E.W 1 (Vm.drop 2 z1.tk,z1.two.2)else Vm.push E.W (Opt.two2 i.op (z1.cur.ws.getD (z1.cur.ws.length-2) 0) (z1.cur.ws.getD (z1.cur.ws.length-1) 0)) (Vm.drop 2 z1.tk,z1.two.2):=by
  have q1:=drop11 (t:=z1.tk) (by rw[RT.tkLen];exact hz1.now) (by rw[hz1.ws];exact t1);have q2:=last_drop (t:=z1.tk) (by rw[RT.tkLen];exact hz1.now) (by rw[hz1.ws];exact t1);rw[hz1.ws]at q2;rw[←hz1.last,←q1,←q2];unfold Vm.exec;rw[if_neg (by omega),if_neg (by omega),if_neg (by omega),if_neg (by omega),if_neg (by omega),if_neg (by omega),if_neg (by omega),if_pos hop];rfl
 repeat(refine Jy ?_;try first|intro ao cap|intro b)
 (refine JQ (take9_is tb m z1 hz1 2 (by omega) (by omega)) ?_;intro s hs;(refine Jn ?_));obtain⟨zt,hzt⟩:∃x,x=z1.took 2 s.1:=⟨_,rfl⟩;rw[←hzt];have ztw:zt.Wf:=by rw[hzt];exact hz1.took 2 s.1
 have ztk:zt.tk=Vm.drop 2 z1.tk:=by rw[hzt];exact hz1.took_tk 2 s.1
 have ztl:zt.cur.ws.length=z1.cur.ws.length-2:=by rw[hzt];exact RT.took_len z1 2 s.1
 have zto:zt.e=z1.e∧zt.log=z1.log∧zt.out=z1.out∧zt.to=z1.to∧zt.now=z1.now∧zt.cur.fo=z1.cur.fo∧zt.cur.fr=z1.cur.fr∧zt.oth=z1.oth∧zt.cur.up=z1.cur.up∧zt.cur.st=z1.cur.st∧zt.st=z1.st:=by rw[hzt];exact⟨rfl,rfl,rfl,rfl,rfl,rfl,rfl,rfl,rfl,rfl,rfl⟩
 have ztt:zt.two=(Vm.drop 2 z1.tk,z1.two.2):=by unfold RT.two;rw[ztk,zto.1,zto.2.1]
 have ztg:=ztw.curGet;have ztn:=ztw.now;obtain⟨oq,olo,olc⟩:=s;dsimp only;rw[hd2]
 repeat(refine Jy ?_;try first|intro ao cap|intro b)
 (refine RunS.val_ (h:=by(apply Still.at_;exact rfl;exact rfl;exact Jr;exact rfl;exact rfl;exact rfl;exact ix_zero;omega)) (k:=?_))
 repeat(refine Jy ?_;try first|intro ao cap|intro b)
 rw[getD_two0,getD_two1];(apply Run.op;exact rfl;refine OpT.call0_ (spec:=two9_is tb m zt ztw (by rw[zto.2.1];omega) (by rw[ztl];omega) i.op _ _ hop (fun h=>⟨(t4 h).2,(t4 h).1⟩)) (k:=?_);intro s hs;(refine Jn ?_));obtain⟨z3,rfl⟩:∃x,x=s:=⟨_,rfl⟩;have g:GivesR (Vm.exec E.W m.mdl i z1.two) z3:=by rw[hex,←ztt];exact hs.gives ztw (by rw[ztl];omega)
 repeat(refine Jy ?_;try first|intro ao cap|intro b)
 (refine JM (look9_is tb m hbx (z3) (g).wf (ha (z3) (g).wf (g).two)) ?_;intro s hs;(refine Jn ?_))
 repeat(refine Jy ?_;try first|intro ao cap|intro b)
 (refine End.done1_ ((RT.look (z3) m)) (he:=Jv) (hp:=?_));exact⟨(g).wf.look m,((g).wf.look_two m).trans (by rw[(g).two])⟩
end
section
attribute [local irreducible] Run Cod End OpT Still RunQ RunS RunT Fn PutOk
variable{E:EnvR}
set_option maxHeartbeats 2000000 in
theorem step9_12(tb:Nat)(m:ML)(z:RT E)(hz:z.Wf)(hk:CanR m z)(h1:(z.look m).st=1)(hop:(insR m (z.look m)).op=30):StepF tb m z:=by
 unfold StepF;have hp:=pre9 hz hk h1;have hlk:=look9_is tb m hk.boxes z hz (fun _=>hk.stand);have hbx:=hk.boxes;rw[hz.step_two m h1];clear hk h1;generalize z.look m=z0 at hp hlk hop⊢;obtain⟨hn,hg,hfl,hf40,hws,hpc,w1,w2⟩:=hp.num;have h1:=hp.one;refine JE [ptr tb,E.mailV] Tryz.func35 Tryz.ntmps35 fun w S=>?_
 (refine Jn ?_)
 repeat(refine Jy ?_;try first|intro ao cap|intro b)
 (refine JM (hlk) ?_;intro s hs;(refine Jn ?_))
 repeat(refine Jy ?_;try first|intro ao cap|intro b)
 (refine Jc ?_;refine OpT.call0_ (spec:=at9_is tb m z0 hp.wf hp.st) (r:=fun w=>Reads.md (tk) .nil) (k:=?_);intro s hs;(refine Jn ?_))
 repeat(refine Jy ?_;try first|intro ao cap|intro b)
 obtain⟨ib,rfl⟩:∃x,x=b:=⟨_,rfl⟩;rw[hg]
 repeat(refine Jy ?_;try first|intro ao cap|intro b)
 rw[w1,Jj,w2];(apply Run.op;exact rfl;refine OpT.storeE_ (f:=rfC) (l:=z0.cur.fr) (i:=z0.cur.fr.length-1) (off:=1) (vs:=[.int .i64 ((z0.f.pc+1:Nat):Int)]) (a':=(⟨z0.f.unit,z0.f.pc+1,z0.f.base⟩:Vm.Fr)) (k:=?_));apply Run.nil;apply End.seqN;refine Cod.sub [(0,ptr tb),(1,E.mailV),(4, .bool false),(5,ptr ib),(6, .pointer (place (sz rcC) z0.to z0.now 0)),(7, .pointer (place (sz rfC) z0.cur.fo (z0.cur.fr.length-1) 0)),(8, .int .i64 (z0.f.base:Int))] (Ju) ?_;apply Cod.imp (fun w hm=>Mem.frs hp.wf (fr':=z0.cur.fr.set (z0.cur.fr.length-1) ⟨z0.f.unit,z0.f.pc+1,z0.f.base⟩) (by rw[Ji]) hm (tks));refine Cod.only (old w S::md m::E.rc::blk ib (insC (insR m z0)) 126::RM tb m z0.mvd) (tks) ?_;obtain⟨p1,p2,p3⟩:=mvd_places hfl;rw[p1,p2,p3];have hm:=hp.mid;clear hp hlk hn hg hfl hf40 w1 w2 hpc hws p1 p2 p3 h1;generalize insR m z0=i at hm hop⊢;generalize z0.mvd=z1 at hm⊢;obtain⟨hz1,hc,ha,hw1,hfl1,hf40,hst1,hlog1,hout1,hsz1,hcs2,hun,hall,hsts,hfree,hn,hg⟩:=hm;obtain⟨t1,t2,t3⟩:=hc.res hop;have e3:Vm.wl z1.tk=z1.cur.ws.length:=by unfold Vm.wl;rw[hz1.ws]
 have e5:=hz1.topW 2;rw[e3]at t1;rw[e5]at t2 t3;rw[RT.tkLen]at t3;have hd2:=drop_two t1;obtain⟨k,hk⟩:∃k:Nat,z1.cur.ws.getD (z1.cur.ws.length-2) 0=(k:Int):=⟨(z1.cur.ws.getD (z1.cur.ws.length-2) 0).toNat,by omega⟩;rw[hk]at hd2 t3;have hkl:k<z1.oth.length:=by omega
 have hex:Vm.exec E.W m.mdl i z1.two=Vm.resumeU E.W z1.two:=by unfold Vm.exec;simp[hop]
 repeat(refine Jy ?_;try first|intro ao cap|intro b)
 (refine JQ (take9_is tb m z1 hz1 2 (by omega) (by omega)) ?_;intro s hs;(refine Jn ?_));obtain⟨zt,hzt⟩:∃x,x=z1.took 2 s.1:=⟨_,rfl⟩;rw[←hzt];have ztw:zt.Wf:=by rw[hzt];exact hz1.took 2 s.1
 have ztk:zt.tk=Vm.drop 2 z1.tk:=by rw[hzt];exact hz1.took_tk 2 s.1
 have ztl:zt.cur.ws.length=z1.cur.ws.length-2:=by rw[hzt];exact RT.took_len z1 2 s.1
 have zto:zt.e=z1.e∧zt.log=z1.log∧zt.out=z1.out∧zt.to=z1.to∧zt.now=z1.now∧zt.cur.fo=z1.cur.fo∧zt.cur.fr=z1.cur.fr∧zt.oth=z1.oth∧zt.cur.up=z1.cur.up∧zt.cur.st=z1.cur.st∧zt.st=z1.st:=by rw[hzt];exact⟨rfl,rfl,rfl,rfl,rfl,rfl,rfl,rfl,rfl,rfl,rfl⟩
 have ztt:zt.two=(Vm.drop 2 z1.tk,z1.two.2):=by unfold RT.two;rw[ztk,zto.1,zto.2.1]
 have ztg:=ztw.curGet;have ztn:=ztw.now;obtain⟨oq,olo,olc⟩:=s;dsimp only;rw[hd2];have hzk:k<zt.oth.length:=by rw[zto.2.2.2.2.2.2.2.1];exact hkl
 repeat(refine Jy ?_;try first|intro ao cap|intro b)
 have hexr:Vm.exec E.W m.mdl i z1.two=if(zt.all.getD k default).st=3 then Vm.trap E.W 2 zt.two else if(zt.all.getD k default).st=2 then Vm.trap E.W 3 zt.two else if(zt.all.getD k default).st=0 then({Vm.setC zt.tk k {(zt.all.getD k default).abs with st:=2,up:=some zt.now}with now:=k},zt.two.2)else Vm.push E.W (z1.cur.ws.getD (z1.cur.ws.length-1) 0) ({Vm.setC zt.tk k {(zt.all.getD k default).abs with st:=2,up:=some zt.now}with now:=k},zt.two.2):=by
  rw[hex];unfold Vm.resumeU;have q1:=drop11 (t:=z1.tk) (by rw[RT.tkLen];exact hz1.now) (by rw[hz1.ws];exact t1);have q2:=last_drop (t:=z1.tk) (by rw[RT.tkLen];exact hz1.now) (by rw[hz1.ws];exact t1);rw[hz1.ws,hk]at q2;dsimp only;rw[show z1.two.1=z1.tk from rfl,q1,q2,←ztk,Jj,zt.coAt hzk,hz1.last,show zt.two=(zt.tk,z1.two.2) by rw[ztt,ztk]];rfl
 (refine RunQ.val_ (h:=by(apply Still.at_;exact rfl;exact rfl;exact Jr;exact rfl;exact rfl;exact rfl;exact ix_zero;omega)) (k:=?_))
 repeat(refine Jy ?_;try first|intro ao cap|intro b)
 by_cases h3:(zt.all.getD k default).st=3
 ·rw[if_pos h3]at hexr;have h3':((zt.all.getD k default).st:Int)=3:=by omega
  repeat(refine Jy ?_;try first|intro ao cap|intro b)
  (refine JQ (fall_is tb m zt (by rw[zto.2.1];omega) 2) ?_;intro s hs;(refine Jn ?_));obtain⟨z2,rfl⟩:∃x,x=s:=⟨_,rfl⟩;have g:GivesR (Vm.exec E.W m.mdl i z1.two) z2:=by rw[hexr];exact hs.gives ztw
  repeat(refine Jy ?_;try first|intro ao cap|intro b)
  (refine JM (look9_is tb m hbx (z2) (g).wf (ha (z2) (g).wf (g).two)) ?_;intro s hs;(refine Jn ?_))
  repeat(refine Jy ?_;try first|intro ao cap|intro b)
  (refine End.done1_ ((RT.look (z2) m)) (he:=Jv) (hp:=?_));exact⟨(g).wf.look m,((g).wf.look_two m).trans (by rw[(g).two])⟩
 rw[if_neg h3]at hexr;have h3':¬((zt.all.getD k default).st:Int)=3:=by omega
 by_cases h2:(zt.all.getD k default).st=2
 ·rw[if_pos h2]at hexr;have h2':((zt.all.getD k default).st:Int)=2:=by omega
  repeat(refine Jy ?_;try first|intro ao cap|intro b)
  (refine JQ (fall_is tb m zt (by rw[zto.2.1];omega) 3) ?_;intro s hs;(refine Jn ?_));obtain⟨z2,rfl⟩:∃x,x=s:=⟨_,rfl⟩;have g:GivesR (Vm.exec E.W m.mdl i z1.two) z2:=by rw[hexr];exact hs.gives ztw
  repeat(refine Jy ?_;try first|intro ao cap|intro b)
  (refine JM (look9_is tb m hbx (z2) (g).wf (ha (z2) (g).wf (g).two)) ?_;intro s hs;(refine Jn ?_))
  repeat(refine Jy ?_;try first|intro ao cap|intro b)
  (refine End.done1_ ((RT.look (z2) m)) (he:=Jv) (hp:=?_));exact⟨(g).wf.look m,((g).wf.look_two m).trans (by rw[(g).two])⟩
 rw[if_neg h2]at hexr;have h2':¬((zt.all.getD k default).st:Int)=2:=by omega
 have hkn:zt.now≠k:=fun e=>by
  rw[←e,ztg,zto.2.2.2.2.2.2.2.2.2.1]at h2;exact h2 hcs2
 have hkn1:z1.now≠k:=by rw[←zto.2.2.2.2.1];exact hkn
 have hs3:(zt.oth.getD k default).st≤3:=by rw[zto.2.2.2.2.2.2.2.1];exact hsts k hkl hkn1
 have hl4:(zt.oth.getD k default).ws.length≤400:=by rw[zto.2.2.2.2.2.2.2.1];exact hall k hkl hkn1
 have hog:=zt.othGet hkn;have hall2:k<zt.all.length:=by rw[zt.allLen];exact hzk
 rw[hog]at hexr h3 h2 h3' h2';rw[hog]
 repeat(refine Jy ?_;try first|intro ao cap|intro b)
 rw[hog]
 repeat(refine Jy ?_;try first|intro ao cap|intro b)
 (apply Run.op;exact rfl;refine OpT.storeE_ (f:=rcC) (l:=zt.all) (i:=k) (off:=0) (vs:=[.int .i64 2]) (a':=({zt.oth.getD k default with st:=2}:RC)) (hp:=by rw[hog];exact Put.rcS 2) (k:=?_))
 repeat(refine Jy ?_;try first|intro ao cap|intro b)
 (apply Run.op;exact rfl;refine OpT.storeE_ (f:=rcC) (l:=zt.all.set k {zt.oth.getD k default with st:=2}) (i:=k) (off:=1) (vs:=[.int .i64 (zt.now:Int)]) (a':=({zt.oth.getD k default with st:=2,up:=(zt.now:Int)}:RC)) (hp:=by rw[getR_eq hall2];exact Put.rcU _) (k:=?_));rw[List.set_set]
 repeat(refine Jy ?_;try first|intro ao cap|intro b)
 (apply Run.op;exact rfl;refine OpT.val_ (h:=by(apply Still.at_;exact rfl;exact rfl;exact Jr;exact rfl;exact rfl;exact rfl;exact ix_zero;omega)) (k:=?_));(apply Run.op;exact rfl;refine OpT.val_ (k:=?_));rw[getD_two0]
 repeat(refine Jy ?_;try first|intro ao cap|intro b)
 apply Cod.imp (fun w hm=>Mem.led9 (tb:=tb) (m:=m) (st:=2) (up:=(zt.now:Int)) ztw hzk hkn hm (tks));have z2w:(zt.led k 2 (zt.now:Int)).Wf:=ztw.go hzk;have z2l:(zt.led k 2 (zt.now:Int)).cur.ws.length≤400:=hl4;have z2t:(zt.led k 2 (zt.now:Int)).two=({Vm.setC zt.tk k {(zt.oth.getD k default).abs with st:=2,up:=some zt.now}with now:=k},zt.two.2):=by
  unfold RT.two;rw[RT.led_tk];rfl
 rw[hog]
 by_cases h1:(zt.oth.getD k default).st=1
 ·rw[if_neg (by omega),←z2t]at hexr;have h1':((zt.oth.getD k default).st:Int)=1:=by omega
  repeat(refine Jy ?_;try first|intro ao cap|intro b)
  rw[getD_two1];(apply Run.op;exact rfl;refine OpT.call0_ (spec:=put9_is tb m (zt.led k 2 (zt.now:Int)) z2w (by show zt.log.length≤_;rw[zto.2.1];omega) (by omega) _) (k:=?_);intro s hs;(refine Jn ?_));obtain⟨z4,rfl⟩:∃x,x=s:=⟨_,rfl⟩;have g:GivesR (Vm.exec E.W m.mdl i z1.two) z4:=by rw[hexr];exact hs.gives z2w z2l
  repeat(refine Jy ?_;try first|intro ao cap|intro b)
  (refine JM (look9_is tb m hbx (z4) (g).wf (ha (z4) (g).wf (g).two)) ?_;intro s hs;(refine Jn ?_))
  repeat(refine Jy ?_;try first|intro ao cap|intro b)
  (refine End.done1_ ((RT.look (z4) m)) (he:=Jv) (hp:=?_));exact⟨(g).wf.look m,((g).wf.look_two m).trans (by rw[(g).two])⟩
 ·rw[if_pos (by omega),←z2t]at hexr;have h1':¬((zt.oth.getD k default).st:Int)=1:=by omega
  have g:GivesR (Vm.exec E.W m.mdl i z1.two) (zt.led k 2 (zt.now:Int)):=⟨z2w,hexr.symm⟩
  repeat(refine Jy ?_;try first|intro ao cap|intro b)
  (refine JM (look9_is tb m hbx (zt.led k 2 (zt.now:Int)) (g).wf (ha (zt.led k 2 (zt.now:Int)) (g).wf (g).two)) ?_;intro s hs;(refine Jn ?_))
  repeat(refine Jy ?_;try first|intro ao cap|intro b)
  (refine End.done1_ ((RT.look (zt.led k 2 (zt.now:Int)) m)) (he:=Jv) (hp:=?_));exact⟨(g).wf.look m,((g).wf.look_two m).trans (by rw[(g).two])⟩
end
attribute [local irreducible] Run Cod End OpT Still RunQ RunS RunT Fn PutOk
variable{E:EnvR}
set_option maxHeartbeats 2000000 in
theorem step9_13(tb:Nat)(m:ML)(z:RT E)(hz:z.Wf)(hk:CanR m z)(h1:(z.look m).st=1)(hop:(insR m (z.look m)).op=29):StepF tb m z:=by
 unfold StepF;have hp:=pre9 hz hk h1;have hlk:=look9_is tb m hk.boxes z hz (fun _=>hk.stand);have hbx:=hk.boxes;rw[hz.step_two m h1];clear hk h1;generalize z.look m=z0 at hp hlk hop⊢;obtain⟨hn,hg,hfl,hf40,hws,hpc,w1,w2⟩:=hp.num;have h1:=hp.one;refine JE [ptr tb,E.mailV] Tryz.func35 Tryz.ntmps35 fun w S=>?_
 (refine Jn ?_)
 repeat(refine Jy ?_;try first|intro ao cap|intro b)
 (refine JM (hlk) ?_;intro s hs;(refine Jn ?_))
 repeat(refine Jy ?_;try first|intro ao cap|intro b)
 (refine Jc ?_;refine OpT.call0_ (spec:=at9_is tb m z0 hp.wf hp.st) (r:=fun w=>Reads.md (tk) .nil) (k:=?_);intro s hs;(refine Jn ?_))
 repeat(refine Jy ?_;try first|intro ao cap|intro b)
 obtain⟨ib,rfl⟩:∃x,x=b:=⟨_,rfl⟩;rw[hg]
 repeat(refine Jy ?_;try first|intro ao cap|intro b)
 rw[w1,Jj,w2];(apply Run.op;exact rfl;refine OpT.storeE_ (f:=rfC) (l:=z0.cur.fr) (i:=z0.cur.fr.length-1) (off:=1) (vs:=[.int .i64 ((z0.f.pc+1:Nat):Int)]) (a':=(⟨z0.f.unit,z0.f.pc+1,z0.f.base⟩:Vm.Fr)) (k:=?_));apply Run.nil;apply End.seqN;refine Cod.sub [(0,ptr tb),(1,E.mailV),(4, .bool false),(5,ptr ib),(6, .pointer (place (sz rcC) z0.to z0.now 0)),(7, .pointer (place (sz rfC) z0.cur.fo (z0.cur.fr.length-1) 0)),(8, .int .i64 (z0.f.base:Int))] (Ju) ?_;apply Cod.imp (fun w hm=>Mem.frs hp.wf (fr':=z0.cur.fr.set (z0.cur.fr.length-1) ⟨z0.f.unit,z0.f.pc+1,z0.f.base⟩) (by rw[Ji]) hm (tks));refine Cod.only (old w S::md m::E.rc::blk ib (insC (insR m z0)) 126::RM tb m z0.mvd) (tks) ?_;obtain⟨p1,p2,p3⟩:=mvd_places hfl;rw[p1,p2,p3];have hm:=hp.mid;clear hp hlk hn hg hfl hf40 w1 w2 hpc hws p1 p2 p3 h1;generalize insR m z0=i at hm hop⊢;generalize z0.mvd=z1 at hm⊢;obtain⟨hz1,hc,ha,hw1,hfl1,hf40,hst1,hlog1,hout1,hsz1,hcs2,hun,hall,hsts,hfree,hn,hg⟩:=hm;obtain⟨a0,alt,p0,pl,pL,few⟩:=hc.unit (.inr hop);have e3:Vm.wl z1.tk=z1.cur.ws.length:=by unfold Vm.wl;rw[hz1.ws]
 obtain⟨k,hka⟩:∃k:Nat,i.a=(k:Int):=⟨i.a.toNat,by omega⟩;rw[show i.a.toNat=k by omega,show m.mdl.units.length=m.us.length from Jf _]at alt;rw[show i.a.toNat=k by omega,unt_us]at p0 pl pL few;rw[e3]at pl;obtain⟨p,hp⟩:∃p:Nat,(m.us.getD k default).u.params=(p:Int):=⟨(m.us.getD k default).u.params.toNat,by omega⟩;rw[hp,Jj]at pl pL;have hdl:(z1.cur.ws.drop (z1.cur.ws.length-p)).length=p:=by rw[List.length_drop];omega
 have hex:Vm.exec E.W m.mdl i z1.two=if 30<(Vm.drop p z1.tk).cs.length then Vm.trap E.W 5 (Vm.drop p z1.tk,z1.two.2)else Vm.push E.W ((Vm.drop p z1.tk).cs.length:Int) ({Vm.drop p z1.tk with cs:=(Vm.drop p z1.tk).cs ++[Vm.begin m.mdl k (z1.cur.ws.drop (z1.cur.ws.length-p))]},E.W.tell z1.two.2 (6,0,(k:Int))):=by
  have e0:Vm.exec E.W m.mdl i z1.two=Vm.startU E.W m.mdl k z1.two:=by
   rw[←show i.a.toNat=k by omega];unfold Vm.exec;simp[hop]
  rw[e0];unfold Vm.startU;have e1:(Vm.unt m.mdl k).params.toNat=p:=by rw[unt_us,hp];rfl
  dsimp only;rw[e1,show z1.two.1=z1.tk from rfl,hz1.ws]
 repeat(refine Jy ?_;try first|intro ao cap|intro b)
 rw[hka,Jj,hp];(refine JQ (take9_is tb m z1 hz1 p (pl) (by omega)) ?_;intro s hs;(refine Jn ?_));obtain⟨zt,hzt⟩:∃x,x=z1.took p s.1:=⟨_,rfl⟩;rw[←hzt];have ztw:zt.Wf:=by rw[hzt];exact hz1.took p s.1
 have ztk:zt.tk=Vm.drop p z1.tk:=by rw[hzt];exact hz1.took_tk p s.1
 have ztl:zt.cur.ws.length=z1.cur.ws.length-p:=by rw[hzt];exact RT.took_len z1 p s.1
 have zto:zt.e=z1.e∧zt.log=z1.log∧zt.out=z1.out∧zt.to=z1.to∧zt.now=z1.now∧zt.cur.fo=z1.cur.fo∧zt.cur.fr=z1.cur.fr∧zt.oth=z1.oth∧zt.cur.up=z1.cur.up∧zt.cur.st=z1.cur.st∧zt.st=z1.st:=by rw[hzt];exact⟨rfl,rfl,rfl,rfl,rfl,rfl,rfl,rfl,rfl,rfl,rfl⟩
 have ztt:zt.two=(Vm.drop p z1.tk,z1.two.2):=by unfold RT.two;rw[ztk,zto.1,zto.2.1]
 have ztg:=ztw.curGet;have ztn:=ztw.now;obtain⟨oq,olo,olc⟩:=s;dsimp only;have hlen:(Vm.drop p z1.tk).cs.length=zt.oth.length:=by rw[←ztk,RT.tkLen]
 rw[hlen]at hex
 repeat(refine Jy ?_;try first|intro ao cap|intro b)
 by_cases h30:30<zt.oth.length
 ·rw[if_pos h30]at hex
  repeat(refine Jy ?_;try first|intro ao cap|intro b)
  (refine JQ (fall_is tb m zt (by rw[zto.2.1];omega) 5) ?_;intro s hs;(refine Jn ?_));obtain⟨z2,rfl⟩:∃x,x=s:=⟨_,rfl⟩;have g:GivesR (Vm.exec E.W m.mdl i z1.two) z2:=by rw[hex,←ztt];exact hs.gives ztw
  repeat(refine Jy ?_;try first|intro ao cap|intro b)
  (refine JM (look9_is tb m hbx (z2) (g).wf (ha (z2) (g).wf (g).two)) ?_;intro s hs;(refine Jn ?_))
  repeat(refine Jy ?_;try first|intro ao cap|intro b)
  (refine End.done1_ ((RT.look (z2) m)) (he:=Jv) (hp:=?_));exact⟨(g).wf.look m,((g).wf.look_two m).trans (by rw[(g).two])⟩
 rw[if_neg h30]at hex
 repeat(refine Jy ?_;try first|intro ao cap|intro b)
 apply Cod.draw 16 ([blk ib (insC i) 126,rkM tb m zt]) (by kernel_rfl) 17 rfl;refine JR 0 ?_;refine JR 2 ?_;refine JR 3 ?_;refine JR 4 ?_;refine JR 5 ?_;refine JR 7 ?_;refine JR 8 ?_;refine JR 9 ?_;refine JR 10 ?_;rw[hka];refine JT 1 ?_;refine OpT.buildSlice0_ (k:=?_);intro zb;refine JG ?_;refine RunT.imp (fun w hm=>hm.toArr (iα:=inferInstance) (ef:=inferInstance) (b:=zb) (e:=140) (f:=rcC) (n:=0) (tk) ([]:List RC) rfl rfl (by unfold maxLen;simp)) ?_;refine JT 6 ?_;refine OpT.appendS_ (l2:=zt.all) (k:=?_);intro ao1 cap1;refine JG ?_;rw[Nat.zero_add,Jk];(refine JT 11 ?_;refine OpT.call0_ (spec:=thread_is tb m zt k alt (by omega) olo p olc _ hdl (by omega)) (k:=?_);intro s hs;refine JG ?_;(refine Jn ?_));obtain⟨fb,wo,wc⟩:=s;dsimp only;have habs:RC.abs (frshR k fb wo wc (Vm.begin m.mdl k (z1.cur.ws.drop (z1.cur.ws.length-p))).ws)=Vm.begin m.mdl k (z1.cur.ws.drop (z1.cur.ws.length-p)):=abs_frsh m.mdl k fb wo wc (z1.cur.ws.drop (z1.cur.ws.length-p));obtain⟨c,hcf⟩:∃c,c=frshR k fb wo wc (Vm.begin m.mdl k (z1.cur.ws.drop (z1.cur.ws.length-p))).ws:=⟨_,rfl⟩;rw[←hcf]at habs⊢;refine JT 12 ?_;refine OpT.buildSlice_ (k:=?_);intro pb;refine JG ?_;refine JT 13 ?_;refine OpT.append1_ (f:=rcC) (a:=c) (k:=?_);intro ao2 cap2;refine JG ?_;rw[snoc_len zt.oth c,show zt.all ++[c]=(zt.oth ++[c]).set zt.now zt.cur by unfold RT.all;rw[List.set_append_left _ _ ztn]];refine JR 14 ?_;refine JR 15 ?_;(refine JT 16 ?_;(first|refine Jw ?_|(refine Jb ?_;intro b)|(refine Ja ?_;intro ao cap));refine JG ?_);(apply RunT.done;kernel_rfl);obtain⟨z2,hz2⟩:∃x,x=({zt with to:=ao2,tc:=cap2,oth:=zt.oth ++[c]}:RT E):=⟨_,rfl⟩;apply End.imp (fun w hm=>(Mem.addR hm (show Take (bagR (zt.oth.eraseIdx zt.now)) _ _ from tk) (show Takes (rcM c) _ _ from tks) ztn).takes (show Takes (RM tb m z2) _ _ by(rw[hz2];(repeat(first|exact Takes.nil|exact Take.head|apply Take.tail|apply Takes.cons)))));(refine Jn ?_);have z2w:z2.Wf:=by rw[hz2];exact⟨by show zt.now<(zt.oth ++[c]).length;simp;omega,by show(zt.oth ++[c]).length≤31;simp;omega,ztw.env,ztw.st⟩
 have z2n:z2.oth.length=zt.oth.length+1:=by rw[hz2];show(zt.oth ++[c]).length=_;simp
 have z2c:z2.cur=zt.cur∧z2.log=z1.log∧z2.e=z1.e:=by rw[hz2];exact⟨rfl,zto.2.1,zto.1⟩
 have z2k:z2.tk={Vm.drop p z1.tk with cs:=(Vm.drop p z1.tk).cs ++[Vm.begin m.mdl k (z1.cur.ws.drop (z1.cur.ws.length-p))]}:=by
  rw[←ztk,←habs,hz2];unfold RT.tk RT.all;simp only[Vm.Tk.mk.injEq,and_true];rw[List.set_append_left _ _ ztn,Jq];rfl
 clear hz2 hcf
 repeat(refine Jy ?_;try first|intro ao cap|intro b)
 rw[hka];(refine JQ (note_is tb m z2 (by rw[z2c.2.1];omega) 6 0 (k:Int)) ?_;intro s hs;(refine Jn ?_));obtain⟨nq,rfl⟩:∃x,x=s:=⟨_,rfl⟩;have z3w:=z2w.noted (6,0,(k:Int)) nq
 repeat(refine Jy ?_;try first|intro ao cap|intro b)
 rw[show((z2.oth.length:Int)-1)=(zt.oth.length:Int) by omega,show IntKind.i64.wrap (zt.oth.length:Int)=(zt.oth.length:Int)from wrap_i64_in (by omega)];(apply Run.op;exact rfl;refine OpT.call0_ (spec:=put9_is tb m (z2.noted (6,0,(k:Int)) nq) z3w (by show(z2.log ++_).length≤_;rw[z2c.2.1];simp;omega) (by show z2.cur.ws.length≤_;rw[z2c.1,ztl];omega) _) (k:=?_);intro s hs;(refine Jn ?_));obtain⟨z4,rfl⟩:∃x,x=s:=⟨_,rfl⟩;have g:GivesR (Vm.exec E.W m.mdl i z1.two) z4:=by
  have h:=hs.gives z3w (by show z2.cur.ws.length≤_;rw[z2c.1,ztl];omega);have et:(z2.noted (6,0,(k:Int)) nq).two=({Vm.drop p z1.tk with cs:=(Vm.drop p z1.tk).cs ++[Vm.begin m.mdl k (z1.cur.ws.drop (z1.cur.ws.length-p))]},E.W.tell z1.two.2 (6,0,(k:Int))):=by
   rw[←z2k];show(z2.tk,(E.abs z2.e,z2.log ++[(6,0,(k:Int))]))=_;rw[z2c.2.1,z2c.2.2];rfl
  rw[et]at h;rw[hex];exact h
 repeat(refine Jy ?_;try first|intro ao cap|intro b)
 (refine JM (look9_is tb m hbx (z4) (g).wf (ha (z4) (g).wf (g).two)) ?_;intro s hs;(refine Jn ?_))
 repeat(refine Jy ?_;try first|intro ao cap|intro b)
 (refine End.done1_ ((RT.look (z4) m)) (he:=Jv) (hp:=?_));exact⟨(g).wf.look m,((g).wf.look_two m).trans (by rw[(g).two])⟩
end Go.Proofs.YtjehflelkpacfaaGreat.Vw
namespace Go.Proofs.YtjehflelkpacfaaGreat
open Go
section
variable{P:Program}{ops:Array Oper}{Q:Exit→Act→World→Prop}{N e:Nat}{LT:List Chunk}{E:Env}{L F:List Chunk}{fuel:Nat}{listed:Array Bool}
theorem RunT.meet{σ:Type}(E1:σ→Env)(L1:σ→List Chunk)(fuel1:Nat)(listed1:Array Bool)(h2:∀s,RunT P ops Q N e LT fuel1 listed1 (E1 s) (L1 s))
  (h1:(∀(s:σ) {listed:Array Bool} {E:Env} {L F:List Chunk},listed=listed1→Sub (E1 s) E→Takes (L1 s) L F→RunT P ops Q N e LT fuel1 listed E L)→RunT P ops Q N e LT fuel listed E L):RunT P ops Q N e LT fuel listed E L:=
 h1 fun s listed E L F hl hE hL a w hs hm=>by
  subst hl;exact h2 s a w (hs.sub hE) (hm.takes hL).left
end
end Go.Proofs.YtjehflelkpacfaaGreat
