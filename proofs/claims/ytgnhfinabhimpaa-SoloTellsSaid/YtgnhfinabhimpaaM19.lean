/- The document's task: a step, walked: words taken. -/
import Derived.Test.YtgnhfinabhimpaaM18
set_option linter.unusedVariables false
set_option linter.unusedSimpArgs false
set_option linter.unusedSectionVars false
set_option maxRecDepth 100000
namespace Go.Proofs.Ytgnhfinabhimpaa.Vw
open Go.RowKit Go.Proofs.Ytgnhfinabhimpaa.Img
theorem drop_one{ws:List Int}(h:0<ws.length):ws.drop (ws.length-1)=[ws.getD (ws.length-1) 0]:=by
 rw[drop_cons (by omega),List.drop_of_length_le (by omega)];rfl
theorem drop_two{ws:List Int}(h:2≤ws.length):ws.drop (ws.length-2)=[ws.getD (ws.length-2) 0,ws.getD (ws.length-1) 0]:=by
 rw[drop_cons (by omega),show ws.length-2+1=ws.length-1 by omega,drop_one (by omega)];rfl
theorem getD_one(x:Int):[x].getD 0 default=x:=rfl
attribute [local irreducible] Run Cod End OpT Still RunQ RunS RunT Fn PutOk
variable{E:EnvR}
set_option maxHeartbeats 2000000 in
theorem step9_2(tb:Nat)(m:ML)(z:RT E)(hz:z.Wf)(hk:CanR m z)(h1:(z.look m).st=1)(hop:(insR m (z.look m)).op=5∨(insR m (z.look m)).op=6∨(insR m (z.look m)).op=7):StepF tb m z:=by
 unfold StepF;have hz0:=hz.look m;have hs0:=look_stand (m:=m) hk.stand;have hstep:=hz.step_two m h1;have hc:=hk.can;have ha:=hk.after;have hlog:(z.look m).log.length≤1000000:=by rw[look_log];exact hk.log
 have hout:(z.look m).out.length≤1000000:=by rw[look_out];exact hk.out
 have hsize:E.size (E.abs (z.look m).e)≤1000000:=by rw[look_e];exact hk.size
 have hbx:=hk.boxes;have hlk:=look9_is tb m hk.boxes z hz (fun _=>hk.stand);have hfree:=look_free hz h1;rw[hstep];obtain⟨z0,hz0e⟩:∃x,x=z.look m:=⟨_,rfl⟩;rw[←hz0e]at hz0 hs0 hc ha hlog hout hsize hlk hop h1 hfree⊢;clear hstep hz0e hk;have hn:=hz0.now;have hg:=hz0.curGet;have hfr:=hs0.fr;rw[hz0.frs]at hfr;have hfl:0<z0.cur.fr.length:=List.length_pos_iff.2 hfr;have hf40:=hs0.fr40;rw[hz0.frs]at hf40;have hws:=hs0.ws;rw[hz0.ws]at hws;have hpc:=hs0.pc4;rw[hz0.topF]at hpc;have w1:IntKind.i64.wrap ((z0.cur.fr.length:Int)-1)=((z0.cur.fr.length-1:Nat):Int):=by rw[wrap_i64_in (by omega)];omega
 have w2:IntKind.i64.wrap ((z0.f.pc:Int)+1)=((z0.f.pc+1:Nat):Int):=by rw[wrap_i64_in (by omega)];omega
 refine Fn.enter (args:=[ptr tb,E.mailV]) Try.func26 rfl _ Try.ntmps26 rfl (by simp[rd_excl,md_excl]) (fun w S=>?_);(refine Jn ?_)
 repeat(refine Jy ?_;try first|intro ao cap|intro b)
 (refine Jc ?_;refine OpT.call0_ (spec:=hlk) (r:=fun w=>Jm) (k:=?_);intro s hs;(refine Jn ?_))
 repeat(refine Jy ?_;try first|intro ao cap|intro b)
 (refine Jc ?_;refine OpT.call0_ (spec:=at9_is tb m z0 hz0 hs0) (r:=fun w=>Reads.md (tk) .nil) (k:=?_);intro s hs;(refine Jn ?_))
 repeat(refine Jy ?_;try first|intro ao cap|intro b)
 obtain⟨ib,rfl⟩:∃x,x=b:=⟨_,rfl⟩;rw[hg]
 repeat(refine Jy ?_;try first|intro ao cap|intro b)
 rw[w1,Int.toNat_natCast,w2];(apply Run.op;exact rfl;refine OpT.storeE_ (f:=rfC) (l:=z0.cur.fr) (i:=z0.cur.fr.length-1) (off:=1) (vs:=[.int .i64 ((z0.f.pc+1:Nat):Int)]) (a':=(⟨z0.f.unit,z0.f.pc+1,z0.f.base⟩:Vm.Fr)) (k:=?_));apply Run.nil;apply End.seqN;refine Cod.sub [(0,ptr tb),(1,E.mailV),(4, .bool false),(5,ptr ib),(6, .pointer (place (sz rcC) z0.to z0.now 0)),(7, .pointer (place (sz rfC) z0.cur.fo (z0.cur.fr.length-1) 0)),(8, .int .i64 (z0.f.base:Int))] (Ju) ?_;apply Cod.imp (fun w hm=>Mem.frs hz0 (fr':=z0.cur.fr.set (z0.cur.fr.length-1) ⟨z0.f.unit,z0.f.pc+1,z0.f.base⟩) (by rw[List.length_set]) hm (tks));refine Cod.only (old w S::md m::E.rc::blk ib (insC (insR m z0)) 49::RM tb m z0.mvd) (tks) ?_;have hz1:z0.mvd.Wf:=hz0.to_ _;have e1:z0.mvd.cur.fr.length=z0.cur.fr.length:=List.length_set;rw[show place (sz rcC) z0.to z0.now 0=place (sz rcC) z0.mvd.to z0.mvd.now 0 from rfl,show place (sz rfC) z0.cur.fo (z0.cur.fr.length-1) 0=place (sz rfC) z0.mvd.cur.fo (z0.mvd.cur.fr.length-1) 0 by rw[e1],show z0.f.base=z0.mvd.f.base from(mvd_base hfl).symm];have hw1:z0.mvd.cur.ws.length≤400:=hws;have hfl1:0<z0.mvd.cur.fr.length:=by rw[e1];exact hfl
 have hf40:z0.mvd.cur.fr.length≤40:=by rw[e1];exact hf40
 have hst1:z0.mvd.st=1:=h1;have hlog1:z0.mvd.log.length≤1000000:=hlog;have hout1:z0.mvd.out.length≤1000000:=hout;have hsz1:E.size (E.abs z0.mvd.e)≤1000000:=hsize;have hcs2:z0.mvd.cur.st=2:=by have:=hs0.st;rw[hz0.sts]at this;exact this
 have hun:z0.mvd.f.unit<m.us.length:=by
  rw[mvd_unit hfl];have:=hs0.unit;rw[hz0.topF]at this;rwa [show m.mdl.units.length=m.us.length from List.length_map _]at this
 have hall:∀k,k<z0.mvd.oth.length→z0.mvd.now≠k→(z0.mvd.oth.getD k default).ws.length≤400:=fun k hk hne=>by
  have:=hs0.lens k (by rw[RT.tkLen];exact hk);rwa [RT.coAt _ (show k<z0.oth.length from hk),RT.othGet _ (show z0.now≠k from hne)]at this
 have hsts:∀k,k<z0.mvd.oth.length→z0.mvd.now≠k→(z0.mvd.oth.getD k default).st≤3:=fun k hk hne=>by
  have:=hs0.sts k (by rw[RT.tkLen];exact hk);rwa [RT.coAt _ (show k<z0.oth.length from hk),RT.othGet _ (show z0.now≠k from hne)]at this
 obtain⟨i,hi⟩:∃i,i=insR m z0:=⟨_,rfl⟩;rw[←hi]at hc ha hop hfree⊢;have hfree:(i.op=26→E.V.full (E.abs z0.mvd.e) i.a.toNat=false)∧(i.op=27→E.V.empty (E.abs z0.mvd.e) i.a.toNat=false):=hfree;obtain⟨z1,hz1e⟩:∃x,x=z0.mvd:=⟨_,rfl⟩;rw[←hz1e]at hc ha hz1 hw1 hfl1 hf40 hst1 hlog1 hout1 hsz1 hcs2 hun hfree hall hsts⊢;clear hz1e hi hlk hn hg hfr hfl e1 w1 w2 hpc hws hlog hout hsize hs0 h1 hz0;have hn:=hz1.now;have hg:=hz1.curGet;have hlive:=hc.one (by omega);unfold Vm.wl at hlive;rw[hz1.ws]at hlive;have hlast:=hz1.last;have hd1:=drop_one hlive;rcases hop with hop|hop|hop
 ·have hex:Vm.exec E.W m.mdl i z1.two=(Vm.drop 1 z1.tk,z1.two.2):=by
   unfold Vm.exec;simp[hop];rfl
  repeat(refine Jy ?_;try first|intro ao cap|intro b)
  (apply Run.op;exact rfl;refine JK (take9_is tb m z1 hz1 1 (by omega) (by omega)) ?_;intro s hs;(refine Jn ?_));obtain⟨zt,hzt⟩:∃x,x=z1.took 1 s.1:=⟨_,rfl⟩;rw[←hzt];have ztw:zt.Wf:=by rw[hzt];exact hz1.took 1 s.1
  have ztk:zt.tk=Vm.drop 1 z1.tk:=by rw[hzt];exact hz1.took_tk 1 s.1
  have ztl:zt.cur.ws.length=z1.cur.ws.length-1:=by rw[hzt];exact RT.took_len z1 1 s.1
  have zto:zt.e=z1.e∧zt.log=z1.log∧zt.out=z1.out∧zt.to=z1.to∧zt.now=z1.now∧zt.cur.fo=z1.cur.fo∧zt.cur.fr=z1.cur.fr∧zt.oth=z1.oth∧zt.cur.up=z1.cur.up∧zt.cur.st=z1.cur.st∧zt.st=z1.st:=by rw[hzt];exact⟨rfl,rfl,rfl,rfl,rfl,rfl,rfl,rfl,rfl,rfl,rfl⟩
  have ztt:zt.two=(Vm.drop 1 z1.tk,z1.two.2):=by unfold RT.two;rw[ztk,zto.1,zto.2.1]
  have ztg:=ztw.curGet;have ztn:=ztw.now;obtain⟨oq,olo,olc⟩:=s;dsimp only;have g:GivesR (Vm.exec E.W m.mdl i z1.two) zt:=⟨ztw,by rw[hex,ztt]⟩
  repeat(refine Jy ?_;try first|intro ao cap|intro b)
  (refine Jc ?_;refine OpT.call0_ (spec:=look9_is tb m hbx (zt) (g).wf (ha (zt) (g).wf (g).two)) (r:=fun w=>Jm) (k:=?_);intro s hs;(refine Jn ?_))
  repeat(refine Jy ?_;try first|intro ao cap|intro b)
  (refine End.done1_ ((RT.look (zt) m)) (he:=Jv) (hp:=?_));exact⟨(g).wf.look m,((g).wf.look_two m).trans (by rw[(g).two])⟩
 ·have hex:Vm.exec E.W m.mdl i z1.two=Vm.push E.W (IntKind.i64.wrap (0-z1.cur.ws.getD (z1.cur.ws.length-1) 0)) (Vm.drop 1 z1.tk,z1.two.2):=by
   rw[←hlast,Int.zero_sub];unfold Vm.exec;simp[hop];rfl
  repeat(refine Jy ?_;try first|intro ao cap|intro b)
  (apply Run.op;exact rfl;refine JK (take9_is tb m z1 hz1 1 (by omega) (by omega)) ?_;intro s hs;(refine Jn ?_));obtain⟨zt,hzt⟩:∃x,x=z1.took 1 s.1:=⟨_,rfl⟩;rw[←hzt];have ztw:zt.Wf:=by rw[hzt];exact hz1.took 1 s.1
  have ztk:zt.tk=Vm.drop 1 z1.tk:=by rw[hzt];exact hz1.took_tk 1 s.1
  have ztl:zt.cur.ws.length=z1.cur.ws.length-1:=by rw[hzt];exact RT.took_len z1 1 s.1
  have zto:zt.e=z1.e∧zt.log=z1.log∧zt.out=z1.out∧zt.to=z1.to∧zt.now=z1.now∧zt.cur.fo=z1.cur.fo∧zt.cur.fr=z1.cur.fr∧zt.oth=z1.oth∧zt.cur.up=z1.cur.up∧zt.cur.st=z1.cur.st∧zt.st=z1.st:=by rw[hzt];exact⟨rfl,rfl,rfl,rfl,rfl,rfl,rfl,rfl,rfl,rfl,rfl⟩
  have ztt:zt.two=(Vm.drop 1 z1.tk,z1.two.2):=by unfold RT.two;rw[ztk,zto.1,zto.2.1]
  have ztg:=ztw.curGet;have ztn:=ztw.now;obtain⟨oq,olo,olc⟩:=s;dsimp only;rw[hd1];(apply Run.op;exact rfl;refine OpT.val_ (h:=by(apply Still.at_;exact rfl;exact rfl;exact Jr;exact rfl;exact rfl;exact rfl;exact ix_zero;omega)) (k:=?_));(apply Run.op;exact rfl;refine OpT.val_ (k:=?_));rw[getD_one]
  repeat(refine Jy ?_;try first|intro ao cap|intro b)
  (apply Run.op;exact rfl;refine OpT.call0_ (spec:=put9_is tb m zt ztw (by rw[zto.2.1];omega) (by rw[ztl];omega) (_)) (k:=?_);intro s hs;(refine Jn ?_));obtain⟨z2,rfl⟩:∃x,x=s:=⟨_,rfl⟩;have g:GivesR (Vm.exec E.W m.mdl i z1.two) z2:=by rw[hex,←ztt];exact hs.gives ztw (by rw[ztl];omega)
  repeat(refine Jy ?_;try first|intro ao cap|intro b)
  (refine Jc ?_;refine OpT.call0_ (spec:=look9_is tb m hbx (z2) (g).wf (ha (z2) (g).wf (g).two)) (r:=fun w=>Jm) (k:=?_);intro s hs;(refine Jn ?_))
  repeat(refine Jy ?_;try first|intro ao cap|intro b)
  (refine End.done1_ ((RT.look (z2) m)) (he:=Jv) (hp:=?_));exact⟨(g).wf.look m,((g).wf.look_two m).trans (by rw[(g).two])⟩
 ·have hex:Vm.exec E.W m.mdl i z1.two=Vm.push E.W (IntKind.i64.wrap (1-z1.cur.ws.getD (z1.cur.ws.length-1) 0)) (Vm.drop 1 z1.tk,z1.two.2):=by
   rw[←hlast];unfold Vm.exec;simp[hop];rfl
  repeat(refine Jy ?_;try first|intro ao cap|intro b)
  (apply Run.op;exact rfl;refine JK (take9_is tb m z1 hz1 1 (by omega) (by omega)) ?_;intro s hs;(refine Jn ?_));obtain⟨zt,hzt⟩:∃x,x=z1.took 1 s.1:=⟨_,rfl⟩;rw[←hzt];have ztw:zt.Wf:=by rw[hzt];exact hz1.took 1 s.1
  have ztk:zt.tk=Vm.drop 1 z1.tk:=by rw[hzt];exact hz1.took_tk 1 s.1
  have ztl:zt.cur.ws.length=z1.cur.ws.length-1:=by rw[hzt];exact RT.took_len z1 1 s.1
  have zto:zt.e=z1.e∧zt.log=z1.log∧zt.out=z1.out∧zt.to=z1.to∧zt.now=z1.now∧zt.cur.fo=z1.cur.fo∧zt.cur.fr=z1.cur.fr∧zt.oth=z1.oth∧zt.cur.up=z1.cur.up∧zt.cur.st=z1.cur.st∧zt.st=z1.st:=by rw[hzt];exact⟨rfl,rfl,rfl,rfl,rfl,rfl,rfl,rfl,rfl,rfl,rfl⟩
  have ztt:zt.two=(Vm.drop 1 z1.tk,z1.two.2):=by unfold RT.two;rw[ztk,zto.1,zto.2.1]
  have ztg:=ztw.curGet;have ztn:=ztw.now;obtain⟨oq,olo,olc⟩:=s;dsimp only;rw[hd1];(apply Run.op;exact rfl;refine OpT.val_ (h:=by(apply Still.at_;exact rfl;exact rfl;exact Jr;exact rfl;exact rfl;exact rfl;exact ix_zero;omega)) (k:=?_));(apply Run.op;exact rfl;refine OpT.val_ (k:=?_));rw[getD_one]
  repeat(refine Jy ?_;try first|intro ao cap|intro b)
  (apply Run.op;exact rfl;refine OpT.call0_ (spec:=put9_is tb m zt ztw (by rw[zto.2.1];omega) (by rw[ztl];omega) (_)) (k:=?_);intro s hs;(refine Jn ?_));obtain⟨z2,rfl⟩:∃x,x=s:=⟨_,rfl⟩;have g:GivesR (Vm.exec E.W m.mdl i z1.two) z2:=by rw[hex,←ztt];exact hs.gives ztw (by rw[ztl];omega)
  repeat(refine Jy ?_;try first|intro ao cap|intro b)
  (refine Jc ?_;refine OpT.call0_ (spec:=look9_is tb m hbx (z2) (g).wf (ha (z2) (g).wf (g).two)) (r:=fun w=>Jm) (k:=?_);intro s hs;(refine Jn ?_))
  repeat(refine Jy ?_;try first|intro ao cap|intro b)
  (refine End.done1_ ((RT.look (z2) m)) (he:=Jv) (hp:=?_));exact⟨(g).wf.look m,((g).wf.look_two m).trans (by rw[(g).two])⟩
end Go.Proofs.Ytgnhfinabhimpaa.Vw


namespace Go.Proofs.Ytgnhfinabhimpaa.Vw
open Go.RowKit Go.Proofs.Ytgnhfinabhimpaa.Img
attribute [local irreducible] Run Cod End OpT Still RunQ RunS RunT Fn PutOk
variable{E:EnvR}
set_option maxHeartbeats 2000000 in
theorem step9_3(tb:Nat)(m:ML)(z:RT E)(hz:z.Wf)(hk:CanR m z)(h1:(z.look m).st=1)(hop:(insR m (z.look m)).op=4):StepF tb m z:=by
 unfold StepF;have hz0:=hz.look m;have hs0:=look_stand (m:=m) hk.stand;have hstep:=hz.step_two m h1;have hc:=hk.can;have ha:=hk.after;have hlog:(z.look m).log.length≤1000000:=by rw[look_log];exact hk.log
 have hout:(z.look m).out.length≤1000000:=by rw[look_out];exact hk.out
 have hsize:E.size (E.abs (z.look m).e)≤1000000:=by rw[look_e];exact hk.size
 have hbx:=hk.boxes;have hlk:=look9_is tb m hk.boxes z hz (fun _=>hk.stand);have hfree:=look_free hz h1;rw[hstep];obtain⟨z0,hz0e⟩:∃x,x=z.look m:=⟨_,rfl⟩;rw[←hz0e]at hz0 hs0 hc ha hlog hout hsize hlk hop h1 hfree⊢;clear hstep hz0e hk;have hn:=hz0.now;have hg:=hz0.curGet;have hfr:=hs0.fr;rw[hz0.frs]at hfr;have hfl:0<z0.cur.fr.length:=List.length_pos_iff.2 hfr;have hf40:=hs0.fr40;rw[hz0.frs]at hf40;have hws:=hs0.ws;rw[hz0.ws]at hws;have hpc:=hs0.pc4;rw[hz0.topF]at hpc;have w1:IntKind.i64.wrap ((z0.cur.fr.length:Int)-1)=((z0.cur.fr.length-1:Nat):Int):=by rw[wrap_i64_in (by omega)];omega
 have w2:IntKind.i64.wrap ((z0.f.pc:Int)+1)=((z0.f.pc+1:Nat):Int):=by rw[wrap_i64_in (by omega)];omega
 refine Fn.enter (args:=[ptr tb,E.mailV]) Try.func26 rfl _ Try.ntmps26 rfl (by simp[rd_excl,md_excl]) (fun w S=>?_);(refine Jn ?_)
 repeat(refine Jy ?_;try first|intro ao cap|intro b)
 (refine Jc ?_;refine OpT.call0_ (spec:=hlk) (r:=fun w=>Jm) (k:=?_);intro s hs;(refine Jn ?_))
 repeat(refine Jy ?_;try first|intro ao cap|intro b)
 (refine Jc ?_;refine OpT.call0_ (spec:=at9_is tb m z0 hz0 hs0) (r:=fun w=>Reads.md (tk) .nil) (k:=?_);intro s hs;(refine Jn ?_))
 repeat(refine Jy ?_;try first|intro ao cap|intro b)
 obtain⟨ib,rfl⟩:∃x,x=b:=⟨_,rfl⟩;rw[hg]
 repeat(refine Jy ?_;try first|intro ao cap|intro b)
 rw[w1,Int.toNat_natCast,w2];(apply Run.op;exact rfl;refine OpT.storeE_ (f:=rfC) (l:=z0.cur.fr) (i:=z0.cur.fr.length-1) (off:=1) (vs:=[.int .i64 ((z0.f.pc+1:Nat):Int)]) (a':=(⟨z0.f.unit,z0.f.pc+1,z0.f.base⟩:Vm.Fr)) (k:=?_));apply Run.nil;apply End.seqN;refine Cod.sub [(0,ptr tb),(1,E.mailV),(4, .bool false),(5,ptr ib),(6, .pointer (place (sz rcC) z0.to z0.now 0)),(7, .pointer (place (sz rfC) z0.cur.fo (z0.cur.fr.length-1) 0)),(8, .int .i64 (z0.f.base:Int))] (Ju) ?_;apply Cod.imp (fun w hm=>Mem.frs hz0 (fr':=z0.cur.fr.set (z0.cur.fr.length-1) ⟨z0.f.unit,z0.f.pc+1,z0.f.base⟩) (by rw[List.length_set]) hm (tks));refine Cod.only (old w S::md m::E.rc::blk ib (insC (insR m z0)) 49::RM tb m z0.mvd) (tks) ?_;have hz1:z0.mvd.Wf:=hz0.to_ _;have e1:z0.mvd.cur.fr.length=z0.cur.fr.length:=List.length_set;rw[show place (sz rcC) z0.to z0.now 0=place (sz rcC) z0.mvd.to z0.mvd.now 0 from rfl,show place (sz rfC) z0.cur.fo (z0.cur.fr.length-1) 0=place (sz rfC) z0.mvd.cur.fo (z0.mvd.cur.fr.length-1) 0 by rw[e1],show z0.f.base=z0.mvd.f.base from(mvd_base hfl).symm];have hw1:z0.mvd.cur.ws.length≤400:=hws;have hfl1:0<z0.mvd.cur.fr.length:=by rw[e1];exact hfl
 have hf40:z0.mvd.cur.fr.length≤40:=by rw[e1];exact hf40
 have hst1:z0.mvd.st=1:=h1;have hlog1:z0.mvd.log.length≤1000000:=hlog;have hout1:z0.mvd.out.length≤1000000:=hout;have hsz1:E.size (E.abs z0.mvd.e)≤1000000:=hsize;have hcs2:z0.mvd.cur.st=2:=by have:=hs0.st;rw[hz0.sts]at this;exact this
 have hun:z0.mvd.f.unit<m.us.length:=by
  rw[mvd_unit hfl];have:=hs0.unit;rw[hz0.topF]at this;rwa [show m.mdl.units.length=m.us.length from List.length_map _]at this
 have hall:∀k,k<z0.mvd.oth.length→z0.mvd.now≠k→(z0.mvd.oth.getD k default).ws.length≤400:=fun k hk hne=>by
  have:=hs0.lens k (by rw[RT.tkLen];exact hk);rwa [RT.coAt _ (show k<z0.oth.length from hk),RT.othGet _ (show z0.now≠k from hne)]at this
 have hsts:∀k,k<z0.mvd.oth.length→z0.mvd.now≠k→(z0.mvd.oth.getD k default).st≤3:=fun k hk hne=>by
  have:=hs0.sts k (by rw[RT.tkLen];exact hk);rwa [RT.coAt _ (show k<z0.oth.length from hk),RT.othGet _ (show z0.now≠k from hne)]at this
 obtain⟨i,hi⟩:∃i,i=insR m z0:=⟨_,rfl⟩;rw[←hi]at hc ha hop hfree⊢;have hfree:(i.op=26→E.V.full (E.abs z0.mvd.e) i.a.toNat=false)∧(i.op=27→E.V.empty (E.abs z0.mvd.e) i.a.toNat=false):=hfree;obtain⟨z1,hz1e⟩:∃x,x=z0.mvd:=⟨_,rfl⟩;rw[←hz1e]at hc ha hz1 hw1 hfl1 hf40 hst1 hlog1 hout1 hsz1 hcs2 hun hfree hall hsts⊢;clear hz1e hi hlk hn hg hfr hfl e1 w1 w2 hpc hws hlog hout hsize hs0 h1 hz0;have hn:=hz1.now;have hg:=hz1.curGet;have hst:=hc.store hop;have hlive:=hc.one (by omega);have e3:Vm.wl z1.tk=z1.cur.ws.length:=by unfold Vm.wl;rw[hz1.ws]
 rw[hz1.topF,e3]at hst;rw[e3]at hlive;have hlast:=hz1.last;have hd1:=drop_one hlive;have hex:Vm.exec E.W m.mdl i z1.two=(Vm.setCur (Vm.drop 1 z1.tk) {Vm.cur (Vm.drop 1 z1.tk)with ws:=(Vm.cur (Vm.drop 1 z1.tk)).ws.set ((Vm.topF (Vm.cur (Vm.drop 1 z1.tk))).base+i.a.toNat) (z1.cur.ws.getD (z1.cur.ws.length-1) 0)},z1.two.2):=by
  rw[←hlast];unfold Vm.exec;simp[hop];rfl
 have w3:((z1.f.base:Int)+i.a)=((z1.f.base+i.a.toNat:Nat):Int):=by omega
 repeat(refine Jy ?_;try first|intro ao cap|intro b)
 (apply Run.op;exact rfl;refine JK (take9_is tb m z1 hz1 1 (by omega) (by omega)) ?_;intro s hs;(refine Jn ?_));obtain⟨zt,hzt⟩:∃x,x=z1.took 1 s.1:=⟨_,rfl⟩;rw[←hzt];have ztw:zt.Wf:=by rw[hzt];exact hz1.took 1 s.1
 have ztk:zt.tk=Vm.drop 1 z1.tk:=by rw[hzt];exact hz1.took_tk 1 s.1
 have ztl:zt.cur.ws.length=z1.cur.ws.length-1:=by rw[hzt];exact RT.took_len z1 1 s.1
 have zto:zt.e=z1.e∧zt.log=z1.log∧zt.out=z1.out∧zt.to=z1.to∧zt.now=z1.now∧zt.cur.fo=z1.cur.fo∧zt.cur.fr=z1.cur.fr∧zt.oth=z1.oth∧zt.cur.up=z1.cur.up∧zt.cur.st=z1.cur.st∧zt.st=z1.st:=by rw[hzt];exact⟨rfl,rfl,rfl,rfl,rfl,rfl,rfl,rfl,rfl,rfl,rfl⟩
 have ztt:zt.two=(Vm.drop 1 z1.tk,z1.two.2):=by unfold RT.two;rw[ztk,zto.1,zto.2.1]
 have ztg:=ztw.curGet;have ztn:=ztw.now;obtain⟨oq,olo,olc⟩:=s;dsimp only;rw[hd1];(apply Run.op;exact rfl;refine OpT.val_ (h:=by(apply Still.at_;exact rfl;exact rfl;exact Jr;exact rfl;exact rfl;exact rfl;exact ix_zero;omega)) (k:=?_));(apply Run.op;exact rfl;refine OpT.val_ (k:=?_));rw[getD_one]
 repeat(refine Jy ?_;try first|intro ao cap|intro b)
 rw[show place (sz rcC) z1.to z1.now 0=place (sz rcC) zt.to zt.now 0 by rw[zto.2.2.2.1,zto.2.2.2.2.1]];obtain⟨nb,rfl⟩:∃x,x=b:=⟨_,rfl⟩;apply Run.imp (fun w hm=>hm.toArr (b:=nb) (tk) ([]:List Int) (f:=i64c) rfl rfl (by unfold maxLen;simp))
 repeat(refine Jy ?_;try first|intro ao cap|intro b)
 rw[ztg];(apply Run.op;exact rfl;refine OpT.appendS_ (l2:=zt.cur.ws) (k:=?_);intro wo wc);rw[List.nil_append,Nat.zero_add]
 repeat(refine Jy ?_;try first|intro ao cap|intro b)
 (apply Run.op;exact rfl;refine OpT.storeE_ (f:=rcC) (l:=zt.all) (i:=zt.now) (off:=3) (vs:=[.slice wo zt.cur.ws.length wc]) (a':=({zt.cur with wo:=wo,wc:=wc,ws:=zt.cur.ws}:RC)) (hp:=by rw[ztg];exact Put.rcW wo wc zt.cur.ws) (k:=?_));rw[←RT.all_cur];obtain⟨z2,hz2⟩:∃x,x=zt.setW wo wc zt.cur.ws:=⟨_,rfl⟩;apply Run.imp (fun w hm=>hm.takes (show Takes (RM tb m z2) _ _ by(rw[hz2];(repeat(first|exact Takes.nil|exact Take.head|apply Take.tail|apply Takes.cons)))));(refine Jn ?_);rw[show place (sz rcC) zt.to zt.now 0=place (sz rcC) z2.to z2.now 0 by rw[hz2]];have z2w:z2.Wf:=by rw[hz2];exact ztw.to_ _
 have z2g:=z2w.curGet;have z2n:=z2w.now;have z2l:z2.cur.ws.length=z1.cur.ws.length-1:=by rw[hz2];exact ztl
 repeat(refine Jy ?_;try first|intro ao cap|intro b)
 rw[z2g,w3]
 repeat(refine Jy ?_;try first|intro ao cap|intro b)
 (apply Run.op;exact rfl;refine OpT.storeE_ (f:=i64c) (l:=z2.cur.ws) (i:=z1.f.base+i.a.toNat) (off:=0) (vs:=[.int .i64 (z1.cur.ws.getD (z1.cur.ws.length-1) 0)]) (a':=z1.cur.ws.getD (z1.cur.ws.length-1) 0) (k:=?_));apply Run.imp (fun w hm=>Mem.wds z2w (ws':=z2.cur.ws.set (z1.f.base+i.a.toNat) (z1.cur.ws.getD (z1.cur.ws.length-1) 0)) (by rw[List.length_set]) hm (tks));have ztf:zt.f=z1.f:=by
  show zt.cur.fr.getD (zt.cur.fr.length-1) default=_;rw[zto.2.2.2.2.2.2.1]
 have g:GivesR (Vm.exec E.W m.mdl i z1.two) (z2.to_ {z2.cur with ws:=z2.cur.ws.set (z1.f.base+i.a.toNat) (z1.cur.ws.getD (z1.cur.ws.length-1) 0)}):=⟨z2w.to_ _,by
  rw[hex,←ztk,ztw.topF,ztf,hz2];show((zt.setW wo wc (zt.cur.ws.set (z1.f.base+i.a.toNat) (z1.cur.ws.getD (z1.cur.ws.length-1) 0))).tk,(E.abs zt.e,zt.log))=_;rw[ztw.setW_tk,ztw.ws,zto.1,zto.2.1];rfl⟩
 repeat(refine Jy ?_;try first|intro ao cap|intro b)
 (refine Jc ?_;refine OpT.call0_ (spec:=look9_is tb m hbx (z2.to_ {z2.cur with ws:=z2.cur.ws.set (z1.f.base+i.a.toNat) (z1.cur.ws.getD (z1.cur.ws.length-1) 0)}) (g).wf (ha (z2.to_ {z2.cur with ws:=z2.cur.ws.set (z1.f.base+i.a.toNat) (z1.cur.ws.getD (z1.cur.ws.length-1) 0)}) (g).wf (g).two)) (r:=fun w=>Jm) (k:=?_);intro s hs;(refine Jn ?_))
 repeat(refine Jy ?_;try first|intro ao cap|intro b)
 (refine End.done1_ ((RT.look (z2.to_ {z2.cur with ws:=z2.cur.ws.set (z1.f.base+i.a.toNat) (z1.cur.ws.getD (z1.cur.ws.length-1) 0)}) m)) (he:=Jv) (hp:=?_));exact⟨(g).wf.look m,((g).wf.look_two m).trans (by rw[(g).two])⟩
end Go.Proofs.Ytgnhfinabhimpaa.Vw


namespace Go.Proofs.Ytgnhfinabhimpaa.Vw
open Go.RowKit Go.Proofs.Ytgnhfinabhimpaa.Img
attribute [local irreducible] Run Cod End OpT Still RunQ RunS RunT Fn PutOk
variable{E:EnvR}
set_option maxHeartbeats 2000000 in
theorem step9_4(tb:Nat)(m:ML)(z:RT E)(hz:z.Wf)(hk:CanR m z)(h1:(z.look m).st=1)(hop:(insR m (z.look m)).op=21∨(insR m (z.look m)).op=22):StepF tb m z:=by
 unfold StepF;have hz0:=hz.look m;have hs0:=look_stand (m:=m) hk.stand;have hstep:=hz.step_two m h1;have hc:=hk.can;have ha:=hk.after;have hlog:(z.look m).log.length≤1000000:=by rw[look_log];exact hk.log
 have hout:(z.look m).out.length≤1000000:=by rw[look_out];exact hk.out
 have hsize:E.size (E.abs (z.look m).e)≤1000000:=by rw[look_e];exact hk.size
 have hbx:=hk.boxes;have hlk:=look9_is tb m hk.boxes z hz (fun _=>hk.stand);have hfree:=look_free hz h1;rw[hstep];obtain⟨z0,hz0e⟩:∃x,x=z.look m:=⟨_,rfl⟩;rw[←hz0e]at hz0 hs0 hc ha hlog hout hsize hlk hop h1 hfree⊢;clear hstep hz0e hk;have hn:=hz0.now;have hg:=hz0.curGet;have hfr:=hs0.fr;rw[hz0.frs]at hfr;have hfl:0<z0.cur.fr.length:=List.length_pos_iff.2 hfr;have hf40:=hs0.fr40;rw[hz0.frs]at hf40;have hws:=hs0.ws;rw[hz0.ws]at hws;have hpc:=hs0.pc4;rw[hz0.topF]at hpc;have w1:IntKind.i64.wrap ((z0.cur.fr.length:Int)-1)=((z0.cur.fr.length-1:Nat):Int):=by rw[wrap_i64_in (by omega)];omega
 have w2:IntKind.i64.wrap ((z0.f.pc:Int)+1)=((z0.f.pc+1:Nat):Int):=by rw[wrap_i64_in (by omega)];omega
 refine Fn.enter (args:=[ptr tb,E.mailV]) Try.func26 rfl _ Try.ntmps26 rfl (by simp[rd_excl,md_excl]) (fun w S=>?_);(refine Jn ?_)
 repeat(refine Jy ?_;try first|intro ao cap|intro b)
 (refine Jc ?_;refine OpT.call0_ (spec:=hlk) (r:=fun w=>Jm) (k:=?_);intro s hs;(refine Jn ?_))
 repeat(refine Jy ?_;try first|intro ao cap|intro b)
 (refine Jc ?_;refine OpT.call0_ (spec:=at9_is tb m z0 hz0 hs0) (r:=fun w=>Reads.md (tk) .nil) (k:=?_);intro s hs;(refine Jn ?_))
 repeat(refine Jy ?_;try first|intro ao cap|intro b)
 obtain⟨ib,rfl⟩:∃x,x=b:=⟨_,rfl⟩;rw[hg]
 repeat(refine Jy ?_;try first|intro ao cap|intro b)
 rw[w1,Int.toNat_natCast,w2];(apply Run.op;exact rfl;refine OpT.storeE_ (f:=rfC) (l:=z0.cur.fr) (i:=z0.cur.fr.length-1) (off:=1) (vs:=[.int .i64 ((z0.f.pc+1:Nat):Int)]) (a':=(⟨z0.f.unit,z0.f.pc+1,z0.f.base⟩:Vm.Fr)) (k:=?_));apply Run.nil;apply End.seqN;refine Cod.sub [(0,ptr tb),(1,E.mailV),(4, .bool false),(5,ptr ib),(6, .pointer (place (sz rcC) z0.to z0.now 0)),(7, .pointer (place (sz rfC) z0.cur.fo (z0.cur.fr.length-1) 0)),(8, .int .i64 (z0.f.base:Int))] (Ju) ?_;apply Cod.imp (fun w hm=>Mem.frs hz0 (fr':=z0.cur.fr.set (z0.cur.fr.length-1) ⟨z0.f.unit,z0.f.pc+1,z0.f.base⟩) (by rw[List.length_set]) hm (tks));refine Cod.only (old w S::md m::E.rc::blk ib (insC (insR m z0)) 49::RM tb m z0.mvd) (tks) ?_;have hz1:z0.mvd.Wf:=hz0.to_ _;have e1:z0.mvd.cur.fr.length=z0.cur.fr.length:=List.length_set;rw[show place (sz rcC) z0.to z0.now 0=place (sz rcC) z0.mvd.to z0.mvd.now 0 from rfl,show place (sz rfC) z0.cur.fo (z0.cur.fr.length-1) 0=place (sz rfC) z0.mvd.cur.fo (z0.mvd.cur.fr.length-1) 0 by rw[e1],show z0.f.base=z0.mvd.f.base from(mvd_base hfl).symm];have hw1:z0.mvd.cur.ws.length≤400:=hws;have hfl1:0<z0.mvd.cur.fr.length:=by rw[e1];exact hfl
 have hf40:z0.mvd.cur.fr.length≤40:=by rw[e1];exact hf40
 have hst1:z0.mvd.st=1:=h1;have hlog1:z0.mvd.log.length≤1000000:=hlog;have hout1:z0.mvd.out.length≤1000000:=hout;have hsz1:E.size (E.abs z0.mvd.e)≤1000000:=hsize;have hcs2:z0.mvd.cur.st=2:=by have:=hs0.st;rw[hz0.sts]at this;exact this
 have hun:z0.mvd.f.unit<m.us.length:=by
  rw[mvd_unit hfl];have:=hs0.unit;rw[hz0.topF]at this;rwa [show m.mdl.units.length=m.us.length from List.length_map _]at this
 have hall:∀k,k<z0.mvd.oth.length→z0.mvd.now≠k→(z0.mvd.oth.getD k default).ws.length≤400:=fun k hk hne=>by
  have:=hs0.lens k (by rw[RT.tkLen];exact hk);rwa [RT.coAt _ (show k<z0.oth.length from hk),RT.othGet _ (show z0.now≠k from hne)]at this
 have hsts:∀k,k<z0.mvd.oth.length→z0.mvd.now≠k→(z0.mvd.oth.getD k default).st≤3:=fun k hk hne=>by
  have:=hs0.sts k (by rw[RT.tkLen];exact hk);rwa [RT.coAt _ (show k<z0.oth.length from hk),RT.othGet _ (show z0.now≠k from hne)]at this
 obtain⟨i,hi⟩:∃i,i=insR m z0:=⟨_,rfl⟩;rw[←hi]at hc ha hop hfree⊢;have hfree:(i.op=26→E.V.full (E.abs z0.mvd.e) i.a.toNat=false)∧(i.op=27→E.V.empty (E.abs z0.mvd.e) i.a.toNat=false):=hfree;obtain⟨z1,hz1e⟩:∃x,x=z0.mvd:=⟨_,rfl⟩;rw[←hz1e]at hc ha hz1 hw1 hfl1 hf40 hst1 hlog1 hout1 hsz1 hcs2 hun hfree hall hsts⊢;clear hz1e hi hlk hn hg hfr hfl e1 w1 w2 hpc hws hlog hout hsize hs0 h1 hz0;have hn:=hz1.now;have hg:=hz1.curGet;have hja:=hc.jump hop;obtain⟨k,hka⟩:∃k:Nat,i.a=(k:Int):=⟨i.a.toNat,by omega⟩;have hkn:i.a.toNat=k:=by omega
 rcases hop with hop|hop
 ·have hex:Vm.exec E.W m.mdl i z1.two=(Vm.setPc k z1.tk,z1.two.2):=by
   rw[←hkn];unfold Vm.exec;simp[hop];rfl
  repeat(refine Jy ?_;try first|intro ao cap|intro b)
  rw[hka];(apply Run.op;exact rfl;refine OpT.storeE_ (f:=rfC) (l:=z1.cur.fr) (i:=z1.cur.fr.length-1) (off:=1) (vs:=[.int .i64 (k:Int)]) (a':=(⟨z1.f.unit,k,z1.f.base⟩:Vm.Fr)) (k:=?_));apply Run.imp (fun w hm=>Mem.frs hz1 (fr':=z1.cur.fr.set (z1.cur.fr.length-1) ⟨z1.f.unit,k,z1.f.base⟩) (by rw[List.length_set]) hm (tks));have g:GivesR (Vm.exec E.W m.mdl i z1.two) (z1.to_ {z1.cur with fr:=z1.cur.fr.set (z1.cur.fr.length-1) ⟨z1.f.unit,k,z1.f.base⟩}):=⟨hz1.to_ _,by rw[hex];unfold RT.two;rw[hz1.pc_tk]⟩
  repeat(refine Jy ?_;try first|intro ao cap|intro b)
  (refine Jc ?_;refine OpT.call0_ (spec:=look9_is tb m hbx (z1.to_ {z1.cur with fr:=z1.cur.fr.set (z1.cur.fr.length-1) ⟨z1.f.unit,k,z1.f.base⟩}) (g).wf (ha (z1.to_ {z1.cur with fr:=z1.cur.fr.set (z1.cur.fr.length-1) ⟨z1.f.unit,k,z1.f.base⟩}) (g).wf (g).two)) (r:=fun w=>Jm) (k:=?_);intro s hs;(refine Jn ?_))
  repeat(refine Jy ?_;try first|intro ao cap|intro b)
  (refine End.done1_ ((RT.look (z1.to_ {z1.cur with fr:=z1.cur.fr.set (z1.cur.fr.length-1) ⟨z1.f.unit,k,z1.f.base⟩}) m)) (he:=Jv) (hp:=?_));exact⟨(g).wf.look m,((g).wf.look_two m).trans (by rw[(g).two])⟩
 ·have hlive:=hc.one (by omega);have e3:Vm.wl z1.tk=z1.cur.ws.length:=by unfold Vm.wl;rw[hz1.ws]
  rw[e3]at hlive;have hlast:=hz1.last;have hd1:=drop_one hlive;have hex:Vm.exec E.W m.mdl i z1.two=((if Vm.last z1.tk=0 then Vm.setPc k (Vm.drop 1 z1.tk)else Vm.drop 1 z1.tk),z1.two.2):=by
   rw[←hkn];unfold Vm.exec;simp[hop];rfl
  rw[hlast]at hex
  repeat(refine Jy ?_;try first|intro ao cap|intro b)
  (apply Run.op;exact rfl;refine JK (take9_is tb m z1 hz1 1 (by omega) (by omega)) ?_;intro s hs;(refine Jn ?_));obtain⟨zt,hzt⟩:∃x,x=z1.took 1 s.1:=⟨_,rfl⟩;rw[←hzt];have ztw:zt.Wf:=by rw[hzt];exact hz1.took 1 s.1
  have ztk:zt.tk=Vm.drop 1 z1.tk:=by rw[hzt];exact hz1.took_tk 1 s.1
  have ztl:zt.cur.ws.length=z1.cur.ws.length-1:=by rw[hzt];exact RT.took_len z1 1 s.1
  have zto:zt.e=z1.e∧zt.log=z1.log∧zt.out=z1.out∧zt.to=z1.to∧zt.now=z1.now∧zt.cur.fo=z1.cur.fo∧zt.cur.fr=z1.cur.fr∧zt.oth=z1.oth∧zt.cur.up=z1.cur.up∧zt.cur.st=z1.cur.st∧zt.st=z1.st:=by rw[hzt];exact⟨rfl,rfl,rfl,rfl,rfl,rfl,rfl,rfl,rfl,rfl,rfl⟩
  have ztt:zt.two=(Vm.drop 1 z1.tk,z1.two.2):=by unfold RT.two;rw[ztk,zto.1,zto.2.1]
  have ztg:=ztw.curGet;have ztn:=ztw.now;obtain⟨oq,olo,olc⟩:=s;dsimp only;rw[hd1];(apply Run.op;exact rfl;refine OpT.val_ (h:=by(apply Still.at_;exact rfl;exact rfl;exact Jr;exact rfl;exact rfl;exact rfl;exact ix_zero;omega)) (k:=?_));(apply Run.op;exact rfl;refine OpT.val_ (k:=?_));rw[getD_one]
  by_cases hv:z1.cur.ws.getD (z1.cur.ws.length-1) 0=0
  ·rw[if_pos hv]at hex;rw[show place (sz rfC) z1.cur.fo (z1.cur.fr.length-1) 0=place (sz rfC) zt.cur.fo (zt.cur.fr.length-1) 0 by rw[zto.2.2.2.2.2.1,zto.2.2.2.2.2.2.1]];have htf:0<zt.cur.fr.length:=by rw[zto.2.2.2.2.2.2.1];exact hfl1
   repeat(refine Jy ?_;try first|intro ao cap|intro b)
   rw[hka];(apply Run.op;exact rfl;refine OpT.storeE_ (f:=rfC) (l:=zt.cur.fr) (i:=zt.cur.fr.length-1) (off:=1) (vs:=[.int .i64 (k:Int)]) (a':=(⟨zt.f.unit,k,zt.f.base⟩:Vm.Fr)) (k:=?_));apply Run.imp (fun w hm=>Mem.frs ztw (fr':=zt.cur.fr.set (zt.cur.fr.length-1) ⟨zt.f.unit,k,zt.f.base⟩) (by rw[List.length_set]) hm (tks));have g:GivesR (Vm.exec E.W m.mdl i z1.two) (zt.to_ {zt.cur with fr:=zt.cur.fr.set (zt.cur.fr.length-1) ⟨zt.f.unit,k,zt.f.base⟩}):=⟨ztw.to_ _,by rw[hex];unfold RT.two;rw[ztw.pc_tk,ztk,zto.1,zto.2.1]⟩
   repeat(refine Jy ?_;try first|intro ao cap|intro b)
   (refine Jc ?_;refine OpT.call0_ (spec:=look9_is tb m hbx (zt.to_ {zt.cur with fr:=zt.cur.fr.set (zt.cur.fr.length-1) ⟨zt.f.unit,k,zt.f.base⟩}) (g).wf (ha (zt.to_ {zt.cur with fr:=zt.cur.fr.set (zt.cur.fr.length-1) ⟨zt.f.unit,k,zt.f.base⟩}) (g).wf (g).two)) (r:=fun w=>Jm) (k:=?_);intro s hs;(refine Jn ?_))
   repeat(refine Jy ?_;try first|intro ao cap|intro b)
   (refine End.done1_ ((RT.look (zt.to_ {zt.cur with fr:=zt.cur.fr.set (zt.cur.fr.length-1) ⟨zt.f.unit,k,zt.f.base⟩}) m)) (he:=Jv) (hp:=?_));exact⟨(g).wf.look m,((g).wf.look_two m).trans (by rw[(g).two])⟩
  ·rw[if_neg hv]at hex;have g:GivesR (Vm.exec E.W m.mdl i z1.two) zt:=⟨ztw,by rw[hex,ztt]⟩
   repeat(refine Jy ?_;try first|intro ao cap|intro b)
   (refine Jc ?_;refine OpT.call0_ (spec:=look9_is tb m hbx (zt) (g).wf (ha (zt) (g).wf (g).two)) (r:=fun w=>Jm) (k:=?_);intro s hs;(refine Jn ?_))
   repeat(refine Jy ?_;try first|intro ao cap|intro b)
   (refine End.done1_ ((RT.look (zt) m)) (he:=Jv) (hp:=?_));exact⟨(g).wf.look m,((g).wf.look_two m).trans (by rw[(g).two])⟩
end Go.Proofs.Ytgnhfinabhimpaa.Vw


namespace Go.Proofs.Ytgnhfinabhimpaa.Vw
open Go.RowKit Go.Proofs.Ytgnhfinabhimpaa.Img
attribute [local irreducible] Run Cod End OpT Still RunQ RunS RunT Fn PutOk
variable{E:EnvR}
set_option maxHeartbeats 2000000 in
theorem step9_5(tb:Nat)(m:ML)(z:RT E)(hz:z.Wf)(hk:CanR m z)(h1:(z.look m).st=1)(hop:(insR m (z.look m)).op=26∨(insR m (z.look m)).op=28):StepF tb m z:=by
 unfold StepF;have hz0:=hz.look m;have hs0:=look_stand (m:=m) hk.stand;have hstep:=hz.step_two m h1;have hc:=hk.can;have ha:=hk.after;have hlog:(z.look m).log.length≤1000000:=by rw[look_log];exact hk.log
 have hout:(z.look m).out.length≤1000000:=by rw[look_out];exact hk.out
 have hsize:E.size (E.abs (z.look m).e)≤1000000:=by rw[look_e];exact hk.size
 have hbx:=hk.boxes;have hlk:=look9_is tb m hk.boxes z hz (fun _=>hk.stand);have hfree:=look_free hz h1;rw[hstep];obtain⟨z0,hz0e⟩:∃x,x=z.look m:=⟨_,rfl⟩;rw[←hz0e]at hz0 hs0 hc ha hlog hout hsize hlk hop h1 hfree⊢;clear hstep hz0e hk;have hn:=hz0.now;have hg:=hz0.curGet;have hfr:=hs0.fr;rw[hz0.frs]at hfr;have hfl:0<z0.cur.fr.length:=List.length_pos_iff.2 hfr;have hf40:=hs0.fr40;rw[hz0.frs]at hf40;have hws:=hs0.ws;rw[hz0.ws]at hws;have hpc:=hs0.pc4;rw[hz0.topF]at hpc;have w1:IntKind.i64.wrap ((z0.cur.fr.length:Int)-1)=((z0.cur.fr.length-1:Nat):Int):=by rw[wrap_i64_in (by omega)];omega
 have w2:IntKind.i64.wrap ((z0.f.pc:Int)+1)=((z0.f.pc+1:Nat):Int):=by rw[wrap_i64_in (by omega)];omega
 refine Fn.enter (args:=[ptr tb,E.mailV]) Try.func26 rfl _ Try.ntmps26 rfl (by simp[rd_excl,md_excl]) (fun w S=>?_);(refine Jn ?_)
 repeat(refine Jy ?_;try first|intro ao cap|intro b)
 (refine Jc ?_;refine OpT.call0_ (spec:=hlk) (r:=fun w=>Jm) (k:=?_);intro s hs;(refine Jn ?_))
 repeat(refine Jy ?_;try first|intro ao cap|intro b)
 (refine Jc ?_;refine OpT.call0_ (spec:=at9_is tb m z0 hz0 hs0) (r:=fun w=>Reads.md (tk) .nil) (k:=?_);intro s hs;(refine Jn ?_))
 repeat(refine Jy ?_;try first|intro ao cap|intro b)
 obtain⟨ib,rfl⟩:∃x,x=b:=⟨_,rfl⟩;rw[hg]
 repeat(refine Jy ?_;try first|intro ao cap|intro b)
 rw[w1,Int.toNat_natCast,w2];(apply Run.op;exact rfl;refine OpT.storeE_ (f:=rfC) (l:=z0.cur.fr) (i:=z0.cur.fr.length-1) (off:=1) (vs:=[.int .i64 ((z0.f.pc+1:Nat):Int)]) (a':=(⟨z0.f.unit,z0.f.pc+1,z0.f.base⟩:Vm.Fr)) (k:=?_));apply Run.nil;apply End.seqN;refine Cod.sub [(0,ptr tb),(1,E.mailV),(4, .bool false),(5,ptr ib),(6, .pointer (place (sz rcC) z0.to z0.now 0)),(7, .pointer (place (sz rfC) z0.cur.fo (z0.cur.fr.length-1) 0)),(8, .int .i64 (z0.f.base:Int))] (Ju) ?_;apply Cod.imp (fun w hm=>Mem.frs hz0 (fr':=z0.cur.fr.set (z0.cur.fr.length-1) ⟨z0.f.unit,z0.f.pc+1,z0.f.base⟩) (by rw[List.length_set]) hm (tks));refine Cod.only (old w S::md m::E.rc::blk ib (insC (insR m z0)) 49::RM tb m z0.mvd) (tks) ?_;have hz1:z0.mvd.Wf:=hz0.to_ _;have e1:z0.mvd.cur.fr.length=z0.cur.fr.length:=List.length_set;rw[show place (sz rcC) z0.to z0.now 0=place (sz rcC) z0.mvd.to z0.mvd.now 0 from rfl,show place (sz rfC) z0.cur.fo (z0.cur.fr.length-1) 0=place (sz rfC) z0.mvd.cur.fo (z0.mvd.cur.fr.length-1) 0 by rw[e1],show z0.f.base=z0.mvd.f.base from(mvd_base hfl).symm];have hw1:z0.mvd.cur.ws.length≤400:=hws;have hfl1:0<z0.mvd.cur.fr.length:=by rw[e1];exact hfl
 have hf40:z0.mvd.cur.fr.length≤40:=by rw[e1];exact hf40
 have hst1:z0.mvd.st=1:=h1;have hlog1:z0.mvd.log.length≤1000000:=hlog;have hout1:z0.mvd.out.length≤1000000:=hout;have hsz1:E.size (E.abs z0.mvd.e)≤1000000:=hsize;have hcs2:z0.mvd.cur.st=2:=by have:=hs0.st;rw[hz0.sts]at this;exact this
 have hun:z0.mvd.f.unit<m.us.length:=by
  rw[mvd_unit hfl];have:=hs0.unit;rw[hz0.topF]at this;rwa [show m.mdl.units.length=m.us.length from List.length_map _]at this
 have hall:∀k,k<z0.mvd.oth.length→z0.mvd.now≠k→(z0.mvd.oth.getD k default).ws.length≤400:=fun k hk hne=>by
  have:=hs0.lens k (by rw[RT.tkLen];exact hk);rwa [RT.coAt _ (show k<z0.oth.length from hk),RT.othGet _ (show z0.now≠k from hne)]at this
 have hsts:∀k,k<z0.mvd.oth.length→z0.mvd.now≠k→(z0.mvd.oth.getD k default).st≤3:=fun k hk hne=>by
  have:=hs0.sts k (by rw[RT.tkLen];exact hk);rwa [RT.coAt _ (show k<z0.oth.length from hk),RT.othGet _ (show z0.now≠k from hne)]at this
 obtain⟨i,hi⟩:∃i,i=insR m z0:=⟨_,rfl⟩;rw[←hi]at hc ha hop hfree⊢;have hfree:(i.op=26→E.V.full (E.abs z0.mvd.e) i.a.toNat=false)∧(i.op=27→E.V.empty (E.abs z0.mvd.e) i.a.toNat=false):=hfree;obtain⟨z1,hz1e⟩:∃x,x=z0.mvd:=⟨_,rfl⟩;rw[←hz1e]at hc ha hz1 hw1 hfl1 hf40 hst1 hlog1 hout1 hsz1 hcs2 hun hfree hall hsts⊢;clear hz1e hi hlk hn hg hfr hfl e1 w1 w2 hpc hws hlog hout hsize hs0 h1 hz0;have hn:=hz1.now;have hg:=hz1.curGet;have hlive:=hc.one (by omega);have e3:Vm.wl z1.tk=z1.cur.ws.length:=by unfold Vm.wl;rw[hz1.ws]
 rw[e3]at hlive;have hlast:=hz1.last;have hd1:=drop_one hlive;rcases hop with hop|hop
 ·obtain⟨b1,b2⟩:=hc.box (.inl hop);rw[show m.mdl.boxes.length=m.bx.length from rfl,←hbx]at b2;have hex:Vm.exec E.W m.mdl i z1.two=(Vm.drop 1 z1.tk,E.W.tell (E.W.put z1.two.2 i.a.toNat (z1.cur.ws.getD (z1.cur.ws.length-1) 0)) (2,i.a,z1.cur.ws.getD (z1.cur.ws.length-1) 0)):=by
   rw[←hlast];unfold Vm.exec;simp[hop];exact⟨rfl,rfl⟩
  have hfull:=hfree.1 hop
  repeat(refine Jy ?_;try first|intro ao cap|intro b)
  (apply Run.op;exact rfl;refine JK (take9_is tb m z1 hz1 1 (by omega) (by omega)) ?_;intro s hs;(refine Jn ?_));obtain⟨zt,hzt⟩:∃x,x=z1.took 1 s.1:=⟨_,rfl⟩;rw[←hzt];have ztw:zt.Wf:=by rw[hzt];exact hz1.took 1 s.1
  have ztk:zt.tk=Vm.drop 1 z1.tk:=by rw[hzt];exact hz1.took_tk 1 s.1
  have ztl:zt.cur.ws.length=z1.cur.ws.length-1:=by rw[hzt];exact RT.took_len z1 1 s.1
  have zto:zt.e=z1.e∧zt.log=z1.log∧zt.out=z1.out∧zt.to=z1.to∧zt.now=z1.now∧zt.cur.fo=z1.cur.fo∧zt.cur.fr=z1.cur.fr∧zt.oth=z1.oth∧zt.cur.up=z1.cur.up∧zt.cur.st=z1.cur.st∧zt.st=z1.st:=by rw[hzt];exact⟨rfl,rfl,rfl,rfl,rfl,rfl,rfl,rfl,rfl,rfl,rfl⟩
  have ztt:zt.two=(Vm.drop 1 z1.tk,z1.two.2):=by unfold RT.two;rw[ztk,zto.1,zto.2.1]
  have ztg:=ztw.curGet;have ztn:=ztw.now;obtain⟨oq,olo,olc⟩:=s;dsimp only;rw[hd1];(apply Run.op;exact rfl;refine OpT.val_ (h:=by(apply Still.at_;exact rfl;exact rfl;exact Jr;exact rfl;exact rfl;exact rfl;exact ix_zero;omega)) (k:=?_));(apply Run.op;exact rfl;refine OpT.val_ (k:=?_));rw[getD_one];have hgive:=E.give zt.e i.a.toNat (z1.cur.ws.getD (z1.cur.ws.length-1) 0) ztw.env b2 (by rw[zto.1];exact hfull) (by rw[zto.1];omega);rw[Int.toNat_of_nonneg b1]at hgive
  repeat(refine Jy ?_;try first|intro ao cap|intro b)
  (refine Jc ?_;refine OpT.callM_ (E.mGive) (E.bGive) (hgive) (r:=fun w=>Reads.any (tk) E.rexcl .nil) (k:=?_);intro s hs;(refine Jn ?_));obtain⟨e2,rfl⟩:∃x,x=s:=⟨_,rfl⟩;have hge:=hs
  repeat(refine Jy ?_;try first|intro ao cap|intro b)
  (apply Run.op;exact rfl;refine OpT.call0_ (spec:=note_is tb m {zt with e:=e2} (by show zt.log.length≤_;rw[zto.2.1];omega) 2 i.a _) (k:=?_);intro s hs;(refine Jn ?_));obtain⟨nq,rfl⟩:∃x,x=s:=⟨_,rfl⟩;have g:GivesR (Vm.exec E.W m.mdl i z1.two) (RT.noted {zt with e:=e2} (2,i.a,z1.cur.ws.getD (z1.cur.ws.length-1) 0) nq):=⟨⟨ztw.now,ztw.few,hge.1,ztw.st⟩,by
   rw[hex];show(zt.tk,(E.abs e2,zt.log ++[(2,i.a,z1.cur.ws.getD (z1.cur.ws.length-1) 0)]))=_;rw[ztk,hge.2,zto.1,zto.2.1];rfl⟩
  repeat(refine Jy ?_;try first|intro ao cap|intro b)
  (refine Jc ?_;refine OpT.call0_ (spec:=look9_is tb m hbx (RT.noted {zt with e:=e2} (2,i.a,z1.cur.ws.getD (z1.cur.ws.length-1) 0) nq) (g).wf (ha (RT.noted {zt with e:=e2} (2,i.a,z1.cur.ws.getD (z1.cur.ws.length-1) 0) nq) (g).wf (g).two)) (r:=fun w=>Jm) (k:=?_);intro s hs;(refine Jn ?_))
  repeat(refine Jy ?_;try first|intro ao cap|intro b)
  (refine End.done1_ ((RT.look (RT.noted {zt with e:=e2} (2,i.a,z1.cur.ws.getD (z1.cur.ws.length-1) 0) nq) m)) (he:=Jv) (hp:=?_));exact⟨(g).wf.look m,((g).wf.look_two m).trans (by rw[(g).two])⟩
 ·have hex:Vm.exec E.W m.mdl i z1.two=({Vm.drop 1 z1.tk with out:=(Vm.drop 1 z1.tk).out ++[z1.cur.ws.getD (z1.cur.ws.length-1) 0]},E.W.tell z1.two.2 (1,0,z1.cur.ws.getD (z1.cur.ws.length-1) 0)):=by
   rw[←hlast];unfold Vm.exec;simp[hop];exact⟨⟨rfl,rfl,rfl,rfl,rfl,rfl,rfl⟩,rfl⟩
  repeat(refine Jy ?_;try first|intro ao cap|intro b)
  (apply Run.op;exact rfl;refine JK (take9_is tb m z1 hz1 1 (by omega) (by omega)) ?_;intro s hs;(refine Jn ?_));obtain⟨zt,hzt⟩:∃x,x=z1.took 1 s.1:=⟨_,rfl⟩;rw[←hzt];have ztw:zt.Wf:=by rw[hzt];exact hz1.took 1 s.1
  have ztk:zt.tk=Vm.drop 1 z1.tk:=by rw[hzt];exact hz1.took_tk 1 s.1
  have ztl:zt.cur.ws.length=z1.cur.ws.length-1:=by rw[hzt];exact RT.took_len z1 1 s.1
  have zto:zt.e=z1.e∧zt.log=z1.log∧zt.out=z1.out∧zt.to=z1.to∧zt.now=z1.now∧zt.cur.fo=z1.cur.fo∧zt.cur.fr=z1.cur.fr∧zt.oth=z1.oth∧zt.cur.up=z1.cur.up∧zt.cur.st=z1.cur.st∧zt.st=z1.st:=by rw[hzt];exact⟨rfl,rfl,rfl,rfl,rfl,rfl,rfl,rfl,rfl,rfl,rfl⟩
  have ztt:zt.two=(Vm.drop 1 z1.tk,z1.two.2):=by unfold RT.two;rw[ztk,zto.1,zto.2.1]
  have ztg:=ztw.curGet;have ztn:=ztw.now;obtain⟨oq,olo,olc⟩:=s;dsimp only;have hol:zt.out.length≤1000000:=by rw[zto.2.2.1];exact hout1
  rw[hd1];(apply Run.op;exact rfl;refine OpT.val_ (h:=by(apply Still.at_;exact rfl;exact rfl;exact Jr;exact rfl;exact rfl;exact rfl;exact ix_zero;omega)) (k:=?_));(apply Run.op;exact rfl;refine OpT.val_ (k:=?_));rw[getD_one]
  repeat(refine Jy ?_;try first|intro ao cap|intro b)
  rw[snoc_len zt.out (z1.cur.ws.getD (z1.cur.ws.length-1) 0)];(apply Run.op;exact rfl;refine OpT.call0_ (spec:=note_is tb m {zt with oo:=ao,oc:=cap,out:=zt.out ++[z1.cur.ws.getD (z1.cur.ws.length-1) 0]} (by show zt.log.length≤_;rw[zto.2.1];omega) 1 0 _) (k:=?_);intro s hs;(refine Jn ?_));obtain⟨nq,rfl⟩:∃x,x=s:=⟨_,rfl⟩;have g:GivesR (Vm.exec E.W m.mdl i z1.two) (RT.noted {zt with oo:=ao,oc:=cap,out:=zt.out ++[z1.cur.ws.getD (z1.cur.ws.length-1) 0]} (1,0,z1.cur.ws.getD (z1.cur.ws.length-1) 0) nq):=⟨⟨ztw.now,ztw.few,ztw.env,ztw.st⟩,by
   rw[hex,←ztk];show(({zt.tk with out:=zt.out ++[z1.cur.ws.getD (z1.cur.ws.length-1) 0]}:Vm.Tk),(E.abs zt.e,zt.log ++[(1,0,z1.cur.ws.getD (z1.cur.ws.length-1) 0)]))=_;rw[zto.1,zto.2.1];rfl⟩
  repeat(refine Jy ?_;try first|intro ao cap|intro b)
  (refine Jc ?_;refine OpT.call0_ (spec:=look9_is tb m hbx (RT.noted {zt with oo:=ao,oc:=cap,out:=zt.out ++[z1.cur.ws.getD (z1.cur.ws.length-1) 0]} (1,0,z1.cur.ws.getD (z1.cur.ws.length-1) 0) nq) (g).wf (ha (RT.noted {zt with oo:=ao,oc:=cap,out:=zt.out ++[z1.cur.ws.getD (z1.cur.ws.length-1) 0]} (1,0,z1.cur.ws.getD (z1.cur.ws.length-1) 0) nq) (g).wf (g).two)) (r:=fun w=>Jm) (k:=?_);intro s hs;(refine Jn ?_))
  repeat(refine Jy ?_;try first|intro ao cap|intro b)
  (refine End.done1_ ((RT.look (RT.noted {zt with oo:=ao,oc:=cap,out:=zt.out ++[z1.cur.ws.getD (z1.cur.ws.length-1) 0]} (1,0,z1.cur.ws.getD (z1.cur.ws.length-1) 0) nq) m)) (he:=Jv) (hp:=?_));exact⟨(g).wf.look m,((g).wf.look_two m).trans (by rw[(g).two])⟩
end Go.Proofs.Ytgnhfinabhimpaa.Vw
