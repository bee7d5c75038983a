/- A step's operations, walked. -/
import Derived.Test.YtgnhfinabhimpaaM25
set_option linter.unusedVariables false
set_option linter.unusedSimpArgs false
set_option linter.unusedSectionVars false
set_option maxRecDepth 100000
namespace Go.Proofs.Ytgnhfinabhimpaa.Vw
open Go.RowKit Go.Proofs.Ytgnhfinabhimpaa.Img
attribute [local irreducible] Run Cod End OpT Still RunQ RunS RunT Fn PutOk
variable{E:EnvM}
abbrev SL.at_(z:SL E)(n:Nat):SL E:={z with cur:={z.cur with fr:=z.cur.fr.set (z.cur.fr.length-1) ⟨z.f.unit,n,z.f.base⟩}}
theorem SL.Wf.setAt{z:SL E}(hz:z.Wf)(n:Nat):(z.at_ n).Wf∧(z.at_ n).tk=Vm.setPc n z.tk:=by
 refine⟨hz.setCur rfl rfl rfl hz.curOk,?_⟩;unfold Vm.setPc Vm.setTop;rw[hz.topF,hz.cur];exact SL.tk_cur z _
set_option maxHeartbeats 2000000 in
theorem step4_is(p:Pl)(z:SL E)(hz:z.Wf)(hs:Stands p.m z)(h1:(z.look p.m).st=1)(hpc:z.f.pc≤100000)(hc:CanS p.m (z.moved p.m) (insL p.m z))(ha:After p.m (z.moved p.m) (insL p.m z))(hop:(insL p.m z).op=21):
  Fn Try.prog 19 #[ptr p.tb] [md p.m,E.rc] (TM p z) (σ:=SL E) (Gives z (Vm.step E.V p.m.mdl z.two).2) (fun _=> .bool (Vm.step E.V p.m.mdl z.two).1) (fun z'=>TM p z'):=by
 obtain⟨g1,g2,g3,g4,g5⟩:=id hs;have hl:0<z.cur.fr.length:=List.length_pos_iff.2 g1;have w1:IntKind.i64.wrap ((z.cur.fr.length:Int)-1)=((z.cur.fr.length-1:Nat):Int):=by rw[wrap_i64_in (by omega)];omega
 have w2:IntKind.i64.wrap ((z.f.pc:Int)+1)=((z.f.pc+1:Nat):Int):=by rw[wrap_i64_in (by omega)];omega
 refine Fn.enter (args:=[ptr p.tb]) Try.func19 rfl _ Try.ntmps19 rfl (by simp[rd_excl,md_excl]) (fun w S=>?_);(refine Jn ?_)
 repeat(refine Jy ?_;try first|intro ao cap|intro b)
 (refine Jc ?_;refine OpT.call0_ (spec:=look_is p z hz (fun _=>hs)) (r:=fun w=>Jm) (k:=?_);intro s hs;(refine Jn ?_))
 repeat(refine Jy ?_;try first|intro ao cap|intro b)
 apply Cod.draw 21 ([tkM p (z.look p.m),moM p,frM z.cur,md p.m]) (by kernel_rfl) 22 rfl;refine JR 0 ?_;refine JR 1 ?_;refine JR 2 ?_;refine JR 3 ?_;refine JR 4 ?_;refine JR 5 ?_;refine JR 6 ?_;refine JR 7 ?_;refine JR 8 ?_;refine JR 9 ?_;refine JR 10 ?_;refine JR 11 ?_;refine JR 12 ?_;refine JR 13 ?_;refine JR 14 ?_;refine JR 15 ?_;refine JR 16 ?_;refine JR 17 ?_;refine JR 18 ?_;refine JR 19 ?_;(refine JT 20 ?_;(first|refine Jw ?_|(refine Jb ?_;intro b)|(refine Ja ?_;intro ao cap));refine And.intro gud ?_);(refine JT 21 ?_;(first|refine Jw ?_|(refine Jb ?_;intro b)|(refine Ja ?_;intro ao cap));refine And.intro gud ?_);(apply RunT.done;kernel_rfl)
 repeat(refine Jy ?_;try first|intro ao cap|intro b)
 (apply Run.op;exact rfl;refine OpT.storeE_ (f:=frC) (l:=z.cur.fr) (i:=z.cur.fr.length-1) (off:=1) (vs:=[.int .i64 ((z.f.pc+1:Nat):Int)]) (a':=(⟨z.f.unit,z.f.pc+1,z.f.base⟩:Vm.Fr)) (k:=?_));apply Run.nil;apply End.seqN;obtain⟨ib,rfl⟩:∃x,x=b:=⟨_,rfl⟩;refine Cod.sub [(0,ptr p.tb),(2, .bool false),(3, .pointer (place (sz frC) z.cur.fo (z.cur.fr.length-1) 0)),(4,ptr ib)] (Ju) ?_;have hln:z.cur.fr.length=(z.cur.fr.set (z.cur.fr.length-1) (⟨z.f.unit,z.f.pc+1,z.f.base⟩:Vm.Fr)).length:=by rw[List.length_set]
 refine Cod.only (old w S::md p.m::E.rc::blk ib (insC (insL p.m z)) 49::TM p (z.moved p.m)) (Jx) ?_;have hpl:place (sz frC) z.cur.fo (z.cur.fr.length-1) 0=place (sz frC) (z.moved p.m).cur.fo ((z.moved p.m).cur.fr.length-1) 0:=by rw[show(z.moved p.m).cur.fr.length=z.cur.fr.length from List.length_set]
 rw[hpl];have hstep:=hz.step_two p.m h1;rw[hstep];have hz1:=hz.moved p.m;obtain⟨i,hi⟩:∃i,i=insL p.m z:=⟨_,rfl⟩;obtain⟨z1,hz1e⟩:∃z1,z1=z.moved p.m:=⟨_,rfl⟩;rw[←hi,←hz1e]at hc ha⊢;rw[←hz1e]at hz1;rw[←hi]at hop;have a0:=hc.jump (.inl hop);obtain⟨n,hn⟩:=Int.eq_ofNat_of_zero_le a0;have hn':i.a=(n:Int):=hn;have hfl:z1.cur.fr.length=z.cur.fr.length:=by rw[hz1e];exact List.length_set
 repeat(refine Jy ?_;try first|intro ao cap|intro b)
 rw[hn'];(apply Run.op;exact rfl;refine OpT.storeE_ (f:=frC) (l:=z1.cur.fr) (i:=z1.cur.fr.length-1) (off:=1) (vs:=[.int .i64 (n:Int)]) (a':=(⟨z1.f.unit,n,z1.f.base⟩:Vm.Fr)) (k:=?_))
 repeat(refine Jy ?_;try first|intro ao cap|intro b)
 obtain⟨t1,t2⟩:=hz1.setAt n;refine Run.only' (old w S::md p.m::E.rc::TM p (z1.at_ n)) (Jx) ?_;have t3:(z1.at_ n).two=Vm.exec E.V p.m.mdl i z1.two:=by
  have e:i.a.toNat=n:=by rw[hn'];rfl
  unfold Vm.exec;simp[hop,e];exact congrArg (fun t=>(t,E.abs z1.e)) t2
 repeat(refine Jy ?_;try first|intro ao cap|intro b)
 (refine Jc ?_;refine OpT.call0_ (spec:=look_is p (z1.at_ n) t1 (ha (z1.at_ n) t1 t3)) (r:=fun w=>Jm) (k:=?_);intro s hs;(refine Jn ?_))
 repeat(refine Jy ?_;try first|intro ao cap|intro b)
 (refine End.done1_ ((SL.look (z1.at_ n) p.m)) (he:=Jv) (hp:=?_));exact⟨t1.look p.m,(t1.look_two p.m).trans (by rw[t3])⟩
end Go.Proofs.Ytgnhfinabhimpaa.Vw


namespace Go.Proofs.Ytgnhfinabhimpaa.Vw
open Go.RowKit Go.Proofs.Ytgnhfinabhimpaa.Img
attribute [local irreducible] Run Cod End OpT Still RunQ RunS RunT Fn PutOk
variable{E:EnvM}
set_option maxHeartbeats 2000000 in
theorem step5_is(p:Pl)(z:SL E)(hz:z.Wf)(hs:Stands p.m z)(h1:(z.look p.m).st=1)(hpc:z.f.pc≤100000)(hc:CanS p.m (z.moved p.m) (insL p.m z))(ha:After p.m (z.moved p.m) (insL p.m z))(hop:(insL p.m z).op=22):
  Fn Try.prog 19 #[ptr p.tb] [md p.m,E.rc] (TM p z) (σ:=SL E) (Gives z (Vm.step E.V p.m.mdl z.two).2) (fun _=> .bool (Vm.step E.V p.m.mdl z.two).1) (fun z'=>TM p z'):=by
 obtain⟨g1,g2,g3,g4,g5⟩:=id hs;have hl:0<z.cur.fr.length:=List.length_pos_iff.2 g1;have w1:IntKind.i64.wrap ((z.cur.fr.length:Int)-1)=((z.cur.fr.length-1:Nat):Int):=by rw[wrap_i64_in (by omega)];omega
 have w2:IntKind.i64.wrap ((z.f.pc:Int)+1)=((z.f.pc+1:Nat):Int):=by rw[wrap_i64_in (by omega)];omega
 refine Fn.enter (args:=[ptr p.tb]) Try.func19 rfl _ Try.ntmps19 rfl (by simp[rd_excl,md_excl]) (fun w S=>?_);(refine Jn ?_)
 repeat(refine Jy ?_;try first|intro ao cap|intro b)
 (refine Jc ?_;refine OpT.call0_ (spec:=look_is p z hz (fun _=>hs)) (r:=fun w=>Jm) (k:=?_);intro s hs;(refine Jn ?_))
 repeat(refine Jy ?_;try first|intro ao cap|intro b)
 apply Cod.draw 21 ([tkM p (z.look p.m),moM p,frM z.cur,md p.m]) (by kernel_rfl) 22 rfl;refine JR 0 ?_;refine JR 1 ?_;refine JR 2 ?_;refine JR 3 ?_;refine JR 4 ?_;refine JR 5 ?_;refine JR 6 ?_;refine JR 7 ?_;refine JR 8 ?_;refine JR 9 ?_;refine JR 10 ?_;refine JR 11 ?_;refine JR 12 ?_;refine JR 13 ?_;refine JR 14 ?_;refine JR 15 ?_;refine JR 16 ?_;refine JR 17 ?_;refine JR 18 ?_;refine JR 19 ?_;(refine JT 20 ?_;(first|refine Jw ?_|(refine Jb ?_;intro b)|(refine Ja ?_;intro ao cap));refine And.intro gud ?_);(refine JT 21 ?_;(first|refine Jw ?_|(refine Jb ?_;intro b)|(refine Ja ?_;intro ao cap));refine And.intro gud ?_);(apply RunT.done;kernel_rfl)
 repeat(refine Jy ?_;try first|intro ao cap|intro b)
 (apply Run.op;exact rfl;refine OpT.storeE_ (f:=frC) (l:=z.cur.fr) (i:=z.cur.fr.length-1) (off:=1) (vs:=[.int .i64 ((z.f.pc+1:Nat):Int)]) (a':=(⟨z.f.unit,z.f.pc+1,z.f.base⟩:Vm.Fr)) (k:=?_));apply Run.nil;apply End.seqN;obtain⟨ib,rfl⟩:∃x,x=b:=⟨_,rfl⟩;refine Cod.sub [(0,ptr p.tb),(2, .bool false),(3, .pointer (place (sz frC) z.cur.fo (z.cur.fr.length-1) 0)),(4,ptr ib)] (Ju) ?_;have hln:z.cur.fr.length=(z.cur.fr.set (z.cur.fr.length-1) (⟨z.f.unit,z.f.pc+1,z.f.base⟩:Vm.Fr)).length:=by rw[List.length_set]
 refine Cod.only (old w S::md p.m::E.rc::blk ib (insC (insL p.m z)) 49::TM p (z.moved p.m)) (Jx) ?_;have hpl:place (sz frC) z.cur.fo (z.cur.fr.length-1) 0=place (sz frC) (z.moved p.m).cur.fo ((z.moved p.m).cur.fr.length-1) 0:=by rw[show(z.moved p.m).cur.fr.length=z.cur.fr.length from List.length_set]
 rw[hpl];have hstep:=hz.step_two p.m h1;rw[hstep];have hz1:=hz.moved p.m;obtain⟨i,hi⟩:∃i,i=insL p.m z:=⟨_,rfl⟩;obtain⟨z1,hz1e⟩:∃z1,z1=z.moved p.m:=⟨_,rfl⟩;rw[←hi,←hz1e]at hc ha⊢;rw[←hz1e]at hz1;rw[←hi]at hop;have a0:=hc.jump (.inr hop);have c1:=hc.some (by omega);obtain⟨n,hn⟩:=Int.eq_ofNat_of_zero_le a0;have hn':i.a=(n:Int):=hn;have hfl:z1.cur.fr.length=z.cur.fr.length:=by rw[hz1e];exact List.length_set
 have e:i.a.toNat=n:=by rw[hn'];rfl
 repeat(refine Jy ?_;try first|intro ao cap|intro b)
 (apply Run.op;exact rfl;refine JK (pop_is' (z1.F p) z1.st z1.tr (z1.cur.st:Int) (ptrO z1.cur.upb) (.slice z1.cur.fo z1.cur.fr.length z1.cur.fc) E.mailV (toldV E.told) z1.cur.sk hz1.curOk c1) ?_;intro s hs;(refine Jn ?_));obtain⟨k1,rfl⟩:∃x,x=s:=⟨_,rfl⟩;obtain⟨p1,p2⟩:=popped hz1 hs;have hla:Vm.last z1.tk=z1.top 1:=hz1.last
 by_cases h0:z1.cur.sk.ws.getD (z1.cur.sk.live-1) 0=0
 ·repeat(refine Jy ?_;try first|intro ao cap|intro b)
  rw[hn'];(apply Run.op;exact rfl;refine OpT.storeE_ (f:=frC) (l:=z1.cur.fr) (i:=z1.cur.fr.length-1) (off:=1) (vs:=[.int .i64 (n:Int)]) (a':=(⟨z1.f.unit,n,z1.f.base⟩:Vm.Fr)) (k:=?_))
  repeat(refine Jy ?_;try first|intro ao cap|intro b)
  obtain⟨t1,t2⟩:=p1.setAt n;refine Run.only' (old w S::md p.m::E.rc::TM p ((z1.sk k1).at_ n)) (Jx) ?_;have t3:((z1.sk k1).at_ n).two=Vm.exec E.V p.m.mdl i z1.two:=by
   have hl0:Vm.last z1.two.1=0:=hz1.last.trans h0;unfold Vm.exec;simp[hop,e,hl0];exact congrArg (fun t=>(t,E.abs z1.e)) (t2.trans (by rw[p2];rfl))
  repeat(refine Jy ?_;try first|intro ao cap|intro b)
  (refine Jc ?_;refine OpT.call0_ (spec:=look_is p ((z1.sk k1).at_ n) t1 (ha ((z1.sk k1).at_ n) t1 t3)) (r:=fun w=>Jm) (k:=?_);intro s hs;(refine Jn ?_))
  repeat(refine Jy ?_;try first|intro ao cap|intro b)
  (refine End.done1_ ((SL.look ((z1.sk k1).at_ n) p.m)) (he:=Jv) (hp:=?_));exact⟨t1.look p.m,(t1.look_two p.m).trans (by rw[t3])⟩
 ·repeat(refine Jy ?_;try first|intro ao cap|intro b)
  have t3:(z1.sk k1).two=Vm.exec E.V p.m.mdl i z1.two:=by
   have hl0:Vm.last z1.two.1≠0:=fun h=>h0 (hz1.last.symm.trans h)
   unfold Vm.exec;simp[hop,hl0];exact congrArg (fun t=>(t,E.abs z1.e)) p2
  repeat(refine Jy ?_;try first|intro ao cap|intro b)
  (refine Jc ?_;refine OpT.call0_ (spec:=look_is p (z1.sk k1) p1 (ha (z1.sk k1) p1 t3)) (r:=fun w=>Jm) (k:=?_);intro s hs;(refine Jn ?_))
  repeat(refine Jy ?_;try first|intro ao cap|intro b)
  (refine End.done1_ ((SL.look (z1.sk k1) p.m)) (he:=Jv) (hp:=?_));exact⟨p1.look p.m,(p1.look_two p.m).trans (by rw[t3])⟩
set_option maxHeartbeats 2000000 in
theorem step6_is(p:Pl)(z:SL E)(hz:z.Wf)(hs:Stands p.m z)(h1:(z.look p.m).st=1)(hpc:z.f.pc≤100000)(hc:CanS p.m (z.moved p.m) (insL p.m z))(ha:After p.m (z.moved p.m) (insL p.m z))(hop:(insL p.m z).op=28):
  Fn Try.prog 19 #[ptr p.tb] [md p.m,E.rc] (TM p z) (σ:=SL E) (Gives z (Vm.step E.V p.m.mdl z.two).2) (fun _=> .bool (Vm.step E.V p.m.mdl z.two).1) (fun z'=>TM p z'):=by
 obtain⟨g1,g2,g3,g4,g5⟩:=id hs;have hl:0<z.cur.fr.length:=List.length_pos_iff.2 g1;have w1:IntKind.i64.wrap ((z.cur.fr.length:Int)-1)=((z.cur.fr.length-1:Nat):Int):=by rw[wrap_i64_in (by omega)];omega
 have w2:IntKind.i64.wrap ((z.f.pc:Int)+1)=((z.f.pc+1:Nat):Int):=by rw[wrap_i64_in (by omega)];omega
 refine Fn.enter (args:=[ptr p.tb]) Try.func19 rfl _ Try.ntmps19 rfl (by simp[rd_excl,md_excl]) (fun w S=>?_);(refine Jn ?_)
 repeat(refine Jy ?_;try first|intro ao cap|intro b)
 (refine Jc ?_;refine OpT.call0_ (spec:=look_is p z hz (fun _=>hs)) (r:=fun w=>Jm) (k:=?_);intro s hs;(refine Jn ?_))
 repeat(refine Jy ?_;try first|intro ao cap|intro b)
 apply Cod.draw 21 ([tkM p (z.look p.m),moM p,frM z.cur,md p.m]) (by kernel_rfl) 22 rfl;refine JR 0 ?_;refine JR 1 ?_;refine JR 2 ?_;refine JR 3 ?_;refine JR 4 ?_;refine JR 5 ?_;refine JR 6 ?_;refine JR 7 ?_;refine JR 8 ?_;refine JR 9 ?_;refine JR 10 ?_;refine JR 11 ?_;refine JR 12 ?_;refine JR 13 ?_;refine JR 14 ?_;refine JR 15 ?_;refine JR 16 ?_;refine JR 17 ?_;refine JR 18 ?_;refine JR 19 ?_;(refine JT 20 ?_;(first|refine Jw ?_|(refine Jb ?_;intro b)|(refine Ja ?_;intro ao cap));refine And.intro gud ?_);(refine JT 21 ?_;(first|refine Jw ?_|(refine Jb ?_;intro b)|(refine Ja ?_;intro ao cap));refine And.intro gud ?_);(apply RunT.done;kernel_rfl)
 repeat(refine Jy ?_;try first|intro ao cap|intro b)
 (apply Run.op;exact rfl;refine OpT.storeE_ (f:=frC) (l:=z.cur.fr) (i:=z.cur.fr.length-1) (off:=1) (vs:=[.int .i64 ((z.f.pc+1:Nat):Int)]) (a':=(⟨z.f.unit,z.f.pc+1,z.f.base⟩:Vm.Fr)) (k:=?_));apply Run.nil;apply End.seqN;obtain⟨ib,rfl⟩:∃x,x=b:=⟨_,rfl⟩;refine Cod.sub [(0,ptr p.tb),(2, .bool false),(3, .pointer (place (sz frC) z.cur.fo (z.cur.fr.length-1) 0)),(4,ptr ib)] (Ju) ?_;have hln:z.cur.fr.length=(z.cur.fr.set (z.cur.fr.length-1) (⟨z.f.unit,z.f.pc+1,z.f.base⟩:Vm.Fr)).length:=by rw[List.length_set]
 refine Cod.only (old w S::md p.m::E.rc::blk ib (insC (insL p.m z)) 49::TM p (z.moved p.m)) (Jx) ?_;have hpl:place (sz frC) z.cur.fo (z.cur.fr.length-1) 0=place (sz frC) (z.moved p.m).cur.fo ((z.moved p.m).cur.fr.length-1) 0:=by rw[show(z.moved p.m).cur.fr.length=z.cur.fr.length from List.length_set]
 rw[hpl];have hstep:=hz.step_two p.m h1;rw[hstep];have hz1:=hz.moved p.m;obtain⟨i,hi⟩:∃i,i=insL p.m z:=⟨_,rfl⟩;obtain⟨z1,hz1e⟩:∃z1,z1=z.moved p.m:=⟨_,rfl⟩;rw[←hi,←hz1e]at hc ha⊢;rw[←hz1e]at hz1;rw[←hi]at hop;have c1:=hc.some (by omega)
 repeat(refine Jy ?_;try first|intro ao cap|intro b)
 (apply Run.op;exact rfl;refine JK (pop_is' (z1.F p) z1.st z1.tr (z1.cur.st:Int) (ptrO z1.cur.upb) (.slice z1.cur.fo z1.cur.fr.length z1.cur.fc) E.mailV (toldV E.told) z1.cur.sk hz1.curOk c1) ?_;intro s hs;(refine Jn ?_));obtain⟨k1,rfl⟩:∃x,x=s:=⟨_,rfl⟩;obtain⟨p1,p2⟩:=popped hz1 hs;have c2:=hc.outs hop
 repeat(refine Jy ?_;try first|intro ao cap|intro b)
 have hoL:(z1.out ++[z1.top 1]).length=z1.out.length+1:=by simp
 have hla:Vm.last z1.tk=z1.top 1:=hz1.last;(refine Jc ?_;refine OpT.call0_ (spec:=tell_is E ⟨p.tb,p.mb, .slice z1.co z1.bs.length z1.ccap,z1.cur.cb,z1.bx, .slice ao (z1.out.length+1) cap⟩ z1.st z1.tr z1.e (hc.okk hz1) 1 0 (z1.top 1)) (r:=fun w=>Reads.any (tk) E.rexcl .nil) (k:=?_);intro s hs;(refine Jn ?_));obtain⟨e2,rfl⟩:∃x,x=s:=⟨_,rfl⟩;have t1:({z1.sk k1 with oo:=ao,oc:=cap,out:=z1.out ++[z1.top 1],e:=e2}:SL E).Wf:=⟨p1.now,p1.len,p1.few,p1.at_,p1.up,p1.upl,p1.sk,hs.1⟩;have t3:({z1.sk k1 with oo:=ao,oc:=cap,out:=z1.out ++[z1.top 1],e:=e2}:SL E).two=Vm.exec E.V p.m.mdl i z1.two:=by
  have hla':Vm.last z1.two.1=z1.top 1:=hz1.last;unfold Vm.exec;simp only[hop,hla'];refine Prod.ext ?_ hs.2;show SL.tk {z1.sk k1 with oo:=ao,oc:=cap,out:=z1.out ++[z1.top 1],e:=e2}={Vm.drop 1 z1.tk with out:=(Vm.drop 1 z1.tk).out ++[z1.top 1]};rw[←p2];rfl
 rw[←hoL]
 repeat(refine Jy ?_;try first|intro ao cap|intro b)
 (refine Jc ?_;refine OpT.call0_ (spec:=look_is p ({z1.sk k1 with oo:=ao,oc:=cap,out:=z1.out ++[z1.top 1],e:=e2}) t1 (ha ({z1.sk k1 with oo:=ao,oc:=cap,out:=z1.out ++[z1.top 1],e:=e2}) t1 t3)) (r:=fun w=>Jm) (k:=?_);intro s hs;(refine Jn ?_))
 repeat(refine Jy ?_;try first|intro ao cap|intro b)
 (refine End.done1_ ((SL.look ({z1.sk k1 with oo:=ao,oc:=cap,out:=z1.out ++[z1.top 1],e:=e2}) p.m)) (he:=Jv) (hp:=?_));exact⟨t1.look p.m,(t1.look_two p.m).trans (by rw[t3])⟩
end Go.Proofs.Ytgnhfinabhimpaa.Vw


namespace Go.Proofs.Ytgnhfinabhimpaa.Vw
open Go.RowKit Go.Proofs.Ytgnhfinabhimpaa.Img
attribute [local irreducible] Run Cod End OpT Still RunQ RunS RunT Fn PutOk
variable{E:EnvM}
set_option maxHeartbeats 2000000 in
theorem step7_is(p:Pl)(z:SL E)(hz:z.Wf)(hs:Stands p.m z)(h1:(z.look p.m).st=1)(hpc:z.f.pc≤100000)(hc:CanS p.m (z.moved p.m) (insL p.m z))(ha:After p.m (z.moved p.m) (insL p.m z))(hop:(insL p.m z).op=26):
  Fn Try.prog 19 #[ptr p.tb] [md p.m,E.rc] (TM p z) (σ:=SL E) (Gives z (Vm.step E.V p.m.mdl z.two).2) (fun _=> .bool (Vm.step E.V p.m.mdl z.two).1) (fun z'=>TM p z'):=by
 obtain⟨g1,g2,g3,g4,g5⟩:=id hs;have hl:0<z.cur.fr.length:=List.length_pos_iff.2 g1;have w1:IntKind.i64.wrap ((z.cur.fr.length:Int)-1)=((z.cur.fr.length-1:Nat):Int):=by rw[wrap_i64_in (by omega)];omega
 have w2:IntKind.i64.wrap ((z.f.pc:Int)+1)=((z.f.pc+1:Nat):Int):=by rw[wrap_i64_in (by omega)];omega
 refine Fn.enter (args:=[ptr p.tb]) Try.func19 rfl _ Try.ntmps19 rfl (by simp[rd_excl,md_excl]) (fun w S=>?_);(refine Jn ?_)
 repeat(refine Jy ?_;try first|intro ao cap|intro b)
 (refine Jc ?_;refine OpT.call0_ (spec:=look_is p z hz (fun _=>hs)) (r:=fun w=>Jm) (k:=?_);intro s hs;(refine Jn ?_))
 repeat(refine Jy ?_;try first|intro ao cap|intro b)
 apply Cod.draw 21 ([tkM p (z.look p.m),moM p,frM z.cur,md p.m]) (by kernel_rfl) 22 rfl;refine JR 0 ?_;refine JR 1 ?_;refine JR 2 ?_;refine JR 3 ?_;refine JR 4 ?_;refine JR 5 ?_;refine JR 6 ?_;refine JR 7 ?_;refine JR 8 ?_;refine JR 9 ?_;refine JR 10 ?_;refine JR 11 ?_;refine JR 12 ?_;refine JR 13 ?_;refine JR 14 ?_;refine JR 15 ?_;refine JR 16 ?_;refine JR 17 ?_;refine JR 18 ?_;refine JR 19 ?_;(refine JT 20 ?_;(first|refine Jw ?_|(refine Jb ?_;intro b)|(refine Ja ?_;intro ao cap));refine And.intro gud ?_);(refine JT 21 ?_;(first|refine Jw ?_|(refine Jb ?_;intro b)|(refine Ja ?_;intro ao cap));refine And.intro gud ?_);(apply RunT.done;kernel_rfl)
 repeat(refine Jy ?_;try first|intro ao cap|intro b)
 (apply Run.op;exact rfl;refine OpT.storeE_ (f:=frC) (l:=z.cur.fr) (i:=z.cur.fr.length-1) (off:=1) (vs:=[.int .i64 ((z.f.pc+1:Nat):Int)]) (a':=(⟨z.f.unit,z.f.pc+1,z.f.base⟩:Vm.Fr)) (k:=?_));apply Run.nil;apply End.seqN;obtain⟨ib,rfl⟩:∃x,x=b:=⟨_,rfl⟩;refine Cod.sub [(0,ptr p.tb),(2, .bool false),(3, .pointer (place (sz frC) z.cur.fo (z.cur.fr.length-1) 0)),(4,ptr ib)] (Ju) ?_;have hln:z.cur.fr.length=(z.cur.fr.set (z.cur.fr.length-1) (⟨z.f.unit,z.f.pc+1,z.f.base⟩:Vm.Fr)).length:=by rw[List.length_set]
 refine Cod.only (old w S::md p.m::E.rc::blk ib (insC (insL p.m z)) 49::TM p (z.moved p.m)) (Jx) ?_;have hpl:place (sz frC) z.cur.fo (z.cur.fr.length-1) 0=place (sz frC) (z.moved p.m).cur.fo ((z.moved p.m).cur.fr.length-1) 0:=by rw[show(z.moved p.m).cur.fr.length=z.cur.fr.length from List.length_set]
 rw[hpl];have hstep:=hz.step_two p.m h1;rw[hstep];have hz1:=hz.moved p.m;obtain⟨i,hi⟩:∃i,i=insL p.m z:=⟨_,rfl⟩;obtain⟨z1,hz1e⟩:∃z1,z1=z.moved p.m:=⟨_,rfl⟩;rw[←hi,←hz1e]at hc ha⊢;rw[←hz1e]at hz1;rw[←hi]at hop;have c1:=hc.some (by omega);obtain⟨s1,s2,s3⟩:=hc.send hop;have hput:=E.put z1.e i.a.toNat (z1.top 1) hz1.env s2 s3 (by have:=hc.size;omega);rw[Int.toNat_of_nonneg s1]at hput
 repeat(refine Jy ?_;try first|intro ao cap|intro b)
 (apply Run.op;exact rfl;refine JK (pop_is' (z1.F p) z1.st z1.tr (z1.cur.st:Int) (ptrO z1.cur.upb) (.slice z1.cur.fo z1.cur.fr.length z1.cur.fc) E.mailV (toldV E.told) z1.cur.sk hz1.curOk c1) ?_;intro s hs;(refine Jn ?_));obtain⟨k1,rfl⟩:∃x,x=s:=⟨_,rfl⟩;obtain⟨p1,p2⟩:=popped hz1 hs
 repeat(refine Jy ?_;try first|intro ao cap|intro b)
 (refine Jc ?_;refine OpT.callM_ (E.mPut) (E.bPut) (hput) (r:=fun w=>Reads.any (tk) E.rexcl .nil) (k:=?_);intro s hs;(refine Jn ?_));obtain⟨e1,rfl⟩:∃x,x=s:=⟨_,rfl⟩;obtain⟨q1,q2⟩:=hs
 repeat(refine Jy ?_;try first|intro ao cap|intro b)
 (refine Jc ?_;refine OpT.call0_ (spec:=tell_is E (z1.F p) z1.st z1.tr e1 ⟨q1,by rw[q2];have h5:=E.sPut (E.abs z1.e) i.a.toNat (z1.top 1);have h6:=hc.size;omega⟩ 2 i.a (z1.top 1)) (r:=fun w=>Reads.any (tk) E.rexcl .nil) (k:=?_);intro s hs;(refine Jn ?_));obtain⟨e2,rfl⟩:∃x,x=s:=⟨_,rfl⟩;have t1:({z1.sk k1 with e:=e2}:SL E).Wf:=⟨p1.now,p1.len,p1.few,p1.at_,p1.up,p1.upl,p1.sk,hs.1⟩;have t3:({z1.sk k1 with e:=e2}:SL E).two=Vm.exec E.V p.m.mdl i z1.two:=by
  have hla':Vm.last z1.two.1=z1.top 1:=hz1.last;unfold Vm.exec;simp only[hop,hla'];refine Prod.ext ?_ (hs.2.trans (by rw[q2];rfl));exact p2
 repeat(refine Jy ?_;try first|intro ao cap|intro b)
 (refine Jc ?_;refine OpT.call0_ (spec:=look_is p ({z1.sk k1 with e:=e2}) t1 (ha ({z1.sk k1 with e:=e2}) t1 t3)) (r:=fun w=>Jm) (k:=?_);intro s hs;(refine Jn ?_))
 repeat(refine Jy ?_;try first|intro ao cap|intro b)
 (refine End.done1_ ((SL.look ({z1.sk k1 with e:=e2}) p.m)) (he:=Jv) (hp:=?_));exact⟨t1.look p.m,(t1.look_two p.m).trans (by rw[t3])⟩
set_option maxHeartbeats 2000000 in
theorem step8_is(p:Pl)(z:SL E)(hz:z.Wf)(hs:Stands p.m z)(h1:(z.look p.m).st=1)(hpc:z.f.pc≤100000)(hc:CanS p.m (z.moved p.m) (insL p.m z))(ha:After p.m (z.moved p.m) (insL p.m z))(hop:(insL p.m z).op=27):
  Fn Try.prog 19 #[ptr p.tb] [md p.m,E.rc] (TM p z) (σ:=SL E) (Gives z (Vm.step E.V p.m.mdl z.two).2) (fun _=> .bool (Vm.step E.V p.m.mdl z.two).1) (fun z'=>TM p z'):=by
 obtain⟨g1,g2,g3,g4,g5⟩:=id hs;have hl:0<z.cur.fr.length:=List.length_pos_iff.2 g1;have w1:IntKind.i64.wrap ((z.cur.fr.length:Int)-1)=((z.cur.fr.length-1:Nat):Int):=by rw[wrap_i64_in (by omega)];omega
 have w2:IntKind.i64.wrap ((z.f.pc:Int)+1)=((z.f.pc+1:Nat):Int):=by rw[wrap_i64_in (by omega)];omega
 refine Fn.enter (args:=[ptr p.tb]) Try.func19 rfl _ Try.ntmps19 rfl (by simp[rd_excl,md_excl]) (fun w S=>?_);(refine Jn ?_)
 repeat(refine Jy ?_;try first|intro ao cap|intro b)
 (refine Jc ?_;refine OpT.call0_ (spec:=look_is p z hz (fun _=>hs)) (r:=fun w=>Jm) (k:=?_);intro s hs;(refine Jn ?_))
 repeat(refine Jy ?_;try first|intro ao cap|intro b)
 apply Cod.draw 21 ([tkM p (z.look p.m),moM p,frM z.cur,md p.m]) (by kernel_rfl) 22 rfl;refine JR 0 ?_;refine JR 1 ?_;refine JR 2 ?_;refine JR 3 ?_;refine JR 4 ?_;refine JR 5 ?_;refine JR 6 ?_;refine JR 7 ?_;refine JR 8 ?_;refine JR 9 ?_;refine JR 10 ?_;refine JR 11 ?_;refine JR 12 ?_;refine JR 13 ?_;refine JR 14 ?_;refine JR 15 ?_;refine JR 16 ?_;refine JR 17 ?_;refine JR 18 ?_;refine JR 19 ?_;(refine JT 20 ?_;(first|refine Jw ?_|(refine Jb ?_;intro b)|(refine Ja ?_;intro ao cap));refine And.intro gud ?_);(refine JT 21 ?_;(first|refine Jw ?_|(refine Jb ?_;intro b)|(refine Ja ?_;intro ao cap));refine And.intro gud ?_);(apply RunT.done;kernel_rfl)
 repeat(refine Jy ?_;try first|intro ao cap|intro b)
 (apply Run.op;exact rfl;refine OpT.storeE_ (f:=frC) (l:=z.cur.fr) (i:=z.cur.fr.length-1) (off:=1) (vs:=[.int .i64 ((z.f.pc+1:Nat):Int)]) (a':=(⟨z.f.unit,z.f.pc+1,z.f.base⟩:Vm.Fr)) (k:=?_));apply Run.nil;apply End.seqN;obtain⟨ib,rfl⟩:∃x,x=b:=⟨_,rfl⟩;refine Cod.sub [(0,ptr p.tb),(2, .bool false),(3, .pointer (place (sz frC) z.cur.fo (z.cur.fr.length-1) 0)),(4,ptr ib)] (Ju) ?_;have hln:z.cur.fr.length=(z.cur.fr.set (z.cur.fr.length-1) (⟨z.f.unit,z.f.pc+1,z.f.base⟩:Vm.Fr)).length:=by rw[List.length_set]
 refine Cod.only (old w S::md p.m::E.rc::blk ib (insC (insL p.m z)) 49::TM p (z.moved p.m)) (Jx) ?_;have hpl:place (sz frC) z.cur.fo (z.cur.fr.length-1) 0=place (sz frC) (z.moved p.m).cur.fo ((z.moved p.m).cur.fr.length-1) 0:=by rw[show(z.moved p.m).cur.fr.length=z.cur.fr.length from List.length_set]
 rw[hpl];have hstep:=hz.step_two p.m h1;rw[hstep];have hz1:=hz.moved p.m;obtain⟨i,hi⟩:∃i,i=insL p.m z:=⟨_,rfl⟩;obtain⟨z1,hz1e⟩:∃z1,z1=z.moved p.m:=⟨_,rfl⟩;rw[←hi,←hz1e]at hc ha⊢;rw[←hz1e]at hz1;rw[←hi]at hop;obtain⟨s1,s2,s3⟩:=hc.recv hop;have htk:=E.take z1.e i.a.toNat hz1.env s2 s3;rw[Int.toNat_of_nonneg s1]at htk
 repeat(refine Jy ?_;try first|intro ao cap|intro b)
 (refine Jc ?_;refine OpT.callM_ (E.mTake) (E.bTake) (htk) (r:=fun w=>Reads.any (tk) E.rexcl .nil) (k:=?_);intro s hs;(refine Jn ?_));obtain⟨e1,rfl⟩:∃x,x=s:=⟨_,rfl⟩;obtain⟨q1,q2⟩:=hs
 repeat(refine Jy ?_;try first|intro ao cap|intro b)
 (refine Jc ?_;refine OpT.call0_ (spec:=tell_is E (z1.F p) z1.st z1.tr e1 ⟨q1,by rw[q2];have h5:=E.sTake (E.abs z1.e) i.a.toNat;have h6:=hc.size;omega⟩ 3 i.a (E.V.take (E.abs z1.e) i.a.toNat).1) (r:=fun w=>Reads.any (tk) E.rexcl .nil) (k:=?_);intro s hs;(refine Jn ?_));obtain⟨e2,rfl⟩:∃x,x=s:=⟨_,rfl⟩;have p1:({z1 with e:=e2}:SL E).Wf:=⟨hz1.now,hz1.len,hz1.few,hz1.at_,hz1.up,hz1.upl,hz1.sk,hs.1⟩;have hs2:=hs
 repeat(refine Jy ?_;try first|intro ao cap|intro b)
 (refine Jc ?_;refine OpT.call0_ (spec:=push_is' E (z1.F p) z1.st z1.tr e2 ⟨hs.1,by rw[hs.2,q2];have h5:=E.sTake (E.abs z1.e) i.a.toNat;have h6:=E.sTell (E.V.take (E.abs z1.e) i.a.toNat).2 (3,i.a,(E.V.take (E.abs z1.e) i.a.toNat).1);have h7:=hc.size;omega⟩ (z1.cur.st:Int) (ptrO z1.cur.upb) (.slice z1.cur.fo z1.cur.fr.length z1.cur.fc) z1.cur.sk hz1.curOk (E.V.take (E.abs z1.e) i.a.toNat).1) (r:=fun w=>Reads.any (tk) E.rexcl .nil) (k:=?_);intro s hs;(refine Jn ?_));obtain⟨q,rfl⟩:∃x,x=s:=⟨_,rfl⟩;obtain⟨t1,t2⟩:=pushed p1 hs;have t3:(({z1 with e:=e2}:SL E).put q).two=Vm.exec E.V p.m.mdl i z1.two:=by
  rw[t2];unfold Vm.exec;simp only[hop];show Vm.push E.V _ (z1.tk,E.abs e2)=_;rw[hs2.2,q2];rfl
 repeat(refine Jy ?_;try first|intro ao cap|intro b)
 (refine Jc ?_;refine OpT.call0_ (spec:=look_is p (({z1 with e:=e2}:SL E).put q) t1 (ha (({z1 with e:=e2}:SL E).put q) t1 t3)) (r:=fun w=>Jm) (k:=?_);intro s hs;(refine Jn ?_))
 repeat(refine Jy ?_;try first|intro ao cap|intro b)
 (refine End.done1_ ((SL.look (({z1 with e:=e2}:SL E).put q) p.m)) (he:=Jv) (hp:=?_));exact⟨t1.look p.m,(t1.look_two p.m).trans (by rw[t3])⟩
end Go.Proofs.Ytgnhfinabhimpaa.Vw


namespace Go.Proofs.Ytgnhfinabhimpaa.Vw
open Go.RowKit Go.Proofs.Ytgnhfinabhimpaa.Img
attribute [local irreducible] Run Cod End OpT Still RunQ RunS RunT Fn PutOk
variable{E:EnvM}
set_option maxHeartbeats 2000000 in
theorem step9_is(p:Pl)(z:SL E)(hz:z.Wf)(hs:Stands p.m z)(h1:(z.look p.m).st=1)(hpc:z.f.pc≤100000)(hc:CanS p.m (z.moved p.m) (insL p.m z))(ha:After p.m (z.moved p.m) (insL p.m z))(hop:(insL p.m z).op=3):
  Fn Try.prog 19 #[ptr p.tb] [md p.m,E.rc] (TM p z) (σ:=SL E) (Gives z (Vm.step E.V p.m.mdl z.two).2) (fun _=> .bool (Vm.step E.V p.m.mdl z.two).1) (fun z'=>TM p z'):=by
 obtain⟨g1,g2,g3,g4,g5⟩:=id hs;have hl:0<z.cur.fr.length:=List.length_pos_iff.2 g1;have w1:IntKind.i64.wrap ((z.cur.fr.length:Int)-1)=((z.cur.fr.length-1:Nat):Int):=by rw[wrap_i64_in (by omega)];omega
 have w2:IntKind.i64.wrap ((z.f.pc:Int)+1)=((z.f.pc+1:Nat):Int):=by rw[wrap_i64_in (by omega)];omega
 refine Fn.enter (args:=[ptr p.tb]) Try.func19 rfl _ Try.ntmps19 rfl (by simp[rd_excl,md_excl]) (fun w S=>?_);(refine Jn ?_)
 repeat(refine Jy ?_;try first|intro ao cap|intro b)
 (refine Jc ?_;refine OpT.call0_ (spec:=look_is p z hz (fun _=>hs)) (r:=fun w=>Jm) (k:=?_);intro s hs;(refine Jn ?_))
 repeat(refine Jy ?_;try first|intro ao cap|intro b)
 apply Cod.draw 21 ([tkM p (z.look p.m),moM p,frM z.cur,md p.m]) (by kernel_rfl) 22 rfl;refine JR 0 ?_;refine JR 1 ?_;refine JR 2 ?_;refine JR 3 ?_;refine JR 4 ?_;refine JR 5 ?_;refine JR 6 ?_;refine JR 7 ?_;refine JR 8 ?_;refine JR 9 ?_;refine JR 10 ?_;refine JR 11 ?_;refine JR 12 ?_;refine JR 13 ?_;refine JR 14 ?_;refine JR 15 ?_;refine JR 16 ?_;refine JR 17 ?_;refine JR 18 ?_;refine JR 19 ?_;(refine JT 20 ?_;(first|refine Jw ?_|(refine Jb ?_;intro b)|(refine Ja ?_;intro ao cap));refine And.intro gud ?_);(refine JT 21 ?_;(first|refine Jw ?_|(refine Jb ?_;intro b)|(refine Ja ?_;intro ao cap));refine And.intro gud ?_);(apply RunT.done;kernel_rfl)
 repeat(refine Jy ?_;try first|intro ao cap|intro b)
 (apply Run.op;exact rfl;refine OpT.storeE_ (f:=frC) (l:=z.cur.fr) (i:=z.cur.fr.length-1) (off:=1) (vs:=[.int .i64 ((z.f.pc+1:Nat):Int)]) (a':=(⟨z.f.unit,z.f.pc+1,z.f.base⟩:Vm.Fr)) (k:=?_));apply Run.nil;apply End.seqN;obtain⟨ib,rfl⟩:∃x,x=b:=⟨_,rfl⟩;refine Cod.sub [(0,ptr p.tb),(2, .bool false),(3, .pointer (place (sz frC) z.cur.fo (z.cur.fr.length-1) 0)),(4,ptr ib)] (Ju) ?_;have hln:z.cur.fr.length=(z.cur.fr.set (z.cur.fr.length-1) (⟨z.f.unit,z.f.pc+1,z.f.base⟩:Vm.Fr)).length:=by rw[List.length_set]
 refine Cod.only (old w S::md p.m::E.rc::blk ib (insC (insL p.m z)) 49::TM p (z.moved p.m)) (Jx) ?_;have hpl:place (sz frC) z.cur.fo (z.cur.fr.length-1) 0=place (sz frC) (z.moved p.m).cur.fo ((z.moved p.m).cur.fr.length-1) 0:=by rw[show(z.moved p.m).cur.fr.length=z.cur.fr.length from List.length_set]
 rw[hpl];have hstep:=hz.step_two p.m h1;rw[hstep];have hz1:=hz.moved p.m;obtain⟨i,hi⟩:∃i,i=insL p.m z:=⟨_,rfl⟩;obtain⟨z1,hz1e⟩:∃z1,z1=z.moved p.m:=⟨_,rfl⟩;rw[←hi,←hz1e]at hc ha⊢;rw[←hz1e]at hz1;rw[←hi]at hop;obtain⟨s1,s2⟩:=hc.load hop;have hk:=hz1.curOk;obtain⟨n,hn⟩:=Int.eq_ofNat_of_zero_le s1;have hn':i.a=(n:Int):=hn;have hnn:i.a.toNat=n:=by rw[hn'];rfl
 rw[hnn]at s2;have g6:=hk.live;have g7:=hk.hi;have hfl:z1.cur.fr.length=z.cur.fr.length:=by rw[hz1e];exact List.length_set
 have w3:IntKind.i64.wrap ((z1.f.base:Int)+i.a)=((z1.f.base+n:Nat):Int):=by rw[hn',wrap_i64_in (by omega)];omega
 repeat(refine Jy ?_;try first|intro ao cap|intro b)
 apply Cod.draw 18 ([tkM p z1,ccM z1.cur,frM z1.cur,blk ib (insC i) 49]) (by kernel_rfl) 19 rfl;refine JR 0 ?_;refine JR 1 ?_;refine JR 2 ?_;refine JR 3 ?_;refine JR 4 ?_;refine JR 5 ?_;refine JR 6 ?_;refine JR 7 ?_;refine JR 8 ?_;refine JR 9 ?_;refine JR 10 ?_;refine JR 11 ?_;refine JR 12 ?_;refine JR 13 ?_;refine JR 14 ?_;(refine JT 15 ?_;refine JK (at_is z1.cur.sk (z1.f.base+n) (by omega) g7) ?_;intro s hs;refine And.intro gud ?_;(refine Jn ?_));(refine JT 16 ?_;(first|refine Jw ?_|(refine Jb ?_;intro b)|(refine Ja ?_;intro ao cap));refine And.intro gud ?_);(refine JT 17 ?_;(first|refine Jw ?_|(refine Jb ?_;intro b)|(refine Ja ?_;intro ao cap));refine And.intro gud ?_);have hv:z1.cur.sk.l.getD (z1.f.base+n) default=z1.cur.sk.ws.getD (z1.f.base+n) 0:=by
  rw[List.getD_eq_getElem?_getD,List.getD_eq_getElem?_getD,List.getElem?_take,if_pos (by omega)];rfl
 rw[hv];(refine JT 18 ?_;refine OpT.call0_ (spec:=push_is' E (z1.F p) z1.st z1.tr z1.e (hc.okk hz1) (z1.cur.st:Int) (ptrO z1.cur.upb) (.slice z1.cur.fo z1.cur.fr.length z1.cur.fc) z1.cur.sk hz1.curOk (z1.cur.sk.ws.getD (z1.f.base+n) 0)) (r:=fun w=>Reads.any (tk) E.rexcl .nil) (k:=?_);intro s hs;refine And.intro gud ?_;(refine Jn ?_));(apply RunT.done;kernel_rfl);obtain⟨q,rfl⟩:∃x,x=s:=⟨_,rfl⟩;obtain⟨t1,t2⟩:=pushed hz1 hs;have t3:(z1.put q).two=Vm.exec E.V p.m.mdl i z1.two:=by
  rw[t2];unfold Vm.exec;simp only[hop,hnn];show _=Vm.push E.V ((Vm.cur z1.tk).ws.getD ((Vm.topF (Vm.cur z1.tk)).base+n) 0) z1.two;rw[hz1.topF,hz1.cur];rfl
 repeat(refine Jy ?_;try first|intro ao cap|intro b)
 (refine Jc ?_;refine OpT.call0_ (spec:=look_is p (z1.put q) t1 (ha (z1.put q) t1 t3)) (r:=fun w=>Jm) (k:=?_);intro s hs;(refine Jn ?_))
 repeat(refine Jy ?_;try first|intro ao cap|intro b)
 (refine End.done1_ ((SL.look (z1.put q) p.m)) (he:=Jv) (hp:=?_));exact⟨t1.look p.m,(t1.look_two p.m).trans (by rw[t3])⟩
set_option maxHeartbeats 2000000 in
theorem step10_is(p:Pl)(z:SL E)(hz:z.Wf)(hs:Stands p.m z)(h1:(z.look p.m).st=1)(hpc:z.f.pc≤100000)(hc:CanS p.m (z.moved p.m) (insL p.m z))(ha:After p.m (z.moved p.m) (insL p.m z))(hop:(insL p.m z).op=4):
  Fn Try.prog 19 #[ptr p.tb] [md p.m,E.rc] (TM p z) (σ:=SL E) (Gives z (Vm.step E.V p.m.mdl z.two).2) (fun _=> .bool (Vm.step E.V p.m.mdl z.two).1) (fun z'=>TM p z'):=by
 obtain⟨g1,g2,g3,g4,g5⟩:=id hs;have hl:0<z.cur.fr.length:=List.length_pos_iff.2 g1;have w1:IntKind.i64.wrap ((z.cur.fr.length:Int)-1)=((z.cur.fr.length-1:Nat):Int):=by rw[wrap_i64_in (by omega)];omega
 have w2:IntKind.i64.wrap ((z.f.pc:Int)+1)=((z.f.pc+1:Nat):Int):=by rw[wrap_i64_in (by omega)];omega
 refine Fn.enter (args:=[ptr p.tb]) Try.func19 rfl _ Try.ntmps19 rfl (by simp[rd_excl,md_excl]) (fun w S=>?_);(refine Jn ?_)
 repeat(refine Jy ?_;try first|intro ao cap|intro b)
 (refine Jc ?_;refine OpT.call0_ (spec:=look_is p z hz (fun _=>hs)) (r:=fun w=>Jm) (k:=?_);intro s hs;(refine Jn ?_))
 repeat(refine Jy ?_;try first|intro ao cap|intro b)
 apply Cod.draw 21 ([tkM p (z.look p.m),moM p,frM z.cur,md p.m]) (by kernel_rfl) 22 rfl;refine JR 0 ?_;refine JR 1 ?_;refine JR 2 ?_;refine JR 3 ?_;refine JR 4 ?_;refine JR 5 ?_;refine JR 6 ?_;refine JR 7 ?_;refine JR 8 ?_;refine JR 9 ?_;refine JR 10 ?_;refine JR 11 ?_;refine JR 12 ?_;refine JR 13 ?_;refine JR 14 ?_;refine JR 15 ?_;refine JR 16 ?_;refine JR 17 ?_;refine JR 18 ?_;refine JR 19 ?_;(refine JT 20 ?_;(first|refine Jw ?_|(refine Jb ?_;intro b)|(refine Ja ?_;intro ao cap));refine And.intro gud ?_);(refine JT 21 ?_;(first|refine Jw ?_|(refine Jb ?_;intro b)|(refine Ja ?_;intro ao cap));refine And.intro gud ?_);(apply RunT.done;kernel_rfl)
 repeat(refine Jy ?_;try first|intro ao cap|intro b)
 (apply Run.op;exact rfl;refine OpT.storeE_ (f:=frC) (l:=z.cur.fr) (i:=z.cur.fr.length-1) (off:=1) (vs:=[.int .i64 ((z.f.pc+1:Nat):Int)]) (a':=(⟨z.f.unit,z.f.pc+1,z.f.base⟩:Vm.Fr)) (k:=?_));apply Run.nil;apply End.seqN;obtain⟨ib,rfl⟩:∃x,x=b:=⟨_,rfl⟩;refine Cod.sub [(0,ptr p.tb),(2, .bool false),(3, .pointer (place (sz frC) z.cur.fo (z.cur.fr.length-1) 0)),(4,ptr ib)] (Ju) ?_;have hln:z.cur.fr.length=(z.cur.fr.set (z.cur.fr.length-1) (⟨z.f.unit,z.f.pc+1,z.f.base⟩:Vm.Fr)).length:=by rw[List.length_set]
 refine Cod.only (old w S::md p.m::E.rc::blk ib (insC (insL p.m z)) 49::TM p (z.moved p.m)) (Jx) ?_;have hpl:place (sz frC) z.cur.fo (z.cur.fr.length-1) 0=place (sz frC) (z.moved p.m).cur.fo ((z.moved p.m).cur.fr.length-1) 0:=by rw[show(z.moved p.m).cur.fr.length=z.cur.fr.length from List.length_set]
 rw[hpl];have hstep:=hz.step_two p.m h1;rw[hstep];have hz1:=hz.moved p.m;obtain⟨i,hi⟩:∃i,i=insL p.m z:=⟨_,rfl⟩;obtain⟨z1,hz1e⟩:∃z1,z1=z.moved p.m:=⟨_,rfl⟩;rw[←hi,←hz1e]at hc ha⊢;rw[←hz1e]at hz1;rw[←hi]at hop;have c1:=hc.some (by omega);obtain⟨s1,s2⟩:=hc.store hop;obtain⟨n,hn⟩:=Int.eq_ofNat_of_zero_le s1;have hn':i.a=(n:Int):=hn;have hnn:i.a.toNat=n:=by rw[hn'];rfl
 rw[hnn]at s2;have hfl:z1.cur.fr.length=z.cur.fr.length:=by rw[hz1e];exact List.length_set
 have g6:=hz1.curOk.live;have g7:=hz1.curOk.hi;have w3:IntKind.i64.wrap ((z1.f.base:Int)+i.a)=((z1.f.base+n:Nat):Int):=by rw[hn',wrap_i64_in (by omega)];omega
 repeat(refine Jy ?_;try first|intro ao cap|intro b)
 (apply Run.op;exact rfl;refine JK (pop_is' (z1.F p) z1.st z1.tr (z1.cur.st:Int) (ptrO z1.cur.upb) (.slice z1.cur.fo z1.cur.fr.length z1.cur.fc) E.mailV (toldV E.told) z1.cur.sk hz1.curOk c1) ?_;intro s hs;(refine Jn ?_));obtain⟨k1,rfl⟩:∃x,x=s:=⟨_,rfl⟩;have ht:=hs;obtain⟨p1,p2⟩:=popped hz1 hs;have hlv:k1.live=z1.cur.sk.live-1:=by have h:=ht.live;have h2:=Sk.len hz1.curOk;rw[List.length_take]at h;omega
 have g8:k1.live≤k1.l.length:=p1.curOk.live;have g9:k1.l.length≤400:=p1.curOk.hi;have g10:8≤k1.l.length:=p1.curOk.lo
 repeat(refine Jy ?_;try first|intro ao cap|intro b)
 apply Cod.draw 17 ([tkM p (z1.sk k1),ccM (z1.sk k1).cur,frM z1.cur,blk ib (insC i) 49]) (by kernel_rfl) 18 rfl;refine JR 0 ?_;refine JR 1 ?_;refine JR 2 ?_;refine JR 3 ?_;refine JR 4 ?_;refine JR 5 ?_;refine JR 6 ?_;refine JR 7 ?_;refine JR 8 ?_;refine JR 9 ?_;refine JR 10 ?_;refine JR 11 ?_;refine JR 12 ?_;refine JR 13 ?_;refine JR 15 ?_;(refine JT 14 ?_;refine JK (at_is k1 (z1.f.base+n) (by omega) g9) ?_;intro s hs;refine And.intro gud ?_;(refine Jn ?_));(refine JT 16 ?_;(first|refine Jw ?_|(refine Jb ?_;intro b)|(refine Ja ?_;intro ao cap));refine And.intro gud ?_);(refine JT 17 ?_;refine OpT.storeE_ (f:=i64c) (l:=k1.l) (i:=z1.f.base+n) (off:=0) (vs:=[.int .i64 (z1.top 1)]) (a':=z1.top 1) (k:=?_);refine And.intro gud ?_);(apply RunT.done;kernel_rfl);have hsl:(k1.l.set (z1.f.base+n) (z1.top 1)).length=k1.l.length:=List.length_set;obtain⟨k2,hk2e⟩:∃k2:Sk,k2=⟨k1.sb,k1.lb,k1.l.set (z1.f.base+n) (z1.top 1),k1.live⟩:=⟨_,rfl⟩;have hk2:k2.Ok:=by rw[hk2e];exact⟨by rw[hsl];exact g8,by rw[hsl];exact g10,by rw[hsl];exact g9⟩
 have q1:k1.sb=k2.sb:=by rw[hk2e]
 have q2:skC k1=skC k2:=by rw[hk2e];simp
 have q3:arr (some ⟨k1.lb,0,none⟩) k1.l.length k1.l.length 2 i64c (k1.l.set (z1.f.base+n) (z1.top 1))=arr (some ⟨k2.lb,0,none⟩) k2.l.length k2.l.length 2 i64c k2.l:=by rw[hk2e];simp
 rw[q2,q3,q1];have t1:((z1.sk k1).sk k2).Wf:=p1.setCur rfl rfl rfl hk2;have t3:((z1.sk k1).sk k2).two=Vm.exec E.V p.m.mdl i z1.two:=by
  have hla':Vm.last z1.two.1=z1.top 1:=hz1.last;unfold Vm.exec;simp only[hop,hla',hnn];refine Prod.ext ?_ rfl;show SL.tk _=Vm.setCur (Vm.drop 1 z1.tk) {Vm.cur (Vm.drop 1 z1.tk)with ws:=(Vm.cur (Vm.drop 1 z1.tk)).ws.set ((Vm.topF (Vm.cur (Vm.drop 1 z1.tk))).base+n) (z1.top 1)};rw[←p2,p1.topF,p1.cur,SL.tk_cur,hk2e];congr 1;show(⟨_,_,_,(k1.l.set (z1.f.base+n) (z1.top 1)).take k1.live⟩:Vm.Co)=⟨_,_,_,(k1.l.take k1.live).set (z1.f.base+n) (z1.top 1)⟩;rw[List.take_set];rfl
 repeat(refine Jy ?_;try first|intro ao cap|intro b)
 (refine Jc ?_;refine OpT.call0_ (spec:=look_is p ((z1.sk k1).sk k2) t1 (ha ((z1.sk k1).sk k2) t1 t3)) (r:=fun w=>Jm) (k:=?_);intro s hs;(refine Jn ?_))
 repeat(refine Jy ?_;try first|intro ao cap|intro b)
 (refine End.done1_ ((SL.look ((z1.sk k1).sk k2) p.m)) (he:=Jv) (hp:=?_));exact⟨t1.look p.m,(t1.look_two p.m).trans (by rw[t3])⟩
set_option maxHeartbeats 2000000 in
theorem step11_is(p:Pl)(z:SL E)(hz:z.Wf)(hs:Stands p.m z)(h1:(z.look p.m).st=1)(hpc:z.f.pc≤100000)(hc:CanS p.m (z.moved p.m) (insL p.m z))(ha:After p.m (z.moved p.m) (insL p.m z))(hop:(insL p.m z).op=23∨(insL p.m z).op=24∨(insL p.m z).op=25∨(29≤(insL p.m z).op∧(insL p.m z).op≤32)):
  Fn Try.prog 19 #[ptr p.tb] [md p.m,E.rc] (TM p z) (σ:=SL E) (Gives z (Vm.step E.V p.m.mdl z.two).2) (fun _=> .bool (Vm.step E.V p.m.mdl z.two).1) (fun z'=>TM p z'):=by
 obtain⟨g1,g2,g3,g4,g5⟩:=id hs;have hl:0<z.cur.fr.length:=List.length_pos_iff.2 g1;have w1:IntKind.i64.wrap ((z.cur.fr.length:Int)-1)=((z.cur.fr.length-1:Nat):Int):=by rw[wrap_i64_in (by omega)];omega
 have w2:IntKind.i64.wrap ((z.f.pc:Int)+1)=((z.f.pc+1:Nat):Int):=by rw[wrap_i64_in (by omega)];omega
 refine Fn.enter (args:=[ptr p.tb]) Try.func19 rfl _ Try.ntmps19 rfl (by simp[rd_excl,md_excl]) (fun w S=>?_);(refine Jn ?_)
 repeat(refine Jy ?_;try first|intro ao cap|intro b)
 (refine Jc ?_;refine OpT.call0_ (spec:=look_is p z hz (fun _=>hs)) (r:=fun w=>Jm) (k:=?_);intro s hs;(refine Jn ?_))
 repeat(refine Jy ?_;try first|intro ao cap|intro b)
 apply Cod.draw 21 ([tkM p (z.look p.m),moM p,frM z.cur,md p.m]) (by kernel_rfl) 22 rfl;refine JR 0 ?_;refine JR 1 ?_;refine JR 2 ?_;refine JR 3 ?_;refine JR 4 ?_;refine JR 5 ?_;refine JR 6 ?_;refine JR 7 ?_;refine JR 8 ?_;refine JR 9 ?_;refine JR 10 ?_;refine JR 11 ?_;refine JR 12 ?_;refine JR 13 ?_;refine JR 14 ?_;refine JR 15 ?_;refine JR 16 ?_;refine JR 17 ?_;refine JR 18 ?_;refine JR 19 ?_;(refine JT 20 ?_;(first|refine Jw ?_|(refine Jb ?_;intro b)|(refine Ja ?_;intro ao cap));refine And.intro gud ?_);(refine JT 21 ?_;(first|refine Jw ?_|(refine Jb ?_;intro b)|(refine Ja ?_;intro ao cap));refine And.intro gud ?_);(apply RunT.done;kernel_rfl)
 repeat(refine Jy ?_;try first|intro ao cap|intro b)
 (apply Run.op;exact rfl;refine OpT.storeE_ (f:=frC) (l:=z.cur.fr) (i:=z.cur.fr.length-1) (off:=1) (vs:=[.int .i64 ((z.f.pc+1:Nat):Int)]) (a':=(⟨z.f.unit,z.f.pc+1,z.f.base⟩:Vm.Fr)) (k:=?_));apply Run.nil;apply End.seqN;obtain⟨ib,rfl⟩:∃x,x=b:=⟨_,rfl⟩;refine Cod.sub [(0,ptr p.tb),(2, .bool false),(3, .pointer (place (sz frC) z.cur.fo (z.cur.fr.length-1) 0)),(4,ptr ib)] (Ju) ?_;have hln:z.cur.fr.length=(z.cur.fr.set (z.cur.fr.length-1) (⟨z.f.unit,z.f.pc+1,z.f.base⟩:Vm.Fr)).length:=by rw[List.length_set]
 refine Cod.only (old w S::md p.m::E.rc::blk ib (insC (insL p.m z)) 49::TM p (z.moved p.m)) (Jx) ?_;have hpl:place (sz frC) z.cur.fo (z.cur.fr.length-1) 0=place (sz frC) (z.moved p.m).cur.fo ((z.moved p.m).cur.fr.length-1) 0:=by rw[show(z.moved p.m).cur.fr.length=z.cur.fr.length from List.length_set]
 rw[hpl];have hstep:=hz.step_two p.m h1;rw[hstep];have hz1:=hz.moved p.m;obtain⟨i,hi⟩:∃i,i=insL p.m z:=⟨_,rfl⟩;obtain⟨z1,hz1e⟩:∃z1,z1=z.moved p.m:=⟨_,rfl⟩;rw[←hi,←hz1e]at hc ha⊢;rw[←hz1e]at hz1;rw[←hi]at hop
 by_cases h20:i.op≤20
 ·omega
 repeat(refine Jy ?_;try first|intro ao cap|intro b)
 (refine Jc ?_;refine OpT.call0_ (spec:=units_is p z1 hz1 i hc.units hop) (r:=fun w=>Jm) (k:=?_);intro s hs;(refine Jn ?_));obtain⟨z2,rfl⟩:∃x,x=s:=⟨_,rfl⟩;have t1:=hs.wf;have t3:=hs.two
 repeat(refine Jy ?_;try first|intro ao cap|intro b)
 (refine Jc ?_;refine OpT.call0_ (spec:=look_is p (z2) t1 (ha (z2) t1 t3)) (r:=fun w=>Jm) (k:=?_);intro s hs;(refine Jn ?_))
 repeat(refine Jy ?_;try first|intro ao cap|intro b)
 (refine End.done1_ ((SL.look (z2) p.m)) (he:=Jv) (hp:=?_));exact⟨t1.look p.m,(t1.look_two p.m).trans (by rw[t3])⟩
end Go.Proofs.Ytgnhfinabhimpaa.Vw
