/- A step's operations, walked. -/
import Derived.Test.YtjehflelkpacfaaGreatM25
set_option linter.unusedVariables false
set_option linter.unusedSimpArgs false
set_option linter.unusedSectionVars false
set_option maxRecDepth 100000
namespace Go.Proofs.YtjehflelkpacfaaGreat.Vw
open Go.RowKit Go.Proofs.YtjehflelkpacfaaGreat.Img
section
attribute [local irreducible] Run Cod End OpT Still RunQ RunS RunT Fn PutOk
variable{E:EnvM}
set_option maxHeartbeats 2000000 in
theorem step3_is(p:Pl)(z:SL E)(hz:z.Wf)(hs:Stands p.m z)(h1:(z.look p.m).st=1)(hpc:z.f.pc≤100000)(hc:CanS p.m (z.moved p.m) (insL p.m z))(ha:After p.m (z.moved p.m) (insL p.m z))(hop:8≤(insL p.m z).op∧(insL p.m z).op≤20):
  Fn Tryz.prog 31 #[ptr p.tb] [md p.m,E.rc] (TM p z) (σ:=SL E) (Gives z (Vm.step E.V p.m.mdl z.two).2) (fun _=> .bool (Vm.step E.V p.m.mdl z.two).1) (fun z'=>TM p z'):=by
 obtain⟨g1,g2,g3,g4,g5⟩:=id hs;have hl:0<z.cur.fr.length:=JP.2 g1;have w1:IntKind.i64.wrap ((z.cur.fr.length:Int)-1)=((z.cur.fr.length-1:Nat):Int):=by rw[wrap_i64_in (by omega)];omega
 have w2:IntKind.i64.wrap ((z.f.pc:Int)+1)=((z.f.pc+1:Nat):Int):=by rw[wrap_i64_in (by omega)];omega
 refine JE [ptr p.tb] Tryz.func31 Tryz.ntmps31 fun w S=>?_
 (refine Jn ?_)
 repeat(refine Jy ?_;try first|intro ao cap|intro b)
 (refine Jc ?_;refine OpT.call0_ (spec:=look_is p z hz (fun _=>hs)) (r:=fun w=>Jm) (k:=?_);intro s hs;(refine Jn ?_))
 repeat(refine Jy ?_;try first|intro ao cap|intro b)
 apply Cod.draw 21 ([tkM p (z.look p.m),moM p,frM z.cur,md p.m]) (by kernel_rfl) 22 rfl;refine JR 0 ?_;refine JR 1 ?_;refine JR 2 ?_;refine JR 3 ?_;refine JR 4 ?_;refine JR 5 ?_;refine JR 6 ?_;refine JR 7 ?_;refine JR 8 ?_;refine JR 9 ?_;refine JR 10 ?_;refine JR 11 ?_;refine JR 12 ?_;refine JR 13 ?_;refine JR 14 ?_;refine JR 15 ?_;refine JR 16 ?_;refine JR 17 ?_;refine JR 18 ?_;refine JR 19 ?_;(refine JT 20 ?_;(first|refine Jw ?_|(refine Jb ?_;intro b)|(refine Ja ?_;intro ao cap));refine JG ?_);(refine JT 21 ?_;(first|refine Jw ?_|(refine Jb ?_;intro b)|(refine Ja ?_;intro ao cap));refine JG ?_);(apply RunT.done;kernel_rfl)
 repeat(refine Jy ?_;try first|intro ao cap|intro b)
 (apply Run.op;exact rfl;refine OpT.storeE_ (f:=frC) (l:=z.cur.fr) (i:=z.cur.fr.length-1) (off:=1) (vs:=[.int .i64 ((z.f.pc+1:Nat):Int)]) (a':=(⟨z.f.unit,z.f.pc+1,z.f.base⟩:Vm.Fr)) (k:=?_));apply Run.nil;apply End.seqN;obtain⟨ib,rfl⟩:∃x,x=b:=⟨_,rfl⟩;refine Cod.sub [(0,ptr p.tb),(2, .bool false),(3, .pointer (place (sz frC) z.cur.fo (z.cur.fr.length-1) 0)),(4,ptr ib)] (Ju) ?_;have hln:z.cur.fr.length=(z.cur.fr.set (z.cur.fr.length-1) (⟨z.f.unit,z.f.pc+1,z.f.base⟩:Vm.Fr)).length:=by rw[Ji]
 refine Cod.only (old w S::md p.m::E.rc::blk ib (insC (insL p.m z)) 126::TM p (z.moved p.m)) (Jx) ?_;have hpl:place (sz frC) z.cur.fo (z.cur.fr.length-1) 0=place (sz frC) (z.moved p.m).cur.fo ((z.moved p.m).cur.fr.length-1) 0:=by rw[show(z.moved p.m).cur.fr.length=z.cur.fr.length from Ji]
 rw[hpl];have hstep:=hz.step_two p.m h1;rw[hstep];have hz1:=hz.moved p.m;obtain⟨i,hi⟩:∃i,i=insL p.m z:=⟨_,rfl⟩;obtain⟨z1,hz1e⟩:∃z1,z1=z.moved p.m:=⟨_,rfl⟩;rw[←hi,←hz1e]at hc ha⊢;rw[←hz1e]at hz1;rw[←hi]at hop;obtain⟨c1,c2,c3⟩:=hc.two hop
 repeat(refine Jy ?_;try first|intro ao cap|intro b)
 (refine JQ (pop_is' (z1.F p) z1.st z1.tr (z1.cur.st:Int) (ptrO z1.cur.upb) (.slice z1.cur.fo z1.cur.fr.length z1.cur.fc) E.mailV (toldV E.told) z1.cur.sk hz1.curOk (by omega)) ?_;intro s hs;(refine Jn ?_));obtain⟨k1,rfl⟩:∃x,x=s:=⟨_,rfl⟩;have ht:=hs;obtain⟨p1,p2⟩:=popped hz1 hs;have hlv:k1.live=z1.cur.sk.live-1:=by have h:=ht.live;have h2:=Sk.len hz1.curOk;rw[List.length_take]at h;omega
 have hv2:k1.ws.getD (k1.live-1) 0=z1.top 2:=by
  rw[ht.ws,hlv];show(z1.cur.sk.ws.take (z1.cur.sk.live-1)).getD (z1.cur.sk.live-1-1) 0=z1.cur.sk.ws.getD (z1.cur.sk.live-2) 0;rw[Jd,Jd,List.getElem?_take,if_pos (by omega),Nat.sub_sub]
 repeat(refine Jy ?_;try first|intro ao cap|intro b)
 (refine JQ (pop_is' (z1.F p) z1.st z1.tr (z1.cur.st:Int) (ptrO z1.cur.upb) (.slice z1.cur.fo z1.cur.fr.length z1.cur.fc) E.mailV (toldV E.told) k1 p1.curOk (by omega)) ?_;intro s hs;(refine Jn ?_));obtain⟨k2,rfl⟩:∃x,x=s:=⟨_,rfl⟩;obtain⟨p3,p4⟩:=popped p1 hs;rw[hv2];have hl2:Vm.last (Vm.drop 1 z1.tk)=z1.top 2:=by rw[←p2,p1.last];exact hv2
 have hdd:Vm.drop 1 (Vm.drop 1 z1.tk)=((z1.sk k1).sk k2).tk:=by rw[p4,p2]
 have htrap:i.op=11∨i.op=12→z1.cur.sk.ws.getD (z1.cur.sk.live-1) 0=0→Vm.trap E.V 1 ((z1.sk k1).sk k2).two=Vm.exec E.V p.m.mdl i z1.two:=fun h hb=>by
  have hl1:Vm.last z1.two.1=0:=hz1.last.trans hb;unfold Vm.exec;dsimp only;rw[if_neg (by omega),if_neg (by omega),if_neg (by omega),if_neg (by omega),if_neg (by omega),if_neg (by omega),if_neg (by omega),if_pos hop,if_pos ⟨h,hl1⟩];show Vm.trap E.V 1 (((z1.sk k1).sk k2).tk,E.abs z1.e)=Vm.trap E.V 1 (Vm.drop 1 (Vm.drop 1 z1.tk),E.abs z1.e);rw[hdd]
 have hpush:(i.op=11∨i.op=12→z1.top 1≠0)→Vm.push E.V (Opt.two2 i.op (z1.top 2) (z1.top 1)) ((z1.sk k1).sk k2).two=Vm.exec E.V p.m.mdl i z1.two:=fun h=>by
  have hl1:Vm.last z1.two.1=z1.top 1:=hz1.last;unfold Vm.exec;dsimp only;rw[if_neg (by omega),if_neg (by omega),if_neg (by omega),if_neg (by omega),if_neg (by omega),if_neg (by omega),if_neg (by omega),if_pos hop,if_neg (fun x=>h x.1 (hl1.symm.trans x.2))];show Vm.push E.V _ (((z1.sk k1).sk k2).tk,E.abs z1.e)=Vm.push E.V (Opt.two2 i.op (Vm.last (Vm.drop 1 z1.tk)) (Vm.last z1.tk)) (Vm.drop 1 (Vm.drop 1 z1.tk),E.abs z1.e);rw[hdd,hl2,hz1.last]
 by_cases hb:z1.cur.sk.ws.getD (z1.cur.sk.live-1) 0=0
 ·by_cases e11:i.op=11
  ·repeat(refine Jy ?_;try first|intro ao cap|intro b)
   (refine Jc ?_;refine OpT.call0_ (spec:=trap_is E (z1.F p) z1.st z1.tr z1.e (hc.okk hz1) 1) (r:=fun w=>Reads.any (tk) E.rexcl .nil) (k:=?_);intro s hs;(refine Jn ?_));obtain⟨q,rfl⟩:∃x,x=s:=⟨_,rfl⟩;obtain⟨t1,t2⟩:=trapped p3 hs;have t3:(((z1.sk k1).sk k2).thr q.1 q.2.1 q.2.2).two=Vm.exec E.V p.m.mdl i z1.two:=t2.trans (htrap (by omega) hb)
   repeat(refine Jy ?_;try first|intro ao cap|intro b)
   (refine JM (look_is p (((z1.sk k1).sk k2).thr q.1 q.2.1 q.2.2) t1 (ha (((z1.sk k1).sk k2).thr q.1 q.2.1 q.2.2) t1 t3)) ?_;intro s hs;(refine Jn ?_))
   repeat(refine Jy ?_;try first|intro ao cap|intro b)
   (refine End.done1_ ((SL.look (((z1.sk k1).sk k2).thr q.1 q.2.1 q.2.2) p.m)) (he:=Jv) (hp:=?_));exact⟨t1.look p.m,(t1.look_two p.m).trans (by rw[t3])⟩
  ·by_cases e12:i.op=12
   ·repeat(refine Jy ?_;try first|intro ao cap|intro b)
    (refine Jc ?_;refine OpT.call0_ (spec:=trap_is E (z1.F p) z1.st z1.tr z1.e (hc.okk hz1) 1) (r:=fun w=>Reads.any (tk) E.rexcl .nil) (k:=?_);intro s hs;(refine Jn ?_));obtain⟨q,rfl⟩:∃x,x=s:=⟨_,rfl⟩;obtain⟨t1,t2⟩:=trapped p3 hs;have t3:(((z1.sk k1).sk k2).thr q.1 q.2.1 q.2.2).two=Vm.exec E.V p.m.mdl i z1.two:=t2.trans (htrap (by omega) hb)
    repeat(refine Jy ?_;try first|intro ao cap|intro b)
    (refine JM (look_is p (((z1.sk k1).sk k2).thr q.1 q.2.1 q.2.2) t1 (ha (((z1.sk k1).sk k2).thr q.1 q.2.1 q.2.2) t1 t3)) ?_;intro s hs;(refine Jn ?_))
    repeat(refine Jy ?_;try first|intro ao cap|intro b)
    (refine End.done1_ ((SL.look (((z1.sk k1).sk k2).thr q.1 q.2.1 q.2.2) p.m)) (he:=Jv) (hp:=?_));exact⟨t1.look p.m,(t1.look_two p.m).trans (by rw[t3])⟩
   ·have hne:i.op=11∨i.op=12→z1.top 1≠0:=fun h=>by omega
    repeat(refine Jy ?_;try first|intro ao cap|intro b)
    (refine JQ (two2_is i.op (z1.top 2) (z1.top 1) c3 c2 (fun h=>hne h)) ?_;intro s hs;(refine Jn ?_))
    repeat(refine Jy ?_;try first|intro ao cap|intro b)
    (refine Jc ?_;refine OpT.call0_ (spec:=push_is' E (z1.F p) z1.st z1.tr z1.e (hc.okk hz1) (z1.cur.st:Int) (ptrO z1.cur.upb) (.slice z1.cur.fo z1.cur.fr.length z1.cur.fc) k2 p3.curOk (Opt.two2 i.op (z1.top 2) (z1.top 1))) (r:=fun w=>Reads.any (tk) E.rexcl .nil) (k:=?_);intro s hs;(refine Jn ?_));obtain⟨q,rfl⟩:∃x,x=s:=⟨_,rfl⟩;obtain⟨t1,t2⟩:=pushed p3 hs;have t3:(((z1.sk k1).sk k2).put q).two=Vm.exec E.V p.m.mdl i z1.two:=t2.trans (hpush hne)
    repeat(refine Jy ?_;try first|intro ao cap|intro b)
    (refine JM (look_is p (((z1.sk k1).sk k2).put q) t1 (ha (((z1.sk k1).sk k2).put q) t1 t3)) ?_;intro s hs;(refine Jn ?_))
    repeat(refine Jy ?_;try first|intro ao cap|intro b)
    (refine End.done1_ ((SL.look (((z1.sk k1).sk k2).put q) p.m)) (he:=Jv) (hp:=?_));exact⟨t1.look p.m,(t1.look_two p.m).trans (by rw[t3])⟩
 ·have hne:i.op=11∨i.op=12→z1.top 1≠0:=fun h=>hb
  by_cases e11:i.op=11
  ·repeat(refine Jy ?_;try first|intro ao cap|intro b)
   (refine JQ (two2_is i.op (z1.top 2) (z1.top 1) c3 c2 (fun h=>hne h)) ?_;intro s hs;(refine Jn ?_))
   repeat(refine Jy ?_;try first|intro ao cap|intro b)
   (refine Jc ?_;refine OpT.call0_ (spec:=push_is' E (z1.F p) z1.st z1.tr z1.e (hc.okk hz1) (z1.cur.st:Int) (ptrO z1.cur.upb) (.slice z1.cur.fo z1.cur.fr.length z1.cur.fc) k2 p3.curOk (Opt.two2 i.op (z1.top 2) (z1.top 1))) (r:=fun w=>Reads.any (tk) E.rexcl .nil) (k:=?_);intro s hs;(refine Jn ?_));obtain⟨q,rfl⟩:∃x,x=s:=⟨_,rfl⟩;obtain⟨t1,t2⟩:=pushed p3 hs;have t3:(((z1.sk k1).sk k2).put q).two=Vm.exec E.V p.m.mdl i z1.two:=t2.trans (hpush hne)
   repeat(refine Jy ?_;try first|intro ao cap|intro b)
   (refine JM (look_is p (((z1.sk k1).sk k2).put q) t1 (ha (((z1.sk k1).sk k2).put q) t1 t3)) ?_;intro s hs;(refine Jn ?_))
   repeat(refine Jy ?_;try first|intro ao cap|intro b)
   (refine End.done1_ ((SL.look (((z1.sk k1).sk k2).put q) p.m)) (he:=Jv) (hp:=?_));exact⟨t1.look p.m,(t1.look_two p.m).trans (by rw[t3])⟩
  ·by_cases e12:i.op=12
   ·repeat(refine Jy ?_;try first|intro ao cap|intro b)
    (refine JQ (two2_is i.op (z1.top 2) (z1.top 1) c3 c2 (fun h=>hne h)) ?_;intro s hs;(refine Jn ?_))
    repeat(refine Jy ?_;try first|intro ao cap|intro b)
    (refine Jc ?_;refine OpT.call0_ (spec:=push_is' E (z1.F p) z1.st z1.tr z1.e (hc.okk hz1) (z1.cur.st:Int) (ptrO z1.cur.upb) (.slice z1.cur.fo z1.cur.fr.length z1.cur.fc) k2 p3.curOk (Opt.two2 i.op (z1.top 2) (z1.top 1))) (r:=fun w=>Reads.any (tk) E.rexcl .nil) (k:=?_);intro s hs;(refine Jn ?_));obtain⟨q,rfl⟩:∃x,x=s:=⟨_,rfl⟩;obtain⟨t1,t2⟩:=pushed p3 hs;have t3:(((z1.sk k1).sk k2).put q).two=Vm.exec E.V p.m.mdl i z1.two:=t2.trans (hpush hne)
    repeat(refine Jy ?_;try first|intro ao cap|intro b)
    (refine JM (look_is p (((z1.sk k1).sk k2).put q) t1 (ha (((z1.sk k1).sk k2).put q) t1 t3)) ?_;intro s hs;(refine Jn ?_))
    repeat(refine Jy ?_;try first|intro ao cap|intro b)
    (refine End.done1_ ((SL.look (((z1.sk k1).sk k2).put q) p.m)) (he:=Jv) (hp:=?_));exact⟨t1.look p.m,(t1.look_two p.m).trans (by rw[t3])⟩
   ·repeat(refine Jy ?_;try first|intro ao cap|intro b)
    (refine JQ (two2_is i.op (z1.top 2) (z1.top 1) c3 c2 (fun h=>hne h)) ?_;intro s hs;(refine Jn ?_))
    repeat(refine Jy ?_;try first|intro ao cap|intro b)
    (refine Jc ?_;refine OpT.call0_ (spec:=push_is' E (z1.F p) z1.st z1.tr z1.e (hc.okk hz1) (z1.cur.st:Int) (ptrO z1.cur.upb) (.slice z1.cur.fo z1.cur.fr.length z1.cur.fc) k2 p3.curOk (Opt.two2 i.op (z1.top 2) (z1.top 1))) (r:=fun w=>Reads.any (tk) E.rexcl .nil) (k:=?_);intro s hs;(refine Jn ?_));obtain⟨q,rfl⟩:∃x,x=s:=⟨_,rfl⟩;obtain⟨t1,t2⟩:=pushed p3 hs;have t3:(((z1.sk k1).sk k2).put q).two=Vm.exec E.V p.m.mdl i z1.two:=t2.trans (hpush hne)
    repeat(refine Jy ?_;try first|intro ao cap|intro b)
    (refine JM (look_is p (((z1.sk k1).sk k2).put q) t1 (ha (((z1.sk k1).sk k2).put q) t1 t3)) ?_;intro s hs;(refine Jn ?_))
    repeat(refine Jy ?_;try first|intro ao cap|intro b)
    (refine End.done1_ ((SL.look (((z1.sk k1).sk k2).put q) p.m)) (he:=Jv) (hp:=?_));exact⟨t1.look p.m,(t1.look_two p.m).trans (by rw[t3])⟩
end
section
attribute [local irreducible] Run Cod End OpT Still RunQ RunS RunT Fn PutOk
variable{E:EnvM}
abbrev SL.at_(z:SL E)(n:Nat):SL E:={z with cur:={z.cur with fr:=z.cur.fr.set (z.cur.fr.length-1) ⟨z.f.unit,n,z.f.base⟩}}
theorem SL.Wf.setAt{z:SL E}(hz:z.Wf)(n:Nat):(z.at_ n).Wf∧(z.at_ n).tk=Vm.setPc n z.tk:=by
 refine⟨hz.setCur rfl rfl rfl hz.curOk,?_⟩;unfold Vm.setPc Vm.setTop;rw[hz.topF,hz.cur];exact SL.tk_cur z _
set_option maxHeartbeats 2000000 in
theorem step4_is(p:Pl)(z:SL E)(hz:z.Wf)(hs:Stands p.m z)(h1:(z.look p.m).st=1)(hpc:z.f.pc≤100000)(hc:CanS p.m (z.moved p.m) (insL p.m z))(ha:After p.m (z.moved p.m) (insL p.m z))(hop:(insL p.m z).op=21):
  Fn Tryz.prog 31 #[ptr p.tb] [md p.m,E.rc] (TM p z) (σ:=SL E) (Gives z (Vm.step E.V p.m.mdl z.two).2) (fun _=> .bool (Vm.step E.V p.m.mdl z.two).1) (fun z'=>TM p z'):=by
 obtain⟨g1,g2,g3,g4,g5⟩:=id hs;have hl:0<z.cur.fr.length:=JP.2 g1;have w1:IntKind.i64.wrap ((z.cur.fr.length:Int)-1)=((z.cur.fr.length-1:Nat):Int):=by rw[wrap_i64_in (by omega)];omega
 have w2:IntKind.i64.wrap ((z.f.pc:Int)+1)=((z.f.pc+1:Nat):Int):=by rw[wrap_i64_in (by omega)];omega
 refine JE [ptr p.tb] Tryz.func31 Tryz.ntmps31 fun w S=>?_
 (refine Jn ?_)
 repeat(refine Jy ?_;try first|intro ao cap|intro b)
 (refine Jc ?_;refine OpT.call0_ (spec:=look_is p z hz (fun _=>hs)) (r:=fun w=>Jm) (k:=?_);intro s hs;(refine Jn ?_))
 repeat(refine Jy ?_;try first|intro ao cap|intro b)
 apply Cod.draw 21 ([tkM p (z.look p.m),moM p,frM z.cur,md p.m]) (by kernel_rfl) 22 rfl;refine JR 0 ?_;refine JR 1 ?_;refine JR 2 ?_;refine JR 3 ?_;refine JR 4 ?_;refine JR 5 ?_;refine JR 6 ?_;refine JR 7 ?_;refine JR 8 ?_;refine JR 9 ?_;refine JR 10 ?_;refine JR 11 ?_;refine JR 12 ?_;refine JR 13 ?_;refine JR 14 ?_;refine JR 15 ?_;refine JR 16 ?_;refine JR 17 ?_;refine JR 18 ?_;refine JR 19 ?_;(refine JT 20 ?_;(first|refine Jw ?_|(refine Jb ?_;intro b)|(refine Ja ?_;intro ao cap));refine JG ?_);(refine JT 21 ?_;(first|refine Jw ?_|(refine Jb ?_;intro b)|(refine Ja ?_;intro ao cap));refine JG ?_);(apply RunT.done;kernel_rfl)
 repeat(refine Jy ?_;try first|intro ao cap|intro b)
 (apply Run.op;exact rfl;refine OpT.storeE_ (f:=frC) (l:=z.cur.fr) (i:=z.cur.fr.length-1) (off:=1) (vs:=[.int .i64 ((z.f.pc+1:Nat):Int)]) (a':=(⟨z.f.unit,z.f.pc+1,z.f.base⟩:Vm.Fr)) (k:=?_));apply Run.nil;apply End.seqN;obtain⟨ib,rfl⟩:∃x,x=b:=⟨_,rfl⟩;refine Cod.sub [(0,ptr p.tb),(2, .bool false),(3, .pointer (place (sz frC) z.cur.fo (z.cur.fr.length-1) 0)),(4,ptr ib)] (Ju) ?_;have hln:z.cur.fr.length=(z.cur.fr.set (z.cur.fr.length-1) (⟨z.f.unit,z.f.pc+1,z.f.base⟩:Vm.Fr)).length:=by rw[Ji]
 refine Cod.only (old w S::md p.m::E.rc::blk ib (insC (insL p.m z)) 126::TM p (z.moved p.m)) (Jx) ?_;have hpl:place (sz frC) z.cur.fo (z.cur.fr.length-1) 0=place (sz frC) (z.moved p.m).cur.fo ((z.moved p.m).cur.fr.length-1) 0:=by rw[show(z.moved p.m).cur.fr.length=z.cur.fr.length from Ji]
 rw[hpl];have hstep:=hz.step_two p.m h1;rw[hstep];have hz1:=hz.moved p.m;obtain⟨i,hi⟩:∃i,i=insL p.m z:=⟨_,rfl⟩;obtain⟨z1,hz1e⟩:∃z1,z1=z.moved p.m:=⟨_,rfl⟩;rw[←hi,←hz1e]at hc ha⊢;rw[←hz1e]at hz1;rw[←hi]at hop;have a0:=hc.jump (.inl hop);obtain⟨n,hn⟩:=JI a0;have hn':i.a=(n:Int):=hn;have hfl:z1.cur.fr.length=z.cur.fr.length:=by rw[hz1e];exact Ji
 repeat(refine Jy ?_;try first|intro ao cap|intro b)
 rw[hn'];(apply Run.op;exact rfl;refine OpT.storeE_ (f:=frC) (l:=z1.cur.fr) (i:=z1.cur.fr.length-1) (off:=1) (vs:=[.int .i64 (n:Int)]) (a':=(⟨z1.f.unit,n,z1.f.base⟩:Vm.Fr)) (k:=?_))
 repeat(refine Jy ?_;try first|intro ao cap|intro b)
 obtain⟨t1,t2⟩:=hz1.setAt n;refine Run.only' (old w S::md p.m::E.rc::TM p (z1.at_ n)) (Jx) ?_;have t3:(z1.at_ n).two=Vm.exec E.V p.m.mdl i z1.two:=by
  have e:i.a.toNat=n:=by rw[hn'];rfl
  unfold Vm.exec;simp[hop,e];exact congrArg (fun t=>(t,E.abs z1.e)) t2
 repeat(refine Jy ?_;try first|intro ao cap|intro b)
 (refine JM (look_is p (z1.at_ n) t1 (ha (z1.at_ n) t1 t3)) ?_;intro s hs;(refine Jn ?_))
 repeat(refine Jy ?_;try first|intro ao cap|intro b)
 (refine End.done1_ ((SL.look (z1.at_ n) p.m)) (he:=Jv) (hp:=?_));exact⟨t1.look p.m,(t1.look_two p.m).trans (by rw[t3])⟩
end
section
attribute [local irreducible] Run Cod End OpT Still RunQ RunS RunT Fn PutOk
variable{E:EnvM}
set_option maxHeartbeats 2000000 in
theorem step5_is(p:Pl)(z:SL E)(hz:z.Wf)(hs:Stands p.m z)(h1:(z.look p.m).st=1)(hpc:z.f.pc≤100000)(hc:CanS p.m (z.moved p.m) (insL p.m z))(ha:After p.m (z.moved p.m) (insL p.m z))(hop:(insL p.m z).op=22):
  Fn Tryz.prog 31 #[ptr p.tb] [md p.m,E.rc] (TM p z) (σ:=SL E) (Gives z (Vm.step E.V p.m.mdl z.two).2) (fun _=> .bool (Vm.step E.V p.m.mdl z.two).1) (fun z'=>TM p z'):=by
 obtain⟨g1,g2,g3,g4,g5⟩:=id hs;have hl:0<z.cur.fr.length:=JP.2 g1;have w1:IntKind.i64.wrap ((z.cur.fr.length:Int)-1)=((z.cur.fr.length-1:Nat):Int):=by rw[wrap_i64_in (by omega)];omega
 have w2:IntKind.i64.wrap ((z.f.pc:Int)+1)=((z.f.pc+1:Nat):Int):=by rw[wrap_i64_in (by omega)];omega
 refine JE [ptr p.tb] Tryz.func31 Tryz.ntmps31 fun w S=>?_
 (refine Jn ?_)
 repeat(refine Jy ?_;try first|intro ao cap|intro b)
 (refine Jc ?_;refine OpT.call0_ (spec:=look_is p z hz (fun _=>hs)) (r:=fun w=>Jm) (k:=?_);intro s hs;(refine Jn ?_))
 repeat(refine Jy ?_;try first|intro ao cap|intro b)
 apply Cod.draw 21 ([tkM p (z.look p.m),moM p,frM z.cur,md p.m]) (by kernel_rfl) 22 rfl;refine JR 0 ?_;refine JR 1 ?_;refine JR 2 ?_;refine JR 3 ?_;refine JR 4 ?_;refine JR 5 ?_;refine JR 6 ?_;refine JR 7 ?_;refine JR 8 ?_;refine JR 9 ?_;refine JR 10 ?_;refine JR 11 ?_;refine JR 12 ?_;refine JR 13 ?_;refine JR 14 ?_;refine JR 15 ?_;refine JR 16 ?_;refine JR 17 ?_;refine JR 18 ?_;refine JR 19 ?_;(refine JT 20 ?_;(first|refine Jw ?_|(refine Jb ?_;intro b)|(refine Ja ?_;intro ao cap));refine JG ?_);(refine JT 21 ?_;(first|refine Jw ?_|(refine Jb ?_;intro b)|(refine Ja ?_;intro ao cap));refine JG ?_);(apply RunT.done;kernel_rfl)
 repeat(refine Jy ?_;try first|intro ao cap|intro b)
 (apply Run.op;exact rfl;refine OpT.storeE_ (f:=frC) (l:=z.cur.fr) (i:=z.cur.fr.length-1) (off:=1) (vs:=[.int .i64 ((z.f.pc+1:Nat):Int)]) (a':=(⟨z.f.unit,z.f.pc+1,z.f.base⟩:Vm.Fr)) (k:=?_));apply Run.nil;apply End.seqN;obtain⟨ib,rfl⟩:∃x,x=b:=⟨_,rfl⟩;refine Cod.sub [(0,ptr p.tb),(2, .bool false),(3, .pointer (place (sz frC) z.cur.fo (z.cur.fr.length-1) 0)),(4,ptr ib)] (Ju) ?_;have hln:z.cur.fr.length=(z.cur.fr.set (z.cur.fr.length-1) (⟨z.f.unit,z.f.pc+1,z.f.base⟩:Vm.Fr)).length:=by rw[Ji]
 refine Cod.only (old w S::md p.m::E.rc::blk ib (insC (insL p.m z)) 126::TM p (z.moved p.m)) (Jx) ?_;have hpl:place (sz frC) z.cur.fo (z.cur.fr.length-1) 0=place (sz frC) (z.moved p.m).cur.fo ((z.moved p.m).cur.fr.length-1) 0:=by rw[show(z.moved p.m).cur.fr.length=z.cur.fr.length from Ji]
 rw[hpl];have hstep:=hz.step_two p.m h1;rw[hstep];have hz1:=hz.moved p.m;obtain⟨i,hi⟩:∃i,i=insL p.m z:=⟨_,rfl⟩;obtain⟨z1,hz1e⟩:∃z1,z1=z.moved p.m:=⟨_,rfl⟩;rw[←hi,←hz1e]at hc ha⊢;rw[←hz1e]at hz1;rw[←hi]at hop;have a0:=hc.jump (.inr hop);have c1:=hc.some (by omega);obtain⟨n,hn⟩:=JI a0;have hn':i.a=(n:Int):=hn;have hfl:z1.cur.fr.length=z.cur.fr.length:=by rw[hz1e];exact Ji
 have e:i.a.toNat=n:=by rw[hn'];rfl
 repeat(refine Jy ?_;try first|intro ao cap|intro b)
 (refine JQ (pop_is' (z1.F p) z1.st z1.tr (z1.cur.st:Int) (ptrO z1.cur.upb) (.slice z1.cur.fo z1.cur.fr.length z1.cur.fc) E.mailV (toldV E.told) z1.cur.sk hz1.curOk c1) ?_;intro s hs;(refine Jn ?_));obtain⟨k1,rfl⟩:∃x,x=s:=⟨_,rfl⟩;obtain⟨p1,p2⟩:=popped hz1 hs;have hla:Vm.last z1.tk=z1.top 1:=hz1.last
 by_cases h0:z1.cur.sk.ws.getD (z1.cur.sk.live-1) 0=0
 ·repeat(refine Jy ?_;try first|intro ao cap|intro b)
  rw[hn'];(apply Run.op;exact rfl;refine OpT.storeE_ (f:=frC) (l:=z1.cur.fr) (i:=z1.cur.fr.length-1) (off:=1) (vs:=[.int .i64 (n:Int)]) (a':=(⟨z1.f.unit,n,z1.f.base⟩:Vm.Fr)) (k:=?_))
  repeat(refine Jy ?_;try first|intro ao cap|intro b)
  obtain⟨t1,t2⟩:=p1.setAt n;refine Run.only' (old w S::md p.m::E.rc::TM p ((z1.sk k1).at_ n)) (Jx) ?_;have t3:((z1.sk k1).at_ n).two=Vm.exec E.V p.m.mdl i z1.two:=by
   have hl0:Vm.last z1.two.1=0:=hz1.last.trans h0;unfold Vm.exec;simp[hop,e,hl0];exact congrArg (fun t=>(t,E.abs z1.e)) (t2.trans (by rw[p2];rfl))
  repeat(refine Jy ?_;try first|intro ao cap|intro b)
  (refine JM (look_is p ((z1.sk k1).at_ n) t1 (ha ((z1.sk k1).at_ n) t1 t3)) ?_;intro s hs;(refine Jn ?_))
  repeat(refine Jy ?_;try first|intro ao cap|intro b)
  (refine End.done1_ ((SL.look ((z1.sk k1).at_ n) p.m)) (he:=Jv) (hp:=?_));exact⟨t1.look p.m,(t1.look_two p.m).trans (by rw[t3])⟩
 ·repeat(refine Jy ?_;try first|intro ao cap|intro b)
  have t3:(z1.sk k1).two=Vm.exec E.V p.m.mdl i z1.two:=by
   have hl0:Vm.last z1.two.1≠0:=fun h=>h0 (hz1.last.symm.trans h)
   unfold Vm.exec;simp[hop,hl0];exact congrArg (fun t=>(t,E.abs z1.e)) p2
  repeat(refine Jy ?_;try first|intro ao cap|intro b)
  (refine JM (look_is p (z1.sk k1) p1 (ha (z1.sk k1) p1 t3)) ?_;intro s hs;(refine Jn ?_))
  repeat(refine Jy ?_;try first|intro ao cap|intro b)
  (refine End.done1_ ((SL.look (z1.sk k1) p.m)) (he:=Jv) (hp:=?_));exact⟨p1.look p.m,(p1.look_two p.m).trans (by rw[t3])⟩
set_option maxHeartbeats 2000000 in
theorem step6_is(p:Pl)(z:SL E)(hz:z.Wf)(hs:Stands p.m z)(h1:(z.look p.m).st=1)(hpc:z.f.pc≤100000)(hc:CanS p.m (z.moved p.m) (insL p.m z))(ha:After p.m (z.moved p.m) (insL p.m z))(hop:(insL p.m z).op=28):
  Fn Tryz.prog 31 #[ptr p.tb] [md p.m,E.rc] (TM p z) (σ:=SL E) (Gives z (Vm.step E.V p.m.mdl z.two).2) (fun _=> .bool (Vm.step E.V p.m.mdl z.two).1) (fun z'=>TM p z'):=by
 obtain⟨g1,g2,g3,g4,g5⟩:=id hs;have hl:0<z.cur.fr.length:=JP.2 g1;have w1:IntKind.i64.wrap ((z.cur.fr.length:Int)-1)=((z.cur.fr.length-1:Nat):Int):=by rw[wrap_i64_in (by omega)];omega
 have w2:IntKind.i64.wrap ((z.f.pc:Int)+1)=((z.f.pc+1:Nat):Int):=by rw[wrap_i64_in (by omega)];omega
 refine JE [ptr p.tb] Tryz.func31 Tryz.ntmps31 fun w S=>?_
 (refine Jn ?_)
 repeat(refine Jy ?_;try first|intro ao cap|intro b)
 (refine Jc ?_;refine OpT.call0_ (spec:=look_is p z hz (fun _=>hs)) (r:=fun w=>Jm) (k:=?_);intro s hs;(refine Jn ?_))
 repeat(refine Jy ?_;try first|intro ao cap|intro b)
 apply Cod.draw 21 ([tkM p (z.look p.m),moM p,frM z.cur,md p.m]) (by kernel_rfl) 22 rfl;refine JR 0 ?_;refine JR 1 ?_;refine JR 2 ?_;refine JR 3 ?_;refine JR 4 ?_;refine JR 5 ?_;refine JR 6 ?_;refine JR 7 ?_;refine JR 8 ?_;refine JR 9 ?_;refine JR 10 ?_;refine JR 11 ?_;refine JR 12 ?_;refine JR 13 ?_;refine JR 14 ?_;refine JR 15 ?_;refine JR 16 ?_;refine JR 17 ?_;refine JR 18 ?_;refine JR 19 ?_;(refine JT 20 ?_;(first|refine Jw ?_|(refine Jb ?_;intro b)|(refine Ja ?_;intro ao cap));refine JG ?_);(refine JT 21 ?_;(first|refine Jw ?_|(refine Jb ?_;intro b)|(refine Ja ?_;intro ao cap));refine JG ?_);(apply RunT.done;kernel_rfl)
 repeat(refine Jy ?_;try first|intro ao cap|intro b)
 (apply Run.op;exact rfl;refine OpT.storeE_ (f:=frC) (l:=z.cur.fr) (i:=z.cur.fr.length-1) (off:=1) (vs:=[.int .i64 ((z.f.pc+1:Nat):Int)]) (a':=(⟨z.f.unit,z.f.pc+1,z.f.base⟩:Vm.Fr)) (k:=?_));apply Run.nil;apply End.seqN;obtain⟨ib,rfl⟩:∃x,x=b:=⟨_,rfl⟩;refine Cod.sub [(0,ptr p.tb),(2, .bool false),(3, .pointer (place (sz frC) z.cur.fo (z.cur.fr.length-1) 0)),(4,ptr ib)] (Ju) ?_;have hln:z.cur.fr.length=(z.cur.fr.set (z.cur.fr.length-1) (⟨z.f.unit,z.f.pc+1,z.f.base⟩:Vm.Fr)).length:=by rw[Ji]
 refine Cod.only (old w S::md p.m::E.rc::blk ib (insC (insL p.m z)) 126::TM p (z.moved p.m)) (Jx) ?_;have hpl:place (sz frC) z.cur.fo (z.cur.fr.length-1) 0=place (sz frC) (z.moved p.m).cur.fo ((z.moved p.m).cur.fr.length-1) 0:=by rw[show(z.moved p.m).cur.fr.length=z.cur.fr.length from Ji]
 rw[hpl];have hstep:=hz.step_two p.m h1;rw[hstep];have hz1:=hz.moved p.m;obtain⟨i,hi⟩:∃i,i=insL p.m z:=⟨_,rfl⟩;obtain⟨z1,hz1e⟩:∃z1,z1=z.moved p.m:=⟨_,rfl⟩;rw[←hi,←hz1e]at hc ha⊢;rw[←hz1e]at hz1;rw[←hi]at hop;have c1:=hc.some (by omega)
 repeat(refine Jy ?_;try first|intro ao cap|intro b)
 (refine JQ (pop_is' (z1.F p) z1.st z1.tr (z1.cur.st:Int) (ptrO z1.cur.upb) (.slice z1.cur.fo z1.cur.fr.length z1.cur.fc) E.mailV (toldV E.told) z1.cur.sk hz1.curOk c1) ?_;intro s hs;(refine Jn ?_));obtain⟨k1,rfl⟩:∃x,x=s:=⟨_,rfl⟩;obtain⟨p1,p2⟩:=popped hz1 hs;have c2:=hc.outs hop
 repeat(refine Jy ?_;try first|intro ao cap|intro b)
 have hoL:(z1.out ++[z1.top 1]).length=z1.out.length+1:=by simp
 have hla:Vm.last z1.tk=z1.top 1:=hz1.last;(refine Jc ?_;refine OpT.call0_ (spec:=tell_is E ⟨p.tb,p.mb, .slice z1.co z1.bs.length z1.ccap,z1.cur.cb,z1.bx, .slice ao (z1.out.length+1) cap⟩ z1.st z1.tr z1.e (hc.okk hz1) 1 0 (z1.top 1)) (r:=fun w=>Reads.any (tk) E.rexcl .nil) (k:=?_);intro s hs;(refine Jn ?_));obtain⟨e2,rfl⟩:∃x,x=s:=⟨_,rfl⟩;have t1:({z1.sk k1 with oo:=ao,oc:=cap,out:=z1.out ++[z1.top 1],e:=e2}:SL E).Wf:=⟨p1.now,p1.len,p1.few,p1.at_,p1.up,p1.upl,p1.sk,hs.1⟩;have t3:({z1.sk k1 with oo:=ao,oc:=cap,out:=z1.out ++[z1.top 1],e:=e2}:SL E).two=Vm.exec E.V p.m.mdl i z1.two:=by
  have hla':Vm.last z1.two.1=z1.top 1:=hz1.last;unfold Vm.exec;simp only[hop,hla'];refine Prod.ext ?_ hs.2;show SL.tk {z1.sk k1 with oo:=ao,oc:=cap,out:=z1.out ++[z1.top 1],e:=e2}={Vm.drop 1 z1.tk with out:=(Vm.drop 1 z1.tk).out ++[z1.top 1]};rw[←p2];rfl
 rw[←hoL]
 repeat(refine Jy ?_;try first|intro ao cap|intro b)
 (refine JM (look_is p ({z1.sk k1 with oo:=ao,oc:=cap,out:=z1.out ++[z1.top 1],e:=e2}) t1 (ha ({z1.sk k1 with oo:=ao,oc:=cap,out:=z1.out ++[z1.top 1],e:=e2}) t1 t3)) ?_;intro s hs;(refine Jn ?_))
 repeat(refine Jy ?_;try first|intro ao cap|intro b)
 (refine End.done1_ ((SL.look ({z1.sk k1 with oo:=ao,oc:=cap,out:=z1.out ++[z1.top 1],e:=e2}) p.m)) (he:=Jv) (hp:=?_));exact⟨t1.look p.m,(t1.look_two p.m).trans (by rw[t3])⟩
end
attribute [local irreducible] Run Cod End OpT Still RunQ RunS RunT Fn PutOk
variable{E:EnvM}
set_option maxHeartbeats 2000000 in
theorem step7_is(p:Pl)(z:SL E)(hz:z.Wf)(hs:Stands p.m z)(h1:(z.look p.m).st=1)(hpc:z.f.pc≤100000)(hc:CanS p.m (z.moved p.m) (insL p.m z))(ha:After p.m (z.moved p.m) (insL p.m z))(hop:(insL p.m z).op=26):
  Fn Tryz.prog 31 #[ptr p.tb] [md p.m,E.rc] (TM p z) (σ:=SL E) (Gives z (Vm.step E.V p.m.mdl z.two).2) (fun _=> .bool (Vm.step E.V p.m.mdl z.two).1) (fun z'=>TM p z'):=by
 obtain⟨g1,g2,g3,g4,g5⟩:=id hs;have hl:0<z.cur.fr.length:=JP.2 g1;have w1:IntKind.i64.wrap ((z.cur.fr.length:Int)-1)=((z.cur.fr.length-1:Nat):Int):=by rw[wrap_i64_in (by omega)];omega
 have w2:IntKind.i64.wrap ((z.f.pc:Int)+1)=((z.f.pc+1:Nat):Int):=by rw[wrap_i64_in (by omega)];omega
 refine JE [ptr p.tb] Tryz.func31 Tryz.ntmps31 fun w S=>?_
 (refine Jn ?_)
 repeat(refine Jy ?_;try first|intro ao cap|intro b)
 (refine Jc ?_;refine OpT.call0_ (spec:=look_is p z hz (fun _=>hs)) (r:=fun w=>Jm) (k:=?_);intro s hs;(refine Jn ?_))
 repeat(refine Jy ?_;try first|intro ao cap|intro b)
 apply Cod.draw 21 ([tkM p (z.look p.m),moM p,frM z.cur,md p.m]) (by kernel_rfl) 22 rfl;refine JR 0 ?_;refine JR 1 ?_;refine JR 2 ?_;refine JR 3 ?_;refine JR 4 ?_;refine JR 5 ?_;refine JR 6 ?_;refine JR 7 ?_;refine JR 8 ?_;refine JR 9 ?_;refine JR 10 ?_;refine JR 11 ?_;refine JR 12 ?_;refine JR 13 ?_;refine JR 14 ?_;refine JR 15 ?_;refine JR 16 ?_;refine JR 17 ?_;refine JR 18 ?_;refine JR 19 ?_;(refine JT 20 ?_;(first|refine Jw ?_|(refine Jb ?_;intro b)|(refine Ja ?_;intro ao cap));refine JG ?_);(refine JT 21 ?_;(first|refine Jw ?_|(refine Jb ?_;intro b)|(refine Ja ?_;intro ao cap));refine JG ?_);(apply RunT.done;kernel_rfl)
 repeat(refine Jy ?_;try first|intro ao cap|intro b)
 (apply Run.op;exact rfl;refine OpT.storeE_ (f:=frC) (l:=z.cur.fr) (i:=z.cur.fr.length-1) (off:=1) (vs:=[.int .i64 ((z.f.pc+1:Nat):Int)]) (a':=(⟨z.f.unit,z.f.pc+1,z.f.base⟩:Vm.Fr)) (k:=?_));apply Run.nil;apply End.seqN;obtain⟨ib,rfl⟩:∃x,x=b:=⟨_,rfl⟩;refine Cod.sub [(0,ptr p.tb),(2, .bool false),(3, .pointer (place (sz frC) z.cur.fo (z.cur.fr.length-1) 0)),(4,ptr ib)] (Ju) ?_;have hln:z.cur.fr.length=(z.cur.fr.set (z.cur.fr.length-1) (⟨z.f.unit,z.f.pc+1,z.f.base⟩:Vm.Fr)).length:=by rw[Ji]
 refine Cod.only (old w S::md p.m::E.rc::blk ib (insC (insL p.m z)) 126::TM p (z.moved p.m)) (Jx) ?_;have hpl:place (sz frC) z.cur.fo (z.cur.fr.length-1) 0=place (sz frC) (z.moved p.m).cur.fo ((z.moved p.m).cur.fr.length-1) 0:=by rw[show(z.moved p.m).cur.fr.length=z.cur.fr.length from Ji]
 rw[hpl];have hstep:=hz.step_two p.m h1;rw[hstep];have hz1:=hz.moved p.m;obtain⟨i,hi⟩:∃i,i=insL p.m z:=⟨_,rfl⟩;obtain⟨z1,hz1e⟩:∃z1,z1=z.moved p.m:=⟨_,rfl⟩;rw[←hi,←hz1e]at hc ha⊢;rw[←hz1e]at hz1;rw[←hi]at hop;have c1:=hc.some (by omega);obtain⟨s1,s2,s3⟩:=hc.send hop;have hput:=E.put z1.e i.a.toNat (z1.top 1) hz1.env s2 s3 (by have:=hc.size;omega);rw[Jo' s1]at hput
 repeat(refine Jy ?_;try first|intro ao cap|intro b)
 (refine JQ (pop_is' (z1.F p) z1.st z1.tr (z1.cur.st:Int) (ptrO z1.cur.upb) (.slice z1.cur.fo z1.cur.fr.length z1.cur.fc) E.mailV (toldV E.told) z1.cur.sk hz1.curOk c1) ?_;intro s hs;(refine Jn ?_));obtain⟨k1,rfl⟩:∃x,x=s:=⟨_,rfl⟩;obtain⟨p1,p2⟩:=popped hz1 hs
 repeat(refine Jy ?_;try first|intro ao cap|intro b)
 (refine Jc ?_;refine OpT.callM_ (E.mPut) (E.bPut) (hput) (r:=fun w=>Reads.any (tk) E.rexcl .nil) (k:=?_);intro s hs;(refine Jn ?_));obtain⟨e1,rfl⟩:∃x,x=s:=⟨_,rfl⟩;obtain⟨q1,q2⟩:=hs
 repeat(refine Jy ?_;try first|intro ao cap|intro b)
 (refine Jc ?_;refine OpT.call0_ (spec:=tell_is E (z1.F p) z1.st z1.tr e1 ⟨q1,by rw[q2];have h5:=E.sPut (E.abs z1.e) i.a.toNat (z1.top 1);have h6:=hc.size;omega⟩ 2 i.a (z1.top 1)) (r:=fun w=>Reads.any (tk) E.rexcl .nil) (k:=?_);intro s hs;(refine Jn ?_));obtain⟨e2,rfl⟩:∃x,x=s:=⟨_,rfl⟩;have t1:({z1.sk k1 with e:=e2}:SL E).Wf:=⟨p1.now,p1.len,p1.few,p1.at_,p1.up,p1.upl,p1.sk,hs.1⟩;have t3:({z1.sk k1 with e:=e2}:SL E).two=Vm.exec E.V p.m.mdl i z1.two:=by
  have hla':Vm.last z1.two.1=z1.top 1:=hz1.last;unfold Vm.exec;simp only[hop,hla'];refine Prod.ext ?_ (hs.2.trans (by rw[q2];rfl));exact p2
 repeat(refine Jy ?_;try first|intro ao cap|intro b)
 (refine JM (look_is p ({z1.sk k1 with e:=e2}) t1 (ha ({z1.sk k1 with e:=e2}) t1 t3)) ?_;intro s hs;(refine Jn ?_))
 repeat(refine Jy ?_;try first|intro ao cap|intro b)
 (refine End.done1_ ((SL.look ({z1.sk k1 with e:=e2}) p.m)) (he:=Jv) (hp:=?_));exact⟨t1.look p.m,(t1.look_two p.m).trans (by rw[t3])⟩
set_option maxHeartbeats 2000000 in
theorem step8_is(p:Pl)(z:SL E)(hz:z.Wf)(hs:Stands p.m z)(h1:(z.look p.m).st=1)(hpc:z.f.pc≤100000)(hc:CanS p.m (z.moved p.m) (insL p.m z))(ha:After p.m (z.moved p.m) (insL p.m z))(hop:(insL p.m z).op=27):
  Fn Tryz.prog 31 #[ptr p.tb] [md p.m,E.rc] (TM p z) (σ:=SL E) (Gives z (Vm.step E.V p.m.mdl z.two).2) (fun _=> .bool (Vm.step E.V p.m.mdl z.two).1) (fun z'=>TM p z'):=by
 obtain⟨g1,g2,g3,g4,g5⟩:=id hs;have hl:0<z.cur.fr.length:=JP.2 g1;have w1:IntKind.i64.wrap ((z.cur.fr.length:Int)-1)=((z.cur.fr.length-1:Nat):Int):=by rw[wrap_i64_in (by omega)];omega
 have w2:IntKind.i64.wrap ((z.f.pc:Int)+1)=((z.f.pc+1:Nat):Int):=by rw[wrap_i64_in (by omega)];omega
 refine JE [ptr p.tb] Tryz.func31 Tryz.ntmps31 fun w S=>?_
 (refine Jn ?_)
 repeat(refine Jy ?_;try first|intro ao cap|intro b)
 (refine Jc ?_;refine OpT.call0_ (spec:=look_is p z hz (fun _=>hs)) (r:=fun w=>Jm) (k:=?_);intro s hs;(refine Jn ?_))
 repeat(refine Jy ?_;try first|intro ao cap|intro b)
 apply Cod.draw 21 ([tkM p (z.look p.m),moM p,frM z.cur,md p.m]) (by kernel_rfl) 22 rfl;refine JR 0 ?_;refine JR 1 ?_;refine JR 2 ?_;refine JR 3 ?_;refine JR 4 ?_;refine JR 5 ?_;refine JR 6 ?_;refine JR 7 ?_;refine JR 8 ?_;refine JR 9 ?_;refine JR 10 ?_;refine JR 11 ?_;refine JR 12 ?_;refine JR 13 ?_;refine JR 14 ?_;refine JR 15 ?_;refine JR 16 ?_;refine JR 17 ?_;refine JR 18 ?_;refine JR 19 ?_;(refine JT 20 ?_;(first|refine Jw ?_|(refine Jb ?_;intro b)|(refine Ja ?_;intro ao cap));refine JG ?_);(refine JT 21 ?_;(first|refine Jw ?_|(refine Jb ?_;intro b)|(refine Ja ?_;intro ao cap));refine JG ?_);(apply RunT.done;kernel_rfl)
 repeat(refine Jy ?_;try first|intro ao cap|intro b)
 (apply Run.op;exact rfl;refine OpT.storeE_ (f:=frC) (l:=z.cur.fr) (i:=z.cur.fr.length-1) (off:=1) (vs:=[.int .i64 ((z.f.pc+1:Nat):Int)]) (a':=(⟨z.f.unit,z.f.pc+1,z.f.base⟩:Vm.Fr)) (k:=?_));apply Run.nil;apply End.seqN;obtain⟨ib,rfl⟩:∃x,x=b:=⟨_,rfl⟩;refine Cod.sub [(0,ptr p.tb),(2, .bool false),(3, .pointer (place (sz frC) z.cur.fo (z.cur.fr.length-1) 0)),(4,ptr ib)] (Ju) ?_;have hln:z.cur.fr.length=(z.cur.fr.set (z.cur.fr.length-1) (⟨z.f.unit,z.f.pc+1,z.f.base⟩:Vm.Fr)).length:=by rw[Ji]
 refine Cod.only (old w S::md p.m::E.rc::blk ib (insC (insL p.m z)) 126::TM p (z.moved p.m)) (Jx) ?_;have hpl:place (sz frC) z.cur.fo (z.cur.fr.length-1) 0=place (sz frC) (z.moved p.m).cur.fo ((z.moved p.m).cur.fr.length-1) 0:=by rw[show(z.moved p.m).cur.fr.length=z.cur.fr.length from Ji]
 rw[hpl];have hstep:=hz.step_two p.m h1;rw[hstep];have hz1:=hz.moved p.m;obtain⟨i,hi⟩:∃i,i=insL p.m z:=⟨_,rfl⟩;obtain⟨z1,hz1e⟩:∃z1,z1=z.moved p.m:=⟨_,rfl⟩;rw[←hi,←hz1e]at hc ha⊢;rw[←hz1e]at hz1;rw[←hi]at hop;obtain⟨s1,s2,s3⟩:=hc.recv hop;have htk:=E.take z1.e i.a.toNat hz1.env s2 s3;rw[Jo' s1]at htk
 repeat(refine Jy ?_;try first|intro ao cap|intro b)
 (refine Jc ?_;refine OpT.callM_ (E.mTake) (E.bTake) (htk) (r:=fun w=>Reads.any (tk) E.rexcl .nil) (k:=?_);intro s hs;(refine Jn ?_));obtain⟨e1,rfl⟩:∃x,x=s:=⟨_,rfl⟩;obtain⟨q1,q2⟩:=hs
 repeat(refine Jy ?_;try first|intro ao cap|intro b)
 (refine Jc ?_;refine OpT.call0_ (spec:=tell_is E (z1.F p) z1.st z1.tr e1 ⟨q1,by rw[q2];have h5:=E.sTake (E.abs z1.e) i.a.toNat;have h6:=hc.size;omega⟩ 3 i.a (E.V.take (E.abs z1.e) i.a.toNat).1) (r:=fun w=>Reads.any (tk) E.rexcl .nil) (k:=?_);intro s hs;(refine Jn ?_));obtain⟨e2,rfl⟩:∃x,x=s:=⟨_,rfl⟩;have p1:({z1 with e:=e2}:SL E).Wf:=⟨hz1.now,hz1.len,hz1.few,hz1.at_,hz1.up,hz1.upl,hz1.sk,hs.1⟩;have hs2:=hs
 repeat(refine Jy ?_;try first|intro ao cap|intro b)
 (refine Jc ?_;refine OpT.call0_ (spec:=push_is' E (z1.F p) z1.st z1.tr e2 ⟨hs.1,by rw[hs.2,q2];have h5:=E.sTake (E.abs z1.e) i.a.toNat;have h6:=E.sTell (E.V.take (E.abs z1.e) i.a.toNat).2 (3,i.a,(E.V.take (E.abs z1.e) i.a.toNat).1);have h7:=hc.size;omega⟩ (z1.cur.st:Int) (ptrO z1.cur.upb) (.slice z1.cur.fo z1.cur.fr.length z1.cur.fc) z1.cur.sk hz1.curOk (E.V.take (E.abs z1.e) i.a.toNat).1) (r:=fun w=>Reads.any (tk) E.rexcl .nil) (k:=?_);intro s hs;(refine Jn ?_));obtain⟨q,rfl⟩:∃x,x=s:=⟨_,rfl⟩;obtain⟨t1,t2⟩:=pushed p1 hs;have t3:(({z1 with e:=e2}:SL E).put q).two=Vm.exec E.V p.m.mdl i z1.two:=by
  rw[t2];unfold Vm.exec;simp only[hop];show Vm.push E.V _ (z1.tk,E.abs e2)=_;rw[hs2.2,q2];rfl
 repeat(refine Jy ?_;try first|intro ao cap|intro b)
 (refine JM (look_is p (({z1 with e:=e2}:SL E).put q) t1 (ha (({z1 with e:=e2}:SL E).put q) t1 t3)) ?_;intro s hs;(refine Jn ?_))
 repeat(refine Jy ?_;try first|intro ao cap|intro b)
 (refine End.done1_ ((SL.look (({z1 with e:=e2}:SL E).put q) p.m)) (he:=Jv) (hp:=?_));exact⟨t1.look p.m,(t1.look_two p.m).trans (by rw[t3])⟩
end Go.Proofs.YtjehflelkpacfaaGreat.Vw
