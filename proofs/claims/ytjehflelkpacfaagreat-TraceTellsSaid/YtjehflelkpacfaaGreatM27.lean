/- A step's operations, walked: loading and storing, and what has to do with other units. -/
import Derived.Test.YtjehflelkpacfaaGreatM26
set_option linter.unusedVariables false
set_option linter.unusedSimpArgs false
set_option linter.unusedSectionVars false
set_option maxRecDepth 100000
namespace Go.Proofs.YtjehflelkpacfaaGreat.Vw
open Go.RowKit Go.Proofs.YtjehflelkpacfaaGreat.Img
section
attribute [local irreducible] Run Cod End OpT Still RunQ RunS RunT Fn PutOk
variable{E:EnvM}
set_option maxHeartbeats 2000000 in
theorem step9_is(p:Pl)(z:SL E)(hz:z.Wf)(hs:Stands p.m z)(h1:(z.look p.m).st=1)(hpc:z.f.pc≤100000)(hc:CanS p.m (z.moved p.m) (insL p.m z))(ha:After p.m (z.moved p.m) (insL p.m z))(hop:(insL p.m z).op=3):
  Fn Tryz.prog 31 #[ptr p.tb] [md p.m,E.rc] (TM p z) (σ:=SL E) (Gives z (Vm.step E.V p.m.mdl z.two).2) (fun _=> .bool (Vm.step E.V p.m.mdl z.two).1) (fun z'=>TM p z'):=by
 obtain⟨g1,g2,g3,g4,g5⟩:=id hs;have hl:0<z.cur.fr.length:=JP.2 g1;have w1:IntKind.i64.wrap ((z.cur.fr.length:Int)-1)=((z.cur.fr.length-1:Nat):Int):=by rw[wrap_i64_in (by omega)];omega
 have w2:IntKind.i64.wrap ((z.f.pc:Int)+1)=((z.f.pc+1:Nat):Int):=by rw[wrap_i64_in (by omega)];omega
 refine JE [ptr p.tb] Tryz.func31 Tryz.ntmps31 fun w S=>?_
 (refine Jn ?_)
 repeat(refine Jy ?_;try first|intro ao cap|intro b)
 (refine Jc ?_;refine OpT.call0_ (spec:=look_is p z hz (fun _=>hs)) (r:=fun w=>Jm) (k:=?_);intro s hs;(refine Jn ?_))
 repeat(refine Jy ?_;try first|intro ao cap|intro b)
 apply Cod.draw 21 ([tkM p (z.look p.m),moM p,frM z.cur,md p.m]) (by kernel_rfl) 22 rfl;refine JR 0 ?_;refine JR 1 ?_;refine JR 2 ?_;refine JR 3 ?_;refine JR 4 ?_;refine JR 5 ?_;refine JR 6 ?_;refine JR 7 ?_;refine JR 8 ?_;refine JR 9 ?_;refine JR 10 ?_;refine JR 11 ?_;refine JR 12 ?_;refine JR 13 ?_;refine JR 14 ?_;refine JR 15 ?_;refine JR 16 ?_;refine JR 17 ?_;refine JR 18 ?_;refine JR 19 ?_;(refine JT 20 ?_;(first|refine Jw ?_|(refine Jb ?_;intro b)|(refine Ja ?_;intro ao cap));refine JG ?_);(refine JT 21 ?_;(first|refine Jw ?_|(refine Jb ?_;intro b)|(refine Ja ?_;intro ao cap));refine JG ?_);(apply RunT.done;kernel_rfl)
 repeat(refine Jy ?_;try first|intro ao cap|intro b)
 (apply Run.op;exact rfl;refine OpT.storeE_ (f:=frC) (l:=z.cur.fr) (i:=z.cur.fr.length-1) (off:=1) (vs:=[.int .i64 ((z.f.pc+1:Nat):Int)]) (a':=(⟨z.f.unit,z.f.pc+1,z.f.base⟩:Vm.Fr)) (k:=?_));apply Run.nil;apply End.seqN;obtain⟨ib,rfl⟩:∃x,x=b:=⟨_,rfl⟩;refine Cod.sub [(0,ptr p.tb),(2, .bool false),(3, .pointer (place (sz frC) z.cur.fo (z.cur.fr.length-1) 0)),(4,ptr ib)] (Ju) ?_;have hln:z.cur.fr.length=(z.cur.fr.set (z.cur.fr.length-1) (⟨z.f.unit,z.f.pc+1,z.f.base⟩:Vm.Fr)).length:=by rw[Ji]
 refine Cod.only (old w S::md p.m::E.rc::blk ib (insC (insL p.m z)) 126::TM p (z.moved p.m)) (Jx) ?_;have hpl:place (sz frC) z.cur.fo (z.cur.fr.length-1) 0=place (sz frC) (z.moved p.m).cur.fo ((z.moved p.m).cur.fr.length-1) 0:=by rw[show(z.moved p.m).cur.fr.length=z.cur.fr.length from Ji]
 rw[hpl];have hstep:=hz.step_two p.m h1;rw[hstep];have hz1:=hz.moved p.m;obtain⟨i,hi⟩:∃i,i=insL p.m z:=⟨_,rfl⟩;obtain⟨z1,hz1e⟩:∃z1,z1=z.moved p.m:=⟨_,rfl⟩;rw[←hi,←hz1e]at hc ha⊢;rw[←hz1e]at hz1;rw[←hi]at hop;obtain⟨s1,s2⟩:=hc.load hop;have hk:=hz1.curOk;obtain⟨n,hn⟩:=JI s1;have hn':i.a=(n:Int):=hn;have hnn:i.a.toNat=n:=by rw[hn'];rfl
 rw[hnn]at s2;have g6:=hk.live;have g7:=hk.hi;have hfl:z1.cur.fr.length=z.cur.fr.length:=by rw[hz1e];exact Ji
 have w3:IntKind.i64.wrap ((z1.f.base:Int)+i.a)=((z1.f.base+n:Nat):Int):=by rw[hn',wrap_i64_in (by omega)];omega
 repeat(refine Jy ?_;try first|intro ao cap|intro b)
 apply Cod.draw 18 ([tkM p z1,ccM z1.cur,frM z1.cur,blk ib (insC i) 126]) (by kernel_rfl) 19 rfl;refine JR 0 ?_;refine JR 1 ?_;refine JR 2 ?_;refine JR 3 ?_;refine JR 4 ?_;refine JR 5 ?_;refine JR 6 ?_;refine JR 7 ?_;refine JR 8 ?_;refine JR 9 ?_;refine JR 10 ?_;refine JR 11 ?_;refine JR 12 ?_;refine JR 13 ?_;refine JR 14 ?_;(refine JT 15 ?_;refine JK (at_is z1.cur.sk (z1.f.base+n) (by omega) g7) ?_;intro s hs;refine JG ?_;(refine Jn ?_));(refine JT 16 ?_;(first|refine Jw ?_|(refine Jb ?_;intro b)|(refine Ja ?_;intro ao cap));refine JG ?_);(refine JT 17 ?_;(first|refine Jw ?_|(refine Jb ?_;intro b)|(refine Ja ?_;intro ao cap));refine JG ?_);have hv:z1.cur.sk.l.getD (z1.f.base+n) default=z1.cur.sk.ws.getD (z1.f.base+n) 0:=by
  rw[Jd,Jd,List.getElem?_take,if_pos (by omega)];rfl
 rw[hv];(refine JT 18 ?_;refine OpT.call0_ (spec:=push_is' E (z1.F p) z1.st z1.tr z1.e (hc.okk hz1) (z1.cur.st:Int) (ptrO z1.cur.upb) (.slice z1.cur.fo z1.cur.fr.length z1.cur.fc) z1.cur.sk hz1.curOk (z1.cur.sk.ws.getD (z1.f.base+n) 0)) (r:=fun w=>Reads.any (tk) E.rexcl .nil) (k:=?_);intro s hs;refine JG ?_;(refine Jn ?_));(apply RunT.done;kernel_rfl);obtain⟨q,rfl⟩:∃x,x=s:=⟨_,rfl⟩;obtain⟨t1,t2⟩:=pushed hz1 hs;have t3:(z1.put q).two=Vm.exec E.V p.m.mdl i z1.two:=by
  rw[t2];unfold Vm.exec;simp only[hop,hnn];show _=Vm.push E.V ((Vm.cur z1.tk).ws.getD ((Vm.topF (Vm.cur z1.tk)).base+n) 0) z1.two;rw[hz1.topF,hz1.cur];rfl
 repeat(refine Jy ?_;try first|intro ao cap|intro b)
 (refine JM (look_is p (z1.put q) t1 (ha (z1.put q) t1 t3)) ?_;intro s hs;(refine Jn ?_))
 repeat(refine Jy ?_;try first|intro ao cap|intro b)
 (refine End.done1_ ((SL.look (z1.put q) p.m)) (he:=Jv) (hp:=?_));exact⟨t1.look p.m,(t1.look_two p.m).trans (by rw[t3])⟩
set_option maxHeartbeats 2000000 in
theorem step10_is(p:Pl)(z:SL E)(hz:z.Wf)(hs:Stands p.m z)(h1:(z.look p.m).st=1)(hpc:z.f.pc≤100000)(hc:CanS p.m (z.moved p.m) (insL p.m z))(ha:After p.m (z.moved p.m) (insL p.m z))(hop:(insL p.m z).op=4):
  Fn Tryz.prog 31 #[ptr p.tb] [md p.m,E.rc] (TM p z) (σ:=SL E) (Gives z (Vm.step E.V p.m.mdl z.two).2) (fun _=> .bool (Vm.step E.V p.m.mdl z.two).1) (fun z'=>TM p z'):=by
 obtain⟨g1,g2,g3,g4,g5⟩:=id hs;have hl:0<z.cur.fr.length:=JP.2 g1;have w1:IntKind.i64.wrap ((z.cur.fr.length:Int)-1)=((z.cur.fr.length-1:Nat):Int):=by rw[wrap_i64_in (by omega)];omega
 have w2:IntKind.i64.wrap ((z.f.pc:Int)+1)=((z.f.pc+1:Nat):Int):=by rw[wrap_i64_in (by omega)];omega
 refine JE [ptr p.tb] Tryz.func31 Tryz.ntmps31 fun w S=>?_
 (refine Jn ?_)
 repeat(refine Jy ?_;try first|intro ao cap|intro b)
 (refine Jc ?_;refine OpT.call0_ (spec:=look_is p z hz (fun _=>hs)) (r:=fun w=>Jm) (k:=?_);intro s hs;(refine Jn ?_))
 repeat(refine Jy ?_;try first|intro ao cap|intro b)
 apply Cod.draw 21 ([tkM p (z.look p.m),moM p,frM z.cur,md p.m]) (by kernel_rfl) 22 rfl;refine JR 0 ?_;refine JR 1 ?_;refine JR 2 ?_;refine JR 3 ?_;refine JR 4 ?_;refine JR 5 ?_;refine JR 6 ?_;refine JR 7 ?_;refine JR 8 ?_;refine JR 9 ?_;refine JR 10 ?_;refine JR 11 ?_;refine JR 12 ?_;refine JR 13 ?_;refine JR 14 ?_;refine JR 15 ?_;refine JR 16 ?_;refine JR 17 ?_;refine JR 18 ?_;refine JR 19 ?_;(refine JT 20 ?_;(first|refine Jw ?_|(refine Jb ?_;intro b)|(refine Ja ?_;intro ao cap));refine JG ?_);(refine JT 21 ?_;(first|refine Jw ?_|(refine Jb ?_;intro b)|(refine Ja ?_;intro ao cap));refine JG ?_);(apply RunT.done;kernel_rfl)
 repeat(refine Jy ?_;try first|intro ao cap|intro b)
 (apply Run.op;exact rfl;refine OpT.storeE_ (f:=frC) (l:=z.cur.fr) (i:=z.cur.fr.length-1) (off:=1) (vs:=[.int .i64 ((z.f.pc+1:Nat):Int)]) (a':=(⟨z.f.unit,z.f.pc+1,z.f.base⟩:Vm.Fr)) (k:=?_));apply Run.nil;apply End.seqN;obtain⟨ib,rfl⟩:∃x,x=b:=⟨_,rfl⟩;refine Cod.sub [(0,ptr p.tb),(2, .bool false),(3, .pointer (place (sz frC) z.cur.fo (z.cur.fr.length-1) 0)),(4,ptr ib)] (Ju) ?_;have hln:z.cur.fr.length=(z.cur.fr.set (z.cur.fr.length-1) (⟨z.f.unit,z.f.pc+1,z.f.base⟩:Vm.Fr)).length:=by rw[Ji]
 refine Cod.only (old w S::md p.m::E.rc::blk ib (insC (insL p.m z)) 126::TM p (z.moved p.m)) (Jx) ?_;have hpl:place (sz frC) z.cur.fo (z.cur.fr.length-1) 0=place (sz frC) (z.moved p.m).cur.fo ((z.moved p.m).cur.fr.length-1) 0:=by rw[show(z.moved p.m).cur.fr.length=z.cur.fr.length from Ji]
 rw[hpl];have hstep:=hz.step_two p.m h1;rw[hstep];have hz1:=hz.moved p.m;obtain⟨i,hi⟩:∃i,i=insL p.m z:=⟨_,rfl⟩;obtain⟨z1,hz1e⟩:∃z1,z1=z.moved p.m:=⟨_,rfl⟩;rw[←hi,←hz1e]at hc ha⊢;rw[←hz1e]at hz1;rw[←hi]at hop;have c1:=hc.some (by omega);obtain⟨s1,s2⟩:=hc.store hop;obtain⟨n,hn⟩:=JI s1;have hn':i.a=(n:Int):=hn;have hnn:i.a.toNat=n:=by rw[hn'];rfl
 rw[hnn]at s2;have hfl:z1.cur.fr.length=z.cur.fr.length:=by rw[hz1e];exact Ji
 have g6:=hz1.curOk.live;have g7:=hz1.curOk.hi;have w3:IntKind.i64.wrap ((z1.f.base:Int)+i.a)=((z1.f.base+n:Nat):Int):=by rw[hn',wrap_i64_in (by omega)];omega
 repeat(refine Jy ?_;try first|intro ao cap|intro b)
 (refine JQ (pop_is' (z1.F p) z1.st z1.tr (z1.cur.st:Int) (ptrO z1.cur.upb) (.slice z1.cur.fo z1.cur.fr.length z1.cur.fc) E.mailV (toldV E.told) z1.cur.sk hz1.curOk c1) ?_;intro s hs;(refine Jn ?_));obtain⟨k1,rfl⟩:∃x,x=s:=⟨_,rfl⟩;have ht:=hs;obtain⟨p1,p2⟩:=popped hz1 hs;have hlv:k1.live=z1.cur.sk.live-1:=by have h:=ht.live;have h2:=Sk.len hz1.curOk;rw[List.length_take]at h;omega
 have g8:k1.live≤k1.l.length:=p1.curOk.live;have g9:k1.l.length≤400:=p1.curOk.hi;have g10:8≤k1.l.length:=p1.curOk.lo
 repeat(refine Jy ?_;try first|intro ao cap|intro b)
 apply Cod.draw 17 ([tkM p (z1.sk k1),ccM (z1.sk k1).cur,frM z1.cur,blk ib (insC i) 126]) (by kernel_rfl) 18 rfl;refine JR 0 ?_;refine JR 1 ?_;refine JR 2 ?_;refine JR 3 ?_;refine JR 4 ?_;refine JR 5 ?_;refine JR 6 ?_;refine JR 7 ?_;refine JR 8 ?_;refine JR 9 ?_;refine JR 10 ?_;refine JR 11 ?_;refine JR 12 ?_;refine JR 13 ?_;refine JR 15 ?_;(refine JT 14 ?_;refine JK (at_is k1 (z1.f.base+n) (by omega) g9) ?_;intro s hs;refine JG ?_;(refine Jn ?_));(refine JT 16 ?_;(first|refine Jw ?_|(refine Jb ?_;intro b)|(refine Ja ?_;intro ao cap));refine JG ?_);(refine JT 17 ?_;refine OpT.storeE_ (f:=i64c) (l:=k1.l) (i:=z1.f.base+n) (off:=0) (vs:=[.int .i64 (z1.top 1)]) (a':=z1.top 1) (k:=?_);refine JG ?_);(apply RunT.done;kernel_rfl);have hsl:(k1.l.set (z1.f.base+n) (z1.top 1)).length=k1.l.length:=Ji;obtain⟨k2,hk2e⟩:∃k2:Sk,k2=⟨k1.sb,k1.lb,k1.l.set (z1.f.base+n) (z1.top 1),k1.live⟩:=⟨_,rfl⟩;have hk2:k2.Ok:=by rw[hk2e];exact⟨by rw[hsl];exact g8,by rw[hsl];exact g10,by rw[hsl];exact g9⟩
 have q1:k1.sb=k2.sb:=by rw[hk2e]
 have q2:skC k1=skC k2:=by rw[hk2e];simp
 have q3:arr (some ⟨k1.lb,0,none⟩) k1.l.length k1.l.length 2 i64c (k1.l.set (z1.f.base+n) (z1.top 1))=arr (some ⟨k2.lb,0,none⟩) k2.l.length k2.l.length 2 i64c k2.l:=by rw[hk2e];simp
 rw[q2,q3,q1];have t1:((z1.sk k1).sk k2).Wf:=p1.setCur rfl rfl rfl hk2;have t3:((z1.sk k1).sk k2).two=Vm.exec E.V p.m.mdl i z1.two:=by
  have hla':Vm.last z1.two.1=z1.top 1:=hz1.last;unfold Vm.exec;simp only[hop,hla',hnn];refine Prod.ext ?_ rfl;show SL.tk _=Vm.setCur (Vm.drop 1 z1.tk) {Vm.cur (Vm.drop 1 z1.tk)with ws:=(Vm.cur (Vm.drop 1 z1.tk)).ws.set ((Vm.topF (Vm.cur (Vm.drop 1 z1.tk))).base+n) (z1.top 1)};rw[←p2,p1.topF,p1.cur,SL.tk_cur,hk2e];congr 1;show(⟨_,_,_,(k1.l.set (z1.f.base+n) (z1.top 1)).take k1.live⟩:Vm.Co)=⟨_,_,_,(k1.l.take k1.live).set (z1.f.base+n) (z1.top 1)⟩;rw[List.take_set];rfl
 repeat(refine Jy ?_;try first|intro ao cap|intro b)
 (refine JM (look_is p ((z1.sk k1).sk k2) t1 (ha ((z1.sk k1).sk k2) t1 t3)) ?_;intro s hs;(refine Jn ?_))
 repeat(refine Jy ?_;try first|intro ao cap|intro b)
 (refine End.done1_ ((SL.look ((z1.sk k1).sk k2) p.m)) (he:=Jv) (hp:=?_));exact⟨t1.look p.m,(t1.look_two p.m).trans (by rw[t3])⟩
set_option maxHeartbeats 2000000 in
theorem step11_is(p:Pl)(z:SL E)(hz:z.Wf)(hs:Stands p.m z)(h1:(z.look p.m).st=1)(hpc:z.f.pc≤100000)(hc:CanS p.m (z.moved p.m) (insL p.m z))(ha:After p.m (z.moved p.m) (insL p.m z))(hop:(insL p.m z).op=23∨(insL p.m z).op=24∨(insL p.m z).op=25∨(29≤(insL p.m z).op∧(insL p.m z).op≤32)):
  Fn Tryz.prog 31 #[ptr p.tb] [md p.m,E.rc] (TM p z) (σ:=SL E) (Gives z (Vm.step E.V p.m.mdl z.two).2) (fun _=> .bool (Vm.step E.V p.m.mdl z.two).1) (fun z'=>TM p z'):=by
 obtain⟨g1,g2,g3,g4,g5⟩:=id hs;have hl:0<z.cur.fr.length:=JP.2 g1;have w1:IntKind.i64.wrap ((z.cur.fr.length:Int)-1)=((z.cur.fr.length-1:Nat):Int):=by rw[wrap_i64_in (by omega)];omega
 have w2:IntKind.i64.wrap ((z.f.pc:Int)+1)=((z.f.pc+1:Nat):Int):=by rw[wrap_i64_in (by omega)];omega
 refine JE [ptr p.tb] Tryz.func31 Tryz.ntmps31 fun w S=>?_
 (refine Jn ?_)
 repeat(refine Jy ?_;try first|intro ao cap|intro b)
 (refine Jc ?_;refine OpT.call0_ (spec:=look_is p z hz (fun _=>hs)) (r:=fun w=>Jm) (k:=?_);intro s hs;(refine Jn ?_))
 repeat(refine Jy ?_;try first|intro ao cap|intro b)
 apply Cod.draw 21 ([tkM p (z.look p.m),moM p,frM z.cur,md p.m]) (by kernel_rfl) 22 rfl;refine JR 0 ?_;refine JR 1 ?_;refine JR 2 ?_;refine JR 3 ?_;refine JR 4 ?_;refine JR 5 ?_;refine JR 6 ?_;refine JR 7 ?_;refine JR 8 ?_;refine JR 9 ?_;refine JR 10 ?_;refine JR 11 ?_;refine JR 12 ?_;refine JR 13 ?_;refine JR 14 ?_;refine JR 15 ?_;refine JR 16 ?_;refine JR 17 ?_;refine JR 18 ?_;refine JR 19 ?_;(refine JT 20 ?_;(first|refine Jw ?_|(refine Jb ?_;intro b)|(refine Ja ?_;intro ao cap));refine JG ?_);(refine JT 21 ?_;(first|refine Jw ?_|(refine Jb ?_;intro b)|(refine Ja ?_;intro ao cap));refine JG ?_);(apply RunT.done;kernel_rfl)
 repeat(refine Jy ?_;try first|intro ao cap|intro b)
 (apply Run.op;exact rfl;refine OpT.storeE_ (f:=frC) (l:=z.cur.fr) (i:=z.cur.fr.length-1) (off:=1) (vs:=[.int .i64 ((z.f.pc+1:Nat):Int)]) (a':=(⟨z.f.unit,z.f.pc+1,z.f.base⟩:Vm.Fr)) (k:=?_));apply Run.nil;apply End.seqN;obtain⟨ib,rfl⟩:∃x,x=b:=⟨_,rfl⟩;refine Cod.sub [(0,ptr p.tb),(2, .bool false),(3, .pointer (place (sz frC) z.cur.fo (z.cur.fr.length-1) 0)),(4,ptr ib)] (Ju) ?_;have hln:z.cur.fr.length=(z.cur.fr.set (z.cur.fr.length-1) (⟨z.f.unit,z.f.pc+1,z.f.base⟩:Vm.Fr)).length:=by rw[Ji]
 refine Cod.only (old w S::md p.m::E.rc::blk ib (insC (insL p.m z)) 126::TM p (z.moved p.m)) (Jx) ?_;have hpl:place (sz frC) z.cur.fo (z.cur.fr.length-1) 0=place (sz frC) (z.moved p.m).cur.fo ((z.moved p.m).cur.fr.length-1) 0:=by rw[show(z.moved p.m).cur.fr.length=z.cur.fr.length from Ji]
 rw[hpl];have hstep:=hz.step_two p.m h1;rw[hstep];have hz1:=hz.moved p.m;obtain⟨i,hi⟩:∃i,i=insL p.m z:=⟨_,rfl⟩;obtain⟨z1,hz1e⟩:∃z1,z1=z.moved p.m:=⟨_,rfl⟩;rw[←hi,←hz1e]at hc ha⊢;rw[←hz1e]at hz1;rw[←hi]at hop
 by_cases h20:i.op≤20
 ·omega
 repeat(refine Jy ?_;try first|intro ao cap|intro b)
 (refine JM (units_is p z1 hz1 i hc.units hop) ?_;intro s hs;(refine Jn ?_));obtain⟨z2,rfl⟩:∃x,x=s:=⟨_,rfl⟩;have t1:=hs.wf;have t3:=hs.two
 repeat(refine Jy ?_;try first|intro ao cap|intro b)
 (refine JM (look_is p (z2) t1 (ha (z2) t1 t3)) ?_;intro s hs;(refine Jn ?_))
 repeat(refine Jy ?_;try first|intro ao cap|intro b)
 (refine End.done1_ ((SL.look (z2) p.m)) (he:=Jv) (hp:=?_));exact⟨t1.look p.m,(t1.look_two p.m).trans (by rw[t3])⟩
end
section
variable{E:EnvM}{z:SL E}{m:ML}{T:Nat→Int→Option Ver.Shape}{ch:List Nat}
theorem mdl_len(m:ML):m.mdl.units.length=m.us.length:=Jf _
theorem unt_uat(m:ML)(k:Nat):Vm.unt m.mdl k=(m.us.getD k default).u:=m.unit_at k
theorem fr_snoc{l fs0:List Vm.Fr}{f:Vm.Fr}(h:l=fs0 ++[f]):l≠[]:=by rw[h];simp
theorem stands_of(hC:Vm.Certs m.mdl T)(hz:z.Wf)(hok:Vm.Ok m.mdl T z.tk ch)(hb:E.boxes=m.bx.length):Stands m z:=by
 obtain⟨fs0,ws0,q,p,st,hh,loc,op,a⟩:=hok.at_;obtain⟨st',h',hr⟩:=a.here hC;have hfr:z.cur.fr=fs0 ++[⟨q,p,ws0.length⟩]:=by have:=a.fr;rw[hz.cur]at this;exact this
 have hf:z.f=⟨q,p,ws0.length⟩:=hz.topF.symm.trans a.top;have hln:=(hok.lens _ hok.nowlt).2;rw[←Vm.cur_co,hz.cur]at hln;have hq:q<m.us.length:=by rw[←mdl_len];exact a.hq
 have hi:Vm.insT m.mdl z.tk=insL m z:=hz.ins m;refine⟨fr_snoc hfr,hln,by rw[hf];exact hq,?_,fun h=>?_⟩
 ·rw[hf,←unt_uat];exact hr.lt
 ·rw[←hi]at h⊢;have:=hr.ok.box h;have e:(m.mdl.boxes.length:Int)=(m.bx.length:Int):=rfl;omega
theorem canU_of{q:Int}{k:Int}(hC:Vm.Certs m.mdl T)(h:Ver.isUnit m.mdl q k=true):0≤q∧q.toNat<m.us.length∧0≤(m.us.getD q.toNat default).u.params∧(m.us.getD q.toNat default).u.params.toNat≤(m.us.getD q.toNat default).u.locals.length∧(m.us.getD q.toNat default).u.locals.length≤200:=by
 unfold Ver.isUnit at h;simp only[JX,JV]at h;obtain⟨⟨h1,h2⟩, -⟩:=h;rw[mdl_len]at h2;have hlt:q.toNat<m.us.length:=by omega
 have hh:=Vm.unt_head hC (k:=q.toNat) (by rw[mdl_len];exact hlt);have hf:=Vm.head_facts hh;rw[unt_uat]at hh hf;have hp:0≤(m.us.getD q.toNat default).u.params:=by
  unfold Ver.head at hh
  split at hh
  ·cases hh
  split at hh
  ·cases hh
  omega
 exact⟨h1,hlt,hp,hf.1,hf.2.1⟩
theorem snoc1{a b c:List Int}{v:Int}{n:Nat}(hn:(a ++(b ++(c ++[v]))).length=n):(a ++(b ++(c ++[v]))).getD (n-1) 0=v:=by
 subst hn;have e:a ++(b ++(c ++[v]))=(a ++(b ++c)) ++[v]:=by simp
 rw[e];exact Vm.snoc_getZ _ _
theorem snoc2{a b c:List Int}{x y:Int}{n:Nat}(hn:(a ++(b ++(c ++[x,y]))).length=n):(a ++(b ++(c ++[x,y]))).getD (n-2) 0=x:=by
 subst hn;have e:a ++(b ++(c ++[x,y]))=(a ++(b ++c)) ++[x,y]:=by simp
 rw[e,Jd,List.getElem?_append_right (by simp;omega)];have e2:(a ++(b ++c) ++[x,y]).length-2-(a ++(b ++c)).length=0:=by simp only[Jl,JW,List.length_nil];omega
 rw[e2];rfl
theorem canS_of(hC:Vm.Certs m.mdl T)(hz:z.Wf)(hok:Vm.Ok m.mdl T z.tk ch)(hb:E.boxes=m.bx.length)(ho:z.out.length≤1000000)(hsz:E.size (E.abs z.e)≤1000000)
  (hw:((insL m z).op=26→E.V.full (E.abs z.e) (insL m z).a.toNat=false)∧((insL m z).op=27→E.V.empty (E.abs z.e) (insL m z).a.toNat=false)):CanS m (z.moved m) (insL m z)∧z.f.pc≤100000:=by
 obtain⟨fs0,ws0,q,p,st,hh,loc,op,a⟩:=hok.at_;obtain⟨st',h',hr⟩:=a.here hC;have hn:=hok.nowlt;have hfr:z.cur.fr=fs0 ++[⟨q,p,ws0.length⟩]:=by have:=a.fr;rw[hz.cur]at this;exact this
 have hws:z.cur.sk.ws=ws0 ++(loc ++op):=by have:=a.ws;rw[hz.cur]at this;exact this
 have hf:z.f=⟨q,p,ws0.length⟩:=hz.topF.symm.trans a.top;have hf1:(z.moved m).f=⟨q,p+1,ws0.length⟩:=by
  show(z.cur.fr.set (z.cur.fr.length-1) _).getD ((z.cur.fr.set (z.cur.fr.length-1) _).length-1) default=_;rw[hf,hfr,Vm.snoc_set];exact Vm.snoc_get _ _
 have hln:=(hok.lens _ hn).2;rw[←Vm.cur_co,hz.cur]at hln;have hln:z.cur.fr.length≤40:=hln;have hi:Vm.insT m.mdl z.tk=insL m z:=hz.ins m;rw[hi]at hr;generalize insL m z=i at *;have hlive:ws0.length+(loc.length+op.length)=z.cur.sk.live:=by
  have:=Sk.len hz.curOk;rw[hws]at this;simpa using this
 have hll:=a.loc.len;have hol:=a.op.len;have hio:=hr.ok;have hfl:(z.moved m).cur.fr.length=z.cur.fr.length:=Ji;have hne:(z.moved m).cur.fr≠[]:=by
  intro h;have h2:(z.moved m).cur.fr.length=0:=by rw[h];rfl
  rw[hfl,hfr]at h2;simp at h2
 have hcs:z.tk.cs.length=z.oth.length:=by show(z.all.map CoL.abs).length=_;rw[Jf,z.allLen]
 have hsn:z.tk.now=z.now:=rfl;have hk1:(z.moved m).top 1=(ws0 ++(loc ++op)).getD (z.cur.sk.live-1) 0:=by show z.cur.sk.ws.getD _ _=_;rw[hws]
 have hk2:(z.moved m).top 2=(ws0 ++(loc ++op)).getD (z.cur.sk.live-2) 0:=by show z.cur.sk.ws.getD _ _=_;rw[hws]
 have hlen:(ws0 ++(loc ++op)).length=z.cur.sk.live:=by simpa using hlive
 have hchain:=hok.chain 0 z.now hok.now;have hcur0:Vm.co z.tk z.now=z.cur.abs:=by rw[←hz.cur];rfl
 rw[hcur0]at hchain;have hup:z.cur.up=ch[1]?:=hchain;refine⟨⟨fun h=>?_,fun h=>?_,fun h=>?_,fun h=>?_,fun h=>(hio.jump h).1,fun h=>?_,fun h=>?_,hsz,fun _=>ho,⟨fun h=>?_,fun h=>?_,fun h=>?_,fun h=>?_,fun h=>?_,hsz,fun h=>?_⟩,hio.op,hr.in64.2⟩,?_⟩
 ·show 0<z.cur.sk.live;have:0<op.length:=by
   rw[←hol]
   cases hr.does with
   |_=>first|(exfalso;omega)|(simp;done)
  omega
 ·show 2≤z.cur.sk.live∧_∧_;have hk:∃s1 t1 t2,st=s1 ++[t1,t2]:=by
   cases hr.does with
   |arith s1 _ _=>exact⟨s1,1,1,rfl⟩
   |eq s1 _ ty _ _=>exact⟨s1,ty,ty,rfl⟩
   |cmp s1 _ _=>exact⟨s1,1,1,rfl⟩
   |logic s1 _ _=>exact⟨s1,2,2,rfl⟩
   |_=>exfalso;omega
  obtain⟨s1,t1,t2,e⟩:=hk;have ht:=a.op;rw[e]at ht;obtain⟨op1,y,e1,g1,g2⟩:=ht.split;obtain⟨x,y,rfl,hx,hy⟩:=g2.un2;subst e1;refine⟨by simp at hlive;omega,?_,?_⟩
  ·rw[hk1];have:=snoc1 (a:=ws0) (b:=loc) (c:=op1 ++[x]) (v:=y) (n:=z.cur.sk.live) (by simpa using hlive);rw[Jt]at this;rw[show [x] ++[y]=[x,y]from rfl]at this;rw[this];exact hy.1
  ·rw[hk2,snoc2 hlen];exact hx.1
 ·have h1:=hio.loc (.inl h);rw[hf1];refine⟨h1.1,?_⟩;show ws0.length+i.a.toNat<z.cur.sk.live;omega
 ·have h1:=hio.loc (.inr h);rw[hf1];refine⟨h1.1,?_⟩;show ws0.length+i.a.toNat<z.cur.sk.live-1;have:0<op.length:=by
   rw[←hol]
   cases hr.does with
   |store _ _ _=>simp
   |_=>exfalso;omega
  omega
 ·have h1:=hio.box (.inl h);have e:(m.mdl.boxes.length:Int)=(m.bx.length:Int):=rfl;exact⟨h1.1,by omega,hw.1 h⟩
 ·have h1:=hio.box (.inr h);have e:(m.mdl.boxes.length:Int)=(m.bx.length:Int):=rfl;exact⟨h1.1,by omega,hw.2 h⟩
 ·have hk:∃k,Ver.isUnit m.mdl i.a k=true:=by
   rcases h with h|h
   ·exact⟨_,hio.call h⟩
   ·exact⟨_,hio.start h⟩
  obtain⟨k,hk⟩:=hk;obtain⟨c1,c2,c3,c4,c5⟩:=canU_of hC hk;refine⟨c1,c2,c3,?_,c4,c5,by rw[hfl];exact hln⟩;show _≤z.cur.sk.live;have hp:(Vm.unt m.mdl i.a.toNat).params.toNat≤op.length:=by
   have hle:(Vm.unt m.mdl i.a.toNat).params.toNat≤(Vm.unt m.mdl i.a.toNat).locals.length:=by rw[unt_uat];exact c4
   have key:∀(s:List Int) (u:ImgM.Unt),u.params.toNat≤u.locals.length→u.params.toNat≤(s ++u.locals.take u.params.toNat).length:=fun s u h=>by
    rw[Jl,List.length_take];omega
   rw[←hol]
   cases hr.does with
   |call _ _ _=>exact key _ _ hle
   |start _ _ _=>exact key _ _ hle
   |_=>exfalso;omega
  rw[unt_uat]at hp;omega
 ·have h1:op.length=1:=by
   rw[←hol]
   cases hr.does with
   |ret _ _ _=>rfl
   |_=>exfalso;omega
  refine⟨?_,hne,by rw[hfl];exact hln,?_⟩
  ·show 0<z.cur.sk.live;omega
  ·rw[hf1];show ws0.length≤z.cur.sk.live-1;omega
 ·intro j hj;have hj':z.cur.up=some j:=hj;rw[hup]at hj';exact hok.ne1 hj'
 ·have hk:∃s1 g t,st=s1 ++[10+g,t]∧Ver.handle m.mdl (10+g)=true:=by
   cases hr.does with
   |resume s1 _ g _ hg=>exact⟨s1,g,_,rfl,hg⟩
   |_=>exfalso;omega
  obtain⟨s1,g,t2,e,hg⟩:=hk;have ht:=a.op;rw[e]at ht;obtain⟨op1,y,e1,g1,g2⟩:=ht.split;obtain⟨x,y,rfl,hx,hy⟩:=g2.un2;subst e1;have hg0:10≤10+g:=by
   unfold Ver.handle at hg;rw[JX,JV]at hg;exact hg.1
  obtain⟨k,rfl,hk,hgk,hk0⟩:=hx.2.2 hg0;rw[Vm.gsOf_len,hcs]at hk;have e2:(z.moved m).top 2=(k:Int):=by rw[hk2,snoc2 hlen]
  rw[e2];refine⟨by show 2≤z.cur.sk.live;simp at hlive;omega,by omega,by rw[Jj];exact hk,?_,?_⟩
  ·have hin:z.tk.now∈ch:=List.mem_of_getElem? hok.now;have:=(hok.going _ hn).2 hin;rw[hsn,hcur0]at this;exact this
  ·rw[Jj]
   by_cases hkn:z.now=k
   ·right;exact hkn.symm
   ·left
    have h3:=hok.sts k (by rw[hcs];exact hk);have e3:Vm.co z.tk k=(z.oth.getD k default).abs:=by
     rw[←hz.oth hkn];exact getD_map0 _ _ (by rw[z.allLen];exact hk)
    rw[e3]at h3;exact h3
 ·have hk:∃s1 t,st=s1 ++[t]∧(Vm.unt m.mdl q).kind=3:=by
   cases hr.does with
   |yield s1 _ _ hk=>exact⟨s1,_,rfl,hk⟩
   |_=>exfalso;omega
  obtain⟨s1,t,e,hk3⟩:=hk;have hb0:=hok.kinds _ hn;rw[←Vm.cur_co]at hb0;have hbot:=Vm.alone_bot hok a (by omega);have hn0:z.tk.now≠0:=fun e=>by rw[hbot,if_pos e,hk3]at hb0;omega
  refine⟨?_,?_⟩
  ·show 0<z.cur.sk.live;rw[e]at hol;simp at hol;omega
  ·cases hj:ch[1]? with
   |none=>exact absurd (hok.root 0 z.tk.now hok.now hj) hn0
   |some j=>exact⟨j,by show z.cur.up=_;rw[hup,hj],hok.ne1 hj⟩
 ·have hk:∃s1 g,st=s1 ++[10+g]∧Ver.handle m.mdl (10+g)=true:=by
   cases hr.does with
   |alive s1 _ g _ hg=>exact⟨s1,g,rfl,hg⟩
   |_=>exfalso;omega
  obtain⟨s1,g,e,hg⟩:=hk;have ht:=a.op;rw[e]at ht;obtain⟨op1,y,e1,g1,g2⟩:=ht.split;obtain⟨x,rfl,hx⟩:=g2.un1;subst e1;have hg0:10≤10+g:=by
   unfold Ver.handle at hg;rw[JX,JV]at hg;exact hg.1
  obtain⟨k,rfl,hk,hgk,hk0⟩:=hx.2.2 hg0;rw[Vm.gsOf_len,hcs]at hk;have e2:(z.moved m).top 1=(k:Int):=by rw[hk1,snoc1 hlen]
  rw[e2];exact⟨by show 0<z.cur.sk.live;simp at hlive;omega,by omega,by rw[Jj];exact hk⟩
 ·rw[hf];show p≤100000;have hh:=Vm.unt_head hC a.hq;have hlt:=hr.lt;unfold Ver.head at hh
  split at hh
  ·cases hh
  split at hh
  ·cases hh
  split at hh
  ·cases hh
  omega
end
section
attribute [local irreducible] Run Cod End OpT Still RunQ RunS RunT Fn PutOk
section
variable{E:EnvM}{m:ML}{T:Nat→Int→Option Ver.Shape}{K:E.ν→Prop}
theorem good_stands{z:SL E}(hC:Vm.Certs m.mdl T)(hz:z.Wf)(hb:E.boxes=m.bx.length)(hg:Vm.Good m.mdl T K z.two)(h3:z.st≤3):Stands m z:=by
 rcases hg.1 with h|h|h
 ·exact absurd (show z.st=5 from h) (by omega)
 ·exact absurd (show z.st=4 from h) (by omega)
 ·obtain⟨ch,hok⟩:=h.2;exact stands_of hC hz hok hb
theorem look_task(p:Pl)(z:SL E)(hC:Vm.Certs p.m.mdl T)(hz:z.Wf)(hb:E.boxes=p.m.bx.length)(hg:Vm.Good p.m.mdl T K z.two):
  Fn Tryz.prog 30 #[ptr p.tb] [md p.m,E.rc] [tkM p z,moM p,ccM z.cur,frM z.cur,E.mem z.e] (σ:=Unit) (fun _=>True) (fun _=> .tuple #[]) (fun _=>[tkM p (z.look p.m),moM p,ccM z.cur,frM z.cur,E.mem z.e]):=
 look_is p z hz (good_stands hC hz hb hg)
theorem step_task(p:Pl)(z:SL E)(hC:Vm.Certs p.m.mdl T)(hV:Vm.EnvOk E.V p.m.mdl K)(hz:z.Wf)(hb:E.boxes=p.m.bx.length)(hg:Vm.Good p.m.mdl T K z.two)(ho:z.out.length≤1000000)(hsz:E.size (E.abs z.e)≤1000000):
  Fn Tryz.prog 31 #[ptr p.tb] [md p.m,E.rc] (TM p z) (σ:=SL E) (Gives z (Vm.step E.V p.m.mdl z.two).2) (fun _=> .bool (Vm.step E.V p.m.mdl z.two).1) (fun z'=>TM p z'):=by
 by_cases h1:(z.look p.m).st=1
 ·have h3:z.st≤3:=by
   refine Int.not_lt.1 fun h=>?_
   have h1':(if z.st≤3 then wst E (insL p.m z) (E.abs z.e)else z.st)=1:=h1;rw[if_neg (by omega)]at h1';omega
  have h1':wst E (insL p.m z) (E.abs z.e)=1:=by
   have h1':(if z.st≤3 then wst E (insL p.m z) (E.abs z.e)else z.st)=1:=h1;rwa [if_pos h3]at h1'
  have hw:((insL p.m z).op=26→E.V.full (E.abs z.e) (insL p.m z).a.toNat=false)∧((insL p.m z).op=27→E.V.empty (E.abs z.e) (insL p.m z).a.toNat=false):=by
   unfold wst at h1';refine⟨fun ho=>?_,fun ho=>?_⟩
   ·cases hx:E.V.full (E.abs z.e) (insL p.m z).a.toNat with
    |false=>rfl
    |true=>rw[if_pos ⟨ho,hx⟩]at h1';cases h1'
   ·rw[if_neg (by omega)]at h1'
    cases hx:E.V.empty (E.abs z.e) (insL p.m z).a.toNat with
    |false=>rfl
    |true=>rw[if_pos ⟨ho,hx⟩]at h1';cases h1'
  obtain⟨ch,hok⟩:∃ch,Vm.Ok p.m.mdl T z.tk ch:=by
   rcases hg.1 with h|h|h
   ·exact absurd (show z.st=5 from h) (by omega)
   ·exact absurd (show z.st=4 from h) (by omega)
   ·exact h.2
  obtain⟨hc,hpc⟩:=canS_of hC hz hok hb ho hsz hw;have hs:=stands_of hC hz hok hb;have hlook:(z.look p.m).two=((z.look p.m).tk,E.abs z.e):=rfl;have hokl:Vm.Ok p.m.mdl T (z.look p.m).tk ch:=hok.st _ _;have hi:Vm.insT p.m.mdl (z.look p.m).tk=insL p.m z:=(hz.look p.m).ins p.m;have hres:=Vm.exec_res hC hV hokl (s:=E.abs z.e) hg.2 (by rw[hi];exact hw);rw[hi,←hz.moved_two]at hres;have ha:After p.m (z.moved p.m) (insL p.m z):=fun z2 hz2 e h3=>by
   rw[←e]at hres;rcases hres.1 with h|h|⟨ch',h⟩
   ·exact absurd (show z2.st=5 from h) (by omega)
   ·exact absurd (show z2.st=4 from h) (by omega)
   ·exact stands_of hC hz2 h hb
  have ho:=hc.op
  by_cases c1:(insL p.m z).op=1∨(insL p.m z).op=2
  ·exact step1_is p z hz hs h1 hpc hc ha c1
  by_cases c2:(insL p.m z).op=5∨(insL p.m z).op=6∨(insL p.m z).op=7
  ·exact step2_is p z hz hs h1 hpc hc ha c2
  by_cases c3:8≤(insL p.m z).op∧(insL p.m z).op≤20
  ·exact step3_is p z hz hs h1 hpc hc ha c3
  by_cases c4:(insL p.m z).op=21
  ·exact step4_is p z hz hs h1 hpc hc ha c4
  by_cases c5:(insL p.m z).op=22
  ·exact step5_is p z hz hs h1 hpc hc ha c5
  by_cases c6:(insL p.m z).op=28
  ·exact step6_is p z hz hs h1 hpc hc ha c6
  by_cases c7:(insL p.m z).op=26
  ·exact step7_is p z hz hs h1 hpc hc ha c7
  by_cases c8:(insL p.m z).op=27
  ·exact step8_is p z hz hs h1 hpc hc ha c8
  by_cases c9:(insL p.m z).op=3
  ·exact step9_is p z hz hs h1 hpc hc ha c9
  by_cases c10:(insL p.m z).op=4
  ·exact step10_is p z hz hs h1 hpc hc ha c10
  exact step11_is p z hz hs h1 hpc hc ha (by omega)
 ·exact step0_is p z hz (good_stands hC hz hb hg) h1
end
structure Born(u n:Nat)(c:CoL):Prop where
 st:c.st=2
 up:c.up=none
 upb:c.upb=none
 fr:c.fr=[⟨u,0,0⟩]
 ok:c.sk.Ok
 ws:c.sk.ws=List.replicate n 0
theorem new_is(mb:Nat)(m:ML)(u:Nat)(hu:u<m.us.length)(t:TypeId)(rv:Value)(hl:(m.us.getD u default).u.locals.length≤200):
  Fn Tryz.prog 29 #[ptr mb, .int .i64 (u:Int), .iface t rv] [md m] [blk mb (mdV m) 25] (σ:=Nat×Nat×CoL)
   (fun s=>Born u (m.us.getD u default).u.locals.length s.2.2) (fun s=>ptr s.1) (fun s=>[blk s.1 (tcl mb (.iface t rv) (.slice (some ⟨s.2.1,0,none⟩) 1 1) s.2.2.cb 1 0 0 (.slice none 0 0) .nilFunc) 65,blk mb (mdV m) 25,arr (some ⟨s.2.1,0,none⟩) 1 1 62 ptrC [s.2.2.cb],arr none 0 0 2 i64c ([]:List Int),bagM [],ccM s.2.2,frM s.2.2,blk s.2.2.sk.sb (skC s.2.2.sk) 169,arr (some ⟨s.2.2.sk.lb,0,none⟩) s.2.2.sk.l.length s.2.2.sk.l.length 2 i64c s.2.2.sk.l]):=by
 refine JE [ptr mb, .int .i64 (u:Int), .iface t rv] Tryz.func29 Tryz.ntmps29 fun w S=>?_
 (refine Jn ?_)
 repeat(refine Jy ?_;try first|intro ao cap|intro b)
 obtain⟨tb,rfl⟩:∃x,x=b:=⟨_,rfl⟩;apply Run.imp' (fun w hm=>hm.nilArr 2 i64c);(apply Run.op;exact rfl;refine OpT.call0_ (spec:=begin_is tb mb m _ u hu none 0 [] hl (by simp)) (k:=?_);intro s hs;(refine Jn ?_));obtain⟨c,rfl⟩:∃x,x=s:=⟨_,rfl⟩;have hst:=hs.st
 repeat(refine Jy ?_;try first|intro ao cap|intro b)
 obtain⟨ob,rfl⟩:∃x,x=b:=⟨_,rfl⟩;apply End.imp (fun w hm=>Mem.toArr (b:=ob) (e:=62) (f:=ptrC) (n:=1) hm (tk) [c.cb] rfl rfl (by unfold maxLen;simp));apply End.imp (fun w hm=>hm.bagNil);refine End.done1_ ((tb,ob,{c with st:=2}):Nat×Nat×CoL) (he:=by rfl) (hp:=⟨rfl,hs.up,hs.upb,hs.fr,hs.ok,hs.ws.trans ?_⟩);refine List.ext_getElem (by simp) fun i h1 h2=>?_
 simp
end
abbrev SL.born(E:EnvM)(ob:Nat)(c:CoL)(e:E.μ):SL E:=⟨some ⟨ob,0,none⟩,1,[c.cb],[c],0,c,1,0,0,none,0,[],e⟩
theorem tasks_mem{m:ML}{k:Nat}(h:k<(Vm.tasks m.mdl).length):(Vm.tasks m.mdl).getD k 0<m.us.length∧(m.uat ((Vm.tasks m.mdl).getD k 0)).u.kind=4:=by
 have hm:(Vm.tasks m.mdl).getD k 0∈Vm.tasks m.mdl:=by
  rw[Jd,Je h];exact List.getElem_mem h
 generalize(Vm.tasks m.mdl).getD k 0=u at *;unfold Vm.tasks at hm;rw[List.mem_filter,List.mem_range,JV,ML.unit_at]at hm;exact⟨by simpa using hm.1,hm.2⟩
section
attribute [local irreducible] Run Cod End OpT Still RunQ RunS RunT Fn PutOk
variable{E:EnvM}{T:Nat→Int→Option Ver.Shape}{K:E.ν→Prop}
abbrev maC(to:Option Addr)(tn tc:Nat)(bo:Option Addr)(bn bc n:Nat):List Value:=[.slice to tn tc, .slice bo bn bc, .int .i64 (n:Int)]
set_option maxHeartbeats 2000000 in
theorem pick_is(p:Pl)(xb:Nat)(to:Option Addr)(tc:Nat)(tbs:List Nat)(bo:Option Addr)(bn bc n k:Nat)(q:Int)(hk:k<tbs.length)(htb:tbs.getD k 0=p.tb)(z:SL E)(hC:Vm.Certs p.m.mdl T)(hV:Vm.EnvOk E.V p.m.mdl K)(hz:z.Wf)(hb:E.boxes=p.m.bx.length)
  (hg:Vm.Good p.m.mdl T K z.two) (hn:n≤20000) (ho:z.out.length≤2*n) (hsz:E.size (E.abs z.e)≤4*n) (htl:tbs.length≤1000):
  Fn Tryz.prog 16 #[ptr xb, .agg #[.int .i64 (k:Int), .int .i64 q]] [md p.m,E.rc] (blk xb (maC to tbs.length tc bo bn bc n) 54::arr to tbs.length tc 55 ptrC tbs::TM p z) (σ:=SL E)
   (Gives z (Vm.pick1 E.V p.m.mdl n q z.two).2) (fun _=> .agg #[.int .i64 (Vm.pick1 E.V p.m.mdl n q z.two).1.1, .int .i64 ((Vm.pick1 E.V p.m.mdl n q z.two).1.2:Int)])
   (fun z'=>blk xb (maC to tbs.length tc bo bn bc (n+(Vm.pick1 E.V p.m.mdl n q z.two).1.2)) 54::arr to tbs.length tc 55 ptrC tbs::TM p z'):=by
 obtain⟨R,hR⟩:∃R,R=Vm.pick1 E.V p.m.mdl n q z.two:=⟨_,rfl⟩;rw[←hR];refine JE [ptr xb, .agg #[.int .i64 (k:Int), .int .i64 q]] Tryz.func16 Tryz.ntmps16 fun w S=>?_
 (refine Jn ?_)
 repeat(refine Jy ?_;try first|intro ao cap|intro b)
 obtain⟨db,rfl⟩:∃x,x=b:=⟨_,rfl⟩;obtain⟨pb,rfl⟩:∃x,x=b:=⟨_,rfl⟩
 by_cases q1:q<1
 ·have hR':R=((5,0),z.two):=by rw[hR];unfold Vm.pick1;rw[if_pos (.inl q1)]
  subst hR'
  repeat(refine Jy ?_;try first|intro ao cap|intro b)
  (refine End.doneC1_ (z) (he:=Jv) (hp:=?_));exact⟨hz,rfl⟩
 by_cases q2:10000<q
 ·have hR':R=((5,0),z.two):=by rw[hR];unfold Vm.pick1;rw[if_pos (.inr q2)]
  subst hR'
  repeat(refine Jy ?_;try first|intro ao cap|intro b)
  (refine End.doneC1_ (z) (he:=Jv) (hp:=?_));exact⟨hz,rfl⟩
 have hq12:¬(q<1∨10000<q):=by omega
 repeat(refine Jy ?_;try first|intro ao cap|intro b)
 rw[show tbs.getD k default=p.tb from htb]
 repeat(refine Jy ?_;try first|intro ao cap|intro b)
 (refine JM (look_task p z hC hz hb hg) ?_;intro s hs;(refine Jn ?_))
 by_cases h1:(z.look p.m).st=1
 ·have hR':R=(if(Vm.goN E.V p.m.mdl (min q.toNat (20000-n)) (z.look p.m).two).1=0 then(10,0)else(0,(Vm.goN E.V p.m.mdl (min q.toNat (20000-n)) (z.look p.m).two).1),(Vm.goN E.V p.m.mdl (min q.toNat (20000-n)) (z.look p.m).two).2):=by
   rw[hR];unfold Vm.pick1;rw[if_neg hq12,←hz.look_two,if_neg (fun h=>h h1)]
  repeat(refine Jy ?_;try first|intro ao cap|intro b)
  obtain⟨lim,hlim⟩:∃lim,lim=min q.toNat (20000-n):=⟨_,rfl⟩;rw[←hlim]at hR';obtain⟨G,hG⟩:∃G,G=Vm.goN E.V p.m.mdl lim (z.look p.m).two:=⟨_,rfl⟩;rw[←hG]at hR';refine cutN (σ:=Nat×SL E) (fun s=>s.2.Wf∧G=(s.1,s.2.two)) (fun s=>[(4,ptr db),(6, .int .i64 (s.1:Int))]) (fun s=>old w S::md p.m::E.rc::blk db [.int .i64 0, .int .i64 0] 42::blk xb (maC to tbs.length tc bo bn bc (n+s.1)) 54::arr to tbs.length tc 55 ptrC tbs::TM p s.2) ?_ ?_
  ·rintro⟨j,z'⟩ ⟨g1,g2⟩;dsimp only at g1 g2⊢;rw[g2]at hR';dsimp only at hR'
   by_cases hj:j=0
   ·subst hj;rw[if_pos rfl]at hR';subst hR'
    repeat(refine Jy ?_;try first|intro ao cap|intro b)
    (refine End.doneC1_ (z') (he:=Jv) (hp:=?_));exact⟨g1,rfl⟩
   ·rw[if_neg hj]at hR';subst hR'
    repeat(refine Jy ?_;try first|intro ao cap|intro b)
    (refine End.doneC1_ (z') (he:=Jv) (hp:=?_));exact⟨g1,rfl⟩
  intro K3 hK3;refine Cod.only ((fun s=>old w S::md p.m::E.rc::blk pb [.int .i64 (k:Int), .int .i64 q] 67::blk db [.int .i64 0, .int .i64 0] 42::blk xb (maC to tbs.length tc bo bn bc (n+s.1)) 54::arr to tbs.length tc 55 ptrC tbs::TM p s.2) (0,z.look p.m)) (tks) ?_;apply Cod.loop (σ:=Nat×SL E) (fun s=>s.1≤lim∧s.2.Wf∧Vm.Good p.m.mdl T K s.2.two∧s.2.out.length≤2*(n+s.1)∧E.size (E.abs s.2.e)≤4*(n+s.1)∧G=((Vm.goN E.V p.m.mdl (lim-s.1) s.2.two).1+s.1,(Vm.goN E.V p.m.mdl (lim-s.1) s.2.two).2)) (fun s=>[(0,ptr xb),(3,ptr pb),(4,ptr db),(5,ptr p.tb),(6, .int .i64 (s.1:Int))]) (fun s=>old w S::md p.m::E.rc::blk pb [.int .i64 (k:Int), .int .i64 q] 67::blk db [.int .i64 0, .int .i64 0] 42::blk xb (maC to tbs.length tc bo bn bc (n+s.1)) 54::arr to tbs.length tc 55 ptrC tbs::TM p s.2) (fun s=>lim-s.1) (0,z.look p.m)
  rotate_left
  exact sb;exact tks;intro s hs K1 hK1;(refine Jn ?_)
  rotate_left
  ·exact⟨Nat.zero_le _,hz.look p.m,by rw[hz.look_two];exact Vm.look_good hg,ho,hsz,by rw[hG];simp⟩
  obtain⟨j,y⟩:=s;obtain⟨r1,r2,r3,r4,r5,r6⟩:=hs;dsimp only at r1 r2 r3 r4 r5 r6 hK1⊢
  by_cases hjq:(j:Int)<q
  ·by_cases hjn:n+j<20000
   ·have hjl:j<lim:=by omega
    repeat(refine Jy ?_;try first|intro ao cap|intro b)
    (refine JM (step_task p y hC hV r2 hb r3 (by omega) (by omega)) ?_;intro s hs;(refine Jn ?_));obtain⟨y',rfl⟩:∃x,x=s:=⟨_,rfl⟩;obtain⟨s1,s2⟩:=hs;have hmk:lim-j=(lim-(j+1))+1:=by omega
    rw[hmk]at r6;unfold Vm.goN at r6
    by_cases hbb:(Vm.step E.V p.m.mdl y.two).1=true
    ·rw[hbb];rw[if_pos hbb]at r6
     repeat(refine Jy ?_;try first|intro ao cap|intro b)
     refine End.round0_ hK1 (j+1,y') ?_ ?_
     ·refine⟨by omega,s1,by rw[s2];exact Vm.step_good hC hV r3,?_,?_,?_⟩
      ·have h1:=Vm.step_outLen (V:=E.V) (M:=p.m.mdl) y.two;have h2:y'.out=(Vm.step E.V p.m.mdl y.two).2.1.out:=congrArg (fun r=>r.1.out) s2;rw[h2];have h3:y.two.1.out.length≤2*(n+j):=r4;dsimp only;omega
      ·have h1:=Vm.step_size (M:=p.m.mdl) E.sPut E.sTake E.sTell y.two;have h2:E.abs y'.e=(Vm.step E.V p.m.mdl y.two).2.2:=congrArg (fun r=>r.2) s2;rw[h2];have h3:E.size y.two.2≤4*(n+j):=r5;dsimp only;omega
      ·rw[r6,s2];refine Prod.ext ?_ rfl;dsimp only;omega
     ·dsimp only;omega
    ·have hbb:(Vm.step E.V p.m.mdl y.two).1=false:=by simpa using hbb
     rw[hbb];rw[if_neg (by rw[hbb];simp)]at r6
     repeat(refine Jy ?_;try first|intro ao cap|intro b)
     refine End.some_ hK3 (j,y') ?_;exact⟨s1,by rw[r6,s2];exact Prod.ext (by simp) rfl⟩
   ·have hl:lim-j=0:=by omega
    repeat(refine Jy ?_;try first|intro ao cap|intro b)
    refine End.some_ hK3 (j,y) ?_;refine⟨r2,?_⟩;rw[r6,hl];exact Prod.ext (by simp[Vm.goN]) rfl
  ·have hl:lim-j=0:=by omega
   repeat(refine Jy ?_;try first|intro ao cap|intro b)
   refine End.some_ hK3 (j,y) ?_;refine⟨r2,?_⟩;rw[r6,hl];exact Prod.ext (by simp[Vm.goN]) rfl
 ·have hR':R=((11,0),(z.look p.m).two):=by
   rw[hR];unfold Vm.pick1;rw[if_neg hq12,←hz.look_two,if_pos (show(z.look p.m).two.1.st≠1 from h1)]
  subst hR'
  repeat(refine Jy ?_;try first|intro ao cap|intro b)
  (refine End.doneC1_ ((z.look p.m)) (he:=Jv) (hp:=?_));exact⟨hz.look p.m,rfl⟩
theorem pickOut_is(xb:Nat)(to:Option Addr)(tc tn:Nat)(bo:Option Addr)(bn bc n:Nat)(k q:Int)(hk:k<0∨(tn:Int)≤k):
  Fn Tryz.prog 16 #[ptr xb, .agg #[.int .i64 k, .int .i64 q]] [] [blk xb (maC to tn tc bo bn bc n) 54] (σ:=Unit) (fun _=>True) (fun _=> .agg #[.int .i64 3, .int .i64 0]) (fun _=>[blk xb (maC to tn tc bo bn bc n) 54]):=by
 refine JE [ptr xb, .agg #[.int .i64 k, .int .i64 q]] Tryz.func16 Tryz.ntmps16 fun w S=>?_
 (refine Jn ?_)
 by_cases h0:k<0
 ·repeat(refine Jy ?_;try first|intro ao cap|intro b)
  (refine End.doneC1_ (()) (he:=Jv) (hp:=?_));trivial
 ·repeat(refine Jy ?_;try first|intro ao cap|intro b)
  (refine End.doneC1_ (()) (he:=Jv) (hp:=?_));trivial
end
attribute [local irreducible] Run Cod End OpT Still RunQ RunS RunT Fn PutOk
structure Ring where
 bb:Nat
 lb:Nat
 l:List Int
 first:Nat
 n:Nat
instance:Inhabited Ring:=⟨⟨0,0,[],0,0⟩⟩
structure Ring.Ok(r:Ring):Prop where
 n:r.n≤r.l.length
 first:r.first<r.l.length
 cap:r.l.length≤20
def Ring.ws(r:Ring):List Int:=(List.range r.n).map fun i=>r.l.getD ((r.first+i) % r.l.length) 0
abbrev rgC(r:Ring):List Value:=[.slice (some ⟨r.lb,0,none⟩) r.l.length r.l.length, .int .i64 (r.first:Int), .int .i64 (r.n:Int)]
abbrev rgM(r:Ring):List Chunk:=[blk r.bb (rgC r) 112,arr (some ⟨r.lb,0,none⟩) r.l.length r.l.length 2 i64c r.l]
theorem Ring.len(r:Ring):r.ws.length=r.n:=by simp[Ring.ws]
abbrev Ring.put(r:Ring)(v:Int):Ring:={r with l:=r.l.set ((r.first+r.n) % r.l.length) v,n:=r.n+1}
abbrev Ring.take(r:Ring):Ring:={r with first:=(r.first+1) % r.l.length,n:=r.n-1}
theorem mod_one{a b n:Nat}(h:a<n)(hb:b<n):(a+b) % n=if a+b<n then a+b else a+b-n:=by
 by_cases h1:a+b<n
 ·rw[if_pos h1,Nat.mod_eq_of_lt h1]
 ·rw[if_neg h1,Nat.mod_eq_sub_mod (by omega),Nat.mod_eq_of_lt (by omega)]
theorem Ring.put_ok{r:Ring}(h:r.Ok)(hn:r.n<r.l.length)(v:Int):(r.put v).Ok∧(r.put v).ws=r.ws ++[v]:=by
 obtain⟨h1,h2,h3⟩:=h;refine⟨⟨by simp;omega,by simpa using h2,by simpa using h3⟩,?_⟩;have hlt:(r.first+r.n) % r.l.length<r.l.length:=Nat.mod_lt _ (by omega);unfold Ring.ws;simp only[Ji];rw[List.range_succ,Jq];congr 1
 ·refine List.map_congr_left fun i hi=>?_
  have hi:i<r.n:=List.mem_range.1 hi;have hne:(r.first+r.n) % r.l.length≠(r.first+i) % r.l.length:=by
   rw[mod_one h2 hn,mod_one h2 (by omega)]
   split<;>split<;>omega
  simp only[Jd];rw[List.getElem?_set_ne hne]
 ·simp only[List.map_cons,List.map_nil,Jd];rw[JS hlt];rfl
theorem Ring.take_ok{r:Ring}(h:r.Ok)(hn:r.n≠0):r.take.Ok∧r.ws=r.l.getD r.first 0::r.take.ws:=by
 obtain⟨h1,h2,h3⟩:=h;refine⟨⟨by simp only;omega,Nat.mod_lt _ (by omega),h3⟩,?_⟩;obtain⟨m,hm⟩:∃m,r.n=m+1:=⟨r.n-1,by omega⟩;unfold Ring.ws;simp only[hm,Nat.add_sub_cancel];rw[List.range_succ_eq_map,List.map_cons,List.map_map];congr 1
 ·rw[Nat.add_zero,Nat.mod_eq_of_lt h2]
 ·refine List.map_congr_left fun i hi=>?_
  have hi:i<m:=List.mem_range.1 hi;simp only[Function.comp_apply,Nat.succ_eq_add_one];congr 1;rw[Nat.mod_add_mod];congr 1;omega
theorem Ring.head{r:Ring}(h:r.Ok)(hn:r.n≠0):r.ws.headD 0=r.l.getD r.first 0∧r.ws.tail=r.take.ws:=by rw[(Ring.take_ok h hn).2];exact⟨rfl,rfl⟩
theorem full_rg(r:Ring):Fn Tryz.prog 131 #[ptr r.bb] [] (rgM r) (σ:=Unit) (fun _=>True) (fun _=> .bool (decide (r.n=r.l.length))) (fun _=>rgM r):=by
 refine JE [ptr r.bb] Tryz.func131 Tryz.ntmps131 fun w S=>?_
 (refine Jn ?_)
 repeat(refine Jy ?_;try first|intro ao cap|intro b)
 (refine End.done1_ (()) (he:=by exact bool_eq (decide_eq_decide.2 (by omega))) (hp:=?_));trivial
theorem empty_rg(r:Ring):Fn Tryz.prog 130 #[ptr r.bb] [] (rgM r) (σ:=Unit) (fun _=>True) (fun _=> .bool (decide (r.n=0))) (fun _=>rgM r):=by
 refine JE [ptr r.bb] Tryz.func130 Tryz.ntmps130 fun w S=>?_
 (refine Jn ?_)
 repeat(refine Jy ?_;try first|intro ao cap|intro b)
 (refine End.done1_ (()) (he:=by exact bool_eq (decide_eq_decide.2 (by omega))) (hp:=?_));trivial
theorem put_rg(r:Ring)(h:r.Ok)(hn:r.n<r.l.length)(v:Int):Fn Tryz.prog 132 #[ptr r.bb, .int .i64 v] [] (rgM r) (σ:=Unit) (fun _=>True) (fun _=> .tuple #[]) (fun _=>rgM (r.put v)):=by
 obtain⟨h1,h2,h3⟩:=h;have hlt:(r.first+r.n) % r.l.length<r.l.length:=Nat.mod_lt _ (by omega);have hm:((r.first:Int)+(r.n:Int)).tmod (r.l.length:Int)=(((r.first+r.n) % r.l.length:Nat):Int):=by
  rw[←Int.natCast_add,Int.ofNat_tmod]
 refine JE [ptr r.bb, .int .i64 v] Tryz.func132 Tryz.ntmps132 fun w S=>?_
 (refine Jn ?_)
 repeat(refine Jy ?_;try first|intro ao cap|intro b)
 refine RunS.val_ (h:=by exact Still.rem rfl rfl (by omega) hm) (k:=?_)
 repeat(refine Jy ?_;try first|intro ao cap|intro b)
 (apply Run.op;exact rfl;refine OpT.storeE_ (f:=i64c) (l:=r.l) (i:=(r.first+r.n) % r.l.length) (off:=0) (vs:=[.int .i64 v]) (a':=v) (k:=?_))
 repeat(refine Jy ?_;try first|intro ao cap|intro b)
 have hle:(r.l.set ((r.first+r.n) % r.l.length) v).length=r.l.length:=Ji;refine End.done0'_ () (ht:=by(simp only[rgM,rgC,Ring.put,hle];exact tks)) (hp:=trivial)
theorem take_rg(r:Ring)(h:r.Ok)(hn:r.n≠0):Fn Tryz.prog 133 #[ptr r.bb] [] (rgM r) (σ:=Unit) (fun _=>True) (fun _=> .int .i64 (r.l.getD r.first 0)) (fun _=>rgM r.take):=by
 obtain⟨h1,h2,h3⟩:=h;refine JE [ptr r.bb] Tryz.func133 Tryz.ntmps133 fun w S=>?_
 (refine Jn ?_);have hm:((r.first:Int)+1).tmod (r.l.length:Int)=(((r.first+1) % r.l.length:Nat):Int):=by
  rw[show(r.first:Int)+1=((r.first+1:Nat):Int) by omega,Int.ofNat_tmod]
 repeat(refine Jy ?_;try first|intro ao cap|intro b)
 refine RunS.val_ (h:=by exact Still.rem rfl rfl (by omega) hm) (k:=?_)
 repeat(refine Jy ?_;try first|intro ao cap|intro b)
 have hn1:(r.n:Int)-1=((r.n-1:Nat):Int):=by omega
 rw[hn1];(refine End.done1_ (()) (he:=Jv) (hp:=?_));trivial
end Go.Proofs.YtjehflelkpacfaaGreat.Vw
