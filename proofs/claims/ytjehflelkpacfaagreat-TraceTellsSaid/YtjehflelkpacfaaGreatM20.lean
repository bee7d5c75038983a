/- The document's task: a step, walked: a call. -/
import Derived.Test.YtjehflelkpacfaaGreatM19
set_option linter.unusedVariables false
set_option linter.unusedSimpArgs false
set_option linter.unusedSectionVars false
set_option maxRecDepth 100000
namespace Go.Proofs.YtjehflelkpacfaaGreat.Vw
open Go.RowKit Go.Proofs.YtjehflelkpacfaaGreat.Img
section
section
variable{ν:Type}{V:Vm.Env ν}
theorem pushN_stuck:∀(n:Nat) {s:Vm.Tk×ν},s.1.st=5→(Vm.cur s.1).ws.length=400→Vm.pushN V n s=s
 |0,s,_,_=>rfl
 |n+1,s,h1,h2=>by
  unfold Vm.pushN;have e:Vm.push V 0 s=s:=by
   unfold Vm.push;rw[if_pos h2];unfold Vm.trap;rw[if_pos h1]
  rw[e];exact pushN_stuck n h1 h2
end
attribute [local irreducible] Run Cod End OpT Still RunQ RunS RunT Fn PutOk
variable{E:EnvR}
set_option maxHeartbeats 2000000 in
theorem step9_14(tb:Nat)(m:ML)(z:RT E)(hz:z.Wf)(hk:CanR m z)(h1:(z.look m).st=1)(hop:(insR m (z.look m)).op=23):StepF tb m z:=by
 unfold StepF;have hp:=pre9 hz hk h1;have hlk:=look9_is tb m hk.boxes z hz (fun _=>hk.stand);have hbx:=hk.boxes;rw[hz.step_two m h1];clear hk h1;generalize z.look m=z0 at hp hlk hop⊢;obtain⟨hn,hg,hfl,hf40,hws,hpc,w1,w2⟩:=hp.num;have h1:=hp.one;refine JE [ptr tb,E.mailV] Tryz.func35 Tryz.ntmps35 fun w S=>?_
 (refine Jn ?_)
 repeat(refine Jy ?_;try first|intro ao cap|intro b)
 (refine JM (hlk) ?_;intro s hs;(refine Jn ?_))
 repeat(refine Jy ?_;try first|intro ao cap|intro b)
 (refine Jc ?_;refine OpT.call0_ (spec:=at9_is tb m z0 hp.wf hp.st) (r:=fun w=>Reads.md (tk) .nil) (k:=?_);intro s hs;(refine Jn ?_))
 repeat(refine Jy ?_;try first|intro ao cap|intro b)
 obtain⟨ib,rfl⟩:∃x,x=b:=⟨_,rfl⟩;rw[hg]
 repeat(refine Jy ?_;try first|intro ao cap|intro b)
 rw[w1,Jj,w2];(apply Run.op;exact rfl;refine OpT.storeE_ (f:=rfC) (l:=z0.cur.fr) (i:=z0.cur.fr.length-1) (off:=1) (vs:=[.int .i64 ((z0.f.pc+1:Nat):Int)]) (a':=(⟨z0.f.unit,z0.f.pc+1,z0.f.base⟩:Vm.Fr)) (k:=?_));apply Run.nil;apply End.seqN;refine Cod.sub [(0,ptr tb),(1,E.mailV),(4, .bool false),(5,ptr ib),(6, .pointer (place (sz rcC) z0.to z0.now 0)),(7, .pointer (place (sz rfC) z0.cur.fo (z0.cur.fr.length-1) 0)),(8, .int .i64 (z0.f.base:Int))] (Ju) ?_;apply Cod.imp (fun w hm=>Mem.frs hp.wf (fr':=z0.cur.fr.set (z0.cur.fr.length-1) ⟨z0.f.unit,z0.f.pc+1,z0.f.base⟩) (by rw[Ji]) hm (tks));refine Cod.only (old w S::md m::E.rc::blk ib (insC (insR m z0)) 126::RM tb m z0.mvd) (tks) ?_;obtain⟨p1,p2,p3⟩:=mvd_places hfl;rw[p1,p2,p3];have hm:=hp.mid;clear hp hlk hn hg hfl hf40 w1 w2 hpc hws p1 p2 p3 h1;generalize insR m z0=i at hm hop⊢;generalize z0.mvd=z1 at hm⊢;obtain⟨hz1,hc,ha,hw1,hfl1,hf40,hst1,hlog1,hout1,hsz1,hcs2,hun,hall,hsts,hfree,hn,hg⟩:=hm;obtain⟨a0,alt,p0,pl,pL,few⟩:=hc.unit (.inl hop);have e3:Vm.wl z1.tk=z1.cur.ws.length:=by unfold Vm.wl;rw[hz1.ws]
 obtain⟨k,hka⟩:∃k:Nat,i.a=(k:Int):=⟨i.a.toNat,by omega⟩;rw[show i.a.toNat=k by omega,show m.mdl.units.length=m.us.length from Jf _]at alt;rw[show i.a.toNat=k by omega,unt_us]at p0 pl pL few;rw[e3]at pl;obtain⟨p,hp⟩:∃p:Nat,(m.us.getD k default).u.params=(p:Int):=⟨(m.us.getD k default).u.params.toNat,by omega⟩;rw[hp,Jj]at pl pL;obtain⟨u,hu⟩:∃u,u=m.us.getD k default:=⟨_,rfl⟩;rw[←hu]at hp pL few;have hex:Vm.exec E.W m.mdl i z1.two=if z1.cur.fr.length=40 then Vm.trap E.W 4 z1.two else Vm.pushN E.W (u.u.locals.length-p) (Vm.setCur z1.tk {Vm.cur z1.tk with fr:=z1.cur.fr ++[⟨k,0,z1.cur.ws.length-p⟩]},z1.two.2):=by
  have e0:Vm.exec E.W m.mdl i z1.two=Vm.callU E.W m.mdl k z1.two:=by
   rw[←show i.a.toNat=k by omega];unfold Vm.exec;simp[hop]
  rw[e0];unfold Vm.callU;have e1:(Vm.unt m.mdl k).params.toNat=p:=by rw[unt_us,←hu,hp];rfl
  rw[e1,unt_us,←hu,show z1.two.1=z1.tk from rfl,hz1.frs,hz1.ws]
 repeat(refine Jy ?_;try first|intro ao cap|intro b)
 apply Cod.draw 10 ([blk ib (insC i) 126,rkM tb m z1,md m]) (by kernel_rfl) 11 rfl;refine JR 0 ?_;refine JR 1 ?_;refine JR 2 ?_;refine JR 3 ?_;refine JR 4 ?_;refine JR 5 ?_;refine JR 6 ?_;rw[hka];refine JR 7 ?_;refine JR 8 ?_;rw[←hu];(refine JT 9 ?_;(first|refine Jw ?_|(refine Jb ?_;intro b)|(refine Ja ?_;intro ao cap));refine JG ?_);(refine JT 10 ?_;(first|refine Jw ?_|(refine Jb ?_;intro b)|(refine Ja ?_;intro ao cap));refine JG ?_);obtain⟨ub,rfl⟩:∃x,x=b:=⟨_,rfl⟩;(apply RunT.done;kernel_rfl)
 repeat(refine Jy ?_;try first|intro ao cap|intro b)
 rw[hg]
 by_cases h40:z1.cur.fr.length=40
 ·rw[if_pos h40]at hex
  repeat(refine Jy ?_;try first|intro ao cap|intro b)
  (refine JQ (fall_is tb m z1 (by omega) 4) ?_;intro s hs;(refine Jn ?_));obtain⟨z2,rfl⟩:∃x,x=s:=⟨_,rfl⟩;have g:GivesR (Vm.exec E.W m.mdl i z1.two) z2:=by rw[hex];exact hs.gives hz1
  repeat(refine Jy ?_;try first|intro ao cap|intro b)
  (refine JM (look9_is tb m hbx (z2) (g).wf (ha (z2) (g).wf (g).two)) ?_;intro s hs;(refine Jn ?_))
  repeat(refine Jy ?_;try first|intro ao cap|intro b)
  (refine End.done1_ ((RT.look (z2) m)) (he:=Jv) (hp:=?_));exact⟨(g).wf.look m,((g).wf.look_two m).trans (by rw[(g).two])⟩
 rw[if_neg h40]at hex
 repeat(refine Jy ?_;try first|intro ao cap|intro b)
 refine Cod.sub [(0,ptr tb),(1,E.mailV),(4, .bool false),(5,ptr ib),(6, .pointer (place (sz rcC) z1.to z1.now 0)),(13,ptr ub)] (Ju) ?_;have w6:IntKind.i64.wrap ((z1.cur.ws.length:Int)-u.u.params)=((z1.cur.ws.length-p:Nat):Int):=by rw[wrap_i64_in (by omega)];omega
 obtain⟨fn,hfn⟩:∃fn:Vm.Fr,fn=⟨k,0,z1.cur.ws.length-p⟩:=⟨_,rfl⟩;have hfnC:rfC fn=[.int .i64 (k:Int), .int .i64 0, .int .i64 ((z1.cur.ws.length-p:Nat):Int)]:=by rw[hfn];rfl
 apply Cod.draw 22 ([rtM z1,blk ib (insC i) 126,blk ub (ucell u) 115]) (by kernel_rfl) 23 rfl;refine JR 0 ?_;refine JR 2 ?_;refine JR 3 ?_;refine JR 4 ?_;refine JR 5 ?_;refine JR 7 ?_;refine JR 8 ?_;refine JR 9 ?_;refine JR 10 ?_;refine JR 11 ?_;refine JR 12 ?_;refine JR 13 ?_;refine JR 14 ?_;refine JR 15 ?_;rw[hg,hka];refine JR 16 ?_;refine JR 17 ?_;rw[←hfnC];refine RunT.meet (σ:=Option Addr×Nat×Nat) (fun s=>[(0,ptr tb),(1,E.mailV),(4, .bool false),(5,ptr ib),(6, .pointer (place (sz rcC) z1.to z1.now 0)),(13,ptr ub),(254, .pointer (place (sz rcC) z1.to z1.now 0)),(260, .slice s.1 z1.cur.fr.length s.2.1),(272, .slice (some ⟨s.2.2,0,none⟩) 1 1)]) (fun s=>[arr s.1 z1.cur.fr.length s.2.1 148 rfC z1.cur.fr,blk s.2.2 (rfC fn) 148,old w S,md m,E.rc,blk ib (insC i) 126,blk ub (ucell u) 115,rkM tb m z1,rtM z1,bagR (z1.oth.eraseIdx z1.now),rfM z1.cur,rwM z1.cur,roM z1,rlM z1,E.mem z1.e]) 4 #[true,true,true,true,true,true,true,true,true,true,true,true,true,true,true,true,true,true,true,false,false,false,false] ?_ ?_
 ·rintro⟨ao,cap,pb⟩;dsimp only;refine JT 19 ?_;refine OpT.append1_ (f:=rfC) (a:=fn) (k:=?_);intro ao2 cap2;refine JG ?_;rw[snoc_len z1.cur.fr fn];refine JR 20 ?_;refine JR 21 ?_;(refine JT 22 ?_;refine OpT.storeE_ (f:=rcC) (l:=z1.all) (i:=z1.now) (off:=2) (vs:=[.slice ao2 (z1.cur.fr ++[fn]).length cap2]) (a':=({z1.cur with fo:=ao2,fc:=cap2,fr:=z1.cur.fr ++[fn]}:RC)) (hp:=by rw[hg];exact Put.rcF _ _ _) (k:=?_);refine JG ?_);(apply RunT.done;kernel_rfl);rw[←RT.all_cur];obtain⟨z2,hz2⟩:∃x,x=z1.to_ {z1.cur with fo:=ao2,fc:=cap2,fr:=z1.cur.fr ++[fn]}:=⟨_,rfl⟩;apply End.imp (fun w hm=>hm.takes (show Takes (RM tb m z2) _ _ by(rw[hz2];(repeat(first|exact Takes.nil|exact Take.head|apply Take.tail|apply Takes.cons)))));(refine Jn ?_);have z2w:z2.Wf:=by rw[hz2];exact hz1.to_ _
  have z2o:z2.cur.ws=z1.cur.ws∧z2.log=z1.log∧z2.e=z1.e∧z2.st=z1.st:=by rw[hz2];exact⟨rfl,rfl,rfl,rfl⟩
  have z2t:z2.two=(Vm.setCur z1.tk {Vm.cur z1.tk with fr:=z1.cur.fr ++[⟨k,0,z1.cur.ws.length-p⟩]},z1.two.2):=by
   unfold RT.two;rw[z2o.2.1,z2o.2.2.1,hz2,RT.tk_cur,hz1.cur,hfn];rfl
  rw[←z2t]at hex;clear hz2 z2t
  repeat(refine Jy ?_;try first|intro ao cap|intro b)
  rw[hp];refine Cod.only ((fun s:RT E×Nat=>old w S::md m::E.rc::blk ib (insC i) 126::blk ub (ucell u) 115::RM tb m s.1) (z2,p)) (tks) ?_;apply Cod.loop (σ:=RT E×Nat) (fun s=>s.1.Wf∧p≤s.2∧s.2≤u.u.locals.length∧Vm.pushN E.W (u.u.locals.length-s.2) s.1.two=Vm.exec E.W m.mdl i z1.two∧s.1.cur.ws.length≤400∧s.1.log.length≤1000000+s.2∧(s.1.st=1∨(s.1.st=5∧s.1.cur.ws.length=400))) (fun s=>[(0,ptr tb),(1,E.mailV),(4, .bool false),(5,ptr ib),(13,ptr ub),(14, .int .i64 (s.2:Int))]) (fun s:RT E×Nat=>old w S::md m::E.rc::blk ib (insC i) 126::blk ub (ucell u) 115::RM tb m s.1) (fun s=>u.u.locals.length-s.2) (z2,p)
  rotate_left
  exact sb;exact tks;intro s hs K1 hK1;(refine Jn ?_)
  rotate_left
  ·exact⟨z2w,Nat.le_refl _,pL,hex.symm,by rw[z2o.1];exact hw1,by rw[z2o.2.1];simp only;omega, .inl (by rw[z2o.2.2.2];exact hst1)⟩
  obtain⟨zc,n⟩:=s;obtain⟨c1,c2,c3,c4,c5,c6,c7⟩:=hs;simp only at c1 c2 c3 c4 c5 c6 c7 hK1⊢
  by_cases hn:n<u.u.locals.length
  ·rcases c7 with c7|⟨c7,c8⟩
   ·repeat(refine Jy ?_;try first|intro ao cap|intro b)
    (refine JQ (put9_is tb m zc c1 (by omega) (by omega) 0) ?_;intro s hs;(refine Jn ?_));obtain⟨z',rfl⟩:∃x,x=s:=⟨_,rfl⟩;have hg':=hs.gives c1 c5;have hl':=hs.log;have e4:Vm.pushN E.W (u.u.locals.length-(n+1)) z'.two=Vm.exec E.W m.mdl i z1.two:=by
     rw[hg'.two,←c4,show u.u.locals.length-n=(u.u.locals.length-(n+1))+1 by omega];rfl
    have e5:z'.cur.ws.length≤400∧(z'.st=1∨(z'.st=5∧z'.cur.ws.length=400)):=by
     rcases hs with⟨h4,⟨h5,rfl⟩|⟨h5,q,rfl⟩⟩|⟨h4,wo,wc,rfl⟩
     ·omega
     ·exact⟨c5, .inr ⟨rfl,by show zc.cur.ws.length=400;omega⟩⟩
     ·refine⟨?_, .inl c7⟩;show(zc.cur.ws ++[0]).length≤400;simp;omega
    repeat(refine Jy ?_;try first|intro ao cap|intro b)
    refine End.round0_ hK1 (z',n+1) ?_ ?_
    ·exact⟨hg'.wf,by simp only;omega,by simp only;omega,e4,e5.1,by simp only;omega,e5.2⟩
    ·simp only;omega
   ·have g:GivesR (Vm.exec E.W m.mdl i z1.two) zc:=⟨c1,by
     rw[←c4];exact(pushN_stuck _ (show zc.two.1.st=5 from c7) (by show(Vm.cur zc.tk).ws.length=400;rw[c1.ws];exact c8)).symm⟩
    clear hK1
    repeat(refine Jy ?_;try first|intro ao cap|intro b)
    (refine JM (look9_is tb m hbx (zc) (g).wf (ha (zc) (g).wf (g).two)) ?_;intro s hs;(refine Jn ?_))
    repeat(refine Jy ?_;try first|intro ao cap|intro b)
    (refine End.done1_ ((RT.look (zc) m)) (he:=Jv) (hp:=?_));exact⟨(g).wf.look m,((g).wf.look_two m).trans (by rw[(g).two])⟩
  ·have g:GivesR (Vm.exec E.W m.mdl i z1.two) zc:=⟨c1,by
    rw[←c4,show u.u.locals.length-n=0 by omega];rfl⟩
   clear hK1
   repeat(refine Jy ?_;try first|intro ao cap|intro b)
   (refine JM (look9_is tb m hbx (zc) (g).wf (ha (zc) (g).wf (g).two)) ?_;intro s hs;(refine Jn ?_))
   repeat(refine Jy ?_;try first|intro ao cap|intro b)
   (refine End.done1_ ((RT.look (zc) m)) (he:=Jv) (hp:=?_));exact⟨(g).wf.look m,((g).wf.look_two m).trans (by rw[(g).two])⟩
 ·intro J;refine RunT.two_ 1 18 (h:=?_) (h':=?_)
  ·refine OpT.buildSlice0_ (k:=?_);intro zb;refine JG ?_;refine RunT.imp (fun w hm=>hm.toArr (iα:=inferInstance) (ef:=inferInstance) (b:=zb) (e:=148) (f:=rfC) (n:=0) (tk) ([]:List Vm.Fr) rfl rfl (by unfold maxLen;simp)) ?_;refine RunT.two_ 6 18 (h:=?_) (h':=?_)
   ·refine OpT.appendS_ (l2:=z1.cur.fr) (k:=?_);intro ao cap;refine JG ?_;rw[Nat.zero_add,Jk];refine JT 18 ?_;refine OpT.buildSlice_ (k:=?_);intro pb;refine JG ?_;exact J (ao,cap,pb) (by kernel_rfl) (Ju) (tks)
   ·refine OpT.buildSlice_ (k:=?_);intro pb;refine JG ?_;refine JT 6 ?_;refine OpT.appendS_ (l2:=z1.cur.fr) (k:=?_);intro ao cap;refine JG ?_;rw[Nat.zero_add,Jk];exact J (ao,cap,pb) (by kernel_rfl) (Ju) (tks)
  ·refine OpT.buildSlice_ (k:=?_);intro pb;refine JG ?_;refine JT 1 ?_;refine OpT.buildSlice0_ (k:=?_);intro zb;refine JG ?_;refine RunT.imp (fun w hm=>hm.toArr (iα:=inferInstance) (ef:=inferInstance) (b:=zb) (e:=148) (f:=rfC) (n:=0) (tk) ([]:List Vm.Fr) rfl rfl (by unfold maxLen;simp)) ?_;refine JT 6 ?_;refine OpT.appendS_ (l2:=z1.cur.fr) (k:=?_);intro ao cap;refine JG ?_;rw[Nat.zero_add,Jk];exact J (ao,cap,pb) (by kernel_rfl) (Ju) (tks)
end
section
attribute [local irreducible] Run Cod End OpT Still RunQ RunS RunT Fn PutOk
variable{E:EnvR}
theorem step9_0(tb:Nat)(m:ML)(z:RT E)(hz:z.Wf)(hb:E.boxes=m.bx.length)(hs:z.st≤3→Vm.StandT m.mdl z.tk)(h1:(z.look m).st≠1):StepF tb m z:=by
 unfold StepF;have e0:Vm.step E.W m.mdl z.two=(false,(z.look m).two):=by
  unfold Vm.step;rw[←hz.look_two m];exact if_pos h1
 rw[e0];refine JE [ptr tb,E.mailV] Tryz.func35 Tryz.ntmps35 fun w S=>?_
 (refine Jn ?_)
 repeat(refine Jy ?_;try first|intro ao cap|intro b)
 (refine JM (look9_is tb m hb z hz hs) ?_;intro s hs;(refine Jn ?_))
 repeat(refine Jy ?_;try first|intro ao cap|intro b)
 (refine End.done1_ ((z.look m)) (he:=Jv) (hp:=?_));exact⟨hz.look m,rfl⟩
theorem step9_y(tb:Nat)(m:ML)(z:RT E)(hz:z.Wf)(hk:CanR m z)(h1:(z.look m).st=1):StepF tb m z:=by
 have ho:=hk.can.op
 by_cases a1:(insR m (z.look m)).op≤3
 ·exact step9_1 tb m z hz hk h1 (by omega)
 by_cases a2:(insR m (z.look m)).op=4
 ·exact step9_3 tb m z hz hk h1 a2
 by_cases a3:(insR m (z.look m)).op≤7
 ·exact step9_2 tb m z hz hk h1 (by omega)
 by_cases a4:(insR m (z.look m)).op≤20
 ·exact step9_7 tb m z hz hk h1 (by omega)
 by_cases a5:(insR m (z.look m)).op≤22
 ·exact step9_4 tb m z hz hk h1 (by omega)
 by_cases a6:(insR m (z.look m)).op=23
 ·exact step9_14 tb m z hz hk h1 a6
 by_cases a7:(insR m (z.look m)).op=24
 ·exact step9_8 tb m z hz hk h1 a7
 by_cases a8:(insR m (z.look m)).op=25
 ·exact step9_11 tb m z hz hk h1 a8
 by_cases a9:(insR m (z.look m)).op=27
 ·exact step9_6 tb m z hz hk h1 a9
 by_cases b1:(insR m (z.look m)).op=29
 ·exact step9_13 tb m z hz hk h1 b1
 by_cases b2:(insR m (z.look m)).op=30
 ·exact step9_12 tb m z hz hk h1 b2
 by_cases b3:(insR m (z.look m)).op=31
 ·exact step9_10 tb m z hz hk h1 b3
 by_cases b4:(insR m (z.look m)).op=32
 ·exact step9_9 tb m z hz hk h1 b4
 ·exact step9_5 tb m z hz hk h1 (by omega)
end
section
variable{E:EnvR}{m:ML}{T:Nat→Int→Option Ver.Shape}{K:E.ν×List Vm.Ev→Prop}
theorem stand_good{z:RT E}(hC:Vm.Certs m.mdl T)(hG:Vm.Good m.mdl T K z.two)(h3:z.st≤3):Vm.StandT m.mdl z.tk:=by
 rcases hG.1 with h|h|⟨-,ch,h⟩
 ·exact absurd (show z.st=5 from h) (by omega)
 ·exact absurd (show z.st=4 from h) (by omega)
 ·exact Vm.standT_of hC h
theorem can_good{z:RT E}(hC:Vm.Certs m.mdl T)(hV:Vm.EnvOk E.W m.mdl K)(hz:z.Wf)(hb:E.boxes=m.bx.length)(hG:Vm.Good m.mdl T K z.two)(h1:(z.look m).st=1)(hl:z.log.length≤1000000)(ho:z.out.length≤1000000)(hs:E.size (E.abs z.e)≤1000000):CanR m z:=by
 have h3:=look_st1 hz h1;obtain⟨ch,hok⟩:∃ch,Vm.Ok m.mdl T z.tk ch:=by
  rcases hG.1 with h|h|⟨-,h⟩
  ·exact absurd (show z.st=5 from h) (by omega)
  ·exact absurd (show z.st=4 from h) (by omega)
  ·exact h
 have hst:=Vm.standT_of hC hok;have hl':=hz.look m;have hokl:Vm.Ok m.mdl T (z.look m).tk ch:=by
  unfold RT.look;rw[if_pos h3];exact hok.st _ _
 have hi:Vm.insT m.mdl (z.look m).tk=insR m (z.look m):=hl'.ins m;have hc:=Vm.canT_of hC hokl;rw[hi]at hc;have hfr:(z.look m).cur.fr≠[]:=by
  have:=(Vm.standT_of hC hokl).fr;rwa [hl'.frs]at this
 have hfree:=look_free hz h1;have hK:K (E.abs (z.look m).e,(z.look m).log):=by rw[look_e,look_log];exact hG.2
 have hres:=Vm.exec_res hC hV hokl hK (by rw[hi];exact hfree);rw[hi]at hres;have hm2:=hl'.mvd_two;unfold Vm.mvd at hm2;rw[←hm2]at hres;refine⟨hb,hst,mvd_can hl' hfr hc,hl,ho,hs,fun z2 hz2 e h3=>?_⟩;rw[←e]at hres;rcases hres.1 with h|h|⟨ch',h⟩
 ·exact absurd (show z2.st=5 from h) (by omega)
 ·exact absurd (show z2.st=4 from h) (by omega)
 ·exact Vm.standT_of hC h
theorem stepR_is(tb:Nat)(z:RT E)(hC:Vm.Certs m.mdl T)(hV:Vm.EnvOk E.W m.mdl K)(hz:z.Wf)(hb:E.boxes=m.bx.length)(hG:Vm.Good m.mdl T K z.two)(hl:z.log.length≤1000000)(ho:z.out.length≤1000000)(hs:E.size (E.abs z.e)≤1000000):StepF tb m z:=by
 by_cases h1:(z.look m).st=1
 ·exact step9_y tb m z hz (can_good hC hV hz hb hG h1 hl ho hs) h1
 ·exact step9_0 tb m z hz hb (stand_good hC hG) h1
end
theorem ok_W{E:EnvR}{M:ImgM.Mdl}{K:E.ν→Prop}(h:Vm.EnvOk E.V M K):Vm.EnvOk E.W M (fun s=>K s.1):=⟨fun s b hK hb he=>h.take s.1 b hK hb he,fun s b v hK hb hf hv ht=>h.put s.1 b v hK hb hf hv ht,fun s e hK=>hK⟩
abbrev RT.born(E:EnvR)(ob u fb:Nat)(wo:Option Addr)(wc:Nat)(ws:List Int)(e:E.μ):RT E:=⟨some ⟨ob,0,none⟩,1,[⟨2, -1,some ⟨fb,0,none⟩,1,[⟨u,0,0⟩],wo,wc,ws⟩],0,⟨2, -1,some ⟨fb,0,none⟩,1,[⟨u,0,0⟩],wo,wc,ws⟩,1,0,0,none,0,[],none,0,[],e⟩
abbrev bornM(tb:Nat)(m:ML)(ob u fb:Nat)(wo:Option Addr)(wc:Nat)(ws:List Int):List Chunk:=[blk tb [.slice m.bo m.bx.length m.bc, .slice m.uo m.us.length m.uc, .slice (some ⟨ob,0,none⟩) 1 1, .int .i64 0, .int .i64 1, .int .i64 0, .int .i64 0, .slice none 0 0, .bool false, .int .i64 0, .slice none 0 0] 79,arr (some ⟨ob,0,none⟩) 1 1 140 rcC [⟨2, -1,some ⟨fb,0,none⟩,1,[⟨u,0,0⟩],wo,wc,ws⟩],bag [],arr (some ⟨fb,0,none⟩) 1 1 148 rfC [⟨u,0,0⟩],arr wo ws.length wc 2 i64c ws,arr none 0 0 2 i64c [],arr none 0 0 57 revC []]
theorem RunS.imp{P:Program}{ops:Array Oper}{rest:List Oper}{Q:Exit→Act→World→Prop}{N:Nat}{l:List Oper}{E:Env}{L L':List Chunk}(t:∀w,Mem w L→Mem w L')(h:RunS P ops rest Q N l E L'):RunS P ops rest Q N l E L:=fun a w hs hm=>h a w hs (t w hm)
attribute [local irreducible] Run Cod End OpT Still RunQ RunS RunT Fn PutOk
theorem new9_is(E:EnvR)(e:E.μ)(m:ML)(u:Nat)(hu:u<m.us.length)(hl:(m.us.getD u default).u.locals.length≤1000):
  Fn Tryz.prog 34 #[m.val, .int .i64 (u:Int)] [md m] [] (σ:=Nat×Nat×Nat×Option Addr×Nat) (fun _=>True) (fun s=>ptr s.1) (fun s=>bornM s.1 m s.2.1 u s.2.2.1 s.2.2.2.1 s.2.2.2.2 (Vm.begin m.mdl u []).ws):=by
 refine JE [m.val, .int .i64 (u:Int)] Tryz.func34 Tryz.ntmps34 fun w S=>?_
 (refine Jn ?_)
 repeat(refine Jy ?_;try first|intro ao cap|intro b)
 obtain⟨tb,rfl⟩:∃x,x=b:=⟨_,rfl⟩;apply Run.imp (fun w hm=>hm.nilArr 2 i64c);(apply Run.op;exact rfl;refine OpT.call0_ (spec:=thread_is (E:=E) tb m ⟨none,0,[],0,default,1,0,0,none,0,[],none,0,[],e⟩ u hu hl none 0 0 [] rfl (Nat.zero_le _)) (k:=?_);intro s hs;(refine Jn ?_));obtain⟨fb,wo,wc⟩:=s;dsimp only;obtain⟨c,hc⟩:∃c,c=frshR u fb wo wc (Vm.begin m.mdl u []).ws:=⟨_,rfl⟩;rw[←hc]
 repeat(refine Jy ?_;try first|intro ao cap|intro b)
 obtain⟨ob,rfl⟩:∃x,x=b:=⟨_,rfl⟩;apply RunS.imp (fun w hm=>Mem.toArr (iα:=inferInstance) (ef:=inferInstance) (b:=ob) (f:=rcC) (n:=1) hm (tk) [c] rfl rfl (by unfold maxLen;simp));(refine RunS.val_ (h:=by(apply Still.at_;exact rfl;exact rfl;exact Jr;exact rfl;exact rfl;exact rfl;exact ix_zero;omega)) (k:=?_))
 repeat(refine Jy ?_;try first|intro ao cap|intro b)
 (apply Run.op;exact rfl;refine OpT.storeE_ (f:=rcC) (l:=[c]) (i:=0) (off:=0) (vs:=[.int .i64 2]) (a':=({c with st:=2}:RC)) (hp:=by exact Put.rcS 2) (k:=?_));rw[show [c].set 0 ({c with st:=2}:RC)=[({c with st:=2}:RC)]from rfl];(apply Run.op;exact rfl;refine OpT.val_ (h:=by(apply Still.at_;exact rfl;exact rfl;exact Jr;exact rfl;exact rfl;exact rfl;exact ix_zero;omega)) (k:=?_))
 repeat(refine Jy ?_;try first|intro ao cap|intro b)
 (apply Run.op;exact rfl;refine OpT.storeE_ (f:=rcC) (l:=[({c with st:=2}:RC)]) (i:=0) (off:=1) (vs:=[.int .i64 (-1)]) (a':=({c with st:=2,up:= -1}:RC)) (hp:=by exact Put.rcU (-1)) (k:=?_));rw[show [({c with st:=2}:RC)].set 0 ({c with st:=2,up:= -1}:RC)=[({c with st:=2,up:= -1}:RC)]from rfl];subst hc;apply Run.imp (fun w hm=>((hm.bagNil).nilArr 57 revC).nilArr 2 i64c)
 repeat(refine Jy ?_;try first|intro ao cap|intro b)
 (refine End.done1_ ((tb,ob,fb,wo,wc)) (he:=Jv) (hp:=?_));trivial
end Go.Proofs.YtjehflelkpacfaaGreat.Vw
namespace Go.Proofs.YtjehflelkpacfaaGreat.Vm
open ImgM Ver Opt
theorem certs_ok{M:Mdl}(h:verify M= .ok)(hG:∀k,k<M.units.length→Ver.Good M (M.units.getD k default))(h64:∀k,k<M.units.length→∀i∈(unt M k).code,In64 i.n∧In64 i.a):∃T,Certs M T:=by
 have hR:=verify_iff.1 h;have hF:=hR.form;have key:∀k,∃τ,k<M.units.length→Cert M (unt M k) τ∧∀p s,τ p=some s→s.1.length≤300∧s.2.length=(unt M k).locals.length:=fun k=>by
  by_cases hk:k<M.units.length
  ·obtain⟨g1,g2⟩:=hF.units _ (uAt_mem hk);have hh:(M.units.getD k default).params.toNat≤(M.units.getD k default).locals.length:=by
    have g1':head M (M.units.getD k default)=0:=g1;unfold head at g1';generalize M.units.getD k default=u at *
    by_cases e1:u.kind≠2∧u.kind≠3∧u.kind≠4
    ·rw[if_pos e1]at g1';cases g1'
    rw[if_neg e1]at g1'
    by_cases e2:200<u.locals.length∨u.params<0∨6<u.params∨(u.locals.length:Int)<u.params∨(u.kind=4∧0<u.params)
    ·rw[if_pos e2]at g1';cases g1'
    omega
   obtain⟨τ,h1,h2⟩:=cert_of_code (hG k hk) hh (head_len g1).1 (hR.code k hk);exact⟨τ,fun _=>⟨h1,h2⟩⟩
  ·exact⟨fun _=>none,fun h=>absurd h hk⟩
 refine⟨fun k=>Classical.choose (key k),hF,h64,fun q hq=>(Classical.choose_spec (key q) hq).1,fun q p s hq hs=>((Classical.choose_spec (key q) hq).2 p s hs).2⟩
def Typed(t:Int)(l:List Int):Prop:=t=2→∀v∈l,v=0∨v=1
structure LsK(M:Mdl)(F:List (List Int))(s:Ls):Prop where
 took:s.took.length=M.boxes.length
 sent:s.sent.length=M.boxes.length
 le:∀b,b<M.boxes.length→s.took.getD b 0≤(F.getD b []).length
 typ:∀b,b<M.boxes.length→Typed (M.boxes.getD b default).1 (s.sent.getD b [])
structure Fed(M:Mdl)(F:List (List Int)):Prop where
 len:F.length=M.boxes.length
 in64:∀l∈F,∀v∈l,In64 v
 typ:∀b,b<M.boxes.length→Typed (M.boxes.getD b default).1 (F.getD b [])
theorem getD_setL{l:List (List Int)}{k j:Nat}{v:List Int}(hk:k<l.length):(l.set k v).getD j []=if k=j then v else l.getD j []:=by
 simp only[Jd,List.getElem?_set]
 by_cases h:k=j
 ·subst h;simp[hk]
 ·simp[h]
theorem getD_rep{α:Type}(n k:Nat)(a:α):(List.replicate n a).getD k a=a:=by
 rw[Jd,List.getElem?_replicate]
 split<;>rfl
section
variable{M:Mdl}{T:Nat→Int→Option Shape}{ν:Type}{V:Env ν}{K:ν→Prop}
theorem goN_good(hC:Certs M T)(hV:EnvOk V M K):∀(n:Nat) {r:Tk×ν},Good M T K r→Good M T K (goN V M n r).2
 |0,r,h=>h
 |n+1,r,h=>by
  unfold goN;have hs:=step_good hC hV h
  split
  ·exact goN_good hC hV n hs
  ·exact hs
theorem goN_le:∀(n:Nat) (r:Tk×ν),(goN V M n r).1≤n
 |0,r=>Nat.le_refl _
 |n+1,r=>by
  unfold goN
  split
  ·have:=goN_le n (step V M r).2;simp only;omega
  ·exact Nat.zero_le _
end
end Go.Proofs.YtjehflelkpacfaaGreat.Vm
namespace Go.Proofs.YtjehflelkpacfaaGreat
open Go
structure Rw where
 o:Option Addr
 c:Nat
 l:List Int
instance:Inhabited Rw:=⟨⟨none,0,[]⟩⟩
def rwC(r:Rw):List Value:=[.slice r.o r.l.length r.c]
instance:Enc rwC:=⟨fun _=>rfl,by decide,fun a u hu=>by simp[rwC]at hu;subst hu;rfl⟩
def natC(n:Nat):List Value:=[.int .i64 (n:Int)]
instance:Enc natC:=⟨fun _=>rfl,by decide,fun a u hu=>by simp[natC]at hu;subst hu;rfl⟩
structure FL where
 o:Option Addr
 c:Nat
 l:List Rw
instance:Inhabited FL:=⟨⟨none,0,[]⟩⟩
abbrev FL.val(f:FL):Value:= .slice f.o f.l.length f.c
abbrev FL.ws(f:FL):List (List Int):=f.l.map (·.l)
theorem getD_ws(l:List Rw)(k:Nat):(l.map (·.l)).getD k []=(l.getD k default).l:=by
 simp only[Jd,JU]
 cases l[k]?<;>rfl
structure FdAt(w:World)(f:FL):Prop where
 out:Row w (.slice f.o f.l.length f.c) (sz rwC) f.l.length (f.l.flatMap rwC)
 row:∀r∈f.l,Row w (.slice r.o r.l.length r.c) (sz i64c) r.l.length (r.l.flatMap i64c)
def FdFoot(f:FL)(k:Nat):Prop:=
 ((Value.slice f.o f.l.length f.c).ownBlock=some k∧0<f.l.length)∨∃r∈f.l,(Value.slice r.o r.l.length r.c).ownBlock=some k∧0<r.l.length
theorem FdAt.keep{w w':World}{f:FL}(h:FdAt w f){S:Nat→Prop}(k:Keeps S w w')(hs:∀b,FdFoot f b→¬S b):FdAt w' f:=
 ⟨h.out.keep'' Enc.pos k (fun b h1 h2=>hs b (.inl ⟨h1,h2⟩)),fun r hr=>(h.row r hr).keep'' Enc.pos k (fun b h1 h2=>hs b (.inr ⟨r,hr,h1,h2⟩))⟩
theorem FdAt.lt{w:World}{f:FL}(h:FdAt w f):∀b,FdFoot f b→b<w.heap.size:=by
 rintro b (⟨h1,h2⟩|⟨r,hr,h1,h2⟩)
 ·exact h.out.lt' Enc.pos h2 b h1
 ·exact(h.row r hr).lt' Enc.pos h2 b h1
@[irreducible] def fd (f : FL) : Chunk where
 holds w:=FdAt w f
 foot:=FdFoot f
 excl:=false
 stab k hs h:=h.keep k hs
 lt h:=h.lt
theorem fd_holds{w:World}{f:FL}:(fd f).holds w↔FdAt w f:=by unfold fd;exact Iff.rfl
theorem fd_foot{f:FL}{k:Nat}:(fd f).foot k↔FdFoot f k:=by unfold fd;exact Iff.rfl
theorem fd_excl{f:FL}:(fd f).excl=false:=by unfold fd;rfl
theorem rw_mem{l:List Rw}{k:Nat}(hk:k<l.length):l.getD k default∈l:=by
 rw[Jd,Je hk];exact List.getElem_mem hk
theorem FdAt.small{w:World}{f:FL}(h:FdAt w f):f.l.length≤9223372036854775807∧∀k,k<f.l.length→(f.l.getD k default).l.length≤9223372036854775807:=
 ⟨h.out.2.1,fun k hk=>(h.row _ (rw_mem hk)).2.1⟩
section
variable{f:FL}{L L':List Chunk}{w:World}
theorem Mem.fdOut(t:Take (fd f) L L')(h:Mem w L):Mem w (rd f.o f.l.length f.c rwC f.l::L):=
 h.dup t rd_excl (rd_holds.2 ⟨(fd_holds.1 (h.has t)).out,rfl⟩) (fun b hb=>fd_foot.2 (.inl (rd_foot.1 hb))) fd_excl
theorem Mem.fdRow{k:Nat}(hk:k<f.l.length)(t:Take (fd f) L L')(h:Mem w L):Mem w (rd (f.l.getD k default).o (f.l.getD k default).l.length (f.l.getD k default).c i64c (f.l.getD k default).l::L):=
 h.dup t rd_excl (rd_holds.2 ⟨(fd_holds.1 (h.has t)).row _ (rw_mem hk),rfl⟩) (fun b hb=>fd_foot.2 (.inr ⟨_,rw_mem hk,rd_foot.1 hb⟩)) fd_excl
end
abbrev rowM(t:TypeId)(r:Rw):Chunk:=arr r.o r.l.length r.c t i64c r.l
theorem row_perm(t:TypeId)(s u:List Rw)(r:Rw):((s ++r::u).map (rowM t)).Perm (rowM t r::(s ++u).map (rowM t)):=by
 simp only[Jq,List.map_cons];exact List.perm_middle
theorem Mem.rowOut{w:World}{L L':List Chunk}{t:TypeId}{s u:List Rw}{r:Rw}(h:Mem w L)(tk:Take (bag ((s ++r::u).map (rowM t))) L L'):Mem w (rowM t r::bag ((s ++u).map (rowM t))::L'):=
 Mem.bagOut (ds:=[rowM t r]) h tk (row_perm t s u r)
theorem Mem.rowIn{w:World}{L L' F:List Chunk}{t:TypeId}{s u:List Rw}{r:Rw}(h:Mem w L)(tk:Take (bag ((s ++u).map (rowM t))) L L')(t2:Takes [rowM t r] L' F):Mem w (bag ((s ++r::u).map (rowM t))::F):=
 Mem.bagIn (ds:=[rowM t r]) h tk t2 (row_perm t s u r) (fun c hc=>by simp at hc;subst hc;exact arr_excl)
theorem split_at{α:Type} [Inhabited α]{l:List α}{k:Nat}(h:k<l.length):∃s u,l=s ++l.getD k default::u∧s.length=k:=by
 refine⟨l.take k,l.drop (k+1),?_,by simp;omega⟩;rw[Jd,Je h,JZ,List.getElem_cons_drop,List.take_append_drop]
theorem set_split{α:Type}(s u:List α)(a b:α):(s ++a::u).set s.length b=s ++b::u:=by
 rw[List.set_append_right _ _ (Nat.le_refl _),Nat.sub_self];rfl
theorem getD_split{α:Type} [Inhabited α](s u:List α)(a:α):(s ++a::u).getD s.length default=a:=by
 simp[Jd]
section
variable{P:Program}{T:TypeId}{rv:Value}{name:String}{f:FuncId}
theorem finds{ptr:Bool}(hm:((P.info? T).bind (fun i=>i.methods.find? (·.name==name))).map (fun m=>(m.path.toList,m.func))=some ([],some (f,ptr)))
  (hr:∀w o,(receiverAt T (.val rv) ptr o).run P w= .ok rv w):Finds P T rv name f:=by
 intro w;have hd:0<Made.depth:=by decide
 obtain⟨k,hk⟩:∃k,P.types.size+Made.depth=k+1:=⟨P.types.size+(Made.depth-1),by omega⟩;rw[hk]
 cases hi:P.info? T with
 |none=>rw[hi]at hm;cases hm
 |some i=>
  rw[hi]at hm;simp only[Option.bind_some]at hm
  cases hj:i.methods.find? (·.name==name)with
  |none=>rw[hj]at hm;cases hm
  |some m=>
   rw[hj]at hm;simp only[Option.map_some,Option.some.injEq,Prod.mk.injEq]at hm;unfold method;rw[Sem.run_bind,run_typeInfo w hi,Result.andThen_ok];simp only[hj,hm.1,hm.2];simp[follow,hr]
theorem finds_ptr{e:TypeId}(hu:P.underlying T=some (.pointer e))(w:World)(o:Option String):(receiverAt T (.val rv) true o).run P w= .ok rv w:=by
 unfold receiverAt;rw[Sem.run_bind,run_underlying hu w,Result.andThen_ok];rfl
theorem finds_slice{e:TypeId}(hu:P.underlying T=some (.slice e))(w:World)(o:Option String):(receiverAt T (.val rv) false o).run P w= .ok rv w:=by
 unfold receiverAt;rw[Sem.run_bind,run_underlying hu w,Result.andThen_ok];rfl
end
end Go.Proofs.YtjehflelkpacfaaGreat
namespace Go.Proofs.YtjehflelkpacfaaGreat.Vw
open Go.RowKit Go.Proofs.YtjehflelkpacfaaGreat.Img
section
attribute [local irreducible] Run Cod End OpT Still RunQ RunS RunT Fn PutOk
structure Sk where
 sb:Nat
 lb:Nat
 l:List Int
 live:Nat
instance:Inhabited Sk:=⟨⟨0,0,[],0⟩⟩
structure Sk.Ok(k:Sk):Prop where
 live:k.live≤k.l.length
 lo:8≤k.l.length
 hi:k.l.length≤400
abbrev Sk.ws(k:Sk):List Int:=k.l.take k.live
abbrev skC(k:Sk):List Value:=[.slice (some ⟨k.lb,0,none⟩) k.l.length k.l.length, .int .i64 (k.live:Int), .int .i64 8, .int .i64 400]
abbrev skM(k:Sk):List Chunk:=[blk k.sb (skC k) 169,arr (some ⟨k.lb,0,none⟩) k.l.length k.l.length 2 i64c k.l]
theorem live_is(k:Sk):Fn Tryz.prog 75 #[ptr k.sb] [] (skM k) (σ:=Unit) (fun _=>True) (fun _=> .int .i64 (k.live:Int)) (fun _=>skM k):=by
 refine JE [ptr k.sb] Tryz.func75 Tryz.ntmps75 fun w S=>?_
 (refine Jn ?_)
 repeat(refine Jy ?_;try first|intro ao cap|intro b)
 (refine End.done1_ (()) (he:=Jv) (hp:=?_));trivial
theorem at_is(k:Sk)(i:Nat)(hi:i<k.l.length)(h4:k.l.length≤400):Fn Tryz.prog 45 #[ptr k.sb, .int .i64 (i:Int)] [] (skM k) (σ:=Unit) (fun _=>True) (fun _=> .pointer (place (sz i64c) (some ⟨k.lb,0,none⟩) i 0)) (fun _=>skM k):=by
 refine JE [ptr k.sb, .int .i64 (i:Int)] Tryz.func45 Tryz.ntmps45 fun w S=>?_
 (refine Jn ?_)
 repeat(refine Jy ?_;try first|intro ao cap|intro b)
 (refine End.done1_ (()) (he:=Jv) (hp:=?_));trivial
theorem sized_is(k:Sk)(hk:k.Ok)(n:Nat)(h1:k.live≤n)(h8:8≤n)(h4:n≤400):Fn Tryz.prog 103 #[ptr k.sb, .int .i64 (n:Int)] [] (skM k) (σ:=Nat) (fun _=>True) (fun _=> .tuple #[]) (fun b=>skM ⟨k.sb,b,k.ws ++List.replicate (n-k.live) 0,k.live⟩):=by
 obtain⟨g1,g2,g3⟩:=hk;obtain⟨sb,lb,l,live⟩:=k;simp only at *;refine JE [ptr sb, .int .i64 (n:Int)] Tryz.func103 Tryz.ntmps103 fun w S=>?_
 (refine Jn ?_)
 repeat(refine Jy ?_;try first|intro ao cap|intro b)
 apply Run.op (by exact rfl);refine OpT.makeSlice_ (f:=i64c) (iα:=inferInstance) (ef:=inferInstance) (z:=0) (n:=n) (k:=?_);intro nb
 repeat(refine Jy ?_;try first|intro ao cap|intro b)
 apply Cod.draw 10 ([blk sb [.slice (some ⟨lb,0,none⟩) l.length l.length, .int .i64 (live:Int), .int .i64 8, .int .i64 400] 169]) (by kernel_rfl) 11 rfl;refine JR 0 ?_;refine JR 1 ?_;refine JR 2 ?_;refine JR 3 ?_;refine JR 4 ?_;refine JR 5 ?_;refine JR 6 ?_;refine JR 7 ?_;refine JR 8 ?_;refine JT 9 ?_;refine OpT.cutV_ (f:=i64c) (e:=2) (l:=l) (k:=?_);intro ao' cap' hcut;refine JG ?_;refine JT 10 ?_;refine OpT.copyZ_ (l:=List.replicate n 0) (l2:=(l.take live).drop 0) (m:=live-0) (hr:=hcut _ (by exact Jr)) (k:=?_);refine JG ?_;(apply RunT.done;kernel_rfl)
 repeat(refine Jy ?_;try first|intro ao cap|intro b)
 have e1:(l.take live).drop 0 ++(List.replicate n (0:Int)).drop (live-0)=l.take live ++List.replicate (n-live) 0:=by simp
 rw[e1];have e2:(l.take live ++List.replicate (n-live) 0).length=n:=by simp;omega
 refine End.done0'_ nb (ht:=by rw[show skM ⟨sb,nb,(⟨sb,lb,l,live⟩:Sk).ws ++List.replicate (n-live) 0,live⟩=[blk sb [.slice (some ⟨nb,0,none⟩) n n, .int .i64 (live:Int), .int .i64 8, .int .i64 400] 169,arr (some ⟨nb,0,none⟩) n n 2 i64c (l.take live ++List.replicate (n-live) 0)] by simp only[skM,skC,Sk.ws,e2]];exact tks) (hp:=trivial)
end
section
attribute [local irreducible] Run Cod End OpT Still RunQ RunS RunT Fn PutOk
structure SkTo(k k':Sk)(xs:List Int):Prop where
 ok:k'.Ok
 sb:k'.sb=k.sb
 ws:k'.ws=xs
 live:k'.live=xs.length
theorem take_app_len{a b:List Int}{n:Nat}(h:a.length=n):(a ++b).take n=a:=by subst h;simp
theorem Sk.len{k:Sk}(h:k.Ok):k.ws.length=k.live:=by
 have:=h.live;simp;omega
set_option maxHeartbeats 1000000 in
theorem push_stk(k:Sk)(hk:k.Ok)(v:Int):Fn Tryz.prog 74 #[ptr k.sb, .int .i64 v] [] (skM k) (σ:=Sk) (fun k'=>if k.live=400 then k'=k else SkTo k k' (k.ws ++[v])) (fun _=> .bool (!decide (k.live=400))) (fun k'=>skM k'):=by
 have hwl:=Sk.len hk;obtain⟨g1,g2,g3⟩:=id hk;refine JE [ptr k.sb, .int .i64 v] Tryz.func74 Tryz.ntmps74 fun w S=>?_
 (refine Jn ?_)
 by_cases h4:k.live=400
 ·repeat(refine Jy ?_;try first|intro ao cap|intro b)
  refine End.done1_ k (he:=by rw[decide_eq_true h4];rfl) (hp:=?_);rw[if_pos h4]
 ·refine Cod.imp (L':=old w S::skM k) (fun w hm=>hm) ?_;have key:∀(k2:Sk),k2.Ok→k2.sb=k.sb→k2.ws=k.ws→k2.live=k.live→k2.live<k2.l.length→SkTo k {k2 with l:=k2.l.set k2.live v,live:=k2.live+1} (k.ws ++[v]):=fun k2 a1 a2 a3 a4 a5=>by
   obtain⟨b1,b2,b3⟩:=a1;refine⟨⟨by simp;omega,by simpa using b2,by simpa using b3⟩,a2,?_,by simp;omega⟩;show(k2.l.set k2.live v).take (k2.live+1)=k.ws ++[v];rw[←a3];have hl:(k2.l.set k2.live v).length=k2.l.length:=by simp
   rw[Jp (by omega),List.getElem_set_self];congr 1;rw[List.take_set_of_le (Nat.le_refl _)]
  by_cases hf:k.live=k.l.length
  ·have hmin:(if(400:Int)<2*(k.l.length:Int)then 400 else 2*(k.l.length:Int))=((min (2*k.l.length) 400:Nat):Int):=by split<;>omega
   repeat(refine Jy ?_;try first|intro ao cap|intro b)
   apply Cod.draw 12 ([blk k.sb (skC k) 169]) (by kernel_rfl) 13 rfl;refine JR 0 ?_;refine JR 1 ?_;refine JR 2 ?_;refine JR 3 ?_;refine JR 4 ?_;refine JR 5 ?_;refine JR 6 ?_;refine JR 7 ?_;refine JR 8 ?_;refine JR 9 ?_;refine JR 10 ?_;refine RunT.takeR_ 11 (hy:=by exact Still.imin rfl rfl hmin) (h:=?_);(refine JT 12 ?_;refine JK (sized_is k hk (min (2*k.l.length) 400) (by omega) (by omega) (by omega)) ?_;intro s hs;refine JG ?_;(refine Jn ?_));obtain⟨k2,e2⟩:∃k2:Sk,k2=⟨k.sb,s,k.ws ++List.replicate (min (2*k.l.length) 400-k.live) 0,k.live⟩:=⟨_,rfl⟩;have hk2l:k2.l.length=min (2*k.l.length) 400:=by rw[e2];simp at hwl⊢;omega
   have hk2:=key k2 ⟨by rw[hk2l,e2];simp only;omega,by omega,by omega⟩ (by rw[e2]) (by rw[e2];exact take_app_len hwl) (by rw[e2]) (by rw[hk2l,e2];simp only;omega);have hlv:k2.live<k2.l.length:=by rw[hk2l,e2];simp only;omega
   rw[←e2];have e2b:s=k2.lb:=by rw[e2]
   have e2l:k.ws ++List.replicate (min (2*k.l.length) 400-k.live) 0=k2.l:=by rw[e2]
   rw[e2b,e2l];have hsb:k.sb=k2.sb:=by rw[e2]
   have hok2:k2.live≤400:=by rw[e2];simp only;omega
   rw[hsb];(apply RunT.done;kernel_rfl)
   repeat(refine Jy ?_;try first|intro ao cap|intro b)
   (apply Run.op;exact rfl;refine OpT.storeE_ (f:=i64c) (l:=k2.l) (i:=k2.live) (off:=0) (vs:=[.int .i64 v]) (a':=v) (k:=?_))
   repeat(refine Jy ?_;try first|intro ao cap|intro b)
   have hle:(k2.l.set k2.live v).length=k2.l.length:=Ji;refine End.done1_ ({k2 with l:=k2.l.set k2.live v,live:=k2.live+1}:Sk) (he:=by rw[decide_eq_false h4];rfl) (ht:=by(simp only[skM,skC,hle];exact tks)) (hp:=?_);rw[if_neg h4];exact hk2
  ·have hk2:=key k hk rfl rfl rfl (by omega)
   repeat(refine Jy ?_;try first|intro ao cap|intro b)
   (apply Run.op;exact rfl;refine OpT.storeE_ (f:=i64c) (l:=k.l) (i:=k.live) (off:=0) (vs:=[.int .i64 v]) (a':=v) (k:=?_))
   repeat(refine Jy ?_;try first|intro ao cap|intro b)
   have hle:(k.l.set k.live v).length=k.l.length:=Ji;refine End.done1_ ({k with l:=k.l.set k.live v,live:=k.live+1}:Sk) (he:=by rw[decide_eq_false h4];rfl) (ht:=by(simp only[skM,skC,hle];exact tks)) (hp:=?_);rw[if_neg h4];exact hk2
end
section
attribute [local irreducible] Run Cod End OpT Still RunQ RunS RunT Fn PutOk
set_option maxHeartbeats 1000000 in
theorem pop_stk(k:Sk)(hk:k.Ok)(n:Nat)(hn:n≤k.live):Fn Tryz.prog 76 #[ptr k.sb, .int .i64 (n:Int)] [] (skM k) (σ:=Sk) (fun k'=>SkTo k k' (k.ws.take (k.live-n))) (fun _=> .tuple #[]) (fun k'=>skM k'):=by
 have hwl:=Sk.len hk;obtain⟨g1,g2,g3⟩:=id hk;have q4:IntKind.i64.wrap ((k.l.length:Int).tdiv 4)=((k.l.length/4:Nat):Int):=by rw[Int.tdiv_eq_ediv_of_nonneg (by omega),wrap_i64_in (by omega)];omega
 have q2:IntKind.i64.wrap ((k.l.length:Int).tdiv 2)=((k.l.length/2:Nat):Int):=by rw[Int.tdiv_eq_ediv_of_nonneg (by omega),wrap_i64_in (by omega)];omega
 have s1:IntKind.i64.wrap ((k.live:Int)-(n:Int))=((k.live-n:Nat):Int):=by rw[wrap_i64_in (by omega)];omega
 obtain⟨k1,e1⟩:∃k1:Sk,k1=⟨k.sb,k.lb,k.l,k.live-n⟩:=⟨_,rfl⟩;have hk1:SkTo k k1 (k.ws.take (k.live-n)):=⟨by rw[e1];exact⟨by simp only;omega,g2,g3⟩,by rw[e1],by rw[e1];simp only[Sk.ws,List.take_take];congr 1;omega,by rw[e1];simp;omega⟩;have hl1:k1.l.length=k.l.length:=by rw[e1]
 have hv1:k1.live=k.live-n:=by rw[e1]
 refine JE [ptr k.sb, .int .i64 (n:Int)] Tryz.func76 Tryz.ntmps76 fun w S=>?_
 (refine Jn ?_)
 by_cases h4:k.live-n≤k.l.length/4
 ·by_cases h8:8<k.l.length
  ·have hmax:(if((k.l.length/2:Nat):Int)<8 then 8 else((k.l.length/2:Nat):Int))=((max (k.l.length/2) 8:Nat):Int):=by split<;>omega
   repeat(refine Jy ?_;try first|intro ao cap|intro b)
   apply Cod.draw 12 ([blk k.sb [.slice (some ⟨k.lb,0,none⟩) k.l.length k.l.length, .int .i64 ((k.live-n:Nat):Int), .int .i64 8, .int .i64 400] 169]) (by kernel_rfl) 13 rfl;refine JR 0 ?_;refine JR 1 ?_;refine JR 2 ?_;refine JR 3 ?_;refine JR 4 ?_;refine JR 5 ?_;refine JR 6 ?_;refine JR 7 ?_;refine JR 8 ?_;refine JR 9 ?_;refine JR 10 ?_;refine RunT.takeR_ 11 (hy:=by exact Still.imax rfl rfl hmax) (h:=?_);have e2:k1.sb=k.sb:=by rw[e1]
   have e3:k1.lb=k.lb:=by rw[e1]
   have e4:k1.l=k.l:=by rw[e1]
   rw[←hv1,←e2,←e3,←e4];(refine JT 12 ?_;refine JK (sized_is k1 hk1.ok (max (k1.l.length/2) 8) (by omega) (by omega) (by omega)) ?_;intro s hs;refine JG ?_;(refine Jn ?_));(apply RunT.done;kernel_rfl)
   repeat(refine Jy ?_;try first|intro ao cap|intro b)
   have hlen:k1.ws.length=k1.live:=Sk.len hk1.ok;refine End.done0'_ (⟨k1.sb,s,k1.ws ++List.replicate (max (k1.l.length/2) 8-k1.live) 0,k1.live⟩:Sk) (hp:=?_);rw[←hv1]at hk1;exact⟨⟨by simp;omega,by simp;omega,by simp;omega⟩,hk1.sb,by rw[←hk1.ws];exact take_app_len hlen,hk1.live⟩
  ·repeat(refine Jy ?_;try first|intro ao cap|intro b)
   refine End.done0'_ (⟨k.sb,k.lb,k.l,k.live-n⟩:Sk) (hp:=?_);rw[←e1];exact hk1
 ·repeat(refine Jy ?_;try first|intro ao cap|intro b)
  refine End.done0'_ (⟨k.sb,k.lb,k.l,k.live-n⟩:Sk) (hp:=?_);rw[←e1];exact hk1
theorem words_stk(k:Sk)(hk:k.Ok):Fn Tryz.prog 104 #[ptr k.sb] [] (skM k) (σ:=Option Addr×Nat) (fun _=>True) (fun s=> .slice s.1 k.live s.2) (fun s=>arr s.1 k.live s.2 2 i64c k.ws::skM k):=by
 have hwl:=Sk.len hk;obtain⟨g1,g2,g3⟩:=id hk;refine JE [ptr k.sb] Tryz.func104 Tryz.ntmps104 fun w S=>?_
 (refine Jn ?_);apply Cod.seqN;apply Cod.region;(apply Run.op;exact rfl;refine OpT.val_ (k:=?_));apply Run.nil;apply End.seqN;apply Cod.seqN;apply Cod.imp (fun w hm=>hm.nilArr 2 i64c);apply Cod.draw 9 (skM k) (by kernel_rfl) 11 rfl;refine JR 0 ?_;refine JR 1 ?_;refine JR 2 ?_;refine JR 3 ?_;refine JR 4 ?_;refine JR 5 ?_;refine JR 6 ?_;refine JR 7 ?_;refine JT 8 ?_;refine OpT.cutV_ (f:=i64c) (e:=2) (l:=k.l) (k:=?_);intro ao' cap' hcut;refine JG ?_;refine JT 9 ?_;refine OpT.appendS_ (l:=[]) (l2:=k.ws) (hr:=hcut _ (by exact Jr)) (k:=?_);intro ao2 cap2;refine JG ?_;rw[show 0+(k.live-0)=k.live by omega,Jk];refine RunT.one_ 10 (h:=OpT.val_ (k:=And.intro gud ?_));(apply RunT.done;kernel_rfl)
 repeat(refine Jy ?_;try first|intro ao cap|intro b)
 refine End.done1_ (ao2,cap2) (he:=by rfl) (hp:=trivial)
theorem new_stk:Fn Tryz.prog 73 #[.int .i64 8, .int .i64 400] [] [] (σ:=Sk) (fun k=>k.Ok∧k.ws=[]∧k.live=0) (fun k=>ptr k.sb) (fun k=>skM k):=by
 refine JE [.int .i64 8, .int .i64 400] Tryz.func73 Tryz.ntmps73 fun w S=>?_
 (refine Jn ?_)
 repeat(refine Jy ?_;try first|intro ao cap|intro b)
 apply Run.op (by exact rfl);refine OpT.makeSlice_ (f:=i64c) (iα:=inferInstance) (ef:=inferInstance) (z:=0) (n:=8) (k:=?_);intro nb
 repeat(refine Jy ?_;try first|intro ao cap|intro b)
 refine End.done1_ (⟨b,nb,List.replicate 8 0,0⟩:Sk) (he:=by rfl) (hp:=?_);exact⟨⟨by simp,by simp,by simp⟩,rfl,rfl⟩
end
structure EnvM where
 μ:Type
 ν:Type
 V:Vm.Env ν
 abs:μ→ν
 ok:μ→Prop
 mem:μ→Chunk
 size:ν→Nat
 sPut:∀v b x,size (V.put v b x)≤size v+1
 sTake:∀v b,size (V.take v b).2≤size v+1
 sTell:∀v x,size (V.tell v x)≤size v+1
 excl:∀e,(mem e).excl=true
 rc:Chunk
 rexcl:rc.excl=false
 T:TypeId
 rv:Value
 told:Option (FuncId×List Value)
 boxes:Nat
 fFull:FuncId
 fEmpty:FuncId
 fPut:FuncId
 fTake:FuncId
 mFull:Finds Tryz.prog T rv "Full" fFull
 mEmpty:Finds Tryz.prog T rv "Empty" fEmpty
 mPut:Finds Tryz.prog T rv "Put" fPut
 mTake:Finds Tryz.prog T rv "Take" fTake
 bFull:callB Tryz.prog fFull=true
 bEmpty:callB Tryz.prog fEmpty=true
 bPut:callB Tryz.prog fPut=true
 bTake:callB Tryz.prog fTake=true
 full:∀(e:μ) (b:Nat),ok e→b<boxes→Fn Tryz.prog fFull #[rv, .int .i64 (b:Int)] [rc] [mem e] (σ:=Unit) (fun _=>True) (fun _=> .bool (V.full (abs e) b)) (fun _=>[mem e])
 empty:∀(e:μ) (b:Nat),ok e→b<boxes→Fn Tryz.prog fEmpty #[rv, .int .i64 (b:Int)] [rc] [mem e] (σ:=Unit) (fun _=>True) (fun _=> .bool (V.empty (abs e) b)) (fun _=>[mem e])
 put:∀(e:μ) (b:Nat) (v:Int),ok e→b<boxes→V.full (abs e) b=false→size (abs e)≤2000000→Fn Tryz.prog fPut #[rv, .int .i64 (b:Int), .int .i64 v] [rc] [mem e] (σ:=μ) (fun e'=>ok e'∧abs e'=V.put (abs e) b v) (fun _=> .tuple #[]) (fun e'=>[mem e'])
 take:∀(e:μ) (b:Nat),ok e→b<boxes→V.empty (abs e) b=false→Fn Tryz.prog fTake #[rv, .int .i64 (b:Int)] [rc] [mem e] (σ:=μ) (fun e'=>ok e'∧abs e'=(V.take (abs e) b).2) (fun e'=> .int .i64 (V.take (abs e) b).1) (fun e'=>[mem e'])
 tell:match told with
  |none=>∀v x,V.tell v x=v
  |some (f,cap)=>callB Tryz.prog f=true∧∀(e:μ) (a b v:Int),ok e→size (abs e)≤2000000→Fn Tryz.prog f (#[.int .i64 a, .int .i64 b, .int .i64 v] ++cap.toArray) [rc] [mem e] (σ:=μ) (fun e'=>ok e'∧abs e'=V.tell (abs e) (a,b,v)) (fun _=> .tuple #[]) (fun e'=>[mem e'])
attribute [simp] EnvM.excl EnvM.rexcl
abbrev EnvM.okk(E:EnvM)(e:E.μ):Prop:=E.ok e∧E.size (E.abs e)≤2000000
theorem trap_size(E:EnvM)(n:Int)(s:Vm.Tk×E.ν):E.size (Vm.trap E.V n s).2≤E.size s.2+1:=by
 unfold Vm.trap
 split
 ·exact Nat.le_succ _
 ·exact E.sTell _ _
theorem push_size(E:EnvM)(v:Int)(s:Vm.Tk×E.ν):E.size (Vm.push E.V v s).2≤E.size s.2+1:=by
 unfold Vm.push
 split
 ·exact trap_size E _ _
 ·exact Nat.le_succ _
theorem pushN_size(E:EnvM):∀(n:Nat) (s:Vm.Tk×E.ν),E.size (Vm.pushN E.V n s).2≤E.size s.2+n
 |0,s=>Nat.le_refl _
 |n+1,s=>by
  unfold Vm.pushN;have h1:=pushN_size E n (Vm.push E.V 0 s);have h2:=push_size E 0 s;omega
def toldV:Option (FuncId×List Value)→Value
 |none=> .nilFunc
 |some (f,cap)=> .func (.func f) #[] cap.toArray
abbrev tcl(mb:Nat)(mail cos:Value)(cb:Nat)(st bx tr:Int)(out told:Value):List Value:=[ptr mb,mail,cos,ptr cb, .int .i64 st, .int .i64 bx, .int .i64 tr,out,told]
abbrev ccl(st:Int)(up fr:Value)(sb:Nat):List Value:=[.int .i64 st,up,fr,ptr sb]
structure TF where
 tb:Nat
 mb:Nat
 cos:Value
 cb:Nat
 bx:Int
 out:Value
abbrev EnvM.mailV(E:EnvM):Value:= .iface E.T E.rv
abbrev EnvM.tc(E:EnvM)(F:TF)(st tr:Int):Chunk:=blk F.tb (tcl F.mb E.mailV F.cos F.cb st F.bx tr F.out (toldV E.told)) 65
abbrev cc(cb:Nat)(st:Int)(up fr:Value)(sb:Nat):Chunk:=blk cb (ccl st up fr sb) 120
structure Trapped(E:EnvM)(n st tr:Int)(e:E.μ)(q:Int×Int×E.μ):Prop where
 old:st=5→q=(st,tr,e)
 new:st≠5→q.1=5∧q.2.1=n∧E.ok q.2.2∧E.abs q.2.2=E.V.tell (E.abs e) (5,0,n)
structure Pushed(E:EnvM)(v:Int)(k:Sk)(st tr:Int)(e:E.μ)(q:Sk×Int×Int×E.μ):Prop where
 full:k.live=400→q.1=k∧Trapped E 4 st tr e q.2
 room:k.live≠400→SkTo k q.1 (k.ws ++[v])∧q.2=(st,tr,e)
end Go.Proofs.YtjehflelkpacfaaGreat.Vw
