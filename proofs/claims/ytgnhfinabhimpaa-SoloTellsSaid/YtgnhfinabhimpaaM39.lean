/- The document's Solo, walked. -/
import Derived.Test.YtgnhfinabhimpaaM38
import Derived.Laws.StructEq
import Derived.WalkKit
import Derived.ProofKit
import Derived.OpenShut
import Derived.JoinedCond
import Derived.SizedLaws
import Derived.Deep.Slices
import Derived.Carry
set_option linter.unusedVariables false
set_option linter.unusedSimpArgs false
set_option linter.unusedSectionVars false
set_option maxRecDepth 100000
namespace Go.Proofs.Ytgnhfinabhimpaa.Vw
open Go.RowKit Go.Proofs.Ytgnhfinabhimpaa.Img
attribute [local irreducible] Run Cod End OpT Still RunQ RunS RunT Fn PutOk
theorem take_snoc(f:FL){k:Nat}(h:k<f.l.length):f.l.take (k+1)=f.l.take k ++[f.l.getD k default]:=by
 rw[List.take_add_one,List.getElem?_eq_getElem h,List.getD_eq_getElem?_getD,List.getElem?_eq_getElem h];rfl
abbrev lrQ(lb k:Nat)(p:LrP)(f:FL):List Chunk:=[blk lb [.slice p.fo k p.fc, .slice p.so k p.sc, .slice p.ko k p.kc] 73,arr p.fo k p.fc 38 rwC (f.l.take k),arr p.so k p.sc 38 rwC (List.replicate k ⟨none,0,[]⟩),arr p.ko k p.kc 3 natC (List.replicate k 0)]
set_option maxHeartbeats 4000000 in
theorem solo9_is(m:ML)(hwf:m.Wf)(f:FL)(h64:∀l∈f.ws,∀v∈l,ImgM.In64 v)(task most:Int):
  Fn Try.prog 12 #[m.val, .int .i64 task,f.val, .int .i64 most] [md m,fd f] [] (σ:=RpL) (IsSolo m f task most) (fun r=> .tuple #[.agg r.cells.toArray, .int .i64 (Vm.soloErr m.mdl task f.ws most)]) RpL.mem:=by
 obtain⟨er,her⟩:∃er,er=Vm.soloErr m.mdl task f.ws most:=⟨_,rfl⟩;rw[←her];have hbad:er≠0→IsSolo m f task most RpL.zero:=fun h=>by unfold IsSolo;rw[if_neg (by rw[←her];exact h)]
 refine Fn.enter (args:=[m.val, .int .i64 task,f.val, .int .i64 most]) Try.func12 rfl _ Try.ntmps12 rfl (by simp[fd_excl,md_excl]) (fun w S=>?_);(refine Jn ?_);apply Cod.fact m.Small (fun w hm=>(md_holds.1 (hm.has (tk))).small);intro hsm;apply Cod.fact (f.l.length≤9223372036854775807∧∀k,k<f.l.length→(f.l.getD k default).l.length≤9223372036854775807) (fun w hm=>(fd_holds.1 (hm.has (tk))).small);intro hfs
 repeat(refine Jy ?_;try first|intro ao cap|intro b)
 obtain⟨rb,rfl⟩:∃x,x=b:=⟨_,rfl⟩;obtain⟨mb,rfl⟩:∃x,x=b:=⟨_,rfl⟩;(apply Run.op;exact rfl;refine JK (verify7_is m hwf) ?_;intro s hs;(refine Jn ?_))
 by_cases hv:Ver.verify m.mdl= .ok
 ·rw[hv];have her0:=her;rw[soloErr_eq hv]at her;have hF:=formed (Ver.verify_iff.1 hv).form;have hu30:=hF.units;have hb30:=hF.boxes
  repeat(refine Jy ?_;try first|intro ao cap|intro b)
  obtain⟨wb,rfl⟩:∃x,x=b:=⟨_,rfl⟩;(apply Run.op;exact rfl;refine JK (tasks9_is m (by omega)) ?_;intro s hs;(refine Jn ?_));obtain⟨ko,kc⟩:=s;have htl:(Vm.tasks m.mdl).length≤30:=by
   rw[tasks_eq];have:=tasks_len m m.us.length;omega
  by_cases h3:task<0∨((Vm.tasks m.mdl).length:Int)≤task∨most<0∨5000<most
  ·rw[if_pos h3]at her;subst her
   by_cases c1:task<0
   ·repeat(refine Jy ?_;try first|intro ao cap|intro b)
    apply End.imp (fun w hm=>(((hm.bagNil).nilArr 2 i64c).nilArr 38 rwC).nilArr 3 natC);(refine End.doneC2_ (RpL.zero) (he:=Jv) (hp:=?_));exact hbad (by omega)
   by_cases c2:((Vm.tasks m.mdl).length:Int)≤task
   ·repeat(refine Jy ?_;try first|intro ao cap|intro b)
    apply End.imp (fun w hm=>(((hm.bagNil).nilArr 2 i64c).nilArr 38 rwC).nilArr 3 natC);(refine End.doneC2_ (RpL.zero) (he:=Jv) (hp:=?_));exact hbad (by omega)
   by_cases c3:most<0
   ·repeat(refine Jy ?_;try first|intro ao cap|intro b)
    apply End.imp (fun w hm=>(((hm.bagNil).nilArr 2 i64c).nilArr 38 rwC).nilArr 3 natC);(refine End.doneC2_ (RpL.zero) (he:=Jv) (hp:=?_));exact hbad (by omega)
   have c4:5000<most:=by omega
   repeat(refine Jy ?_;try first|intro ao cap|intro b)
   apply End.imp (fun w hm=>(((hm.bagNil).nilArr 2 i64c).nilArr 38 rwC).nilArr 3 natC);(refine End.doneC2_ (RpL.zero) (he:=Jv) (hp:=?_));exact hbad (by omega)
  rw[if_neg h3]at her;have c1:¬task<0:=fun h=>h3 (.inl h)
  have c2:¬((Vm.tasks m.mdl).length:Int)≤task:=fun h=>h3 (.inr (.inl h))
  have c3:¬most<0:=fun h=>h3 (.inr (.inr (.inl h)))
  have c4:¬5000<most:=fun h=>h3 (.inr (.inr (.inr h)))
  by_cases h5:f.l.length≠m.bx.length
  ·rw[if_pos h5]at her;subst her
   repeat(refine Jy ?_;try first|intro ao cap|intro b)
   apply End.imp (fun w hm=>(((hm.bagNil).nilArr 2 i64c).nilArr 38 rwC).nilArr 3 natC);(refine End.doneC2_ (RpL.zero) (he:=Jv) (hp:=?_));exact hbad (by omega)
  rw[if_neg h5]at her;have h5:f.l.length=m.bx.length:=Classical.not_not.1 h5
  repeat(refine Jy ?_;try first|intro ao cap|intro b)
  obtain⟨lb,rfl⟩:∃x,x=b:=⟨_,rfl⟩;apply Cod.imp (fun w hm=>Mem.fdOut (tk) hm);apply Cod.imp (fun w hm=>((hm.nilArr 3 natC).nilArr 38 rwC).nilArr 38 rwC);refine Cod.only ((fun z=>old w S::md m::fd f::rd f.o f.l.length f.c rwC f.l::blk mb (mdV m) 25::blk rb RpL.zero.cells 40::arr ko (Vm.tasks m.mdl).length kc 3 natC (Vm.tasks m.mdl)::lrQ lb z.1 z.2 f) (0,⟨lb,none,0,none,0,none,0⟩)) (tks) ?_;apply Cod.loop (σ:=Nat×LrP) (fun z=>z.1≤f.l.length∧∀j,j<z.1→rowBad m f j=false) (fun z=>[(1, .int .i64 task),(2,f.val),(3, .int .i64 most),(4,ptr mb),(8,ptr rb),(9, .int .i64 0),(11, .slice ko (Vm.tasks m.mdl).length kc),(12,ptr lb),(56, .slice m.bo m.bx.length m.bc),(57, .int .i64 (m.bx.length:Int)),(58, .int .i64 (z.1:Int))]) (fun z=>old w S::md m::fd f::rd f.o f.l.length f.c rwC f.l::blk mb (mdV m) 25::blk rb RpL.zero.cells 40::arr ko (Vm.tasks m.mdl).length kc 3 natC (Vm.tasks m.mdl)::lrQ lb z.1 z.2 f) (fun z=>f.l.length-z.1) (0,⟨lb,none,0,none,0,none,0⟩)
  rotate_left
  exact sb;exact tks;intro z hz K1 hK1;(refine Jn ?_)
  rotate_left
  ·exact⟨Nat.zero_le _,fun j hj=>by omega⟩
  obtain⟨k,p⟩:=z;obtain⟨hk,hgood⟩:=hz;dsimp only at hk hgood hK1⊢
  by_cases hkn:k<f.l.length
  ·apply Cod.imp (fun w hm=>Mem.fdRow hkn (tk) hm);have hkl:=hfs.2 k hkn;obtain⟨r,hr⟩:∃r,r=f.l.getD k default:=⟨_,rfl⟩;rw[←hr]at hkl⊢;have hbd:rowBad m f k=r.l.any (Vm.badW (m.bx.getD k default).1):=by unfold rowBad;rw[←hr]
   repeat(refine Jy ?_;try first|intro ao cap|intro b)
   simp only[←hr];obtain⟨bb,rfl⟩:∃x,x=b:=⟨_,rfl⟩;refine Cod.only ((fun j=>old w S::md m::fd f::rd f.o f.l.length f.c rwC f.l::rd r.o r.l.length r.c i64c r.l::blk bb [.int .i64 (m.bx.getD k default).1, .int .i64 (m.bx.getD k default).2] 37::blk mb (mdV m) 25::blk rb RpL.zero.cells 40::arr ko (Vm.tasks m.mdl).length kc 3 natC (Vm.tasks m.mdl)::lrQ lb k p f) 0) (tks) ?_;apply Cod.loop (σ:=Nat) (fun j=>j≤r.l.length∧∀i,i<j→Vm.badW (m.bx.getD k default).1 (r.l.getD i default)=false) (fun j=>[(1, .int .i64 task),(2,f.val),(3, .int .i64 most),(4,ptr mb),(8,ptr rb),(9, .int .i64 0),(11, .slice ko (Vm.tasks m.mdl).length kc),(12,ptr lb),(13, .int .i64 (k:Int)),(14,ptr bb),(56, .slice m.bo m.bx.length m.bc),(57, .int .i64 (m.bx.length:Int)),(58, .int .i64 (k:Int)),(66, .slice r.o r.l.length r.c),(67, .int .i64 (r.l.length:Int)),(68, .int .i64 (j:Int))]) (fun j=>old w S::md m::fd f::rd f.o f.l.length f.c rwC f.l::rd r.o r.l.length r.c i64c r.l::blk bb [.int .i64 (m.bx.getD k default).1, .int .i64 (m.bx.getD k default).2] 37::blk mb (mdV m) 25::blk rb RpL.zero.cells 40::arr ko (Vm.tasks m.mdl).length kc 3 natC (Vm.tasks m.mdl)::lrQ lb k p f) (fun j=>r.l.length-j) 0
   rotate_left
   exact sb;exact tks;intro j hj K2 hK2;(refine Jn ?_)
   rotate_left
   ·exact⟨Nat.zero_le _,fun i hi=>by omega⟩
   obtain⟨hj,hg2⟩:=hj
   by_cases hjn:j<r.l.length
   ·have hv64:ImgM.In64 (r.l.getD j default):=by
     refine h64 r.l ?_ _ ?_
     ·rw[hr];exact List.mem_map.2 ⟨_,rw_mem hkn,rfl⟩
     ·rw[List.getD_eq_getElem?_getD,List.getElem?_eq_getElem hjn];exact List.getElem_mem hjn
    have hsq:=square_is hv64
    by_cases hbw:Vm.badW (m.bx.getD k default).1 (r.l.getD j default)=true
    ·have hb9:rowBad m f k=true:=by rw[hbd];exact anyW hjn hbw
     have hany:(List.range f.l.length).any (rowBad m f)=true:=List.any_eq_true.2 ⟨k,List.mem_range.2 hkn,hb9⟩;rw[if_pos hany]at her;subst her;unfold Vm.badW at hbw;rw[Bool.and_eq_true,Bool.and_eq_true,decide_eq_true_eq,decide_eq_true_eq,decide_eq_true_eq]at hbw;obtain⟨b1,b2,b3⟩:=hbw;have hne:¬IntKind.i64.wrap (r.l.getD j default*r.l.getD j default)=r.l.getD j default:=fun h=>by rcases hsq.1 h with h|h;exact b2 h;exact b3 h
     repeat(refine Jy ?_;try first|intro ao cap|intro b)
     apply End.imp (fun w hm=>(((hm.bagNil).nilArr 2 i64c).nilArr 38 rwC).nilArr 3 natC);(refine End.doneC2_ (RpL.zero) (he:=Jv) (hp:=?_));exact hbad (by omega)
    ·have hbw:Vm.badW (m.bx.getD k default).1 (r.l.getD j default)=false:=by simpa using hbw
     have hnx:∀i,i<j+1→Vm.badW (m.bx.getD k default).1 (r.l.getD i default)=false:=fun i hi=>by
      by_cases e:i=j
      ·subst e;exact hbw
      ·exact hg2 i (by omega)
     have hbw':=hbw;unfold Vm.badW at hbw'
     by_cases b1:(m.bx.getD k default).1=2
     ·have heq:IntKind.i64.wrap (r.l.getD j default*r.l.getD j default)=r.l.getD j default:=hsq.2 (by
       simp only[b1,decide_true,Bool.true_and,Bool.and_eq_false_iff,decide_eq_false_iff_not,Classical.not_not]at hbw';exact hbw')
      repeat(refine Jy ?_;try first|intro ao cap|intro b)
      refine End.round0_ hK2 (j+1) ?_ ?_
      ·exact⟨by omega,hnx⟩
      ·omega
     ·repeat(refine Jy ?_;try first|intro ao cap|intro b)
      refine End.round0_ hK2 (j+1) ?_ ?_
      ·exact⟨by omega,hnx⟩
      ·omega
   ·have ht:=take_snoc f hkn;have hr1:List.replicate (k+1) (⟨none,0,[]⟩:Rw)=List.replicate k ⟨none,0,[]⟩ ++[⟨none,0,[]⟩]:=List.replicate_succ';have hr2:List.replicate (k+1) (0:Nat)=List.replicate k 0 ++[0]:=List.replicate_succ'
    repeat(refine Jy ?_;try first|intro ao cap|intro b)
    apply Cod.draw 13 ([blk lb [.slice p.fo k p.fc, .slice p.so k p.sc, .slice p.ko k p.kc] 73,rd f.o f.l.length f.c rwC f.l]) (by kernel_rfl) 14 rfl;refine JR 0 ?_;refine JR 1 ?_;refine JR 2 ?_;refine JR 3 ?_;refine JR 4 ?_;refine JR 5 ?_;refine JR 6 ?_;refine JR 7 ?_;refine JR 8 ?_;(refine JT 9 ?_;(first|refine Jw ?_|(refine Jb ?_;intro b)|(refine Ja ?_;intro ao cap));refine And.intro gud ?_);(refine JT 10 ?_;refine OpT.append1_ (a:=f.l.getD k default) (k:=?_);intro ao cap;refine And.intro gud ?_;(refine Jn ?_));refine JR 11 ?_;refine JR 12 ?_;(refine JT 13 ?_;(first|refine Jw ?_|(refine Jb ?_;intro b)|(refine Ja ?_;intro ao cap));refine And.intro gud ?_);(apply RunT.done;kernel_rfl);obtain⟨fo2,rfl⟩:∃x,x=ao:=⟨_,rfl⟩;obtain⟨fc2,rfl⟩:∃x,x=cap:=⟨_,rfl⟩
    repeat(refine Jy ?_;try first|intro ao cap|intro b)
    (apply Run.op;exact rfl;refine OpT.append1_ (a:=(⟨none,0,[]⟩:Rw)) (k:=?_);intro ao cap;(refine Jn ?_));obtain⟨so2,rfl⟩:∃x,x=ao:=⟨_,rfl⟩;obtain⟨sc2,rfl⟩:∃x,x=cap:=⟨_,rfl⟩
    repeat(refine Jy ?_;try first|intro ao cap|intro b)
    rw[←ht,←hr1,←hr2];refine End.round0_ hK1 (k+1,⟨lb,fo2,fc2,so2,sc2,ao,cap⟩) ?_ ?_
    ·refine⟨by dsimp only;omega,fun i hi=>?_⟩;dsimp only at hi
     by_cases e:i=k
     ·subst e;rw[hbd,List.any_eq_false];intro v hv;obtain⟨q,hq,rfl⟩:=List.getElem_of_mem hv;have:=hg2 q (by omega);rw[show r.l.getD q default=r.l[q] by simp[List.getD_eq_getElem?_getD,List.getElem?_eq_getElem hq]]at this;simpa using this
     ·exact hgood i (by omega)
    ·dsimp only;omega
  ·have hany:(List.range f.l.length).any (rowBad m f)=false:=rng_any (fun i hi=>hgood i (by omega));rw[hany]at her;simp only[Bool.false_eq_true,if_false]at her;subst her;obtain rfl:k=f.l.length:=by omega
   obtain⟨P,hP⟩:∃P:LrP,P={p with lb:=lb}:=⟨_,rfl⟩;rw[List.take_length];obtain⟨tn,rfl⟩:=Int.eq_ofNat_of_zero_le (show 0≤task by omega);obtain⟨mn,rfl⟩:=Int.eq_ofNat_of_zero_le (show 0≤most by omega);obtain⟨T,hC⟩:=certs_ml hwf hv;have hfed:=fed_of h5 h64 (fun i hi=>hgood i (by omega));have hEV:=Vm.lists_ok hfed;obtain⟨hu1,hu2⟩:=tasks_mem (m:=m) (k:=tn) (by omega)
   repeat(refine Jy ?_;try first|intro ao cap|intro b)
   have hgd:(Vm.tasks m.mdl).getD tn default=(Vm.tasks m.mdl).getD tn 0:=rfl;rw[hgd];have hul:unitOf m (tn:Int)=(Vm.tasks m.mdl).getD tn 0:=rfl;generalize(Vm.tasks m.mdl).getD tn 0=u at *;obtain⟨q1,q2,q3,q4,q5,q6⟩:=head_ok (hF.head u hu1);obtain⟨e0,he0⟩:∃e0:LsE,e0=⟨List.replicate f.l.length 0,List.replicate f.l.length ⟨none,0,[]⟩⟩:=⟨_,rfl⟩;(apply Run.op;exact rfl;refine JK (new9_is (lrEnv P f) e0 m u hu1 (by omega)) ?_;intro s hs;(refine Jn ?_));obtain⟨tb,ob,fb,wo,wc⟩:=s;dsimp only
   repeat(refine Jy ?_;try first|intro ao cap|intro b)
   apply Run.imp' (fun w hm=>Mem.rowsNil 2 f.l.length hm);apply Run.imp' (fun w hm=>Mem.lrIn (p:=P) (f:=f) (e:=e0) hm (by subst hP he0;(repeat(first|exact Takes.nil|exact Take.head|apply Take.tail|apply Takes.cons))));have hPl:lb=P.lb:=by rw[hP]
   subst hPl;obtain⟨z0,hz0⟩:∃z0:RT (lrEnv P f),z0=RT.born (lrEnv P f) ob u fb wo wc (Vm.begin m.mdl u []).ws e0:=⟨_,rfl⟩;have hzw:z0.Wf:=by rw[hz0,he0];exact born9_wf _ _ _ _ _ _ _ _ (lsNew_ok f)
   have hz2:z0.two=(Vm.new m.mdl u,(Vm.Ls.new f.ws.length,[])):=by rw[hz0,born9_two,he0];exact congrArg (fun x=>(Vm.new m.mdl u,(x,[]))) (lsNew_abs f)
   have hEW:=ok_W (E:=lrEnv P f) hEV;have hzg:Vm.Good m.mdl T (fun s=>Vm.LsK m.mdl f.ws s.1) z0.two:=by rw[hz2];exact new_good hC hu1 hu2 (Vm.new_K _ _ hfed)
   refine Run.only' (old w S::md m::fd f::blk rb RpL.zero.cells 40::RM tb m z0) (by subst hz0;(repeat(first|exact Takes.nil|exact Take.head|apply Take.tail|apply Takes.cons))) ?_;(apply Run.op;exact rfl;refine OpT.val_ (h:=by exact Still.mkIface (t:=0) rfl rfl) (k:=?_));(refine Jc ?_;refine OpT.call0_ (spec:=look9_is (E:=lrEnv P f) tb m h5 z0 hzw (fun h3=>stand_good hC hzg h3)) (r:=fun w=>Reads.md (tk) (Reads.any (tk) fd_excl .nil)) (k:=?_);intro s hs;(refine Jn ?_))
   repeat(refine Jy ?_;try first|intro ao cap|intro b)
   have hsolo:Vm.solo m.mdl u f.ws mn=Vm.goN (Vm.lists f.ws) m.mdl mn ((z0.look m).tk,(lrEnv P f).abs (z0.look m).e):=by
    have h1:=hzw.look_two m;rw[hz2]at h1;rw[Vm.lookW]at h1;have h2:=congrArg (fun r=>(r.1,r.2.1)) h1;unfold Vm.solo Vm.solo0;refine congrArg (Vm.goN (Vm.lists f.ws) m.mdl mn) (Eq.trans ?_ h2.symm);exact Prod.ext rfl (Vm.look_snd _ _ _)
   refine cutN (σ:=Nat×RT (lrEnv P f)) (fun q=>q.2.Wf∧Vm.solo m.mdl u f.ws mn=(q.1,(q.2.tk,(lrEnv P f).abs q.2.e))) (fun q=>[(8,ptr rb),(9, .int .i64 0),(12,ptr P.lb),(17,ptr tb),(18, .int .i64 (q.1:Int))]) (fun q=>old w S::md m::fd f::blk rb RpL.zero.cells 40::RM tb m q.2) ?_ ?_
   ·rintro⟨k,z⟩ ⟨hzw',hsol⟩;apply Cod.imp (fun w hm=>Mem.lrOut hm (tk));(refine Jn ?_);obtain⟨e1,e2,e3⟩:LsOk f z.e:=hzw'.env;dsimp only at hsol⊢
    repeat(refine Jy ?_;try first|intro ao cap|intro b)
    obtain⟨R,hR⟩:∃R:RpL,R=⟨z.st,z.bx,z.tr,z.oo,z.oc,z.out,P.so,P.sc,z.e.sent,P.ko,P.kc,z.e.took,k⟩:=⟨_,rfl⟩;refine End.doneC2_ R (he:=?_) (hF:=by(subst hR;simp only[RpL.mem,e1,e2];exact tks)) (hp:=?_)
    ·subst hR;simp only[RpL.cells,e1,e2]
    ·unfold IsSolo;rw[←her0,if_pos rfl,hul,Int.toNat_natCast,hsol];subst hR;exact⟨rfl,rfl,rfl,rfl,rfl,rfl,rfl⟩
   intro K3 hK3;refine Cod.only ((fun q=>old w S::md m::fd f::blk rb RpL.zero.cells 40::RM tb m q.2) (0,z0.look m)) (tks) ?_;apply Cod.loop (σ:=Nat×RT (lrEnv P f)) (fun q=>q.1≤mn∧q.2.Wf∧Vm.Good m.mdl T (fun s=>Vm.LsK m.mdl f.ws s.1) q.2.two∧q.2.out.length≤2*q.1∧q.2.log.length≤2*q.1∧Vm.total ((lrEnv P f).abs q.2.e).sent≤4*q.1∧Vm.solo m.mdl u f.ws mn=((Vm.goN (Vm.lists f.ws) m.mdl (mn-q.1) (q.2.tk,(lrEnv P f).abs q.2.e)).1+q.1,(Vm.goN (Vm.lists f.ws) m.mdl (mn-q.1) (q.2.tk,(lrEnv P f).abs q.2.e)).2)) (fun q=>[(3, .int .i64 (mn:Int)),(8,ptr rb),(9, .int .i64 0),(12,ptr P.lb),(17,ptr tb),(18, .int .i64 (q.1:Int))]) (fun q=>old w S::md m::fd f::blk rb RpL.zero.cells 40::RM tb m q.2) (fun q=>mn-q.1) (0,z0.look m)
   rotate_left
   exact sb;exact tks;intro q hq K1 hK1;(refine Jn ?_)
   rotate_left
   ·refine⟨Nat.zero_le _,hzw.look m,by rw[hzw.look_two];exact Vm.look_good hzg,?_,?_,?_,?_⟩
    ·show(z0.look m).out.length≤0;rw[look_out,hz0];exact Nat.le_refl 0
    ·show(z0.look m).log.length≤0;rw[look_log,hz0];exact Nat.le_refl 0
    ·show Vm.total (LsE.abs (z0.look m).e).sent≤0;rw[look_e,hz0,he0];show Vm.total ((List.replicate f.l.length (⟨none,0,[]⟩:Rw)).map (·.l))≤0;rw[List.map_replicate];unfold Vm.total;rw[List.map_replicate,List.sum_replicate_nat];simp
    ·rw[hsolo];simp
   obtain⟨k,z⟩:=q;obtain⟨r1,r2,r3,r4,r7,r5,r6⟩:=hq;dsimp only at r1 r2 r3 r4 r5 r6 r7 hK1⊢
   by_cases hkm:k<mn
   ·repeat(refine Jy ?_;try first|intro ao cap|intro b)
    (apply Run.op;exact rfl;refine OpT.val_ (h:=by exact Still.mkIface (t:=0) rfl rfl) (k:=?_));(refine Jc ?_;refine OpT.call0_ (spec:=stepR_is (E:=lrEnv P f) (m:=m) tb z hC hEW r2 h5 r3 (by omega) (by omega) (Nat.le_trans (show(lrEnv P f).size ((lrEnv P f).abs z.e)≤4*k from r5) (by omega))) (r:=fun w=>Reads.md (tk) (Reads.any (tk) fd_excl .nil)) (k:=?_);intro s hs;(refine Jn ?_));obtain⟨z',rfl⟩:∃x,x=s:=⟨_,rfl⟩;obtain⟨s1,s2⟩:=hs;obtain⟨g1,g2,g3,g4⟩:=Vm.stepW (E:=lrEnv P f) (fun _ _=>rfl) (M:=m.mdl) z.tk (LsE.abs z.e) z.log;have hg:=Vm.step_good hC hEW r3;change (Vm.step (lrEnv P f).W m.mdl z.two).1=_ at g1;have s3:z'.tk=(Vm.step (Vm.lists f.ws) m.mdl (z.tk,LsE.abs z.e)).2.1:=(congrArg (fun r=>r.1) s2).trans g2;have s4:LsE.abs z'.e=(Vm.step (Vm.lists f.ws) m.mdl (z.tk,LsE.abs z.e)).2.2:=(congrArg (fun r=>r.2.1) s2).trans g3;have s5:z'.log=z.log ++Vm.evs (Vm.lists f.ws) m.mdl (z.tk,LsE.abs z.e):=(congrArg (fun r=>r.2.2) s2).trans g4;have hmk:mn-k=(mn-(k+1))+1:=by omega
    rw[hmk]at r6;unfold Vm.goN at r6;rw[g1]
    by_cases hb:(Vm.step (Vm.lists f.ws) m.mdl (z.tk,LsE.abs z.e)).1=true
    ·rw[show(Vm.step (lrEnv P f).V m.mdl (z.tk,LsE.abs z.e)).1=true from hb];rw[if_pos hb]at r6
     repeat(refine Jy ?_;try first|intro ao cap|intro b)
     refine End.round0_ hK1 (k+1,z') ?_ ?_
     ·refine⟨by omega,s1,by rw[s2];exact hg,?_,?_,?_,?_⟩
      ·have h1:=Vm.step_outLen (V:=Vm.lists f.ws) (M:=m.mdl) (z.tk,LsE.abs z.e);have h2:z'.out=(Vm.step (Vm.lists f.ws) m.mdl (z.tk,LsE.abs z.e)).2.1.out:=congrArg Vm.Tk.out s3;rw[h2];have h3:z.tk.out.length≤2*k:=r4;dsimp only at h1⊢;omega
      ·have h1:=Vm.evs_len (V:=Vm.lists f.ws) (M:=m.mdl) (z.tk,LsE.abs z.e);dsimp only;rw[s5,List.length_append];omega
      ·have h1:=Vm.step_size (sz:=fun s:Vm.Ls=>Vm.total s.sent) (V:=Vm.lists f.ws) (M:=m.mdl) (fun v b x=>Vm.total_put v.sent b x) (fun v b=>Nat.le_succ _) (fun v x=>Nat.le_succ _) (z.tk,LsE.abs z.e);show Vm.total (LsE.abs z'.e).sent≤4*(k+1);rw[s4];dsimp only at h1;omega
      ·rw[r6];dsimp only;rw[s3,s4];exact Prod.ext (Nat.succ_add _ k) rfl
     ·dsimp only;omega
    ·have hb:(Vm.step (Vm.lists f.ws) m.mdl (z.tk,LsE.abs z.e)).1=false:=by simpa using hb
     rw[show(Vm.step (lrEnv P f).V m.mdl (z.tk,LsE.abs z.e)).1=false from hb];rw[hb,if_neg Bool.false_ne_true]at r6
     repeat(refine Jy ?_;try first|intro ao cap|intro b)
     refine End.some_ hK3 (k,z') ?_;refine⟨s1,?_⟩;rw[r6];dsimp only;rw[s3,s4];exact Prod.ext (by simp) rfl
   ·repeat(refine Jy ?_;try first|intro ao cap|intro b)
    refine End.some_ hK3 (k,z) ?_;refine⟨r2,?_⟩;rw[r6,show mn-k=0 by omega];exact Prod.ext (by simp[Vm.goN]) rfl
 ·have he:(Ver.verify m.mdl).err≠0:=fun h=>hv (Ver.verify_eq h)
  have her2:er=(Ver.verify m.mdl).err:=by rw[her];unfold Vm.soloErr;rw[if_pos he]
  generalize Ver.verify m.mdl=V at *
  repeat(refine Jy ?_;try first|intro ao cap|intro b)
  obtain⟨wb,rfl⟩:∃x,x=b:=⟨_,rfl⟩;apply Cod.draw 9 ([blk wb [.int .i64 V.err, .int .i64 V.unit, .int .i64 V.at_] 34]) (by kernel_rfl) 5 rfl;refine JN 0 ?_;refine JN 1 ?_;refine JN 2 ?_;(refine JT 3 ?_;(first|refine Jw ?_|(refine Jb ?_;intro b)|(refine Ja ?_;intro ao cap));refine And.intro gud ?_);refine JN 4 ?_;(apply RunT.done;kernel_rfl)
  repeat(refine Jy ?_;try first|intro ao cap|intro b)
  apply End.imp (fun w hm=>(((hm.bagNil).nilArr 2 i64c).nilArr 38 rwC).nilArr 3 natC);(refine End.doneC2_ (RpL.zero) (he:=by(rw[her2];rfl)) (hp:=?_));exact hbad (by rw[her2];exact he)
end Go.Proofs.Ytgnhfinabhimpaa.Vw


namespace Go.Proofs.Ytgnhfinabhimpaa.Vw
open Go.RowKit Go.Proofs.Ytgnhfinabhimpaa.Img
theorem Mem.toRead{w:World}{pre L F:List Chunk}{c:Chunk}(t:Takes pre L F)(h:Mem w L)(hc:c.holds w)(hx:c.excl=false)(hf:∀b,c.foot b→∃d∈pre,d.foot b):Mem w (c::F):=
 Mem.step (post:=[c]) (S:=Nil) (h.takes t) (Keeps.refl _ _) (fun b h=>False.elim h) (by simpa using hc) (by simp) (fun d hd b hb=>by
  simp at hd;subst hd;obtain⟨e,e1,e2⟩:=hf b hb;exact .inl ⟨e,e1,⟨fun h=>absurd h (by rw[hx];decide),e2⟩⟩)
section
variable{N:Nat}{E:Env}{L:List Chunk}{dst:Option Tmp}{ty:TypeId}{pos:String}{aft:Array Edge}{g:Option (Nat×Bool)}
end
end Go.Proofs.Ytgnhfinabhimpaa.Vw


namespace Go.Proofs.Ytgnhfinabhimpaa.Vw
open Go.RowKit Go.Proofs.Ytgnhfinabhimpaa.Img
attribute [local irreducible] Run Cod End OpT Still RunQ RunS RunT Fn PutOk
abbrev rdRow(r:Rw):Chunk:=rd r.o r.l.length r.c i64c r.l
theorem same9_is(a b:Rw)(h:a.l=b.l):Fn Try.prog 20 #[.slice a.o a.l.length a.c, .slice b.o b.l.length b.c] [rdRow a,rdRow b] [] (σ:=Unit) (fun _=>True) (fun _=> .bool true) (fun _=>[]):=by
 obtain⟨ao,ac,l⟩:=a;obtain⟨bo,bc,l'⟩:=b;dsimp only at h⊢;subst h;refine Fn.enter (args:=[.slice ao l.length ac, .slice bo l.length bc]) Try.func20 rfl _ Try.ntmps20 rfl (by simp[rd_excl,md_excl]) (fun w S=>?_);(refine Jn ?_);apply Cod.fact (l.length≤9223372036854775807) (fun w hm=>(rd_holds.1 (hm.has (c:=rd ao l.length ac i64c l) (tk))).1.2.1);intro hn
 repeat(refine Jy ?_;try first|intro ao cap|intro b)
 refine Cod.only ((fun k=>[old w S,rd ao l.length ac i64c l,rd bo l.length bc i64c l]) 0) (tks) ?_;apply Cod.loop (σ:=Nat) (fun k=>k≤l.length) (fun k=>[(0, .slice ao l.length ac),(1, .slice bo l.length bc),(12, .int .i64 (l.length:Int)),(13, .int .i64 (k:Int))]) (fun k=>[old w S,rd ao l.length ac i64c l,rd bo l.length bc i64c l]) (fun k=>l.length-k) 0
 rotate_left
 exact sb;exact tks;intro k hk K1 hK1;(refine Jn ?_)
 rotate_left
 ·exact Nat.zero_le _
 by_cases hkn:k<l.length
 ·repeat(refine Jy ?_;try first|intro ao cap|intro b)
  refine End.round0_ hK1 (k+1) ?_ ?_
  ·omega
  ·omega
 ·repeat(refine Jy ?_;try first|intro ao cap|intro b)
  (refine End.done1_ (()) (he:=Jv) (hp:=?_));trivial
theorem sameAll_is(f g:FL)(h:f.ws=g.ws):Fn Try.prog 21 #[f.val,g.val] [fd f,fd g] [] (σ:=Unit) (fun _=>True) (fun _=> .bool true) (fun _=>[]):=by
 have hl:g.l.length=f.l.length:=by have:=congrArg List.length h;simpa using this.symm
 have hr:∀k,(g.l.getD k default).l=(f.l.getD k default).l:=fun k=>by rw[←getD_ws,←getD_ws,←(show f.l.map (·.l)=g.l.map (·.l)from h)]
 refine Fn.enter (args:=[f.val,g.val]) Try.func21 rfl _ Try.ntmps21 rfl (by simp[fd_excl]) (fun w S=>?_);(refine Jn ?_);apply Cod.fact (f.l.length≤9223372036854775807∧∀k,k<f.l.length→(f.l.getD k default).l.length≤9223372036854775807) (fun w hm=>(fd_holds.1 (hm.has (tk))).small);intro hfs;apply Cod.imp (fun w hm=>Mem.fdOut (f:=f) (tk) hm);apply Cod.imp (fun w hm=>Mem.fdOut (f:=g) (tk) hm)
 repeat(refine Jy ?_;try first|intro ao cap|intro b)
 refine Cod.only ((fun k=>[old w S,fd f,fd g,rd f.o f.l.length f.c rwC f.l,rd g.o g.l.length g.c rwC g.l]) 0) (tks) ?_;apply Cod.loop (σ:=Nat) (fun k=>k≤f.l.length) (fun k=>[(0,f.val),(1,g.val),(12, .int .i64 (f.l.length:Int)),(13, .int .i64 (k:Int))]) (fun k=>[old w S,fd f,fd g,rd f.o f.l.length f.c rwC f.l,rd g.o g.l.length g.c rwC g.l]) (fun k=>f.l.length-k) 0
 rotate_left
 exact sb;exact tks;intro k hk K1 hK1;(refine Jn ?_)
 rotate_left
 ·exact Nat.zero_le _
 by_cases hkn:k<f.l.length
 ·apply Cod.imp (fun w hm=>Mem.fdRow (f:=f) (k:=k) hkn (tk) hm);apply Cod.imp (fun w hm=>Mem.fdRow (f:=g) (k:=k) (by omega) (tk) hm)
  repeat(refine Jy ?_;try first|intro ao cap|intro b)
  (apply Run.op;exact rfl;refine JK (same9_is (f.l.getD k default) (g.l.getD k default) (hr k).symm) ?_;intro s hs;(refine Jn ?_))
  repeat(refine Jy ?_;try first|intro ao cap|intro b)
  refine End.round0_ hK1 (k+1) ?_ ?_
  ·omega
  ·omega
 ·repeat(refine Jy ?_;try first|intro ao cap|intro b)
  (refine End.done1_ (()) (he:=Jv) (hp:=?_));trivial
def RpL.fl(r:RpL):FL:=⟨r.so,r.sc,r.sent⟩
abbrev RpL.rds(r:RpL):List Chunk:=[rd r.oo r.out.length r.oc i64c r.out,fd r.fl,rd r.ko r.took.length r.kc natC r.took]
theorem rd_own{w:World}{L F:List Chunk}{α:Type}{iα:Inhabited α}{ao:Option Addr}{n cap:Nat}{e:TypeId}{f:α→List Value}{ef:Enc f}{l:List α}(t:Takes [arr ao n cap e f l] L F)(h:Mem w L):Mem w (rd ao n cap f l::F):=by
 have ht:=h.takes t;have a1:=arr_holds.1 (ht.all _ (.head _));exact Mem.toRead t h (rd_holds.2 ⟨a1.1.row Enc.pos,a1.2⟩) rd_excl (fun b hb=>⟨_, .head _,arr_foot.2 ⟨(rd_foot.1 hb).1,Nat.lt_of_lt_of_le (rd_foot.1 hb).2 a1.1.le⟩⟩)
theorem fd_own{w:World}{L F:List Chunk}{f:FL}{t:TypeId}{e:TypeId}(tk:Takes [arr f.o f.l.length f.c e rwC f.l,bag (f.l.map (rowM t))] L F)(h:Mem w L):Mem w (fd f::F):=by
 have ht:=h.takes tk;have a1:=arr_holds.1 (ht.all _ (.head _));have a2:=bag_holds.1 (ht.all _ (.tail _ (.head _)));have hrow:∀r∈f.l,(rowM t r).holds w:=fun r hr=>a2.1.all _ (List.mem_map.2 ⟨r,hr,rfl⟩)
 refine Mem.toRead tk h (fd_holds.2 ⟨a1.1.row Enc.pos,fun r hr=>(arr_holds.1 (hrow r hr)).1.row Enc.pos⟩) fd_excl (fun b hb=>?_);rcases fd_foot.1 hb with⟨h1,h2⟩|⟨r,hr,h1,h2⟩
 ·exact⟨_, .head _,arr_foot.2 ⟨h1,Nat.lt_of_lt_of_le h2 a1.1.le⟩⟩
 ·exact⟨_, .tail _ (.head _),bag_foot.2 ⟨_,List.mem_map.2 ⟨r,hr,rfl⟩,arr_foot.2 ⟨h1,Nat.lt_of_lt_of_le h2 (arr_holds.1 (hrow r hr)).1.le⟩⟩⟩
theorem rep_own{w:World}{L F:List Chunk}(r:RpL)(t:Takes r.mem L F)(h:Mem w L):Mem w (r.rds ++F):=by
 have h1:Mem w (r.mem ++F):=h.takes t;have h2:=rd_own (α:=Int) (ao:=r.oo) (n:=r.out.length) (cap:=r.oc) (e:=2) (f:=i64c) (l:=r.out) (L:=r.mem ++F) (by exact .cons .head .nil) h1;have h3:=fd_own (f:=r.fl) (t:=2) (e:=38) (by exact .cons (.tail .head) (.cons (.tail .head) .nil)) h2;have h4:=rd_own (α:=Nat) (ao:=r.ko) (n:=r.took.length) (cap:=r.kc) (e:=3) (f:=natC) (l:=r.took) (by exact .cons (.tail (.tail .head)) .nil) h3;have p:(rd r.ko r.took.length r.kc natC r.took::fd r.fl::rd r.oo r.out.length r.oc i64c r.out::F).Perm (r.rds ++F):=by
  simp only[RpL.rds,List.cons_append,List.nil_append];exact((List.Perm.swap _ _ _).trans (List.Perm.cons _ (List.Perm.swap _ _ _))).trans ((List.Perm.swap _ _ _))
 exact h4.perm p
structure RpL.Eq(r s:RpL):Prop where
 st:r.st=s.st
 bx:r.bx=s.bx
 tr:r.tr=s.tr
 out:r.out=s.out
 sent:r.fl.ws=s.fl.ws
 took:r.took=s.took
 steps:r.steps=s.steps
theorem RpL.Is.eq{r s:RpL}{x:Nat×(Vm.Tk×Vm.Ls)}(h:r.Is x)(k:s.Is x):r.Eq s:=
 ⟨h.st.trans k.st.symm,h.bx.trans k.bx.symm,h.tr.trans k.tr.symm,h.out.trans k.out.symm,h.sent.trans k.sent.symm,h.took.trans k.took.symm,h.steps.trans k.steps.symm⟩
abbrev RpL.row(r:RpL):Rw:=⟨r.oo,r.oc,r.out⟩
set_option maxHeartbeats 1000000 in
theorem sameRep_is(r q:RpL)(h:r.Eq q):Fn Try.prog 11 #[.agg r.cells.toArray, .agg q.cells.toArray] (r.rds ++q.rds) [] (σ:=Unit) (fun _=>True) (fun _=> .bool true) (fun _=>[]):=by
 obtain⟨e1,e2,e3,e4,e5,e6,e7⟩:=h;have e8:q.sent.length=r.sent.length:=by have:=congrArg List.length e5;simpa[RpL.fl]using this.symm
 have e9:r.took.length=q.took.length:=congrArg List.length e6;refine Fn.enter (args:=[.agg r.cells.toArray, .agg q.cells.toArray]) Try.func11 rfl _ Try.ntmps11 rfl (by simp[fd_excl,rd_excl]) (fun w S=>?_);(refine Jn ?_);apply Cod.fact (r.took.length≤9223372036854775807) (fun w hm=>(rd_holds.1 (hm.has (c:=rd r.ko r.took.length r.kc natC r.took) (tk))).1.2.1);intro h2
 repeat(refine Jy ?_;try first|intro ao cap|intro b)
 refine Jc ?_;refine JK (same9_is r.row q.row e4) ?_;intro s hs;(refine Jn ?_)
 repeat(refine Jy ?_;try first|intro ao cap|intro b)
 (refine Jc ?_;refine OpT.call0_ (spec:=sameAll_is r.fl q.fl e5) (r:=(fun w=>Reads.any (tk) fd_excl (Reads.any (tk) fd_excl (.nil)))) (k:=?_);intro s hs;(refine Jn ?_))
 repeat(refine Jy ?_;try first|intro ao cap|intro b)
 obtain⟨bb,rfl⟩:∃x,x=b:=⟨_,rfl⟩;obtain⟨ba,rfl⟩:∃x,x=b:=⟨_,rfl⟩;refine Cod.only ((fun k=>[old w S,rd r.ko r.took.length r.kc natC r.took,rd q.ko q.took.length q.kc natC q.took,blk ba r.cells 40,blk bb q.cells 40]) 0) (tks) ?_;apply Cod.loop (σ:=Nat) (fun k=>k≤r.took.length) (fun k=>[(2,ptr ba),(3,ptr bb),(59, .int .i64 (r.took.length:Int)),(60, .int .i64 (k:Int))]) (fun k=>[old w S,rd r.ko r.took.length r.kc natC r.took,rd q.ko q.took.length q.kc natC q.took,blk ba r.cells 40,blk bb q.cells 40]) (fun k=>r.took.length-k) 0
 rotate_left
 exact sb;exact tks;intro k hk K1 hK1;(refine Jn ?_)
 rotate_left
 ·exact Nat.zero_le _
 by_cases hkn:k<r.took.length
 ·have hkk:r.took.getD k default=q.took.getD k default:=by rw[e6]
  repeat(refine Jy ?_;try first|intro ao cap|intro b)
  refine End.round0_ hK1 (k+1) ?_ ?_
  ·omega
  ·omega
 ·repeat(refine Jy ?_;try first|intro ao cap|intro b)
  (refine End.done1_ (()) (he:=Jv) (hp:=?_));trivial
end Go.Proofs.Ytgnhfinabhimpaa.Vw


namespace Go.Proofs.Ytgnhfinabhimpaa.Vm
end Go.Proofs.Ytgnhfinabhimpaa.Vm


namespace Go.Proofs.Ytgnhfinabhimpaa.Vm
open ImgM Ver Opt
section
variable{ν:Type}{V:Env ν}{M:Mdl}
end
structure Beg(r s:Tk×Ls):Prop where
 out:r.1.out<+:s.1.out
 len:r.2.sent.length=s.2.sent.length
 sent:∀b,r.2.sent.getD b []<+:s.2.sent.getD b []
theorem Beg.refl(r:Tk×Ls):Beg r r:=⟨List.prefix_refl _,rfl,fun b=>List.prefix_refl _⟩
theorem Beg.trans{a b c:Tk×Ls}(h:Beg a b)(k:Beg b c):Beg a c:=⟨h.out.trans k.out,h.len.trans k.len,fun x=>(h.sent x).trans (k.sent x)⟩
structure Longer(M:Mdl)(F G:List (List Int)):Prop where
 pre:∀b,b<M.boxes.length→F.getD b []<+:G.getD b []
section
variable{M:Mdl}{T:Nat→Int→Option Shape}{F G:List (List Int)}(hC:Certs M T)(hF:Fed M F)(hl:Longer M F G)
include hC hF hl
end
structure Goes(M:Mdl)(F:List (List Int))(n:Nat)(r:Nat×(Tk×Ls)):Prop where
 steps:r.1≤n
 sent:r.2.2.sent.length=M.boxes.length
 took:r.2.2.took.length=M.boxes.length
 le:∀b,b<M.boxes.length→r.2.2.took.getD b 0≤(F.getD b []).length
 typ:∀b,b<M.boxes.length→Typed (M.boxes.getD b default).1 (r.2.2.sent.getD b [])
 st:(r.2.1.st=3∧0≤r.2.1.bx∧r.2.1.bx.toNat<M.boxes.length∧r.2.2.took.getD r.2.1.bx.toNat 0=(F.getD r.2.1.bx.toNat []).length)∨(r.2.1.st=1∧r.1=n)∨r.2.1.st=4∨r.2.1.st=5
end Go.Proofs.Ytgnhfinabhimpaa.Vm


namespace Go.Proofs.Ytgnhfinabhimpaa.Vw
open Go.RowKit Go.Proofs.Ytgnhfinabhimpaa.Img
attribute [local irreducible] Run Cod End OpT Still RunQ RunS RunT Fn PutOk
attribute [local irreducible] Vm.soloErr Vm.solo Ver.verify
end Go.Proofs.Ytgnhfinabhimpaa.Vw


namespace Go.Proofs.Ytgnhfinabhimpaa.Vw
open Go.RowKit Go.Proofs.Ytgnhfinabhimpaa.Img
attribute [local irreducible] Run Cod End OpT Still RunQ RunS RunT Fn PutOk
theorem IsSolo.eq{m:ML}{f:FL}{task most:Int}{r q:RpL}(h:IsSolo m f task most r)(k:IsSolo m f task most q):r.Eq q:=by
 unfold IsSolo at h k
 by_cases e:Vm.soloErr m.mdl task f.ws most=0
 ·rw[if_pos e]at h k;exact h.eq k
 ·rw[if_neg e]at h k;rw[h,k];exact⟨rfl,rfl,rfl,rfl,rfl,rfl,rfl⟩
theorem tells9_is(m:ML)(hwf:m.Wf)(f:FL)(h64:∀l∈f.ws,∀v∈l,ImgM.In64 v)(task most:Int):Fn Try.prog 6 #[m.val, .int .i64 task,f.val, .int .i64 most] [md m,fd f] [] (σ:=Unit) (fun _=>True) (fun _=> .bool true) (fun _=>[]):=by
 refine Fn.enter (args:=[m.val, .int .i64 task,f.val, .int .i64 most]) Try.func6 rfl _ Try.ntmps6 rfl (by simp[fd_excl,md_excl]) (fun w S=>?_);(refine Jn ?_)
 repeat(refine Jy ?_;try first|intro ao cap|intro b)
 obtain⟨mb,rfl⟩:∃x,x=b:=⟨_,rfl⟩;(refine Jc ?_;refine OpT.call0_ (spec:=solo_is m hwf f h64 task most) (r:=(fun w=>Reads.md (tk) (Reads.any (tk) fd_excl .nil))) (k:=?_);intro s hs;(refine Jn ?_));obtain⟨r,rfl⟩:∃x,x=s:=⟨_,rfl⟩;have hr:=hs;clear hs;generalize hee:Vm.soloErr m.mdl task f.ws most=ee at *
 repeat(refine Jy ?_;try first|intro ao cap|intro b)
 obtain⟨ab,rfl⟩:∃x,x=b:=⟨_,rfl⟩;(refine Jc ?_;refine OpT.call0_ (spec:=solo9_is m hwf f h64 task most) (r:=(fun w=>Reads.md (tk) (Reads.any (tk) fd_excl .nil))) (k:=?_);intro s hs;(refine Jn ?_));obtain⟨q,rfl⟩:∃x,x=s:=⟨_,rfl⟩;have hq:=hs;clear hs;rw[hee]
 repeat(refine Jy ?_;try first|intro ao cap|intro b)
 obtain⟨bb,rfl⟩:∃x,x=b:=⟨_,rfl⟩;apply Run.imp' (fun w hm=>rep_own r (tks) hm);apply Run.imp' (fun w hm=>rep_own q (tks) hm);(refine Jn ?_);(refine Jc ?_;refine OpT.call0_ (spec:=sameRep_is r q (hr.eq hq)) (r:=(fun w=>Reads.any (tk) rd_excl (Reads.any (tk) fd_excl (Reads.any (tk) rd_excl (Reads.any (tk) rd_excl (Reads.any (tk) fd_excl (Reads.any (tk) rd_excl .nil))))))) (k:=?_);intro s hs;(refine Jn ?_))
 repeat(refine Jy ?_;try first|intro ao cap|intro b)
 (refine End.done1_ (()) (he:=Jv) (hp:=?_));trivial
end Go.Proofs.Ytgnhfinabhimpaa.Vw


namespace Go.Proofs.Ytgnhfinabhimpaa
open Go.RowKit Go.ChangeShapes Go.WideShapes Go.ChangeAt
section
variable{H:Type}{enc:TypeId×Value→H}{P:Program}{w:World}
abbrev Trd(enc:TypeId×Value→H)(P:Program)(w:World)(fuel:Nat)(t:TypeId)(cs:List Value)(x:DataW H×List MemPlace):Prop:=
 DataW.trod enc P w 0 (fun _=>true) true fuel t cs=some x
def Fits(P:Program)(t:TypeId)(d:DataW H):Prop:=∀n∈d.weights P t,n≤reachBytes
theorem fits_all{e:TypeId}:∀{l:List (DataW H)},(∀n∈DataW.weightsAll P e l,n≤reachBytes)→∀d∈l,Fits P e d
 |[],_,d,hd=>by cases hd
 |x::r,h,d,hd=>by
  simp only[DataW.weightsAll,List.mem_append]at h;rcases List.mem_cons.1 hd with rfl|hd
  ·exact fun n hn=>h n (.inl hn)
  ·exact fits_all (fun n hn=>h n (.inr hn)) d hd
theorem fits_each{ts:List TypeId}{ds:List (DataW H)}(h:∀n∈DataW.weightsEach P ts ds,n≤reachBytes){j:Nat}{t:TypeId}{d:DataW H}(ht:ts[j]?=some t)(hd:ds[j]?=some d):Fits P t d:=
 fun n hn=>h n (DataW.weights_mem_each ht hd n hn)
theorem read_slice{α:Type} [Inhabited α]{t e:TypeId}{size:Nat}(f:α→List Value)(Q:α→Prop)(ht:P.underlying t=some (.slice e))(hc:P.cellsOf e=size)(hs:0<size)
  (hel:∀fuel cs x,Trd enc P w fuel e cs x→Fits P e x.1→cs.length=size→∃a,cs=f a∧Q a)
  {fuel:Nat} {cs:List Value} {x:DataW H×List MemPlace} (h:Trd enc P w fuel t cs x) (hf:Fits P t x.1):
  ∃(v:Value) (l:List α),cs=[v]∧Row w v size l.length (l.flatMap f)∧(∀a∈l,Q a)∧l.length*P.bytesOf e≤reachBytes∧(∀b,v.ownBlock=some b→0<l.length→b<w.heap.size):=by
 rcases Deep.open_slice ht h with⟨rfl,rfl⟩|⟨a,len,cap,m,n,D,Pl,rfl,hb,hl,hm,hmm,rfl,hx⟩
 ·exact⟨_,[],rfl,⟨by simp,Nat.zero_le _,none,0,rfl,Nat.le_refl _,fun h=>by simp at h⟩,by simp,by simp,fun b h=>by cases h⟩
 ·simp only[if_true]at hmm;subst hmm;have hw:=hf;simp only[Fits,DataW.weights,ht,List.mem_cons,List.mem_append]at hw;have hel':∀i,i<len→∃y:α,(∀j,j<size→w.cell? (a.add (i*size+j))=(f y)[j]?)∧(f y).length=size∧Q y:=by
   intro i hi;obtain⟨cs',h1,h2⟩:=hx i (by omega);rw[hc]at h1;obtain⟨-,h3,h4⟩:=World.cells?_some h1;obtain⟨y,rfl,hq⟩:=hel n cs' (D i,Pl i) h2 (fits_all (fun n hn=>hw n (.inr (.inl hn))) (D i) (List.mem_map.2 ⟨i,by simpa using hi,rfl⟩)) h3;refine⟨y,fun j hj=>?_,h3,hq⟩;rw[←Deep.add_add];exact h4 j hj
  obtain⟨F,hF⟩:=Deep.choose_lt hel';refine⟨_,(List.range len).map F,rfl,?_,?_,?_,?_⟩
  ·have hlen:∀m,m≤len→(((List.range m).map F).flatMap f).length=m*size:=by
    intro m hm
    induction m with
    |zero=>simp
    |succ m ih=>
     rw[List.range_succ,List.map_append,List.flatMap_append,List.length_append,ih (by omega)];simp[(hF m (by omega)).2.1,Nat.add_mul]
   have hget:∀m,m≤len→∀j,j<m*size→w.cell? (a.add j)=(((List.range m).map F).flatMap f)[j]?:=by
    intro m hm
    induction m with
    |zero=>intro j hj;simp at hj
    |succ m ih=>
     intro j hj;rw[List.range_succ,List.map_append,List.flatMap_append]
     by_cases hjm:j<m*size
     ·rw[List.getElem?_append_left (by rw[hlen m (by omega)];exact hjm)];exact ih (by omega) j hjm
     ·rw[List.getElem?_append_right (by rw[hlen m (by omega)];omega),hlen m (by omega)];have:=(hF m (by omega)).1 (j-m*size) (by rw[Nat.add_mul]at hj;omega);rw[show m*size+(j-m*size)=j by omega]at this;simpa using this
   refine⟨by simp only[List.length_map,List.length_range];exact hlen len (Nat.le_refl _),by simp;omega,some a,m,by simp,by simpa using hl,fun hpos=>?_⟩;simp only[List.length_map,List.length_range]at hpos⊢;have h0:=hget len (Nat.le_refl _) 0 (Nat.mul_pos hpos hs);have hsome:(w.cell? (a.add 0)).isSome=true:=by
    rw[h0,List.getElem?_eq_getElem (by rw[hlen len (Nat.le_refl _)];exact Nat.mul_pos hpos hs)];rfl
   obtain⟨b,off,spot⟩:=a;have hspot:spot=none:=by
    cases spot with
    |none=>rfl
    |some s=>
     unfold World.cell? Addr.add at hsome
     split at hsome<;>simp_all
   subst hspot;exact⟨b,off,rfl,fun j hj=>by rw[←Addr.add_lit];exact hget len (Nat.le_refl _) j hj⟩
  ·intro y hy;obtain⟨i,hi,rfl⟩:=List.mem_map.1 hy;exact(hF i (by simpa using hi)).2.2
  ·have:=hw _ (.inl rfl);simp only[List.length_map,List.length_range]at this⊢;refine Nat.le_trans (Nat.mul_le_mul_right _ ?_) this;omega
  ·intro b hb' hpos;simp only[List.length_map,List.length_range]at hpos;simp[Value.ownBlock]at hb';subst hb';obtain⟨y,hy1,hy2, -⟩:=hel' 0 hpos;have:=hy1 0 hs;rw[List.getElem?_eq_getElem (by omega)]at this;have hlt:=World.block_lt_of_cell? w _ this;have e1:(a.add (0*size+0)).block=a.block:=by unfold Addr.add;split<;>rfl
   rwa [e1]at hlt
theorem wf_i64{n:Int}(h:(Lit.int .i64 n).wf=true): -9223372036854775808≤n∧n≤9223372036854775807:=by
 simpa[Lit.wf,IntKind.min,IntKind.max,IntKind.signed,IntKind.bits]using h
theorem law_post{f:Func}{s:ChangeSpec}{W W':World}{args:Array Value}{ds gs:List (DataW H)}{before:List MemPlace}{tb:TypeId}
  (hl:laidOutB P=true) (hr:∀t∈f.params.toList,P.readableRec t=true∧t<P.types.size) (hrt:f.resultTypes= #[tb]) (htb:P.underlying tb=some .bool) (hsv:s.vars=[])
  (hW:DataW.Whole enc P f.params.toList s.vars false W args.toList ds gs before) (hfn:(s.fn H (ds ++gs))={results:=[.lit (.bool true)],args:=ds}) (hb:Below W.heap.size W W'):
  s.post enc P f false true false false W args (.bool true) W':=by
 have hlt:=hW.lt;have hW0:=hW;obtain⟨p,q,hA,hV,rfl,hfz,hnd⟩:=hW;rw[hsv]at hV;obtain⟨rfl,rfl⟩:=trodVars_none hV;have key:∀(ts:List TypeId) (vs:List Value) (ds:List (DataW H)) (p:List MemPlace),(∀t∈ts,P.readableRec t=true∧t<P.types.size)→(∀x∈p,x.block<W.heap.size)→
   DataW.TrodAll enc P W 0 (fun _=>true) true ts vs ds p→DataW.TrodAll enc P W' 0 (fun b=>decide (b<W.heap.size)) true ts vs ds p:=by
  intro ts
  induction ts with
  |nil=>intro vs ds p _ _ h;cases vs<;>cases ds<;>simp_all[DataW.TrodAll]
  |cons t ts ih=>
   intro vs ds p h1 h2 h
   cases vs with
   |nil=>simp[DataW.TrodAll]at h
   |cons v vs=>
    cases ds with
    |nil=>simp[DataW.TrodAll]at h
    |cons d ds=>
     obtain⟨p1,p2,h3,h4,rfl⟩:=h;have ht:=h1 t (by simp);exact⟨p1,p2,Below.trod hl ht.1 ht.2 h3 hb (fun x hx=>h2 x (by simp[hx])),ih vs ds p2 (fun t ht=>h1 t (by simp[ht])) (fun x hx=>h2 x (by simp[hx])) h4,rfl⟩
 refine⟨ds,[],_,[],p,[],hW0,?_,?_,?_,hb.frame _,fun h=>by cases h⟩
 ·rw[hfn,hrt];exact trodAll_mk1 (shut_bool htb true)
 ·rw[hfn];exact key _ _ _ _ hr (fun x hx=>hlt x (by simp[hx])) hA
 ·rw[hfn,hsv];rfl
end
end Go.Proofs.Ytgnhfinabhimpaa
