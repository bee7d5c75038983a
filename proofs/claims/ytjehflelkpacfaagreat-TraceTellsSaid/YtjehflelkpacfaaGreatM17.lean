/- The document's task: how it stands, walked. -/
import Derived.Test.YtjehflelkpacfaaGreatM16
set_option linter.unusedVariables false
set_option linter.unusedSimpArgs false
set_option linter.unusedSectionVars false
set_option maxRecDepth 100000
namespace Go.Proofs.YtjehflelkpacfaaGreat.Vw
open Go.RowKit Go.Proofs.YtjehflelkpacfaaGreat.Img
section
attribute [local irreducible] Run Cod End OpT Still RunQ RunS RunT Fn PutOk
variable{E:EnvR}
theorem StandT.st{M:ImgM.Mdl}{t:Vm.Tk}(h:Vm.StandT M t)(a b:Int):Vm.StandT M {t with st:=a,bx:=b}:=⟨h.fr,h.fr40,h.ws,h.unit,h.pc,h.pc4,h.now,h.few,h.st,h.box,h.lens,h.sts⟩
set_option maxHeartbeats 1000000 in
theorem look9_is(tb:Nat)(m:ML)(hb:E.boxes=m.bx.length)(z:RT E)(hz:z.Wf)(hs:z.st≤3→Vm.StandT m.mdl z.tk):Fn Tryz.prog 37 #[ptr tb,E.mailV] [md m,E.rc] (RM tb m z) (σ:=Unit) (fun _=>True) (fun _=> .tuple #[]) (fun _=>RM tb m (z.look m)):=by
 rcases hz.st with h3|h4|h4
 ·have hs:=hs h3;have e0:z.look m={z with st:=z.wst (insR m z),bx:=z.wbx (insR m z)}:=by unfold RT.look;rw[if_pos h3]
  rw[e0];have hbx:=hs.box;rw[hz.ins]at hbx;have hml:m.mdl.boxes.length=m.bx.length:=rfl;rw[hml,←hb]at hbx;obtain⟨i,hi⟩:∃i,i=insR m z:=⟨_,rfl⟩;have hat:=at9_is tb m {z with st:=1,bx:=0} ⟨hz.now,hz.few,hz.env, .inl (by show(1:Int)≤3;omega)⟩ (StandT.st hs 1 0);rw[show insR m {z with st:=1,bx:=0}=i from hi.symm]at hat;rw[←hi]at hbx⊢;clear hi e0;refine JE [ptr tb,E.mailV] Tryz.func37 Tryz.ntmps37 fun w S=>?_
  (refine Jn ?_)
  repeat(refine Jy ?_;try first|intro ao cap|intro b)
  (refine JQ (hat) ?_;intro s hs;(refine Jn ?_))
  repeat(refine Jy ?_;try first|intro ao cap|intro b)
  obtain⟨ib,rfl⟩:∃x,x=b:=⟨_,rfl⟩
  by_cases h26:i.op=26
  ·obtain⟨ha,hlt⟩:=hbx (.inl h26);have hf:=E.room z.e i.a.toNat hz.env hlt;rw[Jo' ha]at hf
   repeat(refine Jy ?_;try first|intro ao cap|intro b)
   (refine Jc ?_;refine OpT.callM_ (E.mRoom) (E.bRoom) (hf) (r:=fun w=>Reads.any (tk) E.rexcl .nil) (k:=?_);intro s hs;(refine Jn ?_))
   cases hv:E.V.full (E.abs z.e) i.a.toNat with
   |true=>
    have e1:z.wst i=2:=by unfold RT.wst;rw[if_pos ⟨h26,hv⟩]
    have e2:z.wbx i=i.a:=by unfold RT.wbx;rw[if_pos ⟨h26,hv⟩]
    rw[e1,e2]
    repeat(refine Jy ?_;try first|intro ao cap|intro b)
    apply Cod.draw 9 ([blk ib (insC i) 126]) (by kernel_rfl) 10 rfl;refine JR 0 ?_;refine JR 1 ?_;refine JR 2 ?_;refine JR 3 ?_;refine JR 4 ?_;refine JR 5 ?_;(refine JT 6 ?_;(first|refine Jw ?_|(refine Jb ?_;intro b)|(refine Ja ?_;intro ao cap));refine JG ?_);refine JR 7 ?_;refine JR 8 ?_;(refine JT 9 ?_;(first|refine Jw ?_|(refine Jb ?_;intro b)|(refine Ja ?_;intro ao cap));refine JG ?_);(apply RunT.done;kernel_rfl)
    repeat(refine Jy ?_;try first|intro ao cap|intro b)
    (refine End.done0'_ (()) (hp:=?_));trivial
   |false=>
    have e1:z.wst i=1:=by unfold RT.wst;rw[if_neg (by rw[hv];simp),if_neg (by omega)]
    have e2:z.wbx i=0:=by unfold RT.wbx;rw[if_neg (by rw[hv];simp),if_neg (by omega)]
    rw[e1,e2]
    repeat(refine Jy ?_;try first|intro ao cap|intro b)
    (refine End.done0'_ (()) (hp:=?_));trivial
  ·by_cases h27:i.op=27
   ·obtain⟨ha,hlt⟩:=hbx (.inr h27);have hf:=E.some z.e i.a.toNat hz.env hlt;rw[Jo' ha]at hf
    repeat(refine Jy ?_;try first|intro ao cap|intro b)
    (refine Jc ?_;refine OpT.callM_ (E.mSome) (E.bSome) (hf) (r:=fun w=>Reads.any (tk) E.rexcl .nil) (k:=?_);intro s hs;(refine Jn ?_))
    cases hv:E.V.empty (E.abs z.e) i.a.toNat with
    |true=>
     have e1:z.wst i=3:=by unfold RT.wst;rw[if_neg (by omega),if_pos ⟨h27,hv⟩]
     have e2:z.wbx i=i.a:=by unfold RT.wbx;rw[if_neg (by omega),if_pos ⟨h27,hv⟩]
     rw[e1,e2]
     repeat(refine Jy ?_;try first|intro ao cap|intro b)
     apply Cod.draw 9 ([blk ib (insC i) 126]) (by kernel_rfl) 10 rfl;refine JR 0 ?_;refine JR 1 ?_;refine JR 2 ?_;refine JR 3 ?_;refine JR 4 ?_;refine JR 5 ?_;(refine JT 6 ?_;(first|refine Jw ?_|(refine Jb ?_;intro b)|(refine Ja ?_;intro ao cap));refine JG ?_);refine JR 7 ?_;refine JR 8 ?_;(refine JT 9 ?_;(first|refine Jw ?_|(refine Jb ?_;intro b)|(refine Ja ?_;intro ao cap));refine JG ?_);(apply RunT.done;kernel_rfl)
     repeat(refine Jy ?_;try first|intro ao cap|intro b)
     (refine End.done0'_ (()) (hp:=?_));trivial
    |false=>
     have e1:z.wst i=1:=by unfold RT.wst;rw[if_neg (by omega),if_neg (by rw[hv];simp)]
     have e2:z.wbx i=0:=by unfold RT.wbx;rw[if_neg (by omega),if_neg (by rw[hv];simp)]
     rw[e1,e2]
     repeat(refine Jy ?_;try first|intro ao cap|intro b)
     (refine End.done0'_ (()) (hp:=?_));trivial
   ·have e1:z.wst i=1:=by unfold RT.wst;rw[if_neg (by omega),if_neg (by omega)]
    have e2:z.wbx i=0:=by unfold RT.wbx;rw[if_neg (by omega),if_neg (by omega)]
    rw[e1,e2]
    repeat(refine Jy ?_;try first|intro ao cap|intro b)
    (refine End.done0'_ (()) (hp:=?_));trivial
 ·have e0:z.look m=z:=by unfold RT.look;rw[if_neg (by omega)]
  rw[e0];refine JE [ptr tb,E.mailV] Tryz.func37 Tryz.ntmps37 fun w S=>?_
  (refine Jn ?_)
  repeat(refine Jy ?_;try first|intro ao cap|intro b)
  (refine End.done0_ (()) (hp:=?_));trivial
 ·have e0:z.look m=z:=by unfold RT.look;rw[if_neg (by omega)]
  rw[e0];refine JE [ptr tb,E.mailV] Tryz.func37 Tryz.ntmps37 fun w S=>?_
  (refine Jn ?_)
  repeat(refine Jy ?_;try first|intro ao cap|intro b)
  (refine End.done0_ (()) (hp:=?_));trivial
end
section
attribute [local irreducible] Run Cod End OpT Still RunQ RunS RunT Fn PutOk
theorem truth_is(t:Bool):Fn Tryz.prog 77 #[.bool t] [] [] (σ:=Unit) (fun _=>True) (fun _=> .int .i64 (Opt.yes t)) (fun _=>[]):=by
 refine JE [.bool t] Tryz.func77 Tryz.ntmps77 fun w S=>?_
 (refine Jn ?_)
 cases t with
 |true=>
  repeat(refine Jy ?_;try first|intro ao cap|intro b)
  (refine End.done1_ (()) (he:=Jv) (hp:=?_));trivial
 |false=>
  repeat(refine Jy ?_;try first|intro ao cap|intro b)
  (refine End.done1_ (()) (he:=Jv) (hp:=?_));trivial
theorem min_div1{op:Int}(h:op=11)(a:Int)(ha:a= -9223372036854775808):IntKind.i64.wrap (Opt.yes (decide (op=11))*a)=a:=by
 subst ha h;decide
theorem min_div2{op:Int}(h:op=12)(a:Int)(ha:a= -9223372036854775808):IntKind.i64.wrap (Opt.yes (decide (op=11))*a)=0:=by
 subst ha h;decide
set_option maxHeartbeats 1000000 in
theorem two2_is(op a b:Int)(ha:ImgM.In64 a)(hb:ImgM.In64 b)(h0:op=11∨op=12→b≠0):Fn Tryz.prog 48 #[.int .i64 op, .int .i64 a, .int .i64 b] [] [] (σ:=Unit) (fun _=>True) (fun _=> .int .i64 (Opt.two2 op a b)) (fun _=>[]):=by
 unfold ImgM.In64 at ha hb;refine JE [.int .i64 op, .int .i64 a, .int .i64 b] Tryz.func48 Tryz.ntmps48 fun w S=>?_
 (refine Jn ?_)
 repeat' (first|(refine Jc ?_;refine OpT.call0_ (spec:=truth_is _) (k:=?_);intro s hs;(refine Jn ?_))|(apply Run.op;exact rfl;refine OpT.val_ (h:=by(apply Still.quo;exact rfl;exact rfl;(exact h0 (by omega));exact rfl)) (k:=?_))|(apply Run.op;exact rfl;refine OpT.val_ (h:=by(apply Still.rem;exact rfl;exact rfl;(exact h0 (by omega));exact rfl)) (k:=?_))|refine Jo ?_|(refine JB ?_;intro b)|(refine JA ?_;intro ao cap)|refine goQ (k:=fun h=>?_) (k':=fun h=>?_)|fail)
 all_goals ((refine End.done1_ (()) (he:=by(refine int_eq ?_;unfold Opt.two2;(repeat(first|rw[if_neg (by omega)]|rw[if_pos (by omega)]));first|done|(refine min_div1 (op:=op) ?_ _ ?_<;>first|assumption|omega)|(refine min_div2 (op:=op) ?_ _ ?_<;>first|assumption|omega))) (hp:=?_));trivial)
theorem yes_in64(b:Bool):ImgM.In64 (Opt.yes b):=by cases b<;>(unfold ImgM.In64 Opt.yes;omega)
end
theorem two_11m{op a b:Int}(h:op=11)(hb:b= -1):IntKind.i64.wrap (0-a)=Opt.two2 op a b:=by
 subst h hb;unfold Opt.two2;rw[if_neg (by decide),if_neg (by decide),if_neg (by decide),if_pos (by decide)]
 by_cases ha:a= -9223372036854775808
 ·rw[if_pos ⟨ha,rfl⟩,if_pos rfl,ha];decide
 ·rw[if_neg (fun h=>ha h.1),if_pos rfl,Int.tdiv_neg,Int.tdiv_one,Int.zero_sub]
theorem two_12m{op a b:Int}(h:op=12)(hb:b= -1):0=Opt.two2 op a b:=by
 subst h hb;unfold Opt.two2;rw[if_neg (by decide),if_neg (by decide),if_neg (by decide),if_pos (by decide)]
 by_cases ha:a= -9223372036854775808
 ·rw[if_pos ⟨ha,rfl⟩,if_neg (by decide)]
 ·rw[if_neg (fun h=>ha h.1),if_neg (by decide),Int.tmod_neg,Int.tmod_one]
theorem two_11n{op a b:Int}(h:op=11)(hb:¬b= -1):IntKind.i64.wrap (a.tdiv b)=Opt.two2 op a b:=by
 subst h;unfold Opt.two2;rw[if_neg (by decide),if_neg (by decide),if_neg (by decide),if_pos (by decide),if_neg (fun h=>hb h.2),if_pos rfl]
theorem two_12n{op a b:Int}(h:op=12)(hb:¬b= -1):a.tmod b=Opt.two2 op a b:=by
 subst h;unfold Opt.two2;rw[if_neg (by decide),if_neg (by decide),if_neg (by decide),if_pos (by decide),if_neg (fun h=>hb h.2),if_neg (by decide)]
theorem two_19m{op a b:Int}(h:op=19)(ha:a=0∨a=1)(hb:b=0∨b=1):IntKind.i64.wrap (a*b)=Opt.two2 op a b:=by
 subst h;rcases ha with rfl|rfl<;>rcases hb with rfl|rfl<;>decide
theorem two_20m{op a b:Int}(h:op=20)(ha:a=0∨a=1)(hb:b=0∨b=1):Opt.yes (decide (0<a+b))=Opt.two2 op a b:=by
 subst h;rcases ha with rfl|rfl<;>rcases hb with rfl|rfl<;>decide
section
variable{E:EnvR}
def TwoR(op a b:Int)(z z':RT E):Prop:=if(op=11∨op=12)∧b=0 then FellR 1 z z' else PutR (Opt.two2 op a b) z z'
theorem TwoR.put{op a b v:Int}{z z':RT E}(h:PutR v z z')(hn:¬((op=11∨op=12)∧b=0))(e:v=Opt.two2 op a b):TwoR op a b z z':=by
 unfold TwoR;rw[if_neg hn,←e];exact h
theorem TwoR.fell{op a b:Int}{z z':RT E}(h:FellR 1 z z')(hn:(op=11∨op=12)∧b=0):TwoR op a b z z':=by
 unfold TwoR;rw[if_pos hn];exact h
end
attribute [local irreducible] Run Cod End OpT Still RunQ RunS RunT Fn PutOk
variable{E:EnvR}
set_option maxHeartbeats 2000000 in
theorem two9_is(tb:Nat)(m:ML)(z:RT E)(hz:z.Wf)(hl:z.log.length≤2000000)(hw:z.cur.ws.length≤1000000)(op a b:Int)(hop:8≤op∧op≤20)(h01:18<op→(a=0∨a=1)∧(b=0∨b=1)):
  Fn Tryz.prog 61 #[ptr tb, .int .i64 op, .int .i64 a, .int .i64 b] [] (RM tb m z) (σ:=RT E) (TwoR op a b z) (fun _=> .tuple #[]) (fun z'=>RM tb m z'):=by
 obtain⟨g1,g2⟩:=hop
 by_cases hb0:(op=11∨op=12)∧b=0
 ·obtain⟨h1,h2⟩:=hb0;refine JE [ptr tb, .int .i64 op, .int .i64 a, .int .i64 b] Tryz.func61 Tryz.ntmps61 fun w S=>?_
  (refine Jn ?_);rcases h1 with h1|h1
  all_goals (repeat(refine Jy ?_;try first|intro ao cap|intro b))
  all_goals (((refine JQ (fall_is tb m z hl 1) ?_;intro s hs;(refine Jn ?_))))
  all_goals (obtain⟨z',rfl⟩:∃x,x=s:=⟨_,rfl⟩)
  all_goals (have hp:TwoR op a b z z':=TwoR.fell hs ⟨by omega,h2⟩)
  all_goals (rcases hs with⟨h5,rfl⟩|⟨h5,q,rfl⟩)
  all_goals (repeat(refine Jy ?_;try first|intro ao cap|intro b))
  all_goals (first|((refine End.done0_ (z') (hp:=?_)))|((refine End.done0_ ((RT.noted {z with st:=5,tr:=1} (5,0,1) q)) (hp:=?_))))
  all_goals exact hp
 ·have hq:op=11∨op=12→b≠0:=fun h h'=>hb0 ⟨h,h'⟩
  refine JE [ptr tb, .int .i64 op, .int .i64 a, .int .i64 b] Tryz.func61 Tryz.ntmps61 fun w S=>?_
  (refine Jn ?_)
  repeat' (first|(refine Jc ?_;refine OpT.call0_ (spec:=yes9_is _) (k:=?_);intro s hs;(refine Jn ?_))|(refine Jc ?_;refine OpT.call0_ (spec:=put9_is tb m z hz hl hw _) (k:=?_);intro s hs;(refine Jn ?_))|(refine RunQ.val_ (h:=by(apply Still.quo;exact rfl;exact rfl;(exact hq (by omega));exact rfl)) (k:=?_))|(refine RunQ.val_ (h:=by(apply Still.rem;exact rfl;exact rfl;(exact hq (by omega));exact rfl)) (k:=?_))|refine Jo ?_|(refine JB ?_;intro b)|(refine JA ?_;intro ao cap)|refine goQ (k:=fun h=>?_) (k':=fun h=>?_)|fail)
  all_goals ((refine End.done0'_ (s) (hp:=?_)))
  all_goals (refine TwoR.put hs hb0 ?_)
  all_goals (first|exact two_11m (by omega) (by omega)|exact two_12m (by omega) (by omega)|exact two_11n (by omega) (by omega)|exact two_12n (by omega) (by omega)|exact two_19m (by omega) (h01 (by omega)).1 (h01 (by omega)).2|exact two_20m (by omega) (h01 (by omega)).1 (h01 (by omega)).2|(unfold Opt.two2;(repeat(first|rw[if_neg (by omega)]|rw[if_pos (by omega)]))))
end Go.Proofs.YtjehflelkpacfaaGreat.Vw
namespace Go.Proofs.YtjehflelkpacfaaGreat.Vm
open ImgM Ver Opt
structure Ls where
 took:List Nat
 sent:List (List Int)
deriving DecidableEq
def lists(F:List (List Int)):Env Ls where
 full _ _:=false
 empty s b:=decide (s.took.getD b 0=(F.getD b []).length)
 put s b v:={s with sent:=s.sent.set b (s.sent.getD b [] ++[v])}
 take s b:=((F.getD b []).getD (s.took.getD b 0) 0,{s with took:=s.took.set b (s.took.getD b 0+1)})
 tell s _:=s
def Ls.new(n:Nat):Ls:=⟨List.replicate n 0,List.replicate n []⟩
def goN{ν:Type}(V:Env ν)(M:Mdl):Nat→Tk×ν→Nat×(Tk×ν)
 |0,s=>(0,s)
 |n+1,s=>if(step V M s).1 then((goN V M n (step V M s).2).1+1,(goN V M n (step V M s).2).2)else(0,(step V M s).2)
def tasks(M:Mdl):List Nat:=(List.range M.units.length).filter fun k=>decide ((M.units.getD k default).kind=4)
def mvd(t:Tk):Tk:=setPc ((topF (cur t)).pc+1) t
def lstep(M:Mdl)(x:Int)(t:Tk):Tk×List Ev:=loc M x (insT M t) (mvd t)
section
variable{ν:Type}(V:Env ν)(M:Mdl)
def inp(r:Tk×ν):Int:=if(insT M r.1).op=27 then(V.take r.2 (insT M r.1).a.toNat).1 else 0
theorem look_snd(r:Tk×ν):(look V M r).2=r.2:=by
 unfold look waits
 split
 ·split
  ·rfl
  split<;>rfl
 ·rfl
theorem look_fst(r:Tk×ν):∃a b,(look V M r).1={r.1 with st:=a,bx:=b}:=by
 unfold look waits
 split
 ·split
  ·exact⟨_,_,rfl⟩
  split<;>exact⟨_,_,rfl⟩
 ·exact⟨r.1.st,r.1.bx,rfl⟩
theorem look_ins(r:Tk×ν):insT M (look V M r).1=insT M r.1:=by
 obtain⟨a,b,h⟩:=look_fst V M r;rw[h];rfl
theorem look_out(r:Tk×ν):(look V M r).1.out=r.1.out∧(look V M r).1.tr=r.1.tr:=by
 obtain⟨a,b,h⟩:=look_fst V M r;rw[h];exact⟨rfl,rfl⟩
theorem look_look(r:Tk×ν):look V M (look V M r)=look V M r:=by
 by_cases h:r.1.st≤3
 ·have e:∀(a b:Int),a≤3→look V M ({r.1 with st:=a,bx:=b},r.2)=look V M r:=fun a b ha=>by
   unfold look;rw[if_pos (show({r.1 with st:=a,bx:=b}:Tk).st≤3 from ha),if_pos h];rfl
  have h2:∃a b,a≤3∧look V M r=({r.1 with st:=a,bx:=b},r.2):=by
   unfold look waits;rw[if_pos h]
   split
   ·exact⟨2,_,by omega,rfl⟩
   split
   ·exact⟨3,_,by omega,rfl⟩
   ·exact⟨1,_,by omega,rfl⟩
  obtain⟨a,b,ha,hl⟩:=h2;rw[hl,e a b ha,hl]
 ·have:look V M r=r:=by unfold look;rw[if_neg h]
  rw[this,this]
theorem step_look(r:Tk×ν):step V M (look V M r)=step V M r:=by unfold step;rw[look_look]
theorem step_no{r:Tk×ν}(h:(look V M r).1.st≠1):step V M r=(false,look V M r):=by unfold step;exact if_pos h
theorem step_yes{r:Tk×ν}(h:(look V M r).1.st=1):step V M r=(true,look V M (pl V r.2 (lstep M (inp V M r) (look V M r).1))):=by
 unfold step;dsimp only;rw[if_neg (fun h'=>h' h)];unfold lstep;rw[look_ins];have e:((setPc ((topF (cur (look V M r).1)).pc+1) (look V M r).1,(look V M r).2):Tk×ν)=(mvd (look V M r).1,r.2):=by rw[look_snd];rfl
 rw[e,exec_pl V M (inp V M r) r.2 (insT M r.1) _ (fun h=>by unfold inp;rw[if_pos h])]
def evs(r:Tk×ν):List Ev:=if(look V M r).1.st=1 then(lstep M (inp V M r) (look V M r).1).2 else []
theorem lstep_did{x:Int}{t:Tk}(h:t.st≠5):Did (insT M t) x (mvd t) (lstep M x t):=loc_did M x _ _ h
end
section
variable{i:Ins}{x:Int}{t:Tk}{r:Tk×List Ev}
theorem outs_one{k a v:Int}(h:k≠1):outs [(k,a,v)]=[]:=by unfold outs;simp[h]
theorem outs_of1{i:Ins}{x:Int}{t:Tk}{l1:List Ev}(h:l1=[]∧i.op≠26∧i.op≠27∨i.op=26∧l1=[(2,i.a,last t)]∨i.op=27∧l1=[(3,i.a,x)]∨i.op=28∧l1=[(1,0,last t)]∨i.op=29∧l1=[(6,0,(i.a.toNat:Int))]):l1.length≤1:=by
 rcases h with h|h|h|h|h
 ·rw[h.1];simp
 all_goals (rw[h.2];simp)
theorem Did.len(h:Did i x t r):r.2.length≤2:=by
 rcases h.ex with⟨t1,l1,h1,h2,h3,h4,h5⟩|⟨-,h1, -⟩
 ·have hl:=outs_of1 h5;rcases h1 with⟨e, -⟩|⟨e, -⟩
  ·rw[e];omega
  ·rw[e];simp;omega
 ·rw[h1];simp
theorem Did.out(h:Did i x t r):r.1.out=t.out ++outs r.2:=by
 rcases h.ex with⟨t1,l1,h1,h2,h3,h4,h5⟩|⟨-,h1, -, -,h2⟩
 ·rcases h1 with⟨e, -, -,e2⟩|⟨e, -,e2⟩
  ·rw[e,e2,h4]
  ·rw[e,e2,h4,outs_app,outs_one (by omega),List.append_nil]
 ·rw[h1,h2,outs_one (by omega),List.append_nil]
theorem outs_len:∀l:List Ev,(outs l).length≤l.length:=fun l=>List.length_filterMap_le _ l
end
section
variable{ν:Type}{V:Env ν}{M:Mdl}{sz:ν→Nat}(sPut:∀v b x,sz (V.put v b x)≤sz v+1)(sTake:∀v b,sz (V.take v b).2≤sz v+1)(sTell:∀v x,sz (V.tell v x)≤sz v+1)
include sPut sTake sTell
theorem play_size(s:ν)(e:Ev):sz (play V s e)≤sz s+2:=by
 unfold play
 split
 ·have:=sTell (V.put s e.2.1.toNat e.2.2) e;have:=sPut s e.2.1.toNat e.2.2;omega
 split
 ·have:=sTell (V.take s e.2.1.toNat).2 e;have:=sTake s e.2.1.toNat;omega
 ·have:=sTell s e;omega
theorem plays_size:∀(l:List Ev) (s:ν),sz (l.foldl (play V) s)≤sz s+2*l.length
 |[],s=>by simp
 |e::l,s=>by
  have h1:=plays_size l (play V s e);have h2:=play_size sPut sTake sTell s e;simp only[List.foldl_cons,JW];omega
theorem step_size(r:Tk×ν):sz (step V M r).2.2≤sz r.2+4:=by
 by_cases h:(look V M r).1.st=1
 ·rw[step_yes V M h,look_snd];have h1:=plays_size sPut sTake sTell (lstep M (inp V M r) (look V M r).1).2 r.2;have h2:=(lstep_did M (x:=inp V M r) (t:=(look V M r).1) (by omega)).len;show sz (List.foldl (play V) r.2 _)≤_;omega
 ·rw[step_no V M h,look_snd];omega
end
section
variable{ν:Type}{V:Env ν}{M:Mdl}
theorem step_out(r:Tk×ν):(step V M r).2.1.out=r.1.out ++outs (evs V M r):=by
 unfold evs
 by_cases h:(look V M r).1.st=1
 ·rw[if_pos h,step_yes V M h,(look_out V M _).1];show(lstep _ _ _).1.out=_;rw[(lstep_did M (x:=inp V M r) (t:=(look V M r).1) (by omega)).out];show(look V M r).1.out ++_=_;rw[(look_out V M r).1]
 ·rw[if_neg h,step_no V M h,(look_out V M r).1];simp[outs]
theorem evs_len(r:Tk×ν):(evs V M r).length≤2:=by
 unfold evs
 split
 ·rename_i h
  exact(lstep_did M (x:=inp V M r) (t:=(look V M r).1) (by omega)).len
 ·simp
theorem step_outLen(r:Tk×ν):(step V M r).2.1.out.length≤r.1.out.length+2:=by
 rw[step_out,Jl];have:=outs_len (evs V M r);have:=evs_len (V:=V) (M:=M) r;omega
end
end Go.Proofs.YtjehflelkpacfaaGreat.Vm
namespace Go.Proofs.YtjehflelkpacfaaGreat.Vw
open Go.RowKit Go.Proofs.YtjehflelkpacfaaGreat.Img
theorem arr_flat{α:Type}{iα:Inhabited α}{ao:Option Addr}{n cap:Nat}{e:TypeId}{f:α→List Value}{ef:Enc f}{l l':List α}(h:l.flatMap f=l'.flatMap f)(hl:l.length=l'.length):arr ao n cap e f l=arr ao n cap e f l':=by
 unfold arr;simp only[h,hl]
theorem flat_set{l:List RC}{k:Nat}{c:RC}(hk:k<l.length)(h:rcC c=rcC (l.getD k default)):(l.set k c).flatMap rcC=l.flatMap rcC:=by
 induction l generalizing k with
 |nil=>rfl
 |cons a r ih=>
  cases k with
  |zero=>
   rw[List.set_cons_zero,List.flatMap_cons,List.flatMap_cons,h];rfl
  |succ k=>
   rw[List.set_cons_succ,List.flatMap_cons,List.flatMap_cons,ih (by simpa using hk) h]
section
variable{E:EnvR}{z:RT E}
theorem Mem.frs{w:World}{L F:List Chunk}(hz:z.Wf){fr':List Vm.Fr}(hl:fr'.length=z.cur.fr.length)(h:Mem w L)(t:Takes [rtM z,arr z.cur.fo z.cur.fr.length z.cur.fc 148 rfC fr'] L F):Mem w (rtM (z.to_ {z.cur with fr:=fr'})::rfM {z.cur with fr:=fr'}::F):=by
 have e1:rtM (z.to_ {z.cur with fr:=fr'})=rtM z:=by
  show arr z.to z.oth.length z.tc 140 rcC (z.to_ {z.cur with fr:=fr'}).all=_;rw[RT.all_cur];refine arr_flat (flat_set (by rw[z.allLen];exact hz.now) ?_) (by simp);rw[hz.curGet];unfold rcC;simp only[hl]
 have e2:rfM {z.cur with fr:=fr'}=arr z.cur.fo z.cur.fr.length z.cur.fc 148 rfC fr':=by
  show arr z.cur.fo fr'.length z.cur.fc 148 rfC fr'=_;rw[hl]
 rw[e1,e2];exact h.takes t
theorem Mem.wds{w:World}{L F:List Chunk}(hz:z.Wf){ws':List Int}(hl:ws'.length=z.cur.ws.length)(h:Mem w L)(t:Takes [rtM z,arr z.cur.wo z.cur.ws.length z.cur.wc 2 i64c ws'] L F):Mem w (rtM (z.to_ {z.cur with ws:=ws'})::rwM {z.cur with ws:=ws'}::F):=by
 have e1:rtM (z.to_ {z.cur with ws:=ws'})=rtM z:=by
  show arr z.to z.oth.length z.tc 140 rcC (z.to_ {z.cur with ws:=ws'}).all=_;rw[RT.all_cur];refine arr_flat (flat_set (by rw[z.allLen];exact hz.now) ?_) (by simp);rw[hz.curGet];unfold rcC;simp only[hl]
 have e2:rwM {z.cur with ws:=ws'}=arr z.cur.wo z.cur.ws.length z.cur.wc 2 i64c ws':=by
  show arr z.cur.wo ws'.length z.cur.wc 2 i64c ws'=_;rw[hl]
 rw[e1,e2];exact h.takes t
abbrev RT.mvd(z:RT E):RT E:=z.to_ {z.cur with fr:=z.cur.fr.set (z.cur.fr.length-1) ⟨z.f.unit,z.f.pc+1,z.f.base⟩}
theorem RT.Wf.pc_tk(h:z.Wf)(p:Nat):(z.to_ {z.cur with fr:=z.cur.fr.set (z.cur.fr.length-1) ⟨z.f.unit,p,z.f.base⟩}).tk=Vm.setPc p z.tk:=by
 unfold Vm.setPc Vm.setTop;rw[h.topF,h.cur,RT.tk_cur];rfl
theorem RT.Wf.mvd_tk(h:z.Wf):z.mvd.tk=Vm.mvd z.tk:=by
 unfold Vm.mvd;rw[h.topF];exact h.pc_tk _
theorem RT.Wf.mvd_two(h:z.Wf):z.mvd.two=(Vm.mvd z.tk,(E.abs z.e,z.log)):=by
 unfold RT.two;rw[h.mvd_tk]
theorem RT.Wf.step_two{z:RT E}(hz:z.Wf)(m:ML)(h1:(z.look m).st=1):Vm.step E.W m.mdl z.two=(true,Vm.look E.W m.mdl (Vm.exec E.W m.mdl (insR m (z.look m)) (z.look m).mvd.two)):=by
 have hl:=hz.look m;unfold Vm.step;rw[←hz.look_two m,hl.mvd_two];have e1:Vm.insT m.mdl (z.look m).two.1=insR m (z.look m):=hl.ins m;dsimp only;rw[e1];exact if_neg (fun h=>h h1)
theorem look_st1{z:RT E}{m:ML}(hz:z.Wf)(h1:(z.look m).st=1):z.st≤3:=by
 rcases hz.st with h|h|h
 ·exact h
 all_goals (unfold RT.look at h1;rw[if_neg (by omega)]at h1;omega)
theorem look_stand{z:RT E}{m:ML}(h:Vm.StandT m.mdl z.tk):Vm.StandT m.mdl (z.look m).tk:=by
 unfold RT.look
 split
 ·exact StandT.st h _ _
 ·exact h
theorem CanT.same{M:ImgM.Mdl}{t t':Vm.Tk}{i:ImgM.Ins}(h:Vm.CanT M t i)(hw:(Vm.cur t').ws=(Vm.cur t).ws)(hb:(Vm.topF (Vm.cur t')).base=(Vm.topF (Vm.cur t)).base)(hu:(Vm.cur t').up=(Vm.cur t).up)(hn:t'.now=t.now)(hl:t'.cs.length=t.cs.length):Vm.CanT M t' i:=by
 obtain⟨a1,a2,a3,a4,a5,a6,a7,a8,a9,b1,b2,b3,b4,b5⟩:=h;have e1:Vm.wl t'=Vm.wl t:=by unfold Vm.wl;rw[hw]
 have e2:∀n,Vm.topW t' n=Vm.topW t n:=fun n=>by unfold Vm.topW Vm.wl;rw[hw]
 refine⟨?_,?_,?_,?_,a5,a6,fun h=>?_,?_,?_,?_,?_,?_,b4,b5⟩
 ·rw[e1];exact a1
 ·rw[e1,e2,e2];exact a2
 ·rw[e1,hb];exact a3
 ·rw[e1,hb];exact a4
 ·obtain⟨c1,c2,c3,c4,c5,c6⟩:=a7 h;exact⟨c1,c2,c3,by rw[e1];exact c4,c5,c6⟩
 ·rw[e1,hb];exact a8
 ·rw[hu,hn,hl];exact a9
 ·rw[e1,e2,hl];exact b1
 ·rw[e1,hu,hn,hl];exact b2
 ·rw[e1,e2,hl];exact b3
theorem mvd_can{z:RT E}(hz:z.Wf)(hf:z.cur.fr≠[]){M:ImgM.Mdl}{i:ImgM.Ins}(h:Vm.CanT M z.tk i):Vm.CanT M z.mvd.tk i:=by
 have hm:z.mvd.Wf:=hz.to_ _;have hl:0<z.cur.fr.length:=JP.2 hf;refine CanT.same h (by rw[hm.ws,hz.ws]) ?_ (by rw[hm.cur,hz.cur];rfl) rfl (by rw[RT.tkLen,RT.tkLen]);rw[hm.topF,hz.topF];show((z.cur.fr.set (z.cur.fr.length-1) _).getD ((z.cur.fr.set (z.cur.fr.length-1) _).length-1) default).base=_;rw[Ji,Jd,JS (by omega)];rfl
abbrev AfterR(m:ML)(z:RT E)(i:ImgM.Ins):Prop:=∀z2:RT E,z2.Wf→z2.two=Vm.exec E.W m.mdl i z.two→z2.st≤3→Vm.StandT m.mdl z2.tk
structure CanR(m:ML)(z:RT E):Prop where
 boxes:E.boxes=m.bx.length
 stand:Vm.StandT m.mdl z.tk
 can:Vm.CanT m.mdl (z.look m).mvd.tk (insR m (z.look m))
 log:z.log.length≤1000000
 out:z.out.length≤1000000
 size:E.size (E.abs z.e)≤1000000
 after:AfterR m (z.look m).mvd (insR m (z.look m))
end
section
attribute [local irreducible] Run Cod End OpT Still RunQ RunS RunT Fn PutOk
variable{E:EnvR}
theorem look_log(z:RT E)(m:ML):(z.look m).log=z.log:=by unfold RT.look;split<;>rfl
theorem look_out(z:RT E)(m:ML):(z.look m).out=z.out:=by unfold RT.look;split<;>rfl
theorem look_e(z:RT E)(m:ML):(z.look m).e=z.e:=by unfold RT.look;split<;>rfl
theorem look_free{z:RT E}{m:ML}(hz:z.Wf)(h1:(z.look m).st=1):((insR m (z.look m)).op=26→E.V.full (E.abs (z.look m).e) (insR m (z.look m)).a.toNat=false)∧((insR m (z.look m)).op=27→E.V.empty (E.abs (z.look m).e) (insR m (z.look m)).a.toNat=false):=by
 have h3:=look_st1 hz h1;unfold RT.look at h1⊢;simp only[if_pos h3]at h1⊢;unfold RT.wst at h1;have e:∀a b,insR m {z with st:=a,bx:=b}=insR m z:=fun a b=>rfl
 simp only[e];refine⟨fun h=>?_,fun h=>?_⟩
 ·cases hv:E.V.full (E.abs z.e) (insR m z).a.toNat with
  |false=>rfl
  |true=>rw[if_pos ⟨h,hv⟩]at h1;omega
 ·cases hv:E.V.empty (E.abs z.e) (insR m z).a.toNat with
  |false=>rfl
  |true=>rw[if_neg (by omega),if_pos ⟨h,hv⟩]at h1;omega
theorem mvd_base{z:RT E}(h:0<z.cur.fr.length):z.mvd.f.base=z.f.base:=by
 show((z.cur.fr.set (z.cur.fr.length-1) _).getD ((z.cur.fr.set (z.cur.fr.length-1) _).length-1) default).base=_;rw[Ji,Jd,JS (by omega)];rfl
theorem mvd_unit{z:RT E}(h:0<z.cur.fr.length):z.mvd.f.unit=z.f.unit:=by
 show((z.cur.fr.set (z.cur.fr.length-1) _).getD ((z.cur.fr.set (z.cur.fr.length-1) _).length-1) default).unit=_;rw[Ji,Jd,JS (by omega)];rfl
abbrev StepF(tb:Nat)(m:ML)(z:RT E):Prop:=Fn Tryz.prog 35 #[ptr tb,E.mailV] [md m,E.rc] (RM tb m z) (σ:=RT E) (GivesR (Vm.step E.W m.mdl z.two).2) (fun _=> .bool (Vm.step E.W m.mdl z.two).1) (fun z'=>RM tb m z')
structure Pre9(m:ML)(z:RT E):Prop where
 wf:z.Wf
 st:Vm.StandT m.mdl z.tk
 can:Vm.CanT m.mdl z.mvd.tk (insR m z)
 after:AfterR m z.mvd (insR m z)
 log:z.log.length≤1000000
 out:z.out.length≤1000000
 size:E.size (E.abs z.e)≤1000000
 free:((insR m z).op=26→E.V.full (E.abs z.e) (insR m z).a.toNat=false)∧((insR m z).op=27→E.V.empty (E.abs z.e) (insR m z).a.toNat=false)
 one:z.st=1
theorem pre9{m:ML}{z:RT E}(hz:z.Wf)(hk:CanR m z)(h1:(z.look m).st=1):Pre9 m (z.look m):=⟨hz.look m,look_stand hk.stand,hk.can,hk.after,by rw[look_log];exact hk.log,by rw[look_out];exact hk.out,by rw[look_e];exact hk.size,look_free hz h1,h1⟩
theorem Pre9.num{m:ML}{z:RT E}(h:Pre9 m z):z.now<z.oth.length∧z.all.getD z.now default=z.cur∧0<z.cur.fr.length∧z.cur.fr.length≤40∧z.cur.ws.length≤400∧z.f.pc≤100000∧IntKind.i64.wrap ((z.cur.fr.length:Int)-1)=((z.cur.fr.length-1:Nat):Int)∧IntKind.i64.wrap ((z.f.pc:Int)+1)=((z.f.pc+1:Nat):Int):=by
 have hfr:=h.st.fr;have hf40:=h.st.fr40;have hws:=h.st.ws;have hpc:=h.st.pc4;rw[h.wf.frs]at hfr hf40;rw[h.wf.ws]at hws;rw[h.wf.topF]at hpc;have hfl:0<z.cur.fr.length:=JP.2 hfr;exact⟨h.wf.now,h.wf.curGet,hfl,hf40,hws,hpc,by rw[wrap_i64_in (by omega)];omega,by rw[wrap_i64_in (by omega)];omega⟩
structure Mid9(m:ML)(z:RT E)(i:ImgM.Ins):Prop where
 wf:z.Wf
 can:Vm.CanT m.mdl z.tk i
 after:AfterR m z i
 ws:z.cur.ws.length≤400
 fr:0<z.cur.fr.length
 f40:z.cur.fr.length≤40
 one:z.st=1
 log:z.log.length≤1000000
 out:z.out.length≤1000000
 size:E.size (E.abs z.e)≤1000000
 two:z.cur.st=2
 unit:z.f.unit<m.us.length
 all:∀k,k<z.oth.length→z.now≠k→(z.oth.getD k default).ws.length≤400
 sts:∀k,k<z.oth.length→z.now≠k→(z.oth.getD k default).st≤3
 free:(i.op=26→E.V.full (E.abs z.e) i.a.toNat=false)∧(i.op=27→E.V.empty (E.abs z.e) i.a.toNat=false)
 now:z.now<z.oth.length
 get:z.all.getD z.now default=z.cur
theorem Pre9.mid{m:ML}{z:RT E}(h:Pre9 m z):Mid9 m z.mvd (insR m z):=by
 obtain⟨hn,hg,hfl,hf40,hws,hpc,w1,w2⟩:=h.num;have e1:z.mvd.cur.fr.length=z.cur.fr.length:=Ji;have hw:z.mvd.Wf:=h.wf.to_ _;refine⟨hw,h.can,h.after,hws,by rw[e1];exact hfl,by rw[e1];exact hf40,h.one,h.log,h.out,h.size,?_,?_,fun k hk hne=>?_,fun k hk hne=>?_,h.free,hw.now,hw.curGet⟩
 ·have:=h.st.st;rw[h.wf.sts]at this;exact this
 ·rw[mvd_unit hfl];have:=h.st.unit;rw[h.wf.topF]at this;rwa [show m.mdl.units.length=m.us.length from Jf _]at this
 ·have:=h.st.lens k (by rw[RT.tkLen];exact hk);rwa [RT.coAt _ (show k<z.oth.length from hk),RT.othGet _ (show z.now≠k from hne)]at this
 ·have:=h.st.sts k (by rw[RT.tkLen];exact hk);rwa [RT.coAt _ (show k<z.oth.length from hk),RT.othGet _ (show z.now≠k from hne)]at this
theorem mvd_places{z:RT E}(h:0<z.cur.fr.length):place (sz rcC) z.to z.now 0=place (sz rcC) z.mvd.to z.mvd.now 0∧place (sz rfC) z.cur.fo (z.cur.fr.length-1) 0=place (sz rfC) z.mvd.cur.fo (z.mvd.cur.fr.length-1) 0∧z.f.base=z.mvd.f.base:=⟨rfl,by rw[show z.mvd.cur.fr.length=z.cur.fr.length from Ji],(mvd_base h).symm⟩
set_option maxHeartbeats 2000000 in
theorem step9_1(tb:Nat)(m:ML)(z:RT E)(hz:z.Wf)(hk:CanR m z)(h1:(z.look m).st=1)(hop:(insR m (z.look m)).op=1∨(insR m (z.look m)).op=2∨(insR m (z.look m)).op=3):StepF tb m z:=by
 unfold StepF;have hp:=pre9 hz hk h1;have hlk:=look9_is tb m hk.boxes z hz (fun _=>hk.stand);have hbx:=hk.boxes;rw[hz.step_two m h1];clear hk h1;generalize z.look m=z0 at hp hlk hop⊢;obtain⟨hn,hg,hfl,hf40,hws,hpc,w1,w2⟩:=hp.num;have h1:=hp.one;refine JE [ptr tb,E.mailV] Tryz.func35 Tryz.ntmps35 fun w S=>?_
 (refine Jn ?_)
 repeat(refine Jy ?_;try first|intro ao cap|intro b)
 (refine JM (hlk) ?_;intro s hs;(refine Jn ?_))
 repeat(refine Jy ?_;try first|intro ao cap|intro b)
 (refine Jc ?_;refine OpT.call0_ (spec:=at9_is tb m z0 hp.wf hp.st) (r:=fun w=>Reads.md (tk) .nil) (k:=?_);intro s hs;(refine Jn ?_))
 repeat(refine Jy ?_;try first|intro ao cap|intro b)
 obtain⟨ib,rfl⟩:∃x,x=b:=⟨_,rfl⟩;rw[hg]
 repeat(refine Jy ?_;try first|intro ao cap|intro b)
 rw[w1,Jj,w2];(apply Run.op;exact rfl;refine OpT.storeE_ (f:=rfC) (l:=z0.cur.fr) (i:=z0.cur.fr.length-1) (off:=1) (vs:=[.int .i64 ((z0.f.pc+1:Nat):Int)]) (a':=(⟨z0.f.unit,z0.f.pc+1,z0.f.base⟩:Vm.Fr)) (k:=?_));apply Run.nil;apply End.seqN;refine Cod.sub [(0,ptr tb),(1,E.mailV),(4, .bool false),(5,ptr ib),(6, .pointer (place (sz rcC) z0.to z0.now 0)),(7, .pointer (place (sz rfC) z0.cur.fo (z0.cur.fr.length-1) 0)),(8, .int .i64 (z0.f.base:Int))] (Ju) ?_;apply Cod.imp (fun w hm=>Mem.frs hp.wf (fr':=z0.cur.fr.set (z0.cur.fr.length-1) ⟨z0.f.unit,z0.f.pc+1,z0.f.base⟩) (by rw[Ji]) hm (tks));refine Cod.only (old w S::md m::E.rc::blk ib (insC (insR m z0)) 126::RM tb m z0.mvd) (tks) ?_;obtain⟨p1,p2,p3⟩:=mvd_places hfl;rw[p1,p2,p3];have hm:=hp.mid;clear hp hlk hn hg hfl hf40 w1 w2 hpc hws p1 p2 p3 h1;generalize insR m z0=i at hm hop⊢;generalize z0.mvd=z1 at hm⊢;obtain⟨hz1,hc,ha,hw1,hfl1,hf40,hst1,hlog1,hout1,hsz1,hcs2,hun,hall,hsts,hfree,hn,hg⟩:=hm;have hex:∀v,i.op=1∧v=i.n∨i.op=2∧v=i.a→Vm.exec E.W m.mdl i z1.two=Vm.push E.W v z1.two:=fun v h=>by
  unfold Vm.exec;rcases h with⟨h,rfl⟩|⟨h,rfl⟩<;>simp[h]
 rcases hop with hop|hop|hop
 ·repeat(refine Jy ?_;try first|intro ao cap|intro b)
  (refine JQ (put9_is tb m z1 hz1 (by omega) (by omega) i.n) ?_;intro s hs;(refine Jn ?_));obtain⟨z2,rfl⟩:∃x,x=s:=⟨_,rfl⟩;have g:GivesR (Vm.exec E.W m.mdl i z1.two) z2:=by rw[hex _ (.inl ⟨hop,rfl⟩)];exact hs.gives hz1 hw1
  repeat(refine Jy ?_;try first|intro ao cap|intro b)
  (refine JM (look9_is tb m hbx (z2) (g).wf (ha (z2) (g).wf (g).two)) ?_;intro s hs;(refine Jn ?_))
  repeat(refine Jy ?_;try first|intro ao cap|intro b)
  (refine End.done1_ ((RT.look (z2) m)) (he:=Jv) (hp:=?_));exact⟨(g).wf.look m,((g).wf.look_two m).trans (by rw[(g).two])⟩
 ·repeat(refine Jy ?_;try first|intro ao cap|intro b)
  (refine JQ (put9_is tb m z1 hz1 (by omega) (by omega) i.a) ?_;intro s hs;(refine Jn ?_));obtain⟨z2,rfl⟩:∃x,x=s:=⟨_,rfl⟩;have g:GivesR (Vm.exec E.W m.mdl i z1.two) z2:=by rw[hex _ (.inr ⟨hop,rfl⟩)];exact hs.gives hz1 hw1
  repeat(refine Jy ?_;try first|intro ao cap|intro b)
  (refine JM (look9_is tb m hbx (z2) (g).wf (ha (z2) (g).wf (g).two)) ?_;intro s hs;(refine Jn ?_))
  repeat(refine Jy ?_;try first|intro ao cap|intro b)
  (refine End.done1_ ((RT.look (z2) m)) (he:=Jv) (hp:=?_));exact⟨(g).wf.look m,((g).wf.look_two m).trans (by rw[(g).two])⟩
 ·have hl:=hc.load hop;rw[hz1.topF]at hl;have e3:Vm.wl z1.tk=z1.cur.ws.length:=by unfold Vm.wl;rw[hz1.ws]
  rw[e3]at hl;have w3:((z1.f.base:Int)+i.a)=((z1.f.base+i.a.toNat:Nat):Int):=by omega
  repeat(refine Jy ?_;try first|intro ao cap|intro b)
  rw[hg,w3]
  repeat(refine Jy ?_;try first|intro ao cap|intro b)
  (apply Run.op;exact rfl;refine OpT.call0_ (spec:=put9_is tb m z1 hz1 (by omega) (by omega) _) (k:=?_);intro s hs;(refine Jn ?_));obtain⟨z2,rfl⟩:∃x,x=s:=⟨_,rfl⟩;have hex3:Vm.exec E.W m.mdl i z1.two=Vm.push E.W (z1.cur.ws.getD (z1.f.base+i.a.toNat) default) z1.two:=by
   unfold Vm.exec;rw[if_neg (by omega),if_neg (by omega),if_pos hop];show Vm.push E.W ((Vm.cur z1.tk).ws.getD ((Vm.topF (Vm.cur z1.tk)).base+i.a.toNat) 0) z1.two=_;rw[hz1.ws,hz1.topF];rfl
  have g:GivesR (Vm.exec E.W m.mdl i z1.two) z2:=by rw[hex3];exact hs.gives hz1 hw1
  repeat(refine Jy ?_;try first|intro ao cap|intro b)
  (refine JM (look9_is tb m hbx (z2) (g).wf (ha (z2) (g).wf (g).two)) ?_;intro s hs;(refine Jn ?_))
  repeat(refine Jy ?_;try first|intro ao cap|intro b)
  (refine End.done1_ ((RT.look (z2) m)) (he:=Jv) (hp:=?_));exact⟨(g).wf.look m,((g).wf.look_two m).trans (by rw[(g).two])⟩
end
theorem drop_one{ws:List Int}(h:0<ws.length):ws.drop (ws.length-1)=[ws.getD (ws.length-1) 0]:=by
 rw[drop_cons (by omega),List.drop_of_length_le (by omega)];rfl
theorem drop_two{ws:List Int}(h:2≤ws.length):ws.drop (ws.length-2)=[ws.getD (ws.length-2) 0,ws.getD (ws.length-1) 0]:=by
 rw[drop_cons (by omega),show ws.length-2+1=ws.length-1 by omega,drop_one (by omega)];rfl
theorem getD_one(x:Int):[x].getD 0 default=x:=rfl
attribute [local irreducible] Run Cod End OpT Still RunQ RunS RunT Fn PutOk
variable{E:EnvR}
set_option maxHeartbeats 2000000 in
theorem step9_2(tb:Nat)(m:ML)(z:RT E)(hz:z.Wf)(hk:CanR m z)(h1:(z.look m).st=1)(hop:(insR m (z.look m)).op=5∨(insR m (z.look m)).op=6∨(insR m (z.look m)).op=7):StepF tb m z:=by
 unfold StepF;have hp:=pre9 hz hk h1;have hlk:=look9_is tb m hk.boxes z hz (fun _=>hk.stand);have hbx:=hk.boxes;rw[hz.step_two m h1];clear hk h1;generalize z.look m=z0 at hp hlk hop⊢;obtain⟨hn,hg,hfl,hf40,hws,hpc,w1,w2⟩:=hp.num;have h1:=hp.one;refine JE [ptr tb,E.mailV] Tryz.func35 Tryz.ntmps35 fun w S=>?_
 (refine Jn ?_)
 repeat(refine Jy ?_;try first|intro ao cap|intro b)
 (refine JM (hlk) ?_;intro s hs;(refine Jn ?_))
 repeat(refine Jy ?_;try first|intro ao cap|intro b)
 (refine Jc ?_;refine OpT.call0_ (spec:=at9_is tb m z0 hp.wf hp.st) (r:=fun w=>Reads.md (tk) .nil) (k:=?_);intro s hs;(refine Jn ?_))
 repeat(refine Jy ?_;try first|intro ao cap|intro b)
 obtain⟨ib,rfl⟩:∃x,x=b:=⟨_,rfl⟩;rw[hg]
 repeat(refine Jy ?_;try first|intro ao cap|intro b)
 rw[w1,Jj,w2];(apply Run.op;exact rfl;refine OpT.storeE_ (f:=rfC) (l:=z0.cur.fr) (i:=z0.cur.fr.length-1) (off:=1) (vs:=[.int .i64 ((z0.f.pc+1:Nat):Int)]) (a':=(⟨z0.f.unit,z0.f.pc+1,z0.f.base⟩:Vm.Fr)) (k:=?_));apply Run.nil;apply End.seqN;refine Cod.sub [(0,ptr tb),(1,E.mailV),(4, .bool false),(5,ptr ib),(6, .pointer (place (sz rcC) z0.to z0.now 0)),(7, .pointer (place (sz rfC) z0.cur.fo (z0.cur.fr.length-1) 0)),(8, .int .i64 (z0.f.base:Int))] (Ju) ?_;apply Cod.imp (fun w hm=>Mem.frs hp.wf (fr':=z0.cur.fr.set (z0.cur.fr.length-1) ⟨z0.f.unit,z0.f.pc+1,z0.f.base⟩) (by rw[Ji]) hm (tks));refine Cod.only (old w S::md m::E.rc::blk ib (insC (insR m z0)) 126::RM tb m z0.mvd) (tks) ?_;obtain⟨p1,p2,p3⟩:=mvd_places hfl;rw[p1,p2,p3];have hm:=hp.mid;clear hp hlk hn hg hfl hf40 w1 w2 hpc hws p1 p2 p3 h1;generalize insR m z0=i at hm hop⊢;generalize z0.mvd=z1 at hm⊢;obtain⟨hz1,hc,ha,hw1,hfl1,hf40,hst1,hlog1,hout1,hsz1,hcs2,hun,hall,hsts,hfree,hn,hg⟩:=hm;have hlive:=hc.one (by omega);unfold Vm.wl at hlive;rw[hz1.ws]at hlive;have hlast:=hz1.last;have hd1:=drop_one hlive;rcases hop with hop|hop|hop
 ·have hex:Vm.exec E.W m.mdl i z1.two=(Vm.drop 1 z1.tk,z1.two.2):=by
   unfold Vm.exec;simp[hop];rfl
  repeat(refine Jy ?_;try first|intro ao cap|intro b)
  (refine JQ (take9_is tb m z1 hz1 1 (by omega) (by omega)) ?_;intro s hs;(refine Jn ?_));obtain⟨zt,hzt⟩:∃x,x=z1.took 1 s.1:=⟨_,rfl⟩;rw[←hzt];have ztw:zt.Wf:=by rw[hzt];exact hz1.took 1 s.1
  have ztk:zt.tk=Vm.drop 1 z1.tk:=by rw[hzt];exact hz1.took_tk 1 s.1
  have ztl:zt.cur.ws.length=z1.cur.ws.length-1:=by rw[hzt];exact RT.took_len z1 1 s.1
  have zto:zt.e=z1.e∧zt.log=z1.log∧zt.out=z1.out∧zt.to=z1.to∧zt.now=z1.now∧zt.cur.fo=z1.cur.fo∧zt.cur.fr=z1.cur.fr∧zt.oth=z1.oth∧zt.cur.up=z1.cur.up∧zt.cur.st=z1.cur.st∧zt.st=z1.st:=by rw[hzt];exact⟨rfl,rfl,rfl,rfl,rfl,rfl,rfl,rfl,rfl,rfl,rfl⟩
  have ztt:zt.two=(Vm.drop 1 z1.tk,z1.two.2):=by unfold RT.two;rw[ztk,zto.1,zto.2.1]
  have ztg:=ztw.curGet;have ztn:=ztw.now;obtain⟨oq,olo,olc⟩:=s;dsimp only;have g:GivesR (Vm.exec E.W m.mdl i z1.two) zt:=⟨ztw,by rw[hex,ztt]⟩
  repeat(refine Jy ?_;try first|intro ao cap|intro b)
  (refine JM (look9_is tb m hbx (zt) (g).wf (ha (zt) (g).wf (g).two)) ?_;intro s hs;(refine Jn ?_))
  repeat(refine Jy ?_;try first|intro ao cap|intro b)
  (refine End.done1_ ((RT.look (zt) m)) (he:=Jv) (hp:=?_));exact⟨(g).wf.look m,((g).wf.look_two m).trans (by rw[(g).two])⟩
 ·have hex:Vm.exec E.W m.mdl i z1.two=Vm.push E.W (IntKind.i64.wrap (0-z1.cur.ws.getD (z1.cur.ws.length-1) 0)) (Vm.drop 1 z1.tk,z1.two.2):=by
   rw[←hlast,Int.zero_sub];unfold Vm.exec;simp[hop];rfl
  repeat(refine Jy ?_;try first|intro ao cap|intro b)
  (refine JQ (take9_is tb m z1 hz1 1 (by omega) (by omega)) ?_;intro s hs;(refine Jn ?_));obtain⟨zt,hzt⟩:∃x,x=z1.took 1 s.1:=⟨_,rfl⟩;rw[←hzt];have ztw:zt.Wf:=by rw[hzt];exact hz1.took 1 s.1
  have ztk:zt.tk=Vm.drop 1 z1.tk:=by rw[hzt];exact hz1.took_tk 1 s.1
  have ztl:zt.cur.ws.length=z1.cur.ws.length-1:=by rw[hzt];exact RT.took_len z1 1 s.1
  have zto:zt.e=z1.e∧zt.log=z1.log∧zt.out=z1.out∧zt.to=z1.to∧zt.now=z1.now∧zt.cur.fo=z1.cur.fo∧zt.cur.fr=z1.cur.fr∧zt.oth=z1.oth∧zt.cur.up=z1.cur.up∧zt.cur.st=z1.cur.st∧zt.st=z1.st:=by rw[hzt];exact⟨rfl,rfl,rfl,rfl,rfl,rfl,rfl,rfl,rfl,rfl,rfl⟩
  have ztt:zt.two=(Vm.drop 1 z1.tk,z1.two.2):=by unfold RT.two;rw[ztk,zto.1,zto.2.1]
  have ztg:=ztw.curGet;have ztn:=ztw.now;obtain⟨oq,olo,olc⟩:=s;dsimp only;rw[hd1];(apply Run.op;exact rfl;refine OpT.val_ (h:=by(apply Still.at_;exact rfl;exact rfl;exact Jr;exact rfl;exact rfl;exact rfl;exact ix_zero;omega)) (k:=?_));(apply Run.op;exact rfl;refine OpT.val_ (k:=?_));rw[getD_one]
  repeat(refine Jy ?_;try first|intro ao cap|intro b)
  (apply Run.op;exact rfl;refine OpT.call0_ (spec:=put9_is tb m zt ztw (by rw[zto.2.1];omega) (by rw[ztl];omega) (_)) (k:=?_);intro s hs;(refine Jn ?_));obtain⟨z2,rfl⟩:∃x,x=s:=⟨_,rfl⟩;have g:GivesR (Vm.exec E.W m.mdl i z1.two) z2:=by rw[hex,←ztt];exact hs.gives ztw (by rw[ztl];omega)
  repeat(refine Jy ?_;try first|intro ao cap|intro b)
  (refine JM (look9_is tb m hbx (z2) (g).wf (ha (z2) (g).wf (g).two)) ?_;intro s hs;(refine Jn ?_))
  repeat(refine Jy ?_;try first|intro ao cap|intro b)
  (refine End.done1_ ((RT.look (z2) m)) (he:=Jv) (hp:=?_));exact⟨(g).wf.look m,((g).wf.look_two m).trans (by rw[(g).two])⟩
 ·have hex:Vm.exec E.W m.mdl i z1.two=Vm.push E.W (IntKind.i64.wrap (1-z1.cur.ws.getD (z1.cur.ws.length-1) 0)) (Vm.drop 1 z1.tk,z1.two.2):=by
   rw[←hlast];unfold Vm.exec;simp[hop];rfl
  repeat(refine Jy ?_;try first|intro ao cap|intro b)
  (refine JQ (take9_is tb m z1 hz1 1 (by omega) (by omega)) ?_;intro s hs;(refine Jn ?_));obtain⟨zt,hzt⟩:∃x,x=z1.took 1 s.1:=⟨_,rfl⟩;rw[←hzt];have ztw:zt.Wf:=by rw[hzt];exact hz1.took 1 s.1
  have ztk:zt.tk=Vm.drop 1 z1.tk:=by rw[hzt];exact hz1.took_tk 1 s.1
  have ztl:zt.cur.ws.length=z1.cur.ws.length-1:=by rw[hzt];exact RT.took_len z1 1 s.1
  have zto:zt.e=z1.e∧zt.log=z1.log∧zt.out=z1.out∧zt.to=z1.to∧zt.now=z1.now∧zt.cur.fo=z1.cur.fo∧zt.cur.fr=z1.cur.fr∧zt.oth=z1.oth∧zt.cur.up=z1.cur.up∧zt.cur.st=z1.cur.st∧zt.st=z1.st:=by rw[hzt];exact⟨rfl,rfl,rfl,rfl,rfl,rfl,rfl,rfl,rfl,rfl,rfl⟩
  have ztt:zt.two=(Vm.drop 1 z1.tk,z1.two.2):=by unfold RT.two;rw[ztk,zto.1,zto.2.1]
  have ztg:=ztw.curGet;have ztn:=ztw.now;obtain⟨oq,olo,olc⟩:=s;dsimp only;rw[hd1];(apply Run.op;exact rfl;refine OpT.val_ (h:=by(apply Still.at_;exact rfl;exact rfl;exact Jr;exact rfl;exact rfl;exact rfl;exact ix_zero;omega)) (k:=?_));(apply Run.op;exact rfl;refine OpT.val_ (k:=?_));rw[getD_one]
  repeat(refine Jy ?_;try first|intro ao cap|intro b)
  (apply Run.op;exact rfl;refine OpT.call0_ (spec:=put9_is tb m zt ztw (by rw[zto.2.1];omega) (by rw[ztl];omega) (_)) (k:=?_);intro s hs;(refine Jn ?_));obtain⟨z2,rfl⟩:∃x,x=s:=⟨_,rfl⟩;have g:GivesR (Vm.exec E.W m.mdl i z1.two) z2:=by rw[hex,←ztt];exact hs.gives ztw (by rw[ztl];omega)
  repeat(refine Jy ?_;try first|intro ao cap|intro b)
  (refine JM (look9_is tb m hbx (z2) (g).wf (ha (z2) (g).wf (g).two)) ?_;intro s hs;(refine Jn ?_))
  repeat(refine Jy ?_;try first|intro ao cap|intro b)
  (refine End.done1_ ((RT.look (z2) m)) (he:=Jv) (hp:=?_));exact⟨(g).wf.look m,((g).wf.look_two m).trans (by rw[(g).two])⟩
end Go.Proofs.YtjehflelkpacfaaGreat.Vw
