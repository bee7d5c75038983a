/- verify's flow, walked: an instruction. -/
import Derived.Test.YtjehflelkpacfaaGreatM14
set_option linter.unusedVariables false
set_option linter.unusedSimpArgs false
set_option linter.unusedSectionVars false
set_option maxRecDepth 100000
namespace Go.Proofs.YtjehflelkpacfaaGreat.Vw
open Go.RowKit Go.Proofs.YtjehflelkpacfaaGreat.Img
section
attribute [local irreducible] Run Cod End OpT Still RunQ RunS RunT Fn PutOk
section
variable(fb cb ab mb:Nat)(m:ML)(r:FR)(z:FS)(q:Nat)(hq:q<m.us.length)(hl:z.st.length≤300)(hst:∀t∈z.st,ImgM.In64 t)
abbrev StepFn(i:ImgM.Ins):Prop:=Fn Tryz.prog 67 #[ptr fb,insV i] [md m] (fa fb cb ab (up m q) r z ++ck cb mb m) (σ:=FR×FS) (fun s=>flow s.1 s.2=(Ver.step m.mdl (m.us.getD q default).u i (flow r z)).2) (fun _=> .bool (Ver.step m.mdl (m.us.getD q default).u i (flow r z)).1) (fun s=>fa fb cb ab (up m q) s.1 s.2 ++ck cb mb m)
include hl hst hq
theorem step_1(a n:Int):StepFn fb cb ab mb m r z q ⟨1,a,n⟩:=by
 obtain⟨F,hF⟩:∃F,F=Ver.push 1 (flow r z):=⟨_,rfl⟩;have e:Ver.step m.mdl (m.us.getD q default).u ⟨1,a,n⟩ (flow r z)=(true,F):=by
  unfold Ver.step;dsimp only;(repeat rw[if_neg (by omega)]);rw[if_pos (by omega)];rw[hF]
 unfold StepFn;rw[e];clear e;refine JE [ptr fb, .agg #[.int .i64 1, .int .i64 a, .int .i64 n]] Tryz.func67 Tryz.ntmps67 fun w S=>?_
 (refine Jn ?_);(refine Jn ?_)
 repeat(refine Jy ?_;try first|intro ao cap|intro b)
 (refine Jc ?_;refine OpT.call0_ (spec:=push_is fb cb ab (up m q) r z 1 (by omega)) (t:=Jx) (k:=?_);intro s hs;(refine Jn ?_))
 repeat(refine Jy ?_;try first|intro ao cap|intro b)
 (refine End.done1_ ((r,s)) (he:=Jv) (hp:=?_));simp only;rw[hF,hs]
theorem step_2(a n:Int):StepFn fb cb ab mb m r z q ⟨2,a,n⟩:=by
 obtain⟨F,hF⟩:∃F,F=Ver.push 2 (flow r z):=⟨_,rfl⟩;have e:Ver.step m.mdl (m.us.getD q default).u ⟨2,a,n⟩ (flow r z)=(true,F):=by
  unfold Ver.step;dsimp only;(repeat rw[if_neg (by omega)]);rw[if_pos (by omega)];rw[hF]
 unfold StepFn;rw[e];clear e;refine JE [ptr fb, .agg #[.int .i64 2, .int .i64 a, .int .i64 n]] Tryz.func67 Tryz.ntmps67 fun w S=>?_
 (refine Jn ?_);(refine Jn ?_)
 repeat(refine Jy ?_;try first|intro ao cap|intro b)
 (refine Jc ?_;refine OpT.call0_ (spec:=push_is fb cb ab (up m q) r z 2 (by omega)) (t:=Jx) (k:=?_);intro s hs;(refine Jn ?_))
 repeat(refine Jy ?_;try first|intro ao cap|intro b)
 (refine End.done1_ ((r,s)) (he:=Jv) (hp:=?_));simp only;rw[hF,hs]
theorem step_3(k:Nat)(n:Int)(hk:k<(m.us.getD q default).u.locals.length)(hh:r.has.length=(m.us.getD q default).u.locals.length):StepFn fb cb ab mb m r z q ⟨3,k,n⟩:=by
 obtain⟨F,hF⟩:∃F,F=Ver.push ((m.us.getD q default).u.locals.getD k default) (if r.has.getD k default then flow r z else Ver.fail 11 (flow r z)):=⟨_,rfl⟩;have e:Ver.step m.mdl (m.us.getD q default).u ⟨3,k,n⟩ (flow r z)=(true,F):=by
  unfold Ver.step;dsimp only;(repeat rw[if_neg (by omega)]);rw[if_pos (by omega)];rw[Jj];rw[hF];rfl
 unfold StepFn;rw[e];clear e;refine JE [ptr fb, .agg #[.int .i64 3, .int .i64 k, .int .i64 n]] Tryz.func67 Tryz.ntmps67 fun w S=>?_
 (refine Jn ?_);(refine Jn ?_)
 cases hb:r.has.getD k default with
 |true=>
  rw[hb,if_pos rfl]at hF
  repeat(refine Jy ?_;try first|intro ao cap|intro b)
  (refine Jc ?_;refine OpT.call0_ (spec:=push_is fb cb ab (up m q) r z ((m.us.getD q default).u.locals.getD k default) (by omega)) (t:=Jx) (k:=?_);intro s hs;(refine Jn ?_))
  repeat(refine Jy ?_;try first|intro ao cap|intro b)
  (refine End.done1_ ((r,s)) (he:=Jv) (hp:=?_));exact hs.trans hF.symm
 |false=>
  rw[hb,if_neg (by decide)]at hF
  repeat(refine Jy ?_;try first|intro ao cap|intro b)
  (refine Jc ?_;refine OpT.call0_ (spec:=fail_is fb cb ab (up m q) r z 11) (t:=Jx) (k:=?_);intro s hs;(refine Jn ?_))
  repeat(refine Jy ?_;try first|intro ao cap|intro b)
  (refine Jc ?_;refine OpT.call0_ (spec:=push_is fb cb ab (up m q) r (failE 11 z) ((m.us.getD q default).u.locals.getD k default) (by show z.st.length≤1000;omega)) (t:=Jx) (k:=?_);intro s hs;(refine Jn ?_))
  repeat(refine Jy ?_;try first|intro ao cap|intro b)
  (refine End.done1_ ((r,s)) (he:=Jv) (hp:=?_));rw[hF,←flow_fail];exact hs
theorem step_4(k:Nat)(n:Int)(hk:k<(m.us.getD q default).u.locals.length)(hh:r.has.length=(m.us.getD q default).u.locals.length):StepFn fb cb ab mb m r z q ⟨4,k,n⟩:=by
 obtain⟨F,hF⟩:∃F,F={Ver.want [(m.us.getD q default).u.locals.getD k default] (flow r z)with has:=(Ver.want [(m.us.getD q default).u.locals.getD k default] (flow r z)).has.set k true}:=⟨_,rfl⟩;have e:Ver.step m.mdl (m.us.getD q default).u ⟨4,k,n⟩ (flow r z)=(true,F):=by
  unfold Ver.step;dsimp only;(repeat rw[if_neg (by omega)]);rw[if_pos (by omega)];rw[Jj];rw[hF];rfl
 unfold StepFn;rw[e];clear e;refine JE [ptr fb, .agg #[.int .i64 4, .int .i64 k, .int .i64 n]] Tryz.func67 Tryz.ntmps67 fun w S=>?_
 (refine Jn ?_);(refine Jn ?_)
 repeat(refine Jy ?_;try first|intro ao cap|intro b)
 apply Cod.draw 13 ([md m,blk fb (fcells cb ab (up m q) r z) 161,blk b [.int .i64 4, .int .i64 (k:Int), .int .i64 n] 126]) (by kernel_rfl) 14 rfl;refine JR 0 ?_;refine JR 1 ?_;refine JR 2 ?_;refine JR 3 ?_;refine JR 4 ?_;refine JR 5 ?_;refine JR 6 ?_;refine JR 7 ?_;refine JR 8 ?_;refine JR 9 ?_;refine JR 10 ?_;refine JR 11 ?_;(refine JT 12 ?_;(first|refine Jw ?_|(refine Jb ?_;intro b)|(refine Ja ?_;intro ao cap));refine JG ?_);(refine JT 13 ?_;refine OpT.call0_ (spec:=want_is fb cb ab (up m q) r z _ 1 _ [(m.us.getD q default).u.locals.getD k default] rfl (by omega) (by omega)) (k:=?_);intro s hs;refine JG ?_;(refine Jn ?_));(apply RunT.done;kernel_rfl)
 repeat(refine Jy ?_;try first|intro ao cap|intro b)
 apply Run.op (by exact rfl);refine OpT.storeE_ (a':=true) (k:=?_)
 repeat(refine Jy ?_;try first|intro ao cap|intro b)
 (refine End.done1_ (({r with has:=r.has.set k true},s)) (he:=Jv) (ht:=Jx) (hp:=?_));simp only;have h1:=congrArg Ver.Flow.stack hs;have h2:=congrArg Ver.Flow.err hs;have h3:=congrArg Ver.Flow.has hs;have h4:=congrArg Ver.Flow.at_ hs;have h5:=congrArg Ver.Flow.todo hs;rw[hF,←hs];rfl
theorem step_5(a n:Int):StepFn fb cb ab mb m r z q ⟨5,a,n⟩:=by
 obtain⟨F,hF⟩:∃F,F=(Ver.pop (flow r z)).2:=⟨_,rfl⟩;have e:Ver.step m.mdl (m.us.getD q default).u ⟨5,a,n⟩ (flow r z)=(true,F):=by
  unfold Ver.step;dsimp only;(repeat rw[if_neg (by omega)]);rw[if_pos (by omega)];rw[hF]
 unfold StepFn;rw[e];clear e;refine JE [ptr fb, .agg #[.int .i64 5, .int .i64 a, .int .i64 n]] Tryz.func67 Tryz.ntmps67 fun w S=>?_
 (refine Jn ?_);(refine Jn ?_)
 repeat(refine Jy ?_;try first|intro ao cap|intro b)
 (refine Jc ?_;refine OpT.call0_ (spec:=pop_is fb cb ab (up m q) r z (by omega)) (t:=Jx) (k:=?_);intro s hs;(refine Jn ?_))
 repeat(refine Jy ?_;try first|intro ao cap|intro b)
 (refine End.done1_ ((r,s)) (he:=Jv) (hp:=?_));simp only;rw[hF,hs]
theorem step_6(a n:Int):StepFn fb cb ab mb m r z q ⟨6,a,n⟩:=by
 obtain⟨F,hF⟩:∃F,F=Ver.push 1 (Ver.want [1] (flow r z)):=⟨_,rfl⟩;have e:Ver.step m.mdl (m.us.getD q default).u ⟨6,a,n⟩ (flow r z)=(true,F):=by
  unfold Ver.step;dsimp only;(repeat rw[if_neg (by omega)]);rw[if_pos (by omega)];rw[hF]
 unfold StepFn;rw[e];clear e;refine JE [ptr fb, .agg #[.int .i64 6, .int .i64 a, .int .i64 n]] Tryz.func67 Tryz.ntmps67 fun w S=>?_
 (refine Jn ?_);(refine Jn ?_)
 repeat(refine Jy ?_;try first|intro ao cap|intro b)
 (refine Jc ?_;refine OpT.call0_ (spec:=want_is fb cb ab (up m q) r z _ 1 _ [1] rfl (by omega) (by omega)) (t:=Jx) (k:=?_);intro s hs;(refine Jn ?_));obtain⟨y,rfl⟩:∃y,y=s:=⟨_,rfl⟩;have hy:=hs;have hyl:y.st.length≤300:=len_of hs (Nat.le_trans (want_le _ _) (show(flow r z).stack.length≤300 from hl));clear hs
 repeat(refine Jy ?_;try first|intro ao cap|intro b)
 (refine Jc ?_;refine OpT.call0_ (spec:=push_is fb cb ab (up m q) r y 1 (by omega)) (t:=Jx) (k:=?_);intro s hs;(refine Jn ?_))
 repeat(refine Jy ?_;try first|intro ao cap|intro b)
 (refine End.done1_ ((r,s)) (he:=Jv) (hp:=?_));simp only;rw[hF,hs,hy]
theorem step_7(a n:Int):StepFn fb cb ab mb m r z q ⟨7,a,n⟩:=by
 obtain⟨F,hF⟩:∃F,F=Ver.push 2 (Ver.want [2] (flow r z)):=⟨_,rfl⟩;have e:Ver.step m.mdl (m.us.getD q default).u ⟨7,a,n⟩ (flow r z)=(true,F):=by
  unfold Ver.step;dsimp only;(repeat rw[if_neg (by omega)]);rw[if_pos (by omega)];rw[hF]
 unfold StepFn;rw[e];clear e;refine JE [ptr fb, .agg #[.int .i64 7, .int .i64 a, .int .i64 n]] Tryz.func67 Tryz.ntmps67 fun w S=>?_
 (refine Jn ?_);(refine Jn ?_)
 repeat(refine Jy ?_;try first|intro ao cap|intro b)
 (refine Jc ?_;refine OpT.call0_ (spec:=want_is fb cb ab (up m q) r z _ 1 _ [2] rfl (by omega) (by omega)) (t:=Jx) (k:=?_);intro s hs;(refine Jn ?_));obtain⟨y,rfl⟩:∃y,y=s:=⟨_,rfl⟩;have hy:=hs;have hyl:y.st.length≤300:=len_of hs (Nat.le_trans (want_le _ _) (show(flow r z).stack.length≤300 from hl));clear hs
 repeat(refine Jy ?_;try first|intro ao cap|intro b)
 (refine Jc ?_;refine OpT.call0_ (spec:=push_is fb cb ab (up m q) r y 2 (by omega)) (t:=Jx) (k:=?_);intro s hs;(refine Jn ?_))
 repeat(refine Jy ?_;try first|intro ao cap|intro b)
 (refine End.done1_ ((r,s)) (he:=Jv) (hp:=?_));simp only;rw[hF,hs,hy]
theorem step_8(op a n:Int)(hop:8≤op∧op≤12):StepFn fb cb ab mb m r z q ⟨op,a,n⟩:=by
 obtain⟨F,hF⟩:∃F,F=Ver.push 1 (Ver.want [1,1] (flow r z)):=⟨_,rfl⟩;have e:Ver.step m.mdl (m.us.getD q default).u ⟨op,a,n⟩ (flow r z)=(true,F):=by
  unfold Ver.step;dsimp only;(repeat rw[if_neg (by omega)]);rw[if_pos (by omega)];rw[hF]
 unfold StepFn;rw[e];clear e;refine JE [ptr fb, .agg #[.int .i64 op, .int .i64 a, .int .i64 n]] Tryz.func67 Tryz.ntmps67 fun w S=>?_
 (refine Jn ?_);(refine Jn ?_)
 repeat(refine Jy ?_;try first|intro ao cap|intro b)
 (refine Jc ?_;refine OpT.call0_ (spec:=want_is fb cb ab (up m q) r z _ 2 _ [1,1] rfl (by omega) (by omega)) (t:=Jx) (k:=?_);intro s hs;(refine Jn ?_));obtain⟨y,rfl⟩:∃y,y=s:=⟨_,rfl⟩;have hy:=hs;have hyl:y.st.length≤300:=len_of hs (Nat.le_trans (want_le _ _) (show(flow r z).stack.length≤300 from hl));clear hs
 repeat(refine Jy ?_;try first|intro ao cap|intro b)
 (refine Jc ?_;refine OpT.call0_ (spec:=push_is fb cb ab (up m q) r y 1 (by omega)) (t:=Jx) (k:=?_);intro s hs;(refine Jn ?_))
 repeat(refine Jy ?_;try first|intro ao cap|intro b)
 (refine End.done1_ ((r,s)) (he:=Jv) (hp:=?_));simp only;rw[hF,hs,hy]
theorem step_15(op a n:Int)(hop:15≤op∧op≤18):StepFn fb cb ab mb m r z q ⟨op,a,n⟩:=by
 obtain⟨F,hF⟩:∃F,F=Ver.push 2 (Ver.want [1,1] (flow r z)):=⟨_,rfl⟩;have e:Ver.step m.mdl (m.us.getD q default).u ⟨op,a,n⟩ (flow r z)=(true,F):=by
  unfold Ver.step;dsimp only;(repeat rw[if_neg (by omega)]);rw[if_pos (by omega)];rw[hF]
 unfold StepFn;rw[e];clear e;refine JE [ptr fb, .agg #[.int .i64 op, .int .i64 a, .int .i64 n]] Tryz.func67 Tryz.ntmps67 fun w S=>?_
 (refine Jn ?_);(refine Jn ?_)
 repeat(refine Jy ?_;try first|intro ao cap|intro b)
 (refine Jc ?_;refine OpT.call0_ (spec:=want_is fb cb ab (up m q) r z _ 2 _ [1,1] rfl (by omega) (by omega)) (t:=Jx) (k:=?_);intro s hs;(refine Jn ?_));obtain⟨y,rfl⟩:∃y,y=s:=⟨_,rfl⟩;have hy:=hs;have hyl:y.st.length≤300:=len_of hs (Nat.le_trans (want_le _ _) (show(flow r z).stack.length≤300 from hl));clear hs
 repeat(refine Jy ?_;try first|intro ao cap|intro b)
 (refine Jc ?_;refine OpT.call0_ (spec:=push_is fb cb ab (up m q) r y 2 (by omega)) (t:=Jx) (k:=?_);intro s hs;(refine Jn ?_))
 repeat(refine Jy ?_;try first|intro ao cap|intro b)
 (refine End.done1_ ((r,s)) (he:=Jv) (hp:=?_));simp only;rw[hF,hs,hy]
theorem step_19(a n:Int):StepFn fb cb ab mb m r z q ⟨19,a,n⟩:=by
 obtain⟨F,hF⟩:∃F,F=Ver.push 2 (Ver.want [2,2] (flow r z)):=⟨_,rfl⟩;have e:Ver.step m.mdl (m.us.getD q default).u ⟨19,a,n⟩ (flow r z)=(true,F):=by
  unfold Ver.step;dsimp only;(repeat rw[if_neg (by omega)]);rw[if_pos (by omega)];rw[hF]
 unfold StepFn;rw[e];clear e;refine JE [ptr fb, .agg #[.int .i64 19, .int .i64 a, .int .i64 n]] Tryz.func67 Tryz.ntmps67 fun w S=>?_
 (refine Jn ?_);(refine Jn ?_)
 repeat(refine Jy ?_;try first|intro ao cap|intro b)
 (refine Jc ?_;refine OpT.call0_ (spec:=want_is fb cb ab (up m q) r z _ 2 _ [2,2] rfl (by omega) (by omega)) (t:=Jx) (k:=?_);intro s hs;(refine Jn ?_));obtain⟨y,rfl⟩:∃y,y=s:=⟨_,rfl⟩;have hy:=hs;have hyl:y.st.length≤300:=len_of hs (Nat.le_trans (want_le _ _) (show(flow r z).stack.length≤300 from hl));clear hs
 repeat(refine Jy ?_;try first|intro ao cap|intro b)
 (refine Jc ?_;refine OpT.call0_ (spec:=push_is fb cb ab (up m q) r y 2 (by omega)) (t:=Jx) (k:=?_);intro s hs;(refine Jn ?_))
 repeat(refine Jy ?_;try first|intro ao cap|intro b)
 (refine End.done1_ ((r,s)) (he:=Jv) (hp:=?_));simp only;rw[hF,hs,hy]
theorem step_20(a n:Int):StepFn fb cb ab mb m r z q ⟨20,a,n⟩:=by
 obtain⟨F,hF⟩:∃F,F=Ver.push 2 (Ver.want [2,2] (flow r z)):=⟨_,rfl⟩;have e:Ver.step m.mdl (m.us.getD q default).u ⟨20,a,n⟩ (flow r z)=(true,F):=by
  unfold Ver.step;dsimp only;(repeat rw[if_neg (by omega)]);rw[if_pos (by omega)];rw[hF]
 unfold StepFn;rw[e];clear e;refine JE [ptr fb, .agg #[.int .i64 20, .int .i64 a, .int .i64 n]] Tryz.func67 Tryz.ntmps67 fun w S=>?_
 (refine Jn ?_);(refine Jn ?_)
 repeat(refine Jy ?_;try first|intro ao cap|intro b)
 (refine Jc ?_;refine OpT.call0_ (spec:=want_is fb cb ab (up m q) r z _ 2 _ [2,2] rfl (by omega) (by omega)) (t:=Jx) (k:=?_);intro s hs;(refine Jn ?_));obtain⟨y,rfl⟩:∃y,y=s:=⟨_,rfl⟩;have hy:=hs;have hyl:y.st.length≤300:=len_of hs (Nat.le_trans (want_le _ _) (show(flow r z).stack.length≤300 from hl));clear hs
 repeat(refine Jy ?_;try first|intro ao cap|intro b)
 (refine Jc ?_;refine OpT.call0_ (spec:=push_is fb cb ab (up m q) r y 2 (by omega)) (t:=Jx) (k:=?_);intro s hs;(refine Jn ?_))
 repeat(refine Jy ?_;try first|intro ao cap|intro b)
 (refine End.done1_ ((r,s)) (he:=Jv) (hp:=?_));simp only;rw[hF,hs,hy]
theorem step_13(a n:Int):StepFn fb cb ab mb m r z q ⟨13,a,n⟩:=by
 obtain⟨F,hF⟩:∃F,F=Ver.push 2 (Ver.want [(Ver.pop (flow r z)).1] (if(Ver.pop (flow r z)).1≠1∧(Ver.pop (flow r z)).1≠2 then Ver.fail 9 (Ver.pop (flow r z)).2 else(Ver.pop (flow r z)).2)):=⟨_,rfl⟩;have e:Ver.step m.mdl (m.us.getD q default).u ⟨13,a,n⟩ (flow r z)=(true,F):=by
  unfold Ver.step;dsimp only;(repeat rw[if_neg (by omega)]);rw[if_pos (by omega)];rw[hF]
 unfold StepFn;rw[e];clear e;refine JE [ptr fb, .agg #[.int .i64 13, .int .i64 a, .int .i64 n]] Tryz.func67 Tryz.ntmps67 fun w S=>?_
 (refine Jn ?_);(refine Jn ?_)
 repeat(refine Jy ?_;try first|intro ao cap|intro b)
 (refine Jc ?_;refine OpT.call0_ (spec:=pop_is fb cb ab (up m q) r z (by omega)) (t:=Jx) (k:=?_);intro s hs;(refine Jn ?_));obtain⟨y,rfl⟩:∃y,y=s:=⟨_,rfl⟩;have hyl:y.st.length≤300:=len_of hs (Nat.le_trans (pop_le _) (show(flow r z).stack.length≤300 from hl));rw[←hs]at hF;generalize(Ver.pop (flow r z)).1=v at *;clear hs
 by_cases hv:v≠1∧v≠2
 ·rw[if_pos hv]at hF;obtain⟨hv1,hv2⟩:=hv
  repeat(refine Jy ?_;try first|intro ao cap|intro b)
  (refine Jc ?_;refine OpT.call0_ (spec:=fail_is fb cb ab (up m q) r y 9) (t:=Jx) (k:=?_);intro s hs;(refine Jn ?_))
  repeat(refine Jy ?_;try first|intro ao cap|intro b)
  (refine Jc ?_;refine OpT.call0_ (spec:=want_is fb cb ab (up m q) r (failE 9 y) _ 1 _ [v] rfl (by omega) (by show y.st.length≤1000;omega)) (t:=Jx) (k:=?_);intro s hs;(refine Jn ?_));obtain⟨x,rfl⟩:∃x,x=s:=⟨_,rfl⟩;have hx:=hs;have hxl:x.st.length≤300:=len_of hs (Nat.le_trans (want_le _ _) hyl);rw[flow_fail]at hx;clear hs
  repeat(refine Jy ?_;try first|intro ao cap|intro b)
  (refine Jc ?_;refine OpT.call0_ (spec:=push_is fb cb ab (up m q) r x 2 (by omega)) (t:=Jx) (k:=?_);intro s hs;(refine Jn ?_))
  repeat(refine Jy ?_;try first|intro ao cap|intro b)
  (refine End.done1_ ((r,s)) (he:=Jv) (hp:=?_));simp only;rw[hF,hs,hx]
 ·rw[if_neg hv]at hF
  by_cases hv1:v=1
  ·repeat(refine Jy ?_;try first|intro ao cap|intro b)
   (refine Jc ?_;refine OpT.call0_ (spec:=want_is fb cb ab (up m q) r y _ 1 _ [v] rfl (by omega) (by omega)) (t:=Jx) (k:=?_);intro s hs;(refine Jn ?_));obtain⟨x,rfl⟩:∃x,x=s:=⟨_,rfl⟩;have hx:=hs;have hxl:x.st.length≤300:=len_of hs (Nat.le_trans (want_le _ _) hyl);clear hs
   repeat(refine Jy ?_;try first|intro ao cap|intro b)
   (refine Jc ?_;refine OpT.call0_ (spec:=push_is fb cb ab (up m q) r x 2 (by omega)) (t:=Jx) (k:=?_);intro s hs;(refine Jn ?_))
   repeat(refine Jy ?_;try first|intro ao cap|intro b)
   (refine End.done1_ ((r,s)) (he:=Jv) (hp:=?_));simp only;rw[hF,hs,hx]
  ·have hv2:v=2:=by omega
   repeat(refine Jy ?_;try first|intro ao cap|intro b)
   (refine Jc ?_;refine OpT.call0_ (spec:=want_is fb cb ab (up m q) r y _ 1 _ [v] rfl (by omega) (by omega)) (t:=Jx) (k:=?_);intro s hs;(refine Jn ?_));obtain⟨x,rfl⟩:∃x,x=s:=⟨_,rfl⟩;have hx:=hs;have hxl:x.st.length≤300:=len_of hs (Nat.le_trans (want_le _ _) hyl);clear hs
   repeat(refine Jy ?_;try first|intro ao cap|intro b)
   (refine Jc ?_;refine OpT.call0_ (spec:=push_is fb cb ab (up m q) r x 2 (by omega)) (t:=Jx) (k:=?_);intro s hs;(refine Jn ?_))
   repeat(refine Jy ?_;try first|intro ao cap|intro b)
   (refine End.done1_ ((r,s)) (he:=Jv) (hp:=?_));simp only;rw[hF,hs,hx]
theorem step_14(a n:Int):StepFn fb cb ab mb m r z q ⟨14,a,n⟩:=by
 obtain⟨F,hF⟩:∃F,F=Ver.push 2 (Ver.want [(Ver.pop (flow r z)).1] (if(Ver.pop (flow r z)).1≠1∧(Ver.pop (flow r z)).1≠2 then Ver.fail 9 (Ver.pop (flow r z)).2 else(Ver.pop (flow r z)).2)):=⟨_,rfl⟩;have e:Ver.step m.mdl (m.us.getD q default).u ⟨14,a,n⟩ (flow r z)=(true,F):=by
  unfold Ver.step;dsimp only;(repeat rw[if_neg (by omega)]);rw[if_pos (by omega)];rw[hF]
 unfold StepFn;rw[e];clear e;refine JE [ptr fb, .agg #[.int .i64 14, .int .i64 a, .int .i64 n]] Tryz.func67 Tryz.ntmps67 fun w S=>?_
 (refine Jn ?_);(refine Jn ?_)
 repeat(refine Jy ?_;try first|intro ao cap|intro b)
 (refine Jc ?_;refine OpT.call0_ (spec:=pop_is fb cb ab (up m q) r z (by omega)) (t:=Jx) (k:=?_);intro s hs;(refine Jn ?_));obtain⟨y,rfl⟩:∃y,y=s:=⟨_,rfl⟩;have hyl:y.st.length≤300:=len_of hs (Nat.le_trans (pop_le _) (show(flow r z).stack.length≤300 from hl));rw[←hs]at hF;generalize(Ver.pop (flow r z)).1=v at *;clear hs
 by_cases hv:v≠1∧v≠2
 ·rw[if_pos hv]at hF;obtain⟨hv1,hv2⟩:=hv
  repeat(refine Jy ?_;try first|intro ao cap|intro b)
  (refine Jc ?_;refine OpT.call0_ (spec:=fail_is fb cb ab (up m q) r y 9) (t:=Jx) (k:=?_);intro s hs;(refine Jn ?_))
  repeat(refine Jy ?_;try first|intro ao cap|intro b)
  (refine Jc ?_;refine OpT.call0_ (spec:=want_is fb cb ab (up m q) r (failE 9 y) _ 1 _ [v] rfl (by omega) (by show y.st.length≤1000;omega)) (t:=Jx) (k:=?_);intro s hs;(refine Jn ?_));obtain⟨x,rfl⟩:∃x,x=s:=⟨_,rfl⟩;have hx:=hs;have hxl:x.st.length≤300:=len_of hs (Nat.le_trans (want_le _ _) hyl);rw[flow_fail]at hx;clear hs
  repeat(refine Jy ?_;try first|intro ao cap|intro b)
  (refine Jc ?_;refine OpT.call0_ (spec:=push_is fb cb ab (up m q) r x 2 (by omega)) (t:=Jx) (k:=?_);intro s hs;(refine Jn ?_))
  repeat(refine Jy ?_;try first|intro ao cap|intro b)
  (refine End.done1_ ((r,s)) (he:=Jv) (hp:=?_));simp only;rw[hF,hs,hx]
 ·rw[if_neg hv]at hF
  by_cases hv1:v=1
  ·repeat(refine Jy ?_;try first|intro ao cap|intro b)
   (refine Jc ?_;refine OpT.call0_ (spec:=want_is fb cb ab (up m q) r y _ 1 _ [v] rfl (by omega) (by omega)) (t:=Jx) (k:=?_);intro s hs;(refine Jn ?_));obtain⟨x,rfl⟩:∃x,x=s:=⟨_,rfl⟩;have hx:=hs;have hxl:x.st.length≤300:=len_of hs (Nat.le_trans (want_le _ _) hyl);clear hs
   repeat(refine Jy ?_;try first|intro ao cap|intro b)
   (refine Jc ?_;refine OpT.call0_ (spec:=push_is fb cb ab (up m q) r x 2 (by omega)) (t:=Jx) (k:=?_);intro s hs;(refine Jn ?_))
   repeat(refine Jy ?_;try first|intro ao cap|intro b)
   (refine End.done1_ ((r,s)) (he:=Jv) (hp:=?_));simp only;rw[hF,hs,hx]
  ·have hv2:v=2:=by omega
   repeat(refine Jy ?_;try first|intro ao cap|intro b)
   (refine Jc ?_;refine OpT.call0_ (spec:=want_is fb cb ab (up m q) r y _ 1 _ [v] rfl (by omega) (by omega)) (t:=Jx) (k:=?_);intro s hs;(refine Jn ?_));obtain⟨x,rfl⟩:∃x,x=s:=⟨_,rfl⟩;have hx:=hs;have hxl:x.st.length≤300:=len_of hs (Nat.le_trans (want_le _ _) hyl);clear hs
   repeat(refine Jy ?_;try first|intro ao cap|intro b)
   (refine Jc ?_;refine OpT.call0_ (spec:=push_is fb cb ab (up m q) r x 2 (by omega)) (t:=Jx) (k:=?_);intro s hs;(refine Jn ?_))
   repeat(refine Jy ?_;try first|intro ao cap|intro b)
   (refine End.done1_ ((r,s)) (he:=Jv) (hp:=?_));simp only;rw[hF,hs,hx]
theorem step_21(a n:Int)(hh:r.has.length≤1000)(hto:r.todo.length≤1000000000)(hent:∀x,mfind r.ents a=some x→x.st.length≤1000∧x.hs.length=r.has.length):StepFn fb cb ab mb m r z q ⟨21,a,n⟩:=by
 obtain⟨F,hF⟩:∃F,F=Ver.to (m.us.getD q default).u.code.length a (flow r z):=⟨_,rfl⟩;have e:Ver.step m.mdl (m.us.getD q default).u ⟨21,a,n⟩ (flow r z)=(false,F):=by
  unfold Ver.step;dsimp only;(repeat rw[if_neg (by omega)]);rw[if_pos (by omega)];rw[hF]
 unfold StepFn;rw[e];clear e;refine JE [ptr fb, .agg #[.int .i64 21, .int .i64 a, .int .i64 n]] Tryz.func67 Tryz.ntmps67 fun w S=>?_
 (refine Jn ?_);(refine Jn ?_)
 repeat(refine Jy ?_;try first|intro ao cap|intro b)
 (refine Jc ?_;refine OpT.call0_ (spec:=to_is fb cb ab m q hq r z a (by omega) hh hto hent) (t:=Jx) (k:=?_);intro s hs;(refine Jn ?_))
 repeat(refine Jy ?_;try first|intro ao cap|intro b)
 (refine End.done1_ (s) (he:=Jv) (hp:=?_));exact hs.trans hF.symm
theorem step_22(a n:Int)(hh:r.has.length≤1000)(hto:r.todo.length≤1000000000)(hent:∀x,mfind r.ents a=some x→x.st.length≤1000∧x.hs.length=r.has.length):StepFn fb cb ab mb m r z q ⟨22,a,n⟩:=by
 obtain⟨F,hF⟩:∃F,F=Ver.to (m.us.getD q default).u.code.length a (Ver.want [2] (flow r z)):=⟨_,rfl⟩;have e:Ver.step m.mdl (m.us.getD q default).u ⟨22,a,n⟩ (flow r z)=(true,F):=by
  unfold Ver.step;dsimp only;(repeat rw[if_neg (by omega)]);rw[if_pos (by omega)];rw[hF]
 unfold StepFn;rw[e];clear e;refine JE [ptr fb, .agg #[.int .i64 22, .int .i64 a, .int .i64 n]] Tryz.func67 Tryz.ntmps67 fun w S=>?_
 (refine Jn ?_);(refine Jn ?_)
 repeat(refine Jy ?_;try first|intro ao cap|intro b)
 (refine Jc ?_;refine OpT.call0_ (spec:=want_is fb cb ab (up m q) r z _ 1 _ [2] rfl (by omega) (by omega)) (t:=Jx) (k:=?_);intro s hs;(refine Jn ?_));obtain⟨y,rfl⟩:∃y,y=s:=⟨_,rfl⟩;have hy:=hs;have hyl:y.st.length≤300:=len_of hs (Nat.le_trans (want_le _ _) (show(flow r z).stack.length≤300 from hl));clear hs
 repeat(refine Jy ?_;try first|intro ao cap|intro b)
 (refine Jc ?_;refine OpT.call0_ (spec:=to_is fb cb ab m q hq r y a (by omega) hh hto hent) (t:=Jx) (k:=?_);intro s hs;(refine Jn ?_))
 repeat(refine Jy ?_;try first|intro ao cap|intro b)
 (refine End.done1_ (s) (he:=Jv) (hp:=?_));rw[hF,←hy];exact hs
theorem step_23(op a n:Int)(hop:23≤op)(hsp:SpecFn fb cb ab mb m r z q ⟨op,a,n⟩):StepFn fb cb ab mb m r z q ⟨op,a,n⟩:=by
 have e:Ver.step m.mdl (m.us.getD q default).u ⟨op,a,n⟩ (flow r z)=Ver.special m.mdl (m.us.getD q default).u ⟨op,a,n⟩ (flow r z):=by
  unfold Ver.step;dsimp only;(repeat rw[if_neg (by omega)])
 unfold StepFn;unfold SpecFn at hsp;rw[e];clear e;generalize Ver.special m.mdl (m.us.getD q default).u ⟨op,a,n⟩ (flow r z)=F at *;refine JE [ptr fb, .agg #[.int .i64 op, .int .i64 a, .int .i64 n]] Tryz.func67 Tryz.ntmps67 fun w S=>?_
 (refine Jn ?_);(refine Jn ?_)
 repeat(refine Jy ?_;try first|intro ao cap|intro b)
 (refine Jc ?_;refine OpT.call0_ (spec:=hsp) (t:=Jx) (k:=?_);intro s hs;(refine Jn ?_))
 repeat(refine Jy ?_;try first|intro ao cap|intro b)
 (refine End.done1_ ((r,s)) (he:=Jv) (hp:=?_));exact hs
end
end
section
attribute [local irreducible] Run Cod End OpT Still RunQ RunS RunT Fn PutOk
set_option maxHeartbeats 1000000 in
theorem head_is(cb mb:Nat)(m:ML)(k:Nat)(hk:k<m.us.length)(hl:∀t∈(m.us.getD k default).u.locals,ImgM.In64 t)(hlen:(m.us.getD k default).u.locals.length≤9223372036854775807):Fn Tryz.prog 63 #[ptr cb,up m k] [md m] (ck cb mb m) (σ:=Unit) (fun _=>True) (fun _=> .int .i64 (Ver.head m.mdl (m.us.getD k default).u)) (fun _=>ck cb mb m):=by
 refine JE [ptr cb,up m k] Tryz.func63 Tryz.ntmps63 fun w S=>?_
 (refine Jn ?_)
 repeat' (first|(refine Jc ?_;refine OpT.call0_ (spec:=plain_is _) (k:=?_);intro s hs;(refine Jn ?_))|(refine Jc ?_;refine OpT.call0_ (spec:=containsFuncI_is _ _ _ _ rfl hlen _ [ptr _] (md m) md_excl (blk _ [ptr cb] 106::ck cb mb m) (by simp[blk_excl]) (fun t=>!Ver.plain t&& !Ver.handle m.mdl t) (by kernel_rfl) (fun x hx=>head1_is cb mb _ m x (hl x hx))) (k:=?_);intro s hs;(refine Jn ?_))|refine Jo ?_|(refine JB ?_;intro b)|(refine JA ?_;intro ao cap)|refine goQ (k:=fun h=>?_) (k':=fun h=>?_)|fail)
 all_goals ((refine End.done1_ (()) (he:=by(refine int_eq ?_;generalize(m.us.getD k default).u=u at *;generalize m.mdl=M at *;unfold Ver.head;(repeat' split);all_goals (first|rfl|omega|(simp_all;done)|(simp_all;omega)))) (hp:=?_));trivial)
end
section
attribute [local irreducible] Run Cod End OpT Still RunQ RunS RunT Fn PutOk
def whereC(w:Ver.Where):List Value:=[.int .i64 w.err, .int .i64 w.unit, .int .i64 w.at_]
abbrev whereV(w:Ver.Where):Value:= .agg (whereC w).toArray
theorem where_eq{a b c:Int}{w:Ver.Where}(h:w=⟨a,b,c⟩):whereV w= .agg [Value.int .i64 a,Value.int .i64 b,Value.int .i64 c].toArray:=by subst h;rfl
set_option maxHeartbeats 1000000 in
theorem form_is(cb mb:Nat)(m:ML)(hwf:m.Wf):Fn Tryz.prog 39 #[ptr cb] [md m] (ck cb mb m) (σ:=Unit) (fun _=>True) (fun _=>whereV (Ver.form m.mdl)) (fun _=>ck cb mb m):=by
 refine JE [ptr cb] Tryz.func39 Tryz.ntmps39 fun w S=>?_
 (refine Jn ?_);apply Cod.fact m.Small (fun w hm=>(md_holds.1 (hm.has tk)).small);intro hsm;have hs1:=hsm.bx;have hs2:=hsm.us;have hnu:m.mdl.units.length=m.us.length:=by simp
 by_cases hmany:30<m.bx.length∨30<m.us.length
 ·have hf:Ver.form m.mdl=⟨5,0,0⟩:=Ver.form_1 (by rw[hnu];exact hmany)
  repeat' (first|refine Jo ?_|(refine JB ?_;intro b)|(refine JA ?_;intro ao cap)|refine goQ (k:=fun h=>?_) (k':=fun h=>?_)|fail)
  all_goals ((refine End.doneC1_ (()) (he:=by exact where_eq hf) (hp:=?_));trivial)
 have hmany':¬(30<m.mdl.boxes.length∨30<m.mdl.units.length):=by rw[hnu];exact hmany
 repeat(refine Jy ?_;try first|intro ao cap|intro b)
 rename Nat=>b0
 apply Cod.loop (σ:=Nat) (fun k=>k≤m.bx.length∧Ver.boxes 0 m.bx=Ver.boxes k (m.bx.drop k)) (fun k=>[(0,ptr cb),(2,ptr b0),(39, .slice m.bo m.bx.length m.bc),(40, .int .i64 (m.bx.length:Int)),(41, .int .i64 (k:Int))]) (fun _=>old w S::md m::blk b0 [.int .i64 0, .int .i64 0, .int .i64 0] 87::ck cb mb m) (fun k=>m.bx.length-k) 0
 rotate_left
 exact sb;exact tks;intro s hs K hK;(refine Jn ?_)
 rotate_left
 ·exact⟨by omega,by simp⟩
 rename Nat=>k
 obtain⟨hk,hbx⟩:=hs
 by_cases h:k<m.bx.length
 ·rw[drop_cons h]at hbx;have hw:=hwf.bx _ (getD_mem h);unfold ImgM.In64 at hw
  repeat' (first|(refine Jc ?_;refine OpT.call0_ (spec:=plain_is _) (k:=?_);intro s hs;(refine Jn ?_))|refine Jo ?_|(refine JB ?_;intro b)|(refine JA ?_;intro ao cap)|refine goQ (k:=fun h=>?_) (k':=fun h=>?_)|fail)
  ·(refine End.doneC1_ (()) (he:=by exact where_eq (Ver.form_2 hmany' (hbx.trans (Ver.boxes_1 (by assumption))) (by simp))) (hp:=?_));trivial
  ·(refine End.doneC1_ (()) (he:=by exact where_eq (Ver.form_2 hmany' (hbx.trans (Ver.boxes_2 (by assumption) (by omega))) (by simp))) (hp:=?_));trivial
  ·(refine End.doneC1_ (()) (he:=by exact where_eq (Ver.form_2 hmany' (hbx.trans (Ver.boxes_2 (by assumption) (by omega))) (by simp))) (hp:=?_));trivial
  ·refine End.round0_ hK (k+1) ?_ ?_
   ·exact⟨by omega,hbx.trans (Ver.boxes_3 (by assumption) (by omega))⟩
   ·omega
 rw[List.drop_of_length_le (by omega)]at hbx;have hb0:(Ver.boxes 0 m.mdl.boxes).err=0:=by rw[show Ver.boxes 0 m.mdl.boxes=_ from hbx];rfl
 clear hbx hK
 repeat(refine Jy ?_;try first|intro ao cap|intro b)
 apply Cod.loop (σ:=Nat×Nat) (fun s=>s.1≤m.us.length∧Ver.units m.mdl 0 m.mdl.units=Ver.units m.mdl s.1 (m.mdl.units.drop s.1)∧s.2=((m.mdl.units.take s.1).filter (fun u=>decide (u.kind=4))).length) (fun s=>[(0,ptr cb),(2,ptr b0),(5, .int .i64 (s.2:Int)),(70, .int .i64 (m.us.length:Int)),(71, .int .i64 (s.1:Int))]) (fun _=>old w S::md m::blk b0 [.int .i64 0, .int .i64 0, .int .i64 0] 87::ck cb mb m) (fun s=>m.us.length-s.1) (0,0)
 rotate_left
 exact sb;exact tks;intro s hs K hK;(refine Jn ?_)
 rotate_left
 ·exact⟨by simp only;omega,by simp,by simp⟩
 obtain⟨k,t⟩:=s;obtain⟨hk,hun,ht⟩:=hs;simp only at hk hun ht hK⊢
 by_cases hku:k<m.us.length
 ·have hd:=drop_cons (show k<m.mdl.units.length by omega);have htk:=take_snoc (show k<m.mdl.units.length by omega);rw[ML.unit_at]at hd htk;rw[hd]at hun;have hts:=Ver.tasks_snoc (u:=(m.us.getD k default).u) ht;rw[←htk]at hts;have hwu:=hwf.us _ (ML.uat_mem hku);have ht2:t≤k:=by rw[ht];exact Nat.le_trans (List.length_filter_le _ _) (List.length_take_le _ _)
  clear ht hd htk
  repeat' (first|(refine JQ (head_is cb mb m k hku hwu.locals (hsm.lo k hku)) ?_;intro s hs;(refine Jn ?_))|refine Jo ?_|(refine JB ?_;intro b)|(refine JA ?_;intro ao cap)|refine goQ (k:=fun h=>?_) (k':=fun h=>?_)|fail)
  ·have hu1:=Ver.unit_1 (M:=m.mdl) (k:=k) (by assumption);(refine End.doneC1_ (()) (he:=by exact where_eq (Ver.form_3 hmany' hb0 (hun.trans ((Ver.units_1 (by rw[hu1];assumption)).trans hu1)) (by assumption))) (hp:=?_));trivial
  ·have hh0:Ver.head m.mdl (m.us.getD k default).u=0:=by assumption
   have hu2:=Ver.unit_2 (M:=m.mdl) (k:=k) hh0;have hlc:=hsm.co k hku;have hlen:(m.us.getD k default).u.code.length=(m.us.getD k default).u.code.length:=rfl;apply Cod.loop (σ:=Nat) (fun j=>j≤(m.us.getD k default).u.code.length∧Ver.instrs m.mdl (m.us.getD k default).u k 0 (m.us.getD k default).u.code=Ver.instrs m.mdl (m.us.getD k default).u k j ((m.us.getD k default).u.code.drop j)) (fun j=>[(0,ptr cb),(2,ptr b0),(5, .int .i64 (t:Int)),(6, .int .i64 (k:Int)),(7,up m k),(70, .int .i64 (m.us.length:Int)),(71, .int .i64 (k:Int)),(94, .slice (m.us.getD k default).co (m.us.getD k default).u.code.length (m.us.getD k default).cc),(95, .int .i64 ((m.us.getD k default).u.code.length:Int)),(96, .int .i64 (j:Int))]) (fun _=>old w S::md m::blk b0 [.int .i64 0, .int .i64 0, .int .i64 0] 87::ck cb mb m) (fun j=>(m.us.getD k default).u.code.length-j) 0
   rotate_left
   exact sb;exact tks;intro j hj KJ hKJ;(refine Jn ?_)
   rotate_left
   ·exact⟨by omega,by simp⟩
   obtain⟨hj1,hj2⟩:=hj
   by_cases hjl:j<(m.us.getD k default).u.code.length
   ·rw[drop_cons hjl]at hj2;have hi0:(m.us.getD k default).u.code.getD j default∈(m.us.getD k default).u.code:=getD_mem hjl
    repeat' (first|(refine Jc ?_;refine OpT.call0_ (spec:=instr_is cb mb m k hku _) (k:=?_);intro s hs;(refine Jn ?_))|refine Jo ?_|(refine JB ?_;intro b)|(refine JA ?_;intro ao cap)|refine goQ (k:=fun h=>?_) (k':=fun h=>?_)|fail)
    ·have hi1:=Ver.instrs_1 (M:=m.mdl) (i:=(m.us.getD k default).u.code.getD j default) (u:=(m.us.getD k default).u) (k:=k) (j:=j) (r:=(m.us.getD k default).u.code.drop (j+1)) (by assumption);have hu3:=hu2.trans (hj2.trans hi1);(refine End.doneC1_ (()) (he:=by exact where_eq (Ver.form_3 hmany' hb0 (hun.trans ((Ver.units_1 (by rw[hu3];assumption)).trans hu3)) (by assumption))) (hp:=?_));trivial
    ·refine End.round0_ hKJ (j+1) ?_ ?_
     ·exact⟨by omega,hj2.trans (Ver.instrs_2 (by assumption))⟩
     ·omega
   ·have hu3:(Ver.unit m.mdl k (m.us.getD k default).u).err=0:=by
     rw[hu2,hj2,List.drop_of_length_le (by omega)];rfl
    repeat' (first|refine Jo ?_|(refine JB ?_;intro b)|(refine JA ?_;intro ao cap)|refine goQ (k:=fun h=>?_) (k':=fun h=>?_)|fail)
    ·refine End.round0_ hK (k+1,t+1) ?_ ?_
     ·refine⟨by simp only;omega,hun.trans (Ver.units_2 hu3),?_⟩;rw[hts,if_pos (by assumption)]
     ·simp only;omega
    ·refine End.round0_ hK (k+1,t) ?_ ?_
     ·refine⟨by simp only;omega,hun.trans (Ver.units_2 hu3),?_⟩;rw[hts,if_neg (by assumption)]
     ·simp only;omega
 ·rw[List.drop_of_length_le (by rw[hnu];omega)]at hun;rw[List.take_of_length_le (by rw[hnu];omega)]at ht;have hu0:(Ver.units m.mdl 0 m.mdl.units).err=0:=by rw[hun];rfl
  repeat' (first|refine Jo ?_|(refine JB ?_;intro b)|(refine JA ?_;intro ao cap)|refine goQ (k:=fun h=>?_) (k':=fun h=>?_)|fail)
  ·(refine End.doneC1_ (()) (he:=by exact where_eq (Ver.form_4 hmany' hb0 hu0 (by rw[←ht];omega))) (hp:=?_));trivial
  ·(refine End.doneC1_ (()) (he:=by exact where_eq (Ver.form_5 hmany' hb0 hu0 (by rw[←ht];omega))) (hp:=?_));trivial
end
attribute [local irreducible] Run Cod End OpT Still RunQ RunS RunT Fn PutOk
structure Formed(m:ML):Prop where
 boxes:m.bx.length≤30
 units:m.us.length≤30
 head:∀k,k<m.us.length→Ver.head m.mdl (m.us.getD k default).u=0
 instr:∀k,k<m.us.length→∀i∈(m.us.getD k default).u.code,Ver.instr m.mdl (m.us.getD k default).u i=0
theorem Formed.good{m:ML}(h:Formed m)(hwf:m.Wf){q:Nat}(hq:q<m.us.length):Ver.Good m.mdl (m.us.getD q default).u:=by
 have hu:=hwf.us _ (ML.uat_mem hq);refine⟨fun k hk=>?_,fun k hk=>?_,hu.locals,hu.result,hu.takes,by simpa using h.units,h.instr q hq⟩
 ·have:=hwf.us _ (ML.uat_mem (show k<m.us.length by simpa using hk));rw[ML.unit_at];exact⟨this.result,this.takes⟩
 ·exact(hwf.bx _ (getD_mem hk)).1
theorem ent_of{r:FR}{z:FS}{n L:Nat}(h:Ver.Inv n L (flow r z))(p:Int)(x:SH)(hx:mfind r.ents p=some x):x.st.length≤300∧(∀t∈x.st,ImgM.In64 t)∧x.hs.length=L:=by
 have:=mfind_at r.ents p;rw[hx]at this;exact h.ent p (x.st,x.hs) this
theorem has_of{r:FR}{z:FS}{n L:Nat}(h:Ver.Inv n L (flow r z)):r.has.length=L:=h.has
theorem step_any(fb cb ab mb:Nat)(m:ML)(r:FR)(z:FS)(q:Nat)(hq:q<m.us.length)(hf:Formed m){n:Nat}(hi:Ver.Inv n (m.us.getD q default).u.locals.length (flow r z))(hl:z.st.length≤300)(hst:∀t∈z.st,ImgM.In64 t)(hto:r.todo.length≤1000000000)
  (i:ImgM.Ins) (hin:Ver.instr m.mdl (m.us.getD q default).u i=0):StepFn fb cb ab mb m r z q i:=by
 have ho:=Ver.instr_ok hin;have hlo:=(head_ok (hf.head q hq)).1;have hhl:=has_of hi;have hent:∀a x,mfind r.ents a=some x→x.st.length≤1000∧x.hs.length=r.has.length:=fun a x hx=>by
  obtain⟨h1,h2,h3⟩:=ent_of hi a x hx;exact⟨by omega,by rw[h3,hhl]⟩
 obtain⟨op,a,nn⟩:=i;obtain⟨hop,hloc,hjmp,hcall,hstart,hbox⟩:=ho;simp only at hop hloc hjmp hcall hstart hbox;rcases(by omega:op=1∨op=2∨op=3∨op=4∨op=5∨op=6∨op=7∨(8≤op∧op≤12)∨op=13∨op=14∨(15≤op∧op≤18)∨op=19∨op=20∨op=21∨op=22∨op=23∨op=24∨op=25∨op=26∨op=27∨op=28∨op=29∨op=30∨op=31∨op=32)with rfl|rfl|rfl|rfl|rfl|rfl|rfl|h|rfl|rfl|h|rfl|rfl|rfl|rfl|rfl|rfl|rfl|rfl|rfl|rfl|rfl|rfl|rfl|rfl
 ·exact step_1 fb cb ab mb m r z q hq hl hst a nn
 ·exact step_2 fb cb ab mb m r z q hq hl hst a nn
 ·obtain⟨h1,h2⟩:=hloc (.inl rfl);obtain⟨k,rfl⟩:=JI h1;exact step_3 fb cb ab mb m r z q hq hl hst k nn (by omega) hhl
 ·obtain⟨h1,h2⟩:=hloc (.inr rfl);obtain⟨k,rfl⟩:=JI h1;exact step_4 fb cb ab mb m r z q hq hl hst k nn (by omega) hhl
 ·exact step_5 fb cb ab mb m r z q hq hl hst a nn
 ·exact step_6 fb cb ab mb m r z q hq hl hst a nn
 ·exact step_7 fb cb ab mb m r z q hq hl hst a nn
 ·exact step_8 fb cb ab mb m r z q hq hl hst op a nn h
 ·exact step_13 fb cb ab mb m r z q hq hl hst a nn
 ·exact step_14 fb cb ab mb m r z q hq hl hst a nn
 ·exact step_15 fb cb ab mb m r z q hq hl hst op a nn h
 ·exact step_19 fb cb ab mb m r z q hq hl hst a nn
 ·exact step_20 fb cb ab mb m r z q hq hl hst a nn
 ·exact step_21 fb cb ab mb m r z q hq hl hst a nn (by omega) hto (hent a)
 ·exact step_22 fb cb ab mb m r z q hq hl hst a nn (by omega) hto (hent a)
 ·obtain⟨k,rfl,hk, -⟩:=isUnit_ok (hcall rfl);have hk:k<m.us.length:=by simpa using hk
  exact step_23 fb cb ab mb m r z q hq hl hst _ _ _ (by omega) (special_23 fb cb ab mb m r z q hq hl hst k nn hk (hf.head k hk))
 ·exact step_23 fb cb ab mb m r z q hq hl hst _ _ _ (by omega) (special_24 fb cb ab mb m r z q hq hl hst a nn)
 ·exact step_23 fb cb ab mb m r z q hq hl hst _ _ _ (by omega) (special_25 fb cb ab mb m r z q hq hl hst a nn)
 ·obtain⟨h1,h2⟩:=hbox (.inl rfl);obtain⟨k,rfl⟩:=JI h1;exact step_23 fb cb ab mb m r z q hq hl hst _ _ _ (by omega) (special_26 fb cb ab mb m r z q hq hl hst k nn (by omega))
 ·obtain⟨h1,h2⟩:=hbox (.inr rfl);obtain⟨k,rfl⟩:=JI h1;exact step_23 fb cb ab mb m r z q hq hl hst _ _ _ (by omega) (special_27 fb cb ab mb m r z q hq hl hst k nn (by omega))
 ·exact step_23 fb cb ab mb m r z q hq hl hst _ _ _ (by omega) (special_28 fb cb ab mb m r z q hq hl hst a nn)
 ·obtain⟨k,rfl,hk, -⟩:=isUnit_ok (hstart rfl);have hk:k<m.us.length:=by simpa using hk
  exact step_23 fb cb ab mb m r z q hq hl hst _ _ _ (by omega) (special_29 fb cb ab mb m r z q hq hl hst k nn hk hf.units (hf.head k hk))
 ·exact step_23 fb cb ab mb m r z q hq hl hst _ _ _ (by omega) (special_30 fb cb ab mb m r z q hq hl hst a nn)
 ·exact step_23 fb cb ab mb m r z q hq hl hst _ _ _ (by omega) (special_31 fb cb ab mb m r z q hq hl hst a nn)
 ·exact step_23 fb cb ab mb m r z q hq hl hst _ _ _ (by omega) (special_32 fb cb ab mb m r z q hq hl hst a nn)
end Go.Proofs.YtjehflelkpacfaaGreat.Vw
