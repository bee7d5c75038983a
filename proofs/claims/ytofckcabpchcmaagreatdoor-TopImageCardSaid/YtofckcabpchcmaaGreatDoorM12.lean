/- verify's flow, walked: an instruction. -/
import Derived.Test.YtofckcabpchcmaaGreatDoorM11
set_option linter.unusedVariables false
set_option linter.unusedSimpArgs false
set_option linter.unusedSectionVars false
set_option maxRecDepth 100000
namespace Go.Proofs.YtofckcabpchcmaaGreatDoor
namespace Vw
open Go.RowKit Img
attribute [local irreducible] aE aG End aB Still aN aU RunT Fn aS
section
variable(fb cb ab mb:Nat)(m:ML)(r:FR)(z:FS)(q:Nat)(hq:q<m.us.length)(hl:z.st.length≤300)(hst:∀t∈z.st,ImgM.In64 t)
abbrev fP(i:ImgM.aT):Prop:=Fn Tryz.prog 76 #[ptr fb,lP i] [md m] (fa fb cb ab (up m q) r z ++ck cb mb m) (σ:=FR×FS) (fun s=>aQ s.1 s.2=(Ver.step m.aC (m.us.getD q default).u i (aQ r z)).2) (fun _=> .bool (Ver.step m.aC (m.us.getD q default).u i (aQ r z)).1) (fun s=>fa fb cb ab (up m q) s.1 s.2 ++ck cb mb m)
include hl hst hq
theorem aGr(a n:Int):fP fb cb ab mb m r z q ⟨1,a,n⟩:=by
 obtain⟨F,hF⟩:∃F,F=Ver.push 1 (aQ r z):=⟨_,rfl⟩;have e:Ver.step m.aC (m.us.getD q default).u ⟨1,a,n⟩ (aQ r z)=(true,F):=by
  unfold Ver.step;dsimp only;(repeat rw[if_neg aA]);rw[if_pos aA];rw[hF]
 unfold fP;rw[e];clear e;refine JE [ptr fb, .agg #[.int .i64 1, .int .i64 a, .int .i64 n]] Tryz.func76 Tryz.ntmps76 fun w S=>?_;refine Jn ?_;refine Jn ?_
 repeat(refine Jy ?_;try intro b)
 (refine eM (jU fb cb ab (up m q) r z 1 aA) fun s hs=>?_);refine cL (r,s) ?_;simp only;rw[hF,hs]
theorem aGw(a n:Int):fP fb cb ab mb m r z q ⟨2,a,n⟩:=by
 obtain⟨F,hF⟩:∃F,F=Ver.push 2 (aQ r z):=⟨_,rfl⟩;have e:Ver.step m.aC (m.us.getD q default).u ⟨2,a,n⟩ (aQ r z)=(true,F):=by
  unfold Ver.step;dsimp only;(repeat rw[if_neg aA]);rw[if_pos aA];rw[hF]
 unfold fP;rw[e];clear e;refine JE [ptr fb, .agg #[.int .i64 2, .int .i64 a, .int .i64 n]] Tryz.func76 Tryz.ntmps76 fun w S=>?_;refine Jn ?_;refine Jn ?_
 repeat(refine Jy ?_;try intro b)
 (refine eM (jU fb cb ab (up m q) r z 2 aA) fun s hs=>?_);refine cL (r,s) ?_;simp only;rw[hF,hs]
theorem yI(k:Nat)(n:Int)(hk:k<(m.us.getD q default).u.locals.length)(hh:r.has.length=(m.us.getD q default).u.locals.length):fP fb cb ab mb m r z q ⟨3,k,n⟩:=by
 obtain⟨F,hF⟩:∃F,F=Ver.push ((m.us.getD q default).u.locals.getD k default) (if r.has.getD k default then aQ r z else Ver.fail 11 (aQ r z)):=⟨_,rfl⟩;have e:Ver.step m.aC (m.us.getD q default).u ⟨3,k,n⟩ (aQ r z)=(true,F):=by
  unfold Ver.step;dsimp only;(repeat rw[if_neg aA]);rw[if_pos aA];rw[Jj];rw[hF];rfl
 unfold fP;rw[e];clear e;refine JE [ptr fb, .agg #[.int .i64 3, .int .i64 k, .int .i64 n]] Tryz.func76 Tryz.ntmps76 fun w S=>?_;refine Jn ?_;refine Jn ?_
 cases hb:r.has.getD k default with
 |true=>
  rw[hb,if_pos rfl]at hF
  repeat(refine Jy ?_;try intro b)
  (refine eM (jU fb cb ab (up m q) r z ((m.us.getD q default).u.locals.getD k default) aA) fun s hs=>?_);refine cL (r,s) ?_;exact hs.trans hF.symm
 |false=>
  rw[hb,if_neg aK]at hF
  repeat(refine Jy ?_;try intro b)
  (refine eM (n5 fb cb ab (up m q) r z 11) fun s hs=>?_);(refine eM (jU fb cb ab (up m q) r (mW 11 z) ((m.us.getD q default).u.locals.getD k default) (by show z.st.length≤1000;omega)) fun s hs=>?_);refine cL (r,s) ?_;rw[hF,←n6];exact hs
theorem yJ(k:Nat)(n:Int)(hk:k<(m.us.getD q default).u.locals.length)(hh:r.has.length=(m.us.getD q default).u.locals.length):fP fb cb ab mb m r z q ⟨4,k,n⟩:=by
 obtain⟨F,hF⟩:∃F,F={Ver.want [(m.us.getD q default).u.locals.getD k default] (aQ r z)with has:=(Ver.want [(m.us.getD q default).u.locals.getD k default] (aQ r z)).has.set k true}:=⟨_,rfl⟩;have e:Ver.step m.aC (m.us.getD q default).u ⟨4,k,n⟩ (aQ r z)=(true,F):=by
  unfold Ver.step;dsimp only;(repeat rw[if_neg aA]);rw[if_pos aA];rw[Jj];rw[hF];rfl
 unfold fP;rw[e];clear e;refine JE [ptr fb, .agg #[.int .i64 4, .int .i64 k, .int .i64 n]] Tryz.func76 Tryz.ntmps76 fun w S=>?_;refine Jn ?_;refine Jn ?_
 repeat(refine Jy ?_;try intro b)
 refine b8 13 [md m,aF fb (rJ cb ab (up m q) r z) 195,aF b [.int .i64 4, .int .i64 k, .int .i64 n] 113] 14 ?_;refine bR [0,1,2,3,4,5,6,7,8,9,10,11] ?_;refine iF 12 fun b=>?_;(refine JT 13 ?_;refine aB.bA (spec:=lJ fb cb ab (up m q) r z _ 1 _ [(m.us.getD q default).u.locals.getD k default] rfl aA aA) (k:=?_);intro s hs;refine JG ?_;refine Jn ?_);refine b6 ?_;refine aD ?_;apply aE.op aV;refine aB.j5 (a':=true) (k:=?_);refine aD ?_;(refine End.aX (({r with has:=r.has.set k true},s)) (he:=Jv) (ht:=Jx) (hp:=?_));simp only;have h1:=congrArg Ver.aZ.stack hs;have h2:=congrArg Ver.aZ.err hs;have h3:=congrArg Ver.aZ.has hs;have h4:=congrArg Ver.aZ.at_ hs;have h5:=congrArg Ver.aZ.todo hs;rw[hF,←hs];rfl
theorem aGy(a n:Int):fP fb cb ab mb m r z q ⟨5,a,n⟩:=by
 obtain⟨F,hF⟩:∃F,F=(Ver.pop (aQ r z)).2:=⟨_,rfl⟩;have e:Ver.step m.aC (m.us.getD q default).u ⟨5,a,n⟩ (aQ r z)=(true,F):=by
  unfold Ver.step;dsimp only;(repeat rw[if_neg aA]);rw[if_pos aA];rw[hF]
 unfold fP;rw[e];clear e;refine JE [ptr fb, .agg #[.int .i64 5, .int .i64 a, .int .i64 n]] Tryz.func76 Tryz.ntmps76 fun w S=>?_;refine Jn ?_;refine Jn ?_
 repeat(refine Jy ?_;try intro b)
 (refine eM (yB fb cb ab (up m q) r z aA) fun s hs=>?_);refine cL (r,s) ?_;simp only;rw[hF,hs]
theorem aGz(a n:Int):fP fb cb ab mb m r z q ⟨6,a,n⟩:=by
 obtain⟨F,hF⟩:∃F,F=Ver.push 1 (Ver.want [1] (aQ r z)):=⟨_,rfl⟩;have e:Ver.step m.aC (m.us.getD q default).u ⟨6,a,n⟩ (aQ r z)=(true,F):=by
  unfold Ver.step;dsimp only;(repeat rw[if_neg aA]);rw[if_pos aA];rw[hF]
 unfold fP;rw[e];clear e;refine JE [ptr fb, .agg #[.int .i64 6, .int .i64 a, .int .i64 n]] Tryz.func76 Tryz.ntmps76 fun w S=>?_;refine Jn ?_;refine Jn ?_
 repeat(refine Jy ?_;try intro b)
 (refine Jc ?_;refine aB.bA (spec:=lJ fb cb ab (up m q) r z _ 1 _ [1] rfl aA aA) (t:=Jx) (k:=?_);intro s hs;refine Jn ?_);obtain⟨y,rfl⟩:∃y,y=s:=⟨_,rfl⟩;have hy:=hs;have hyl:y.st.length≤300:=jR hs (dP (lY _ _) (show(aQ r z).stack.length≤300 from hl));clear hs;refine aD ?_;(refine eM (jU fb cb ab (up m q) r y 1 aA) fun s hs=>?_);refine cL (r,s) ?_;simp only;rw[hF,hs,hy]
theorem aHA(a n:Int):fP fb cb ab mb m r z q ⟨7,a,n⟩:=by
 obtain⟨F,hF⟩:∃F,F=Ver.push 2 (Ver.want [2] (aQ r z)):=⟨_,rfl⟩;have e:Ver.step m.aC (m.us.getD q default).u ⟨7,a,n⟩ (aQ r z)=(true,F):=by
  unfold Ver.step;dsimp only;(repeat rw[if_neg aA]);rw[if_pos aA];rw[hF]
 unfold fP;rw[e];clear e;refine JE [ptr fb, .agg #[.int .i64 7, .int .i64 a, .int .i64 n]] Tryz.func76 Tryz.ntmps76 fun w S=>?_;refine Jn ?_;refine Jn ?_
 repeat(refine Jy ?_;try intro b)
 (refine Jc ?_;refine aB.bA (spec:=lJ fb cb ab (up m q) r z _ 1 _ [2] rfl aA aA) (t:=Jx) (k:=?_);intro s hs;refine Jn ?_);obtain⟨y,rfl⟩:∃y,y=s:=⟨_,rfl⟩;have hy:=hs;have hyl:y.st.length≤300:=jR hs (dP (lY _ _) (show(aQ r z).stack.length≤300 from hl));clear hs;refine aD ?_;(refine eM (jU fb cb ab (up m q) r y 2 aA) fun s hs=>?_);refine cL (r,s) ?_;simp only;rw[hF,hs,hy]
theorem aHB(op a n:Int)(hop:8≤op∧op≤12):fP fb cb ab mb m r z q ⟨op,a,n⟩:=by
 obtain⟨F,hF⟩:∃F,F=Ver.push 1 (Ver.want [1,1] (aQ r z)):=⟨_,rfl⟩;have e:Ver.step m.aC (m.us.getD q default).u ⟨op,a,n⟩ (aQ r z)=(true,F):=by
  unfold Ver.step;dsimp only;(repeat rw[if_neg aA]);rw[if_pos aA];rw[hF]
 unfold fP;rw[e];clear e;refine JE [ptr fb, .agg #[.int .i64 op, .int .i64 a, .int .i64 n]] Tryz.func76 Tryz.ntmps76 fun w S=>?_;refine Jn ?_;refine Jn ?_
 repeat(refine Jy ?_;try intro b)
 (refine Jc ?_;refine aB.bA (spec:=lJ fb cb ab (up m q) r z _ 2 _ [1,1] rfl aA aA) (t:=Jx) (k:=?_);intro s hs;refine Jn ?_);obtain⟨y,rfl⟩:∃y,y=s:=⟨_,rfl⟩;have hy:=hs;have hyl:y.st.length≤300:=jR hs (dP (lY _ _) (show(aQ r z).stack.length≤300 from hl));clear hs;refine aD ?_;(refine eM (jU fb cb ab (up m q) r y 1 aA) fun s hs=>?_);refine cL (r,s) ?_;simp only;rw[hF,hs,hy]
theorem aGu(op a n:Int)(hop:15≤op∧op≤18):fP fb cb ab mb m r z q ⟨op,a,n⟩:=by
 obtain⟨F,hF⟩:∃F,F=Ver.push 2 (Ver.want [1,1] (aQ r z)):=⟨_,rfl⟩;have e:Ver.step m.aC (m.us.getD q default).u ⟨op,a,n⟩ (aQ r z)=(true,F):=by
  unfold Ver.step;dsimp only;(repeat rw[if_neg aA]);rw[if_pos aA];rw[hF]
 unfold fP;rw[e];clear e;refine JE [ptr fb, .agg #[.int .i64 op, .int .i64 a, .int .i64 n]] Tryz.func76 Tryz.ntmps76 fun w S=>?_;refine Jn ?_;refine Jn ?_
 repeat(refine Jy ?_;try intro b)
 (refine Jc ?_;refine aB.bA (spec:=lJ fb cb ab (up m q) r z _ 2 _ [1,1] rfl aA aA) (t:=Jx) (k:=?_);intro s hs;refine Jn ?_);obtain⟨y,rfl⟩:∃y,y=s:=⟨_,rfl⟩;have hy:=hs;have hyl:y.st.length≤300:=jR hs (dP (lY _ _) (show(aQ r z).stack.length≤300 from hl));clear hs;refine aD ?_;(refine eM (jU fb cb ab (up m q) r y 2 aA) fun s hs=>?_);refine cL (r,s) ?_;simp only;rw[hF,hs,hy]
theorem aGv(a n:Int):fP fb cb ab mb m r z q ⟨19,a,n⟩:=by
 obtain⟨F,hF⟩:∃F,F=Ver.push 2 (Ver.want [2,2] (aQ r z)):=⟨_,rfl⟩;have e:Ver.step m.aC (m.us.getD q default).u ⟨19,a,n⟩ (aQ r z)=(true,F):=by
  unfold Ver.step;dsimp only;(repeat rw[if_neg aA]);rw[if_pos aA];rw[hF]
 unfold fP;rw[e];clear e;refine JE [ptr fb, .agg #[.int .i64 19, .int .i64 a, .int .i64 n]] Tryz.func76 Tryz.ntmps76 fun w S=>?_;refine Jn ?_;refine Jn ?_
 repeat(refine Jy ?_;try intro b)
 (refine Jc ?_;refine aB.bA (spec:=lJ fb cb ab (up m q) r z _ 2 _ [2,2] rfl aA aA) (t:=Jx) (k:=?_);intro s hs;refine Jn ?_);obtain⟨y,rfl⟩:∃y,y=s:=⟨_,rfl⟩;have hy:=hs;have hyl:y.st.length≤300:=jR hs (dP (lY _ _) (show(aQ r z).stack.length≤300 from hl));clear hs;refine aD ?_;(refine eM (jU fb cb ab (up m q) r y 2 aA) fun s hs=>?_);refine cL (r,s) ?_;simp only;rw[hF,hs,hy]
theorem aGx(a n:Int):fP fb cb ab mb m r z q ⟨20,a,n⟩:=by
 obtain⟨F,hF⟩:∃F,F=Ver.push 2 (Ver.want [2,2] (aQ r z)):=⟨_,rfl⟩;have e:Ver.step m.aC (m.us.getD q default).u ⟨20,a,n⟩ (aQ r z)=(true,F):=by
  unfold Ver.step;dsimp only;(repeat rw[if_neg aA]);rw[if_pos aA];rw[hF]
 unfold fP;rw[e];clear e;refine JE [ptr fb, .agg #[.int .i64 20, .int .i64 a, .int .i64 n]] Tryz.func76 Tryz.ntmps76 fun w S=>?_;refine Jn ?_;refine Jn ?_
 repeat(refine Jy ?_;try intro b)
 (refine Jc ?_;refine aB.bA (spec:=lJ fb cb ab (up m q) r z _ 2 _ [2,2] rfl aA aA) (t:=Jx) (k:=?_);intro s hs;refine Jn ?_);obtain⟨y,rfl⟩:∃y,y=s:=⟨_,rfl⟩;have hy:=hs;have hyl:y.st.length≤300:=jR hs (dP (lY _ _) (show(aQ r z).stack.length≤300 from hl));clear hs;refine aD ?_;(refine eM (jU fb cb ab (up m q) r y 2 aA) fun s hs=>?_);refine cL (r,s) ?_;simp only;rw[hF,hs,hy]
theorem aGs(a n:Int):fP fb cb ab mb m r z q ⟨13,a,n⟩:=by
 obtain⟨F,hF⟩:∃F,F=Ver.push 2 (Ver.want [(Ver.pop (aQ r z)).1] (if(Ver.pop (aQ r z)).1≠1∧(Ver.pop (aQ r z)).1≠2 then Ver.fail 9 (Ver.pop (aQ r z)).2 else(Ver.pop (aQ r z)).2)):=⟨_,rfl⟩;have e:Ver.step m.aC (m.us.getD q default).u ⟨13,a,n⟩ (aQ r z)=(true,F):=by
  unfold Ver.step;dsimp only;(repeat rw[if_neg aA]);rw[if_pos aA];rw[hF]
 unfold fP;rw[e];clear e;refine JE [ptr fb, .agg #[.int .i64 13, .int .i64 a, .int .i64 n]] Tryz.func76 Tryz.ntmps76 fun w S=>?_;refine Jn ?_;refine Jn ?_
 repeat(refine Jy ?_;try intro b)
 (refine oP (yB fb cb ab (up m q) r z aA) fun s hs=>?_);obtain⟨y,rfl⟩:∃y,y=s:=⟨_,rfl⟩;have hyl:y.st.length≤300:=jR hs (dP (DD _) (show(aQ r z).stack.length≤300 from hl));rw[←hs]at hF;generalize(Ver.pop (aQ r z)).1=v at *;clear hs
 by_cases hv:v≠1∧v≠2
 ·rw[if_pos hv]at hF;obtain⟨hv1,hv2⟩:=hv;refine aD ?_;(refine oP (n5 fb cb ab (up m q) r y 9) fun s hs=>?_)
  repeat(refine Jy ?_;try intro b)
  (refine Jc ?_;refine aB.bA (spec:=lJ fb cb ab (up m q) r (mW 9 y) _ 1 _ [v] rfl aA (by show y.st.length≤1000;omega)) (t:=Jx) (k:=?_);intro s hs;refine Jn ?_);obtain⟨x,rfl⟩:=a7 s;have hx:=hs;have hxl:x.st.length≤300:=jR hs (dP (lY _ _) hyl);rw[n6]at hx;clear hs;refine aD ?_;(refine eM (jU fb cb ab (up m q) r x 2 aA) fun s hs=>?_);refine cL (r,s) ?_;simp only;rw[hF,hs,hx]
 ·rw[if_neg hv]at hF
  by_cases hv1:v=1
  ·repeat(refine Jy ?_;try intro b)
   (refine Jc ?_;refine aB.bA (spec:=lJ fb cb ab (up m q) r y _ 1 _ [v] rfl aA aA) (t:=Jx) (k:=?_);intro s hs;refine Jn ?_);obtain⟨x,rfl⟩:=a7 s;have hx:=hs;have hxl:x.st.length≤300:=jR hs (dP (lY _ _) hyl);clear hs;refine aD ?_;(refine eM (jU fb cb ab (up m q) r x 2 aA) fun s hs=>?_);refine cL (r,s) ?_;simp only;rw[hF,hs,hx]
  ·have hv2:v=2:=aA
   repeat(refine Jy ?_;try intro b)
   (refine Jc ?_;refine aB.bA (spec:=lJ fb cb ab (up m q) r y _ 1 _ [v] rfl aA aA) (t:=Jx) (k:=?_);intro s hs;refine Jn ?_);obtain⟨x,rfl⟩:=a7 s;have hx:=hs;have hxl:x.st.length≤300:=jR hs (dP (lY _ _) hyl);clear hs;refine aD ?_;(refine eM (jU fb cb ab (up m q) r x 2 aA) fun s hs=>?_);refine cL (r,s) ?_;simp only;rw[hF,hs,hx]
theorem aGt(a n:Int):fP fb cb ab mb m r z q ⟨14,a,n⟩:=by
 obtain⟨F,hF⟩:∃F,F=Ver.push 2 (Ver.want [(Ver.pop (aQ r z)).1] (if(Ver.pop (aQ r z)).1≠1∧(Ver.pop (aQ r z)).1≠2 then Ver.fail 9 (Ver.pop (aQ r z)).2 else(Ver.pop (aQ r z)).2)):=⟨_,rfl⟩;have e:Ver.step m.aC (m.us.getD q default).u ⟨14,a,n⟩ (aQ r z)=(true,F):=by
  unfold Ver.step;dsimp only;(repeat rw[if_neg aA]);rw[if_pos aA];rw[hF]
 unfold fP;rw[e];clear e;refine JE [ptr fb, .agg #[.int .i64 14, .int .i64 a, .int .i64 n]] Tryz.func76 Tryz.ntmps76 fun w S=>?_;refine Jn ?_;refine Jn ?_
 repeat(refine Jy ?_;try intro b)
 (refine oP (yB fb cb ab (up m q) r z aA) fun s hs=>?_);obtain⟨y,rfl⟩:∃y,y=s:=⟨_,rfl⟩;have hyl:y.st.length≤300:=jR hs (dP (DD _) (show(aQ r z).stack.length≤300 from hl));rw[←hs]at hF;generalize(Ver.pop (aQ r z)).1=v at *;clear hs
 by_cases hv:v≠1∧v≠2
 ·rw[if_pos hv]at hF;obtain⟨hv1,hv2⟩:=hv;refine aD ?_;(refine oP (n5 fb cb ab (up m q) r y 9) fun s hs=>?_)
  repeat(refine Jy ?_;try intro b)
  (refine Jc ?_;refine aB.bA (spec:=lJ fb cb ab (up m q) r (mW 9 y) _ 1 _ [v] rfl aA (by show y.st.length≤1000;omega)) (t:=Jx) (k:=?_);intro s hs;refine Jn ?_);obtain⟨x,rfl⟩:=a7 s;have hx:=hs;have hxl:x.st.length≤300:=jR hs (dP (lY _ _) hyl);rw[n6]at hx;clear hs;refine aD ?_;(refine eM (jU fb cb ab (up m q) r x 2 aA) fun s hs=>?_);refine cL (r,s) ?_;simp only;rw[hF,hs,hx]
 ·rw[if_neg hv]at hF
  by_cases hv1:v=1
  ·repeat(refine Jy ?_;try intro b)
   (refine Jc ?_;refine aB.bA (spec:=lJ fb cb ab (up m q) r y _ 1 _ [v] rfl aA aA) (t:=Jx) (k:=?_);intro s hs;refine Jn ?_);obtain⟨x,rfl⟩:=a7 s;have hx:=hs;have hxl:x.st.length≤300:=jR hs (dP (lY _ _) hyl);clear hs;refine aD ?_;(refine eM (jU fb cb ab (up m q) r x 2 aA) fun s hs=>?_);refine cL (r,s) ?_;simp only;rw[hF,hs,hx]
  ·have hv2:v=2:=aA
   repeat(refine Jy ?_;try intro b)
   (refine Jc ?_;refine aB.bA (spec:=lJ fb cb ab (up m q) r y _ 1 _ [v] rfl aA aA) (t:=Jx) (k:=?_);intro s hs;refine Jn ?_);obtain⟨x,rfl⟩:=a7 s;have hx:=hs;have hxl:x.st.length≤300:=jR hs (dP (lY _ _) hyl);clear hs;refine aD ?_;(refine eM (jU fb cb ab (up m q) r x 2 aA) fun s hs=>?_);refine cL (r,s) ?_;simp only;rw[hF,hs,hx]
theorem NI(a n:Int)(hh:r.has.length≤1000)(hto:r.todo.length≤1000000000)(hent:∀x,bG r.dZ a=some x→x.st.length≤1000∧x.hs.length=r.has.length):fP fb cb ab mb m r z q ⟨21,a,n⟩:=by
 obtain⟨F,hF⟩:∃F,F=Ver.to (m.us.getD q default).u.code.length a (aQ r z):=⟨_,rfl⟩;have e:Ver.step m.aC (m.us.getD q default).u ⟨21,a,n⟩ (aQ r z)=(false,F):=by
  unfold Ver.step;dsimp only;(repeat rw[if_neg aA]);rw[if_pos aA];rw[hF]
 unfold fP;rw[e];clear e;refine JE [ptr fb, .agg #[.int .i64 21, .int .i64 a, .int .i64 n]] Tryz.func76 Tryz.ntmps76 fun w S=>?_;refine Jn ?_;refine Jn ?_
 repeat(refine Jy ?_;try intro b)
 (refine eM (G9 fb cb ab m q hq r z a aA hh hto hent) fun s hs=>?_);refine cL s ?_;exact hs.trans hF.symm
theorem NJ(a n:Int)(hh:r.has.length≤1000)(hto:r.todo.length≤1000000000)(hent:∀x,bG r.dZ a=some x→x.st.length≤1000∧x.hs.length=r.has.length):fP fb cb ab mb m r z q ⟨22,a,n⟩:=by
 obtain⟨F,hF⟩:∃F,F=Ver.to (m.us.getD q default).u.code.length a (Ver.want [2] (aQ r z)):=⟨_,rfl⟩;have e:Ver.step m.aC (m.us.getD q default).u ⟨22,a,n⟩ (aQ r z)=(true,F):=by
  unfold Ver.step;dsimp only;(repeat rw[if_neg aA]);rw[if_pos aA];rw[hF]
 unfold fP;rw[e];clear e;refine JE [ptr fb, .agg #[.int .i64 22, .int .i64 a, .int .i64 n]] Tryz.func76 Tryz.ntmps76 fun w S=>?_;refine Jn ?_;refine Jn ?_
 repeat(refine Jy ?_;try intro b)
 (refine Jc ?_;refine aB.bA (spec:=lJ fb cb ab (up m q) r z _ 1 _ [2] rfl aA aA) (t:=Jx) (k:=?_);intro s hs;refine Jn ?_);obtain⟨y,rfl⟩:∃y,y=s:=⟨_,rfl⟩;have hy:=hs;have hyl:y.st.length≤300:=jR hs (dP (lY _ _) (show(aQ r z).stack.length≤300 from hl));clear hs;refine aD ?_;(refine eM (G9 fb cb ab m q hq r y a aA hh hto hent) fun s hs=>?_);refine cL s ?_;rw[hF,←hy];exact hs
theorem sZ(op a n:Int)(hop:23≤op)(hsp:j9 fb cb ab mb m r z q ⟨op,a,n⟩):fP fb cb ab mb m r z q ⟨op,a,n⟩:=by
 have e:Ver.step m.aC (m.us.getD q default).u ⟨op,a,n⟩ (aQ r z)=Ver.eP m.aC (m.us.getD q default).u ⟨op,a,n⟩ (aQ r z):=by
  unfold Ver.step;dsimp only;(repeat rw[if_neg aA])
 unfold fP;unfold j9 at hsp;rw[e];clear e;generalize Ver.eP m.aC (m.us.getD q default).u ⟨op,a,n⟩ (aQ r z)=F at *;refine JE [ptr fb, .agg #[.int .i64 op, .int .i64 a, .int .i64 n]] Tryz.func76 Tryz.ntmps76 fun w S=>?_;refine Jn ?_;refine Jn ?_
 repeat(refine Jy ?_;try intro b)
 (refine eM (hsp) fun s hs=>?_);refine cL (r,s) ?_;exact hs
end
end Vw
end Go.Proofs.YtofckcabpchcmaaGreatDoor
