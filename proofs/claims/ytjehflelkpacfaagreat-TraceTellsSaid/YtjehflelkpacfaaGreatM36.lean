/- yieldref7.Needs, walked. -/
import Derived.Test.YtjehflelkpacfaaGreatM35
set_option linter.unusedVariables false
set_option linter.unusedSimpArgs false
set_option linter.unusedSectionVars false
set_option maxRecDepth 100000
namespace Go.Proofs.YtjehflelkpacfaaGreat.Vw
open Go.RowKit Go.Proofs.YtjehflelkpacfaaGreat.Img
attribute [local irreducible] Run Cod End OpT Still RunQ RunS RunT Fn PutOk
set_option maxHeartbeats 2000000 in
theorem needs7_is(m:ML)(hwf:m.Wf)(hF:Formed m)(hB:∀k,k<m.bx.length→(m.bx.getD k default).1=1∨(m.bx.getD k default).1=2)(q:Nat)(hq:q<m.us.length)(i:ImgM.Ins)(hi:Ver.InsOk m.mdl (m.us.getD q default).u i)(h24:i.op=24→(m.us.getD q default).u.kind=2)(h31:i.op=31→(m.us.getD q default).u.kind=3):Fn Tryz.prog 86 #[m.val, .agg (ucell (m.us.getD q default)).toArray,insV i] [md m] [] (σ:=Unit) (fun _=>True) (fun _=> .tuple #[sv (Rf7.needs7 m.mdl (m.us.getD q default).u i).1,sv (Rf7.needs7 m.mdl (m.us.getD q default).u i).2]) (fun _=>[]):=by
 have hu30:=hF.units;have hb30:=hF.boxes;have hn30:m.mdl.units.length≤30:=by simpa using hu30
 have hU:∀k,k<m.us.length→Rf7.UV m.mdl (m.us.getD k default).u:=fun k hk=>Rf7.uv_head (hF.head k hk)
 have hnu:m.mdl.units.length=m.us.length:=by simp
 obtain⟨u1,u2,u3,u4⟩:=hU q hq;obtain⟨hd1,hd2,hd3,hd4,hd5,hd6⟩:=head_ok (hF.head q hq);obtain⟨op,a0,n0⟩:=i;obtain⟨g1,g2,g3,g4,g5,g6⟩:=hi;dsimp only at g1 g2 g3 g4 g5 g6 h24 h31;refine JE [m.val, .agg (ucell (m.us.getD q default)).toArray, .agg #[.int .i64 op, .int .i64 a0, .int .i64 n0]] Tryz.func86 Tryz.ntmps86 fun w S=>?_
 (refine Jn ?_);obtain⟨R,hR⟩:∃R,R=Rf7.needs7 m.mdl (m.us.getD q default).u ⟨op,a0,n0⟩:=⟨_,rfl⟩;rw[←hR]
 by_cases o1:op=1
 ·subst o1;have e:R=([],[110]):=by rw[hR];rfl
  subst e;clear hR
  repeat(first|refine Jg ?_|refine Jo ?_|(refine JB ?_;intro b)|(refine JA ?_;intro ao cap))
  (refine End.done2_ (()) (he:=Jv) (hp:=?_));trivial
 by_cases o2:op=2
 ·subst o2;have e:R=([],[98]):=by rw[hR];rfl
  subst e;clear hR
  repeat(first|refine Jg ?_|refine Jo ?_|(refine JB ?_;intro b)|(refine JA ?_;intro ao cap))
  (refine End.done2_ (()) (he:=Jv) (hp:=?_));trivial
 by_cases o3:op=3
 ·subst o3;have hg:=g2 (.inl rfl);obtain⟨a,rfl⟩:=JI hg.1;have e:R=([],[Rf7.lt1 ((m.us.getD q default).u.locals.getD a default)]):=by rw[hR];rfl
  subst e;clear hR;have hv:=(u2 _ (getD_mem (l:=(m.us.getD q default).u.locals) (k:=a) (by omega))).rng hn30
  repeat(first|refine Jg ?_|refine Jo ?_|(refine JB ?_;intro b)|(refine JA ?_;intro ao cap))
  refine Jc ?_;refine OpT.call0_ (spec:=letter_is _ hv) (k:=?_);intro s hs;(refine Jn ?_)
  repeat(first|refine Jg ?_|refine Jo ?_|(refine JB ?_;intro b)|(refine JA ?_;intro ao cap))
  (refine End.done2_ (()) (he:=Jv) (hp:=?_));trivial
 by_cases o4:op=4
 ·subst o4;have hg:=g2 (.inr rfl);obtain⟨a,rfl⟩:=JI hg.1;have e:R=([Rf7.lt1 ((m.us.getD q default).u.locals.getD a default)],[]):=by rw[hR];rfl
  subst e;clear hR;have hv:=(u2 _ (getD_mem (l:=(m.us.getD q default).u.locals) (k:=a) (by omega))).rng hn30
  repeat(first|refine Jg ?_|refine Jo ?_|(refine JB ?_;intro b)|(refine JA ?_;intro ao cap))
  refine Jc ?_;refine OpT.call0_ (spec:=letter_is _ hv) (k:=?_);intro s hs;(refine Jn ?_)
  repeat(first|refine Jg ?_|refine Jo ?_|(refine JB ?_;intro b)|(refine JA ?_;intro ao cap))
  (refine End.done2_ (()) (he:=Jv) (hp:=?_));trivial
 by_cases o5:op=5
 ·subst o5;have e:R=([42],[]):=by rw[hR];rfl
  subst e;clear hR
  repeat(first|refine Jg ?_|refine Jo ?_|(refine JB ?_;intro b)|(refine JA ?_;intro ao cap))
  (refine End.done2_ (()) (he:=Jv) (hp:=?_));trivial
 by_cases o6:op=6
 ·subst o6;have e:R=([110],[110]):=by rw[hR];rfl
  subst e;clear hR
  repeat(first|refine Jg ?_|refine Jo ?_|(refine JB ?_;intro b)|(refine JA ?_;intro ao cap))
  (refine End.done2_ (()) (he:=Jv) (hp:=?_));trivial
 by_cases o7:op=7
 ·subst o7;have e:R=([98],[98]):=by rw[hR];rfl
  subst e;clear hR
  repeat(first|refine Jg ?_|refine Jo ?_|(refine JB ?_;intro b)|(refine JA ?_;intro ao cap))
  (refine End.done2_ (()) (he:=Jv) (hp:=?_));trivial
 by_cases o12:op≤12
 ·have e:R=([110,110],[110]):=by rw[hR];unfold Rf7.needs7;dsimp only;rw[if_neg o1,if_neg o2,if_neg o3,if_neg o4,if_neg o5,if_neg o6,if_neg o7,if_pos o12]
  subst e;clear hR
  repeat(first|refine Jg ?_|refine Jo ?_|(refine JB ?_;intro b)|(refine JA ?_;intro ao cap))
  (refine End.done2_ (()) (he:=Jv) (hp:=?_));trivial
 by_cases o13:op=13∨op=14
 ·have e:R=([63,63],[98]):=by rw[hR];unfold Rf7.needs7;dsimp only;rw[if_neg o1,if_neg o2,if_neg o3,if_neg o4,if_neg o5,if_neg o6,if_neg o7,if_neg o12,if_pos o13]
  subst e;clear hR;rcases o13 with o13|o13
  ·repeat(first|refine Jg ?_|refine Jo ?_|(refine JB ?_;intro b)|(refine JA ?_;intro ao cap))
   (refine End.done2_ (()) (he:=Jv) (hp:=?_));trivial
  ·repeat(first|refine Jg ?_|refine Jo ?_|(refine JB ?_;intro b)|(refine JA ?_;intro ao cap))
   (refine End.done2_ (()) (he:=Jv) (hp:=?_));trivial
 by_cases o18:op≤18
 ·have e:R=([110,110],[98]):=by rw[hR];unfold Rf7.needs7;dsimp only;rw[if_neg o1,if_neg o2,if_neg o3,if_neg o4,if_neg o5,if_neg o6,if_neg o7,if_neg o12,if_neg o13,if_pos o18]
  subst e;clear hR
  repeat(first|refine Jg ?_|refine Jo ?_|(refine JB ?_;intro b)|(refine JA ?_;intro ao cap))
  (refine End.done2_ (()) (he:=Jv) (hp:=?_));trivial
 by_cases o19:op=19∨op=20
 ·have e:R=([98,98],[98]):=by rw[hR];unfold Rf7.needs7;dsimp only;rw[if_neg o1,if_neg o2,if_neg o3,if_neg o4,if_neg o5,if_neg o6,if_neg o7,if_neg o12,if_neg o13,if_neg o18,if_pos o19]
  subst e;clear hR;rcases o19 with o19|o19
  ·repeat(first|refine Jg ?_|refine Jo ?_|(refine JB ?_;intro b)|(refine JA ?_;intro ao cap))
   (refine End.done2_ (()) (he:=Jv) (hp:=?_));trivial
  ·repeat(first|refine Jg ?_|refine Jo ?_|(refine JB ?_;intro b)|(refine JA ?_;intro ao cap))
   (refine End.done2_ (()) (he:=Jv) (hp:=?_));trivial
 by_cases o22:op=22
 ·subst o22;have e:R=([98],[]):=by rw[hR];rfl
  subst e;clear hR
  repeat(first|refine Jg ?_|refine Jo ?_|(refine JB ?_;intro b)|(refine JA ?_;intro ao cap))
  (refine End.done2_ (()) (he:=Jv) (hp:=?_));trivial
 by_cases o23:op=23
 ·subst o23;have hg:=Rf7.isUnit_iff.1 (g4 rfl);obtain⟨a,rfl⟩:=JI hg.1;have ha:a<m.us.length:=by rw[←hnu];omega
  obtain⟨e1,e2,e3,e4, -, -⟩:=head_ok (hF.head a ha);obtain⟨P,hP⟩:=JI e2;have hk2:(m.us.getD a default).u.kind=2:=by have:=hg.2.2;rw[Jj,ML.unit_at]at this;exact this
  have e:R=(((m.us.getD a default).u.locals.take P).map Rf7.lt1,[Rf7.lt1 (m.us.getD a default).u.result]):=by
   rw[hR];show(Rf7.par7 m.mdl (a:Int),[Rf7.res7 m.mdl (a:Int)])=_;unfold Rf7.par7 Rf7.res7;rw[Jj,ML.unit_at,hP,Jj]
  subst e;clear hR;have hv:=((hU a ha).res (by omega))
  repeat(first|refine Jg ?_|refine Jo ?_|(refine JB ?_;intro b)|(refine JA ?_;intro ao cap))
  obtain⟨ib,rfl⟩:∃x,x=b:=⟨_,rfl⟩;obtain⟨ub,rfl⟩:∃x,x=b:=⟨_,rfl⟩;obtain⟨mb,rfl⟩:∃x,x=b:=⟨_,rfl⟩;apply Cod.draw 11 ([md m,blk mb [.slice m.bo m.bx.length m.bc, .slice m.uo m.us.length m.uc] 25,blk ib [.int .i64 23, .int .i64 (a:Int), .int .i64 n0] 126]) (by kernel_rfl) 14 rfl;refine JR 0 ?_;refine JR 1 ?_;refine JR 2 ?_;refine JR 4 ?_;refine JR 5 ?_;refine JR 6 ?_;refine JR 7 ?_;refine JR 8 ?_;refine JR 9 ?_;refine JR 10 ?_;(refine JT 3 ?_;refine OpT.call_ (spec:=params7_is mb m a ha P hP (by omega) e1 (fun t ht=>((hU a ha).loc t ht).rng hn30)) (k:=?_);intro s hs;refine JG ?_;(refine Jn ?_));(refine JT 11 ?_;refine OpT.call0_ (spec:=letter_is _ (hv.imp id .inl)) (k:=?_);intro s hs;refine JG ?_;(refine Jn ?_));refine RunT.take0_ 12 (h:=?_);refine RunT.take0_ 13 (h:=?_);(apply RunT.done;kernel_rfl)
  repeat(first|refine Jg ?_|refine Jo ?_|(refine JB ?_;intro b)|(refine JA ?_;intro ao cap))
  (refine End.done2_ (()) (he:=Jv) (hp:=?_));trivial
 by_cases o24:op=24
 ·subst o24;have hk2:=h24 rfl;have hv:=u3 (by omega);have e:R=([Rf7.lt1 (m.us.getD q default).u.result],[]):=by rw[hR];rfl
  subst e;clear hR
  repeat(first|refine Jg ?_|refine Jo ?_|(refine JB ?_;intro b)|(refine JA ?_;intro ao cap))
  refine Jc ?_;refine OpT.call0_ (spec:=letter_is _ (hv.imp id .inl)) (k:=?_);intro s hs;(refine Jn ?_)
  repeat(first|refine Jg ?_|refine Jo ?_|(refine JB ?_;intro b)|(refine JA ?_;intro ao cap))
  (refine End.done2_ (()) (he:=Jv) (hp:=?_));trivial
 by_cases o26:op=26
 ·subst o26;have hg:=g6 (.inl rfl);obtain⟨a,rfl⟩:=JI hg.1;have ha:a<m.bx.length:=by have:=hg.2;simpa[ML.mdl]using this
  have hv:=hB a ha;have e:R=([Rf7.lt1 (m.bx.getD a default).1],[]):=by rw[hR];rfl
  subst e;clear hR
  repeat(first|refine Jg ?_|refine Jo ?_|(refine JB ?_;intro b)|(refine JA ?_;intro ao cap))
  refine Jc ?_;refine OpT.call0_ (spec:=letter_is _ (hv.imp id .inl)) (k:=?_);intro s hs;(refine Jn ?_)
  repeat(first|refine Jg ?_|refine Jo ?_|(refine JB ?_;intro b)|(refine JA ?_;intro ao cap))
  (refine End.done2_ (()) (he:=Jv) (hp:=?_));trivial
 by_cases o27:op=27
 ·subst o27;have hg:=g6 (.inr rfl);obtain⟨a,rfl⟩:=JI hg.1;have ha:a<m.bx.length:=by have:=hg.2;simpa[ML.mdl]using this
  have hv:=hB a ha;have e:R=([],[Rf7.lt1 (m.bx.getD a default).1]):=by rw[hR];rfl
  subst e;clear hR
  repeat(first|refine Jg ?_|refine Jo ?_|(refine JB ?_;intro b)|(refine JA ?_;intro ao cap))
  refine Jc ?_;refine OpT.call0_ (spec:=letter_is _ (hv.imp id .inl)) (k:=?_);intro s hs;(refine Jn ?_)
  repeat(first|refine Jg ?_|refine Jo ?_|(refine JB ?_;intro b)|(refine JA ?_;intro ao cap))
  (refine End.done2_ (()) (he:=Jv) (hp:=?_));trivial
 by_cases o28:op=28
 ·subst o28;have e:R=([63],[]):=by rw[hR];rfl
  subst e;clear hR
  repeat(first|refine Jg ?_|refine Jo ?_|(refine JB ?_;intro b)|(refine JA ?_;intro ao cap))
  (refine End.done2_ (()) (he:=Jv) (hp:=?_));trivial
 by_cases o29:op=29
 ·subst o29;have hg:=Rf7.isUnit_iff.1 (g5 rfl);obtain⟨a,rfl⟩:=JI hg.1;have ha:a<m.us.length:=by rw[←hnu];omega
  obtain⟨e1,e2,e3,e4, -, -⟩:=head_ok (hF.head a ha);obtain⟨P,hP⟩:=JI e2;have e:R=(((m.us.getD a default).u.locals.take P).map Rf7.lt1,[Rf7.lt1 (10+(a:Int))]):=by
   rw[hR];show(Rf7.par7 m.mdl (a:Int),[Rf7.lt1 (10+(a:Int))])=_;unfold Rf7.par7;rw[Jj,ML.unit_at,hP,Jj]
  subst e;clear hR
  repeat(first|refine Jg ?_|refine Jo ?_|(refine JB ?_;intro b)|(refine JA ?_;intro ao cap))
  obtain⟨ib,rfl⟩:∃x,x=b:=⟨_,rfl⟩;obtain⟨ub,rfl⟩:∃x,x=b:=⟨_,rfl⟩;obtain⟨mb,rfl⟩:∃x,x=b:=⟨_,rfl⟩;apply Cod.draw 7 ([md m,blk mb [.slice m.bo m.bx.length m.bc, .slice m.uo m.us.length m.uc] 25,blk ib [.int .i64 29, .int .i64 (a:Int), .int .i64 n0] 126]) (by kernel_rfl) 10 rfl;refine JR 0 ?_;refine JR 1 ?_;refine JR 2 ?_;refine JR 4 ?_;refine JR 5 ?_;refine JR 6 ?_;(refine JT 3 ?_;refine OpT.call_ (spec:=params7_is mb m a ha P hP (by omega) e1 (fun t ht=>((hU a ha).loc t ht).rng hn30)) (k:=?_);intro s hs;refine JG ?_;(refine Jn ?_));(refine JT 7 ?_;refine OpT.call0_ (spec:=letter_is _ (.inr (.inr (by omega)))) (k:=?_);intro s hs;refine JG ?_;(refine Jn ?_));refine RunT.take0_ 8 (h:=?_);refine RunT.take0_ 9 (h:=?_);(apply RunT.done;kernel_rfl)
  repeat(first|refine Jg ?_|refine Jo ?_|(refine JB ?_;intro b)|(refine JA ?_;intro ao cap))
  (refine End.done2_ (()) (he:=Jv) (hp:=?_));trivial
 by_cases o31:op=31
 ·subst o31;have hk3:=h31 rfl;have hv:=u3 (by omega);have hv2:=u4 hk3;have e:R=([Rf7.lt1 (m.us.getD q default).u.result],[Rf7.lt1 (m.us.getD q default).u.takes]):=by rw[hR];rfl
  subst e;clear hR
  repeat(first|refine Jg ?_|refine Jo ?_|(refine JB ?_;intro b)|(refine JA ?_;intro ao cap))
  obtain⟨ib,rfl⟩:∃x,x=b:=⟨_,rfl⟩;obtain⟨ub,rfl⟩:∃x,x=b:=⟨_,rfl⟩;obtain⟨mb,rfl⟩:∃x,x=b:=⟨_,rfl⟩;apply Cod.draw 5 ([md m,blk ub (ucell (m.us.getD q default)) 115]) (by kernel_rfl) 8 rfl;refine JR 0 ?_;refine JR 1 ?_;refine JR 3 ?_;refine JR 4 ?_;(refine JT 2 ?_;refine OpT.call0_ (spec:=letter_is _ (hv.imp id .inl)) (k:=?_);intro s hs;refine JG ?_;(refine Jn ?_));(refine JT 5 ?_;refine OpT.call0_ (spec:=letter_is _ (hv2.imp id .inl)) (k:=?_);intro s hs;refine JG ?_;(refine Jn ?_));refine RunT.take0_ 6 (h:=?_);refine RunT.take0_ 7 (h:=?_);(apply RunT.done;kernel_rfl)
  repeat(first|refine Jg ?_|refine Jo ?_|(refine JB ?_;intro b)|(refine JA ?_;intro ao cap))
  (refine End.done2_ (()) (he:=Jv) (hp:=?_));trivial
 have e:R=([],[]):=by
  rw[hR];unfold Rf7.needs7;dsimp only;rw[if_neg o1,if_neg o2,if_neg o3,if_neg o4,if_neg o5,if_neg o6,if_neg o7,if_neg o12,if_neg o13,if_neg o18,if_neg o19,if_neg o22,if_neg o23,if_neg o24,if_neg o26,if_neg o27,if_neg o28,if_neg o29,if_neg o31]
 subst e;clear hR
 repeat(first|refine Jg ?_|refine Jo ?_|(refine JB ?_;intro b)|(refine JA ?_;intro ao cap))
 (refine End.done2_ (()) (he:=Jv) (hp:=?_));trivial
end Go.Proofs.YtjehflelkpacfaaGreat.Vw
