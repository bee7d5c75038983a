/- yieldref7's Head and Instr, walked. -/
import Derived.Test.YtjehflelkpacfaaGreatM31
set_option linter.unusedVariables false
set_option linter.unusedSimpArgs false
set_option linter.unusedSectionVars false
set_option maxRecDepth 100000
namespace Go.Proofs.YtjehflelkpacfaaGreat.Vw
open Go.RowKit Go.Proofs.YtjehflelkpacfaaGreat.Img
attribute [local irreducible] Run Cod End OpT Still RunQ RunS RunT Fn PutOk
set_option maxHeartbeats 1000000 in
theorem head7_is(m:ML)(k:Nat)(hk:k<m.us.length)(hl:∀t∈(m.us.getD k default).u.locals,ImgM.In64 t)(hlen:(m.us.getD k default).u.locals.length≤9223372036854775807)(hco:(m.us.getD k default).u.code.length≤9223372036854775807):Fn Tryz.prog 83 #[m.val, .agg (ucell (m.us.getD k default)).toArray] [md m] [] (σ:=Unit) (fun _=>True) (fun _=> .int .i64 (Ver.head m.mdl (m.us.getD k default).u)) (fun _=>[]):=by
 refine JE [m.val, .agg (ucell (m.us.getD k default)).toArray] Tryz.func83 Tryz.ntmps83 fun w S=>?_
 (refine Jn ?_)
 by_cases c0:(m.us.getD k default).u.kind<2
 ·repeat(refine Jy ?_;try first|intro ao cap|intro b)
  (refine End.done1_ (()) (he:=by exact int_eq (by unfold Ver.head;rw[if_pos (by omega)])) (hp:=?_));trivial
 by_cases c1:4<(m.us.getD k default).u.kind
 ·repeat(refine Jy ?_;try first|intro ao cap|intro b)
  (refine End.done1_ (()) (he:=by exact int_eq (by unfold Ver.head;rw[if_pos (by omega)])) (hp:=?_));trivial
 have hkd:¬((m.us.getD k default).u.kind≠2∧(m.us.getD k default).u.kind≠3∧(m.us.getD k default).u.kind≠4):=by omega
 by_cases c2:200<(m.us.getD k default).u.locals.length
 ·repeat(refine Jy ?_;try first|intro ao cap|intro b)
  (refine End.done1_ (()) (he:=by exact int_eq (by unfold Ver.head;rw[if_neg hkd,if_pos (by omega)])) (hp:=?_));trivial
 by_cases c3:(m.us.getD k default).u.params<0
 ·repeat(refine Jy ?_;try first|intro ao cap|intro b)
  (refine End.done1_ (()) (he:=by exact int_eq (by unfold Ver.head;rw[if_neg hkd,if_pos (by omega)])) (hp:=?_));trivial
 by_cases c4:6<(m.us.getD k default).u.params
 ·repeat(refine Jy ?_;try first|intro ao cap|intro b)
  (refine End.done1_ (()) (he:=by exact int_eq (by unfold Ver.head;rw[if_neg hkd,if_pos (by omega)])) (hp:=?_));trivial
 by_cases c5:((m.us.getD k default).u.locals.length:Int)<(m.us.getD k default).u.params
 ·repeat(refine Jy ?_;try first|intro ao cap|intro b)
  (refine End.done1_ (()) (he:=by exact int_eq (by unfold Ver.head;rw[if_neg hkd,if_pos (by omega)])) (hp:=?_));trivial
 by_cases c6:(m.us.getD k default).u.kind=4∧¬(m.us.getD k default).u.params=0
 ·obtain⟨c6,c7⟩:=c6
  repeat(refine Jy ?_;try first|intro ao cap|intro b)
  (refine End.done1_ (()) (he:=by exact int_eq (by unfold Ver.head;rw[if_neg hkd,if_pos (by omega)])) (hp:=?_));trivial
 have hmn:¬(200<(m.us.getD k default).u.locals.length∨(m.us.getD k default).u.params<0∨6<(m.us.getD k default).u.params∨((m.us.getD k default).u.locals.length:Int)<(m.us.getD k default).u.params∨((m.us.getD k default).u.kind=4∧0<(m.us.getD k default).u.params)):=by omega
 by_cases c9:(m.us.getD k default).u.code.length=0
 ·rcases(show((m.us.getD k default).u.kind=4∧(m.us.getD k default).u.params=0)∨¬(m.us.getD k default).u.kind=4 by omega)with⟨c7,c8⟩|c7
  all_goals (repeat(refine Jy ?_;try first|intro ao cap|intro b))
  all_goals ((refine End.done1_ (()) (he:=by exact int_eq (by unfold Ver.head;rw[if_neg hkd,if_neg hmn,if_pos (by omega)])) (hp:=?_));trivial)
 by_cases c10:4000<(m.us.getD k default).u.code.length
 ·rcases(show((m.us.getD k default).u.kind=4∧(m.us.getD k default).u.params=0)∨¬(m.us.getD k default).u.kind=4 by omega)with⟨c7,c8⟩|c7
  all_goals (repeat(refine Jy ?_;try first|intro ao cap|intro b))
  all_goals ((refine End.done1_ (()) (he:=by exact int_eq (by unfold Ver.head;rw[if_neg hkd,if_neg hmn,if_pos (by omega)])) (hp:=?_));trivial)
 have hcd:¬((m.us.getD k default).u.code.length<1∨4000<(m.us.getD k default).u.code.length):=by omega
 by_cases c11:¬(m.us.getD k default).u.kind=4∧Ver.plain (m.us.getD k default).u.result=false
 ·obtain⟨c7,c12⟩:=c11;have f1:(!(Ver.plain (m.us.getD k default).u.result))=true:=by rw[c12];rfl
  repeat(refine Jy ?_;try first|intro ao cap|intro b)
  refine Jc ?_;refine OpT.call0_ (spec:=plain7_is _) (k:=?_);intro s hs;(refine Jn ?_)
  repeat(refine Jy ?_;try first|intro ao cap|intro b)
  (refine End.done1_ (()) (he:=by exact int_eq (by unfold Ver.head;rw[if_neg hkd,if_neg hmn,if_neg hcd,if_pos (.inl ⟨c7,c12⟩)])) (hp:=?_));trivial
 have f1:¬(m.us.getD k default).u.kind=4→(!(Ver.plain (m.us.getD k default).u.result))=false:=fun h=>by
  cases hp:Ver.plain (m.us.getD k default).u.result with
  |true=>rfl
  |false=>exact absurd ⟨h,hp⟩ c11
 by_cases c12:(m.us.getD k default).u.kind=3∧Ver.plain (m.us.getD k default).u.takes=false
 ·obtain⟨c7,c13⟩:=c12;have f1:=f1 (by omega);have f2:(!(Ver.plain (m.us.getD k default).u.takes))=true:=by rw[c13];rfl
  repeat(refine Jy ?_;try first|intro ao cap|intro b)
  refine Jc ?_;refine OpT.call0_ (spec:=plain7_is _) (k:=?_);intro s hs;(refine Jn ?_)
  repeat(refine Jy ?_;try first|intro ao cap|intro b)
  refine Jc ?_;refine OpT.call0_ (spec:=plain7_is _) (k:=?_);intro s hs;(refine Jn ?_)
  repeat(refine Jy ?_;try first|intro ao cap|intro b)
  (refine End.done1_ (()) (he:=by exact int_eq (by unfold Ver.head;rw[if_neg hkd,if_neg hmn,if_neg hcd,if_pos (.inr ⟨c7,c13⟩)])) (hp:=?_));trivial
 have f2:(m.us.getD k default).u.kind=3→(!(Ver.plain (m.us.getD k default).u.takes))=false:=fun h=>by
  cases hp:Ver.plain (m.us.getD k default).u.takes with
  |true=>rfl
  |false=>exact absurd ⟨h,hp⟩ c12
 have hty:¬(((m.us.getD k default).u.kind≠4∧Ver.plain (m.us.getD k default).u.result=false)∨((m.us.getD k default).u.kind=3∧Ver.plain (m.us.getD k default).u.takes=false)):=fun h=>h.elim c11 c12
 have hbd:∀t,Ver.handle m.mdl t=(decide (10≤t)&&Ver.isUnit m.mdl (t-10) 3):=fun t=>rfl
 rcases(show((m.us.getD k default).u.kind=4∧(m.us.getD k default).u.params=0)∨(m.us.getD k default).u.kind=2∨(m.us.getD k default).u.kind=3 by omega)with⟨c7,c8⟩|c7|c7
 all_goals (try have f1:=f1 (by omega))
 all_goals (try have f2:=f2 (by omega))
 all_goals (repeat(refine Jy ?_;try first|intro ao cap|intro b))
 all_goals (obtain⟨ub,rfl⟩:∃x,x=b:=⟨_,rfl⟩;obtain⟨mb,rfl⟩:∃x,x=b:=⟨_,rfl⟩)
 all_goals (try(refine Jc ?_;refine OpT.call0_ (spec:=plain7_is _) (k:=?_);intro s hs;(refine Jn ?_)))
 all_goals (repeat(refine Jy ?_;try first|intro ao cap|intro b))
 all_goals (try(refine Jc ?_;refine OpT.call0_ (spec:=plain7_is _) (k:=?_);intro s hs;(refine Jn ?_)))
 all_goals (repeat(refine Jy ?_;try first|intro ao cap|intro b))
 all_goals (
  refine Cod.only ((fun j=>[old w S,md m,blk ub (ucell (m.us.getD k default)) 115,blk mb [.slice m.bo m.bx.length m.bc, .slice m.uo m.us.length m.uc] 25]) 0) (tks) ?_;apply Cod.loop (σ:=Nat) (fun j=>j≤(m.us.getD k default).u.locals.length∧∀i,i<j→(!Ver.plain ((m.us.getD k default).u.locals.getD i default)&& !Ver.handle m.mdl ((m.us.getD k default).u.locals.getD i default))=false) (fun j=>[(2,ptr mb),(3,ptr ub),(80, .slice (m.us.getD k default).lo (m.us.getD k default).u.locals.length (m.us.getD k default).lc),(81, .int .i64 ((m.us.getD k default).u.locals.length:Int)),(82, .int .i64 (j:Int))]) (fun j=>[old w S,md m,blk ub (ucell (m.us.getD k default)) 115,blk mb [.slice m.bo m.bx.length m.bc, .slice m.uo m.us.length m.uc] 25]) (fun j=>(m.us.getD k default).u.locals.length-j) 0
  rotate_left
  exact sb;exact tks;intro j hj K1 hK1;(refine Jn ?_)
  rotate_left
  ·exact⟨Nat.zero_le _,fun i hi=>absurd hi (Nat.not_lt_zero _)⟩
  obtain⟨hj1,hj2⟩:=hj
  by_cases hjl:j<(m.us.getD k default).u.locals.length
  ·have h64:=hl ((m.us.getD k default).u.locals.getD j default) (getD_mem hjl);unfold ImgM.In64 at h64
   repeat(refine Jy ?_;try first|intro ao cap|intro b)
   refine Jc ?_;refine OpT.call0_ (spec:=plain7_is _) (k:=?_);intro s hs;(refine Jn ?_);have hTm:=getD_mem hjl;have hbad:(!Ver.plain ((m.us.getD k default).u.locals.getD j default)&& !Ver.handle m.mdl ((m.us.getD k default).u.locals.getD j default))=true→Ver.head m.mdl (m.us.getD k default).u=9:=fun h=>by
    have hany:((m.us.getD k default).u.locals.any fun t=>!Ver.plain t&& !Ver.handle m.mdl t)=true:=List.any_eq_true.2 ⟨_,hTm,h⟩;unfold Ver.head;rw[if_neg hkd,if_neg hmn,if_neg hcd,if_neg hty,if_pos hany]
   have hgo:(!Ver.plain ((m.us.getD k default).u.locals.getD j default)&& !Ver.handle m.mdl ((m.us.getD k default).u.locals.getD j default))=false→∀i,i<j+1→(!Ver.plain ((m.us.getD k default).u.locals.getD i default)&& !Ver.handle m.mdl ((m.us.getD k default).u.locals.getD i default))=false:=fun h i hi=>by
    by_cases e:i=j
    ·subst e;exact h
    ·exact hj2 i (by omega)
   have hb:=hbd ((m.us.getD k default).u.locals.getD j default)
   by_cases p1:Ver.plain ((m.us.getD k default).u.locals.getD j default)=true
   ·have p2:(!(Ver.plain ((m.us.getD k default).u.locals.getD j default)))=false:=by rw[p1];rfl
    repeat(refine Jy ?_;try first|intro ao cap|intro b)
    refine End.round0_ hK1 (j+1) ?_ ?_
    ·exact⟨by omega,hgo (by rw[p1];rfl)⟩
    ·omega
   have p1:Ver.plain ((m.us.getD k default).u.locals.getD j default)=false:=by simpa using p1
   have p2:(!(Ver.plain ((m.us.getD k default).u.locals.getD j default)))=true:=by rw[p1];rfl
   by_cases p3:(m.us.getD k default).u.locals.getD j default<10
   ·repeat(refine Jy ?_;try first|intro ao cap|intro b)
    (refine End.done1_ (()) (he:=by exact int_eq (hbad (by rw[p1,hb,decide_eq_false (by omega)];rfl)).symm) (hp:=?_));trivial
   ·repeat(refine Jy ?_;try first|intro ao cap|intro b)
    refine Jc ?_;refine OpT.call0_ (spec:=is7_is m _ 3) (k:=?_);intro s hs;(refine Jn ?_)
    by_cases p4:Ver.isUnit m.mdl ((m.us.getD k default).u.locals.getD j default-10) 3=true
    ·have p5:(!(Ver.isUnit m.mdl ((m.us.getD k default).u.locals.getD j default-10) 3))=false:=by rw[p4];rfl
     repeat(refine Jy ?_;try first|intro ao cap|intro b)
     refine End.round0_ hK1 (j+1) ?_ ?_
     ·exact⟨by omega,hgo (by rw[p1,hb,p4,decide_eq_true (by omega)];rfl)⟩
     ·omega
    ·have p4:Ver.isUnit m.mdl ((m.us.getD k default).u.locals.getD j default-10) 3=false:=by simpa using p4
     have p5:(!(Ver.isUnit m.mdl ((m.us.getD k default).u.locals.getD j default-10) 3))=true:=by rw[p4];rfl
     repeat(refine Jy ?_;try first|intro ao cap|intro b)
     (refine End.done1_ (()) (he:=by exact int_eq (hbad (by rw[p1,hb,p4,decide_eq_true (by omega)];rfl)).symm) (hp:=?_));trivial
  ·have hany:((m.us.getD k default).u.locals.any fun t=>!Ver.plain t&& !Ver.handle m.mdl t)=false:=by
    rw[List.any_eq_false];intro t ht;obtain⟨i,hi,rfl⟩:=List.getElem_of_mem ht;have:=hj2 i (by omega);rw[Jd,Je hi]at this;simpa using this
   repeat(refine Jy ?_;try first|intro ao cap|intro b)
   (refine End.done1_ (()) (he:=by exact int_eq (by unfold Ver.head;rw[if_neg hkd,if_neg hmn,if_neg hcd,if_neg hty,hany,if_neg (by decide)])) (hp:=?_));trivial)
end Go.Proofs.YtjehflelkpacfaaGreat.Vw
